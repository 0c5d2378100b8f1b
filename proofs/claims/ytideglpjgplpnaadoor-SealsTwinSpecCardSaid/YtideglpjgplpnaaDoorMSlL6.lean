import Derived.Test.YtideglpjgplpnaaDoorMSlX3
/- SealsTwinSpec: the walk. -/
namespace Go.Proofs.YtideglpjgplpnaaDoor
open Go.RowKit Go.Shelf
set_option linter.unusedVariables false
set_option linter.unusedSimpArgs false

set_option maxRecDepth 100000 in
set_option maxHeartbeats 16000000 in
theorem Sl.twinspec_law (s : Sl.W) (Ad : Option Addr) (cd : Nat) (Am : Option Addr) (cA : Nat) (A : Option Addr) (n c : Nat) (xs : List Shr.C) (Ab : Option Addr) (nb cb : Nat) (body : List UInt8) (w : World) (ha : Sl.Arg w s Ad cd Am cA A n c xs) (hb : RdB w Ab nb body) (hbm : nb ≤ maxLen) :
    Calls Tryd.prog 7 #[.agg (Sl.row s Ad cd Am cA).toArray, .slice A n c, .slice Ab nb cb] w fun e w' => e = .returned (.bool true) ∧ Below w.heap.size w w' := by
  have HBY := Lib.hid hb
  have HBM := Lib.hid hbm
  unfold maxLen at hbm
  clear hb
  have HA := Lib.hid ha
  have HI := Lib.hid (show (Tryd.prog.info? 27).map (·.size) = some (Sl.row s Ad cd Am cA).toArray.size from by rw [List.size_toArray, Sl.row_len ha.s.cl]; exact Sl.infoW)
  have hat := Sl.row_at ha.s.cl Ad cd Am cA
  have HAT := Lib.hid hat
  have HCL := Lib.hid ha.s.cl
  clear hat ha
  obtain ⟨T, hT⟩ : ∃ T, Sl.row s Ad cd Am cA = T := ⟨_, rfl⟩
  have HT := Lib.hid hT.symm
  rw [hT] at HI HAT ⊢
  clear hT
  obtain ⟨W1, hW1⟩ : ∃ W1, W1 = w.alloc (.cells T.toArray 27) := ⟨_, rfl⟩
  have HB := Lib.hid (show Below w.heap.size w W1 from by rw [hW1]; exact (Below.refl _ w).alloc (Nat.le_refl _) _)
  have HS := Lib.hid (show Has W1 w.heap.size 27 T from by rw [hW1]; exact Has.new w _ _)
  go_enter Tryd.func7, Tryd.ntmps7
  go_upto_region 1 with fail
  change Code.wp _ _ _ _ (w.alloc (.cells T.toArray 27))
  rw [← hW1]
  clear hW1
  obtain ⟨gS, hgS⟩ : ∃ gS, gS = w.heap.size := ⟨_, rfl⟩
  rw [← hgS] at HS ⊢
  clear hgS
  go_wp2_with fail
  ((with_reducible refine (Sl.sane_any W1 (HA.out.k.keep HB.out)).mono ?_); rintro e w2 ⟨rfl, hb2⟩)
  replace HB := Lib.hid (HB.out.trans (hb2.mono HB.out.size))
  replace HS := Lib.hid (HS.out.keep hb2)
  clear hb2
  have HSr := Lib.hid (show w2.heap[gS]? = some (.cells T.toArray 27 (0, 0)) from HS.out)
  have HFS := Sl.few_any s Ad cd Am cA w2 HCL.out
  rw [← HT.out] at HFS
  obtain ⟨fs, hfs⟩ : ∃ fs, Sl.fewS s = fs := ⟨_, rfl⟩
  rw [hfs] at HFS
  replace HFS := Lib.hid HFS
  have HFSE := Lib.hid hfs
  clear hfs
  go_wp2_with (with_reducible refine wpList_load_row rfl 27 (.tmp 3) rfl gS rfl 27 T.toArray (0, 0) _ HSr.out Tryd.underlying27 rfl HI.out ?_)
  ((with_reducible refine HFS.out.mono ?_); rintro e w3 ⟨rfl, hb3⟩)
  clear HSr HFS
  replace HB := Lib.hid (HB.out.trans (hb3.mono HB.out.size))
  replace HS := Lib.hid (HS.out.keep hb3)
  clear hb3
  cases fs with
  | false =>
    go_wp2_with fail
    go_ret
    exact ⟨rfl, HB.out⟩
  | true =>
    have HFN := Lib.hid (Shr.few_any A n c xs w3 (HA.out.r.keep HB.out) (Nat.le_trans HA.out.nc HA.out.cm))
    obtain ⟨fl, hfl⟩ : ∃ fl, Shr.fewB (Shr.vals xs) = fl := ⟨_, rfl⟩
    rw [hfl] at HFN
    have HFLE := Lib.hid hfl
    clear hfl
    go_wp2_with fail
    ((with_reducible refine HFN.out.mono ?_); rintro e _ ⟨rfl, rfl⟩)
    clear HFN
    cases fl with
    | false =>
      go_wp2_with fail
      go_ret
      exact ⟨rfl, HB.out⟩
    | true =>
      have HRD := Lib.hid (fun (W : World) (hb : Below w.heap.size w W) => HA.out.rdy HFLE.out hb (HA.out.r.keep hb))
      have HN := Lib.hid (HA.out.few HFLE.out)
      have hnm : n ≤ 10 := HN.out
      by_cases hbig : 100 < nb
      · go_wp2_with fail
        go_ret
        exact ⟨rfl, HB.out⟩
      have h1 := fun (W : World) (hb : Below w.heap.size w W) => Sl.twin_any A n c xs s Ad cd Am cA Ab nb cb body W (HRD.out W hb) (HBY.out.keep hb) HBM.out
      have h2 := fun (W : World) (hb : Below w.heap.size w W) => Sl.twin_ref A n c xs s Ad cd Am cA Ab nb cb body W (HRD.out W hb) (HBY.out.keep hb) HBM.out
      obtain ⟨K, hK⟩ : ∃ K, Sl.twK s (Shr.vals xs) body = K := ⟨_, rfl⟩
      obtain ⟨C, hC⟩ : ∃ C, Sl.twC s (Shr.vals xs) body = C := ⟨_, rfl⟩
      obtain ⟨z, hz⟩ : ∃ z, Sl.twE s (Shr.vals xs) nb = z := ⟨_, rfl⟩
      rw [hK, hC, hz, ← HT.out] at h1 h2
      have H1 := Lib.hid h1
      have H2 := Lib.hid h2
      clear h1 h2 hK hC hz
      have HSr := Lib.hid (show w3.heap[gS]? = some (.cells T.toArray 27 (0, 0)) from HS.out)
      go_wp2_with (with_reducible refine wpList_load_row rfl 27 (.tmp 3) rfl gS rfl 27 T.toArray (0, 0) _ HSr.out Tryd.underlying27 rfl HI.out ?_)
      ((with_reducible refine (H1.out w3 HB.out).mono ?_); rintro e w4 ⟨A5, c5, A6, c6, rfl, hr5, hr6, _, _, _, _, hb4⟩)
      clear HSr H1
      have HR5 := Lib.hid hr5
      have HR6 := Lib.hid hr6
      clear hr5 hr6
      replace HB := Lib.hid (HB.out.trans (hb4.mono HB.out.size))
      replace HS := Lib.hid (HS.out.keep hb4)
      clear hb4
      have HSr := Lib.hid (show w4.heap[gS]? = some (.cells T.toArray 27 (0, 0)) from HS.out)
      go_wp2_with (with_reducible refine wpList_load_row rfl 27 (.tmp 3) rfl gS rfl 27 T.toArray (0, 0) _ HSr.out Tryd.underlying27 rfl HI.out ?_)
      ((with_reducible refine (H2.out w4 HB.out).mono ?_); rintro e w5 ⟨A7, c7, A8, c8, rfl, hr7, hr8, _, _, _, _, hb5⟩)
      clear HSr H2
      have HR7 := Lib.hid hr7
      have HR8 := Lib.hid hr8
      clear hr7 hr8
      replace HB := Lib.hid (HB.out.trans (hb5.mono HB.out.size))
      replace HS := Lib.hid (HS.out.keep hb5)
      replace HR5 := Lib.hid (HR5.out.keep hb5)
      replace HR6 := Lib.hid (HR6.out.keep hb5)
      clear hb5
      have k5 := RdB.str (P := Tryd.prog) (HR5.out) Tryd.underlying24 Tryd.underlying5 Tryd.underlying9 c5
      have k6 := RdB.str (P := Tryd.prog) (HR6.out) Tryd.underlying24 Tryd.underlying5 Tryd.underlying9 c6
      have k7 := RdB.str (P := Tryd.prog) (HR7.out) Tryd.underlying24 Tryd.underlying5 Tryd.underlying9 c7
      have k8 := RdB.str (P := Tryd.prog) (HR8.out) Tryd.underlying24 Tryd.underlying5 Tryd.underlying9 c8
      go_wp2_with fail
      go_ret
      exact ⟨rfl, HB.out⟩
end Go.Proofs.YtideglpjgplpnaaDoor
