import Derived.Test.YtideglpjgplpnaaDoorMSlX3
/- SealsOpenSpec: the walk. -/
namespace Go.Proofs.YtideglpjgplpnaaDoor
open Go.RowKit Go.Shelf
set_option linter.unusedVariables false
set_option linter.unusedSimpArgs false

set_option maxRecDepth 100000 in
set_option maxHeartbeats 16000000 in
theorem Sl.openspec_law (s : Sl.W) (Ad : Option Addr) (cd : Nat) (Am : Option Addr) (cA : Nat) (A : Option Addr) (n c : Nat) (xs : List Shr.C) (w : World) (ha : Sl.Arg w s Ad cd Am cA A n c xs) :
    Calls Tryd.prog 6 #[.agg (Sl.row s Ad cd Am cA).toArray, .slice A n c] w fun e w' => e = .returned (.bool true) ∧ Below w.heap.size w w' := by
  have HA := Lib.hid ha
  have HI := Lib.hid (show (Tryd.prog.info? 27).map (·.size) = some (Sl.row s Ad cd Am cA).toArray.size from by rw [List.size_toArray, Sl.row_len ha.s.cl]; exact Sl.infoW)
  have hat := Sl.row_at ha.s.cl Ad cd Am cA
  have HAT := Lib.hid hat
  have HCL := Lib.hid ha.s.cl
  clear hat ha
  obtain ⟨T, hT⟩ : ∃ T, Sl.row s Ad cd Am cA = T := ⟨_, rfl⟩
  have HT := Lib.hid hT.symm
  rw [hT] at HI HAT ⊢
  clear hT
  obtain ⟨W1, hW1⟩ : ∃ W1, W1 = w.alloc (.cells T.toArray 27) := ⟨_, rfl⟩
  have HB := Lib.hid (show Below w.heap.size w W1 from by rw [hW1]; exact (Below.refl _ w).alloc (Nat.le_refl _) _)
  have HS := Lib.hid (show Has W1 w.heap.size 27 T from by rw [hW1]; exact Has.new w _ _)
  go_enter Tryd.func6, Tryd.ntmps6
  go_upto_region 1 with fail
  change Code.wp _ _ _ _ (w.alloc (.cells T.toArray 27))
  rw [← hW1]
  clear hW1
  obtain ⟨gS, hgS⟩ : ∃ gS, gS = w.heap.size := ⟨_, rfl⟩
  rw [← hgS] at HS ⊢
  clear hgS
  go_wp2_with fail
  ((with_reducible refine (Sl.sane_any W1 (HA.out.k.keep HB.out)).mono ?_); rintro e w2 ⟨rfl, hb2⟩)
  replace HB := Lib.hid (HB.out.trans (hb2.mono HB.out.size))
  replace HS := Lib.hid (HS.out.keep hb2)
  clear hb2
  have HSr := Lib.hid (show w2.heap[gS]? = some (.cells T.toArray 27 (0, 0)) from HS.out)
  have HFS := Sl.few_any s Ad cd Am cA w2 HCL.out
  rw [← HT.out] at HFS
  obtain ⟨fs, hfs⟩ : ∃ fs, Sl.fewS s = fs := ⟨_, rfl⟩
  rw [hfs] at HFS
  replace HFS := Lib.hid HFS
  have HFSE := Lib.hid hfs
  clear hfs
  go_wp2_with (with_reducible refine wpList_load_row rfl 27 (.tmp 2) rfl gS rfl 27 T.toArray (0, 0) _ HSr.out Tryd.underlying27 rfl HI.out ?_)
  ((with_reducible refine HFS.out.mono ?_); rintro e w3 ⟨rfl, hb3⟩)
  clear HSr HFS
  replace HB := Lib.hid (HB.out.trans (hb3.mono HB.out.size))
  replace HS := Lib.hid (HS.out.keep hb3)
  clear hb3
  cases fs with
  | false =>
    go_wp2_with fail
    go_ret
    exact ⟨rfl, HB.out⟩
  | true =>
    have HFN := Lib.hid (Shr.few_any A n c xs w3 (HA.out.r.keep HB.out) (Nat.le_trans HA.out.nc HA.out.cm))
    obtain ⟨fl, hfl⟩ : ∃ fl, Shr.fewB (Shr.vals xs) = fl := ⟨_, rfl⟩
    rw [hfl] at HFN
    have HFLE := Lib.hid hfl
    clear hfl
    go_wp2_with fail
    ((with_reducible refine HFN.out.mono ?_); rintro e _ ⟨rfl, rfl⟩)
    clear HFN
    cases fl with
    | false =>
      go_wp2_with fail
      go_ret
      exact ⟨rfl, HB.out⟩
    | true =>
      have HRD := Lib.hid (fun (W : World) (hb : Below w.heap.size w W) => HA.out.rdy HFLE.out hb (HA.out.r.keep hb))
      have HN := Lib.hid (HA.out.few HFLE.out)
      have hnm : n ≤ 10 := HN.out
      have h1 := fun (W : World) (hb : Below w.heap.size w W) => Sl.alt_any A n c xs s Ad cd Am cA W (HRD.out W hb)
      have h2 := fun (W : World) (hb : Below w.heap.size w W) => Sl.alt_ref A n c xs s Ad cd Am cA W (HRD.out W hb)
      have h3 := fun (W : World) (hb : Below w.heap.size w W) => Sl.open_any A n c xs s Ad cd Am cA W (HRD.out W hb) HA.out.nc HA.out.cm
      have h4 := fun (W : World) (hb : Below w.heap.size w W) => Sl.open_ref A n c xs s Ad cd Am cA W (HRD.out W hb) HA.out.nc HA.out.cm
      obtain ⟨L, hL⟩ : ∃ L, Sl.altV s (Shr.vals xs) = L := ⟨_, rfl⟩
      obtain ⟨z, hz⟩ : ∃ z, Sl.chk s = z := ⟨_, rfl⟩
      obtain ⟨V, hV⟩ : ∃ V, Sl.opnV s (Shr.vals xs) = V := ⟨_, rfl⟩
      obtain ⟨zo, hzo⟩ : ∃ z, Sl.opnE s (Shr.vals xs) = z := ⟨_, rfl⟩
      have hLl : L.length ≤ n := by
        rw [← hL]
        unfold Sl.altV
        split
        · exact Nat.le_trans (Sl.altp_le _ _ _) (by rw [Shr.vals_len, HA.out.r.len]; exact Nat.le_refl _)
        · simp
      rw [hL, hz, ← HT.out] at h1 h2
      rw [hV, hzo, ← HT.out] at h3 h4
      have H1 := Lib.hid h1
      have H2 := Lib.hid h2
      have H3 := Lib.hid h3
      have H4 := Lib.hid h4
      clear h1 h2 h3 h4 hL hz hV hzo
      have HSr := Lib.hid (show w3.heap[gS]? = some (.cells T.toArray 27 (0, 0)) from HS.out)
      go_wp2_with (with_reducible refine wpList_load_row rfl 27 (.tmp 2) rfl gS rfl 27 T.toArray (0, 0) _ HSr.out Tryd.underlying27 rfl HI.out ?_)
      ((with_reducible refine (H1.out w3 HB.out).mono ?_); rintro e w4 ⟨A5, c5, rfl, hr5, hb4⟩)
      clear HSr H1
      have HR5 := Lib.hid hr5
      clear hr5
      replace HB := Lib.hid (HB.out.trans (hb4.mono HB.out.size))
      replace HS := Lib.hid (HS.out.keep hb4)
      clear hb4
      replace HR5 := HR5
      have HSr := Lib.hid (show w4.heap[gS]? = some (.cells T.toArray 27 (0, 0)) from HS.out)
      go_wp2_with (with_reducible refine wpList_load_row rfl 27 (.tmp 2) rfl gS rfl 27 T.toArray (0, 0) _ HSr.out Tryd.underlying27 rfl HI.out ?_)
      ((with_reducible refine (H2.out w4 HB.out).mono ?_); rintro e w5 ⟨A6, c6, rfl, hr6, hb5⟩)
      clear HSr H2
      have HR6 := Lib.hid hr6
      clear hr6
      replace HB := Lib.hid (HB.out.trans (hb5.mono HB.out.size))
      replace HS := Lib.hid (HS.out.keep hb5)
      replace HR5 := Lib.hid (Sl.rdI_keep HR5.out hb5)
      clear hb5
      have HSr := Lib.hid (show w5.heap[gS]? = some (.cells T.toArray 27 (0, 0)) from HS.out)
      go_wp2_with (with_reducible refine wpList_load_row rfl 27 (.tmp 2) rfl gS rfl 27 T.toArray (0, 0) _ HSr.out Tryd.underlying27 rfl HI.out ?_)
      ((with_reducible refine (H3.out w5 HB.out).mono ?_); rintro e w6 ⟨A7, c7, rfl, _, hr7, hb6⟩)
      clear HSr H3
      have HR7 := Lib.hid hr7
      clear hr7
      replace HB := Lib.hid (HB.out.trans (hb6.mono HB.out.size))
      replace HS := Lib.hid (HS.out.keep hb6)
      replace HR5 := Lib.hid (Sl.rdI_keep HR5.out hb6)
      replace HR6 := Lib.hid (Sl.rdI_keep HR6.out hb6)
      clear hb6
      have HSr := Lib.hid (show w6.heap[gS]? = some (.cells T.toArray 27 (0, 0)) from HS.out)
      go_wp2_with (with_reducible refine wpList_load_row rfl 27 (.tmp 2) rfl gS rfl 27 T.toArray (0, 0) _ HSr.out Tryd.underlying27 rfl HI.out ?_)
      ((with_reducible refine (H4.out w6 HB.out).mono ?_); rintro e w7 ⟨A8, c8, rfl, _, hr8, hb7⟩)
      clear HSr H4
      have HR8 := Lib.hid hr8
      clear hr8
      replace HB := Lib.hid (HB.out.trans (hb7.mono HB.out.size))
      replace HS := Lib.hid (HS.out.keep hb7)
      replace HR5 := Lib.hid (Sl.rdI_keep HR5.out hb7)
      replace HR6 := Lib.hid (Sl.rdI_keep HR6.out hb7)
      replace HR7 := Lib.hid (HR7.out.keep hb7)
      clear hb7
      have hmi : L.map Sl.iv = (L.map (fun i : Nat => (i : Int))).map (Value.int .i64) := by rw [List.map_map]; rfl
      have HX5 := Lib.hid (show Rd w7 w7.heap.size 1 A5 L.length ((L.map (fun i : Nat => (i : Int))).map (Value.int .i64)) from by rw [← hmi]; exact HR5.out)
      have HX6 := Lib.hid (show Rd w7 w7.heap.size 1 A6 L.length ((L.map (fun i : Nat => (i : Int))).map (Value.int .i64)) from by rw [← hmi]; exact HR6.out)
      have HSM := Lib.hid (Sl.same13 A5 A6 L.length c5 c6 (L.map (fun i : Nat => (i : Int))) w7 HX5.out HX6.out (by unfold maxLen; omega))
      clear hmi HX5 HX6 HR5 HR6
      go_wp2_with fail
      ((with_reducible refine HSM.out.mono ?_); rintro e w8 ⟨rfl, hb8⟩)
      clear HSM
      replace HB := Lib.hid (HB.out.trans (hb8.mono HB.out.size))
      replace HS := Lib.hid (HS.out.keep hb8)
      replace HR7 := Lib.hid (HR7.out.keep hb8)
      replace HR8 := Lib.hid (HR8.out.keep hb8)
      clear hb8
      have k7 := RdB.str (P := Tryd.prog) (HR7.out) Tryd.underlying24 Tryd.underlying5 Tryd.underlying9 c7
      have k8 := RdB.str (P := Tryd.prog) (HR8.out) Tryd.underlying24 Tryd.underlying5 Tryd.underlying9 c8
      go_wp2_with fail
      go_ret
      exact ⟨rfl, HB.out⟩
end Go.Proofs.YtideglpjgplpnaaDoor
