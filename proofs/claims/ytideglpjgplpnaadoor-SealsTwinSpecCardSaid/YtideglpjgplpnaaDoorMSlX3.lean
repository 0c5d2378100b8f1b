import Derived.Test.YtideglpjgplpnaaDoorMSlX1
import Derived.Test.YtideglpjgplpnaaDoorMShR2
import Derived.Test.YtideglpjgplpnaaDoorMShR4
/- Contracts of the reference's Open and Twin. -/
namespace Go.Proofs.YtideglpjgplpnaaDoor
open Go.RowKit Go.Shelf
set_option linter.unusedVariables false
set_option linter.unusedSimpArgs false

set_option maxRecDepth 100000 in
set_option maxHeartbeats 8000000 in
theorem Sl.open_ref (A : Option Addr) (nl cl : Nat) (xs : List Shr.C) (s : Sl.W) (Ad : Option Addr) (cd : Nat) (Am : Option Addr) (cA : Nat) (w : World) (h : Sl.Rdy w A nl xs s Ad cd Am cA) (hcl : nl ≤ cl) (hcm : cl ≤ maxLen) :
    Calls Tryd.prog 24 #[.agg (Sl.row s Ad cd Am cA).toArray, .slice A nl cl] w (Sl.RetO w (Sl.opnV s (Shr.vals xs)) (Sl.opnE s (Shr.vals xs))) := by
  have HCL := Lib.hid h.s.cl
  have HI := Lib.hid (show (Tryd.prog.info? 27).map (·.size) = some (Sl.row s Ad cd Am cA).toArray.size from by rw [List.size_toArray, Sl.row_len h.s.cl]; exact Sl.infoW)
  have HH := Lib.hid h
  have HA32 := Lib.hid (Sl.row_at h.s.cl Ad cd Am cA).1
  obtain ⟨T, hT⟩ : ∃ T, Sl.row s Ad cd Am cA = T := ⟨_, rfl⟩
  have HT := Lib.hid hT.symm
  rw [hT] at HI HA32 ⊢
  clear hT h
  obtain ⟨nd, hnd⟩ : ∃ nd, s.d.length = nd := ⟨_, rfl⟩
  have HND := Lib.hid hnd
  rw [hnd] at HA32
  have HDM := Lib.hid (show nd ≤ maxLen from by rw [← hnd]; exact HH.out.s.dl)
  clear hnd
  obtain ⟨W1, hW1⟩ : ∃ W1, W1 = w.alloc (.cells T.toArray 27) := ⟨_, rfl⟩
  have HB := Lib.hid (show Below w.heap.size w W1 from by rw [hW1]; exact (Below.refl _ w).alloc (Nat.le_refl _) _)
  have HS := Lib.hid (show Has W1 w.heap.size 27 T from by rw [hW1]; exact Has.new w _ _)
  have hal := Sl.alt_ref A nl cl xs s Ad cd Am cA W1 (HH.out.keep HB.out)
  obtain ⟨z, hz⟩ : ∃ z, Sl.chk s = z := ⟨_, rfl⟩
  have HZ := Lib.hid hz
  obtain ⟨L, hL⟩ : ∃ L, Sl.altV s (Shr.vals xs) = L := ⟨_, rfl⟩
  have HL := Lib.hid hL
  have hLl : L.length ≤ nl := by
    rw [← hL]
    unfold Sl.altV
    split
    · exact Nat.le_trans (Sl.altp_le _ _ _) (by rw [Shr.vals_len, HH.out.r.len]; exact Nat.le_refl _)
    · simp
  have hnl := HH.out.n
  rw [hz, hL, ← HT.out] at hal
  have HAL := Lib.hid hal
  clear hz hL hal
  go_enter Tryd.func24, Tryd.ntmps24
  go_upto_region 1 with fail
  change Code.wp _ _ _ _ (w.alloc (.cells T.toArray 27))
  rw [← hW1]
  clear hW1
  obtain ⟨gS, hgS⟩ : ∃ gS, gS = w.heap.size := ⟨_, rfl⟩
  rw [← hgS] at HS ⊢
  clear hgS
  have HSr := Lib.hid (show W1.heap[gS]? = some (.cells T.toArray 27 (0, 0)) from HS.out)
  go_wp2_with (with_reducible refine wpList_load_row rfl 27 (.tmp 2) rfl gS rfl 27 T.toArray (0, 0) _ HSr.out Tryd.underlying27 rfl HI.out ?_)
  ((with_reducible refine HAL.out.mono ?_); rintro e w2 ⟨Ax, cx, rfl, _, hb2⟩)
  clear HAL HSr
  replace HB := Lib.hid (HB.out.trans (hb2.mono HB.out.size))
  replace HS := Lib.hid (HS.out.keep hb2)
  clear hb2
  obtain ⟨nx, hnx⟩ : ∃ nx, L.length = nx := ⟨_, rfl⟩
  have HNX := Lib.hid hnx
  rw [hnx] at hLl ⊢
  clear hnx
  by_cases h0 : z = 0
  rotate_left
  · have q : (z != 0) = true := by simpa using h0
    have HNZ := Lib.hid h0
    clear h0
    have HE := Lib.hid (show Sl.opnE s (Shr.vals xs) = z from by unfold Sl.opnE; rw [if_pos (by rw [HZ.out]; exact HNZ.out), HZ.out])
    have HV := Lib.hid (Sl.opn_no HE.out HNZ.out)
    go_wp2_with fail
    refine bodyPost_ret (v := .tuple #[.slice none 0 0, .int .i64 (z)]) (by simp [results, Tryd.results24, go_sem]) rfl ?_
    exact ⟨none, 0, by rw [HV.out, HE.out]; rfl, fun _ => rfl, by rw [HV.out]; exact RdB.none_, HB.out⟩
  subst h0
  have HGD := Lib.hid (Sl.good HZ.out)
  have HLA := Lib.hid (show Sl.alt s (Shr.vals xs) = L from by rw [← HL.out]; unfold Sl.altV; rw [if_pos HZ.out])
  by_cases hx0 : nx = 0
  rotate_left
  · have i0 : 0 < nx := by omega
    have HNZ := Lib.hid (show (501 : Int) ≠ 0 from by decide)
    have HXN := Lib.hid hx0
    clear hx0
    have HE := Lib.hid (show Sl.opnE s (Shr.vals xs) = 501 from by unfold Sl.opnE; rw [if_neg (by rw [HZ.out]; simp), if_pos (by rw [HLA.out]; intro e; apply HXN.out; rw [← HNX.out, e]; rfl)])
    have HV := Lib.hid (Sl.opn_no HE.out HNZ.out)
    go_wp2_with fail
    refine bodyPost_ret (v := .tuple #[.slice none 0 0, .int .i64 (501)]) (by simp [results, Tryd.results24, go_sem]) rfl ?_
    exact ⟨none, 0, by rw [HV.out, HE.out]; rfl, fun _ => rfl, by rw [HV.out]; exact RdB.none_, HB.out⟩
  subst hx0
  have HLN := Lib.hid (show Sl.alt s (Shr.vals xs) = [] from by rw [HLA.out]; exact List.length_eq_zero_iff.1 HNX.out)
  clear HLA HNX HL hLl
  by_cases hj : Shr.joinE (Shr.vals xs) = 0
  rotate_left
  · have HJN := Lib.hid (Shr.rjoin_no A nl cl xs w2 (HH.out.r.keep HB.out) (by unfold maxLen; omega) hj)
    obtain ⟨z2, hz2⟩ : ∃ z2, Shr.joinE (Shr.vals xs) = z2 := ⟨_, rfl⟩
    have HZ2 := Lib.hid hz2
    rw [hz2] at HJN hj
    have HNZ := Lib.hid hj
    have q : (z2 != 0) = true := by simpa using hj
    clear hz2 hj
    go_wp2_with fail
    ((with_reducible refine HJN.out.mono ?_); rintro e w3 ⟨rfl, hb3⟩)
    replace HB := Lib.hid (HB.out.trans (hb3.mono HB.out.size))
    clear hb3
    have HE := Lib.hid (show Sl.opnE s (Shr.vals xs) = z2 from by unfold Sl.opnE; rw [if_neg (by rw [HZ.out]; simp), if_neg (by rw [HLN.out]; simp), if_pos (by rw [HZ2.out]; exact HNZ.out), HZ2.out])
    have HV := Lib.hid (Sl.opn_no HE.out HNZ.out)
    go_wp2_with fail
    refine bodyPost_ret (v := .tuple #[.slice none 0 0, .int .i64 (z2)]) (by simp [results, Tryd.results24, go_sem]) rfl ?_
    exact ⟨none, 0, by rw [HV.out, HE.out]; rfl, fun _ => rfl, by rw [HV.out]; exact RdB.none_, HB.out⟩
  have HJY := Lib.hid (Shr.rjoin_yes A nl cl xs w2 (HH.out.r.keep HB.out) hcl hcm hj)
  have HJ0 := Lib.hid hj
  obtain ⟨nk, hnk⟩ : ∃ nk, (Shr.vals xs)[0]!.d.length = nk := ⟨_, rfl⟩
  have HNK := Lib.hid hnk
  rw [hnk] at HJY
  clear hnk hj
  go_wp2_with fail
  ((with_reducible refine HJY.out.mono ?_); rintro e w3 ⟨A3, c3, rfl, hq3, hr3, _, _, hb3⟩)
  have hnk64 : nk ≤ maxLen := by
    rw [← HNK.out]
    by_cases hnl0 : 0 < nl
    · have hm := HH.out.r.mem 0 hnl0
      have h1 := Shr.vals_at xs 0 (by rw [HH.out.r.len]; exact hnl0)
      rw [h1]
      exact hm.len
    · have h1 : xs = [] := List.length_eq_zero_iff.1 (by rw [HH.out.r.len]; omega)
      rw [h1]
      decide
  unfold maxLen at hnk64
  clear HJY
  replace HB := Lib.hid (HB.out.trans (hb3.mono HB.out.size))
  replace HS := Lib.hid (HS.out.keep hb3)
  clear hb3
  have HR3 := Lib.hid hr3
  have HQ3 := Lib.hid hq3
  clear hr3 hq3
  have y32 : w3.cell? ⟨gS, 32, none⟩ = some (.slice Ad nd cd) := (HS.out.cell 32).trans HA32.out
  have hdm : nd ≤ 9223372036854775807 := by have h1 := HDM.out; unfold maxLen at h1; exact h1
  by_cases hkd : nk = nd
  rotate_left
  · have q : ((nk : Int) != (nd : Int)) = true := by simp; omega
    have HKD := Lib.hid hkd
    have HNZ := Lib.hid (show (501 : Int) ≠ 0 from by decide)
    clear hkd
    have HE := Lib.hid (show Sl.opnE s (Shr.vals xs) = 501 from by unfold Sl.opnE; rw [if_neg (by rw [HZ.out]; simp), if_neg (by rw [HLN.out]; simp), if_neg (by rw [HJ0.out]; simp), if_pos (by rw [HNK.out, HND.out]; exact HKD.out)])
    have HV := Lib.hid (Sl.opn_no HE.out HNZ.out)
    go_wp2_with fail
    refine bodyPost_ret (v := .tuple #[.slice none 0 0, .int .i64 (501)]) (by simp [results, Tryd.results24, go_sem]) rfl ?_
    exact ⟨none, 0, by rw [HV.out, HE.out]; rfl, fun _ => rfl, by rw [HV.out]; exact RdB.none_, HB.out⟩
  subst hkd
  have q : ((nk : Int) != (nk : Int)) = false := by simp
  have h64 : nk ≤ 64 := by rw [← HND.out]; exact HGD.out.d64
  have HCO := Lib.hid (Sl.comb_ref Ad A3 nk cd c3 s.d (Shr.joinV (Shr.vals xs)) w3 (by have h1 := (HH.out.s.keep HB.out).rd; rw [HND.out] at h1; exact h1) HR3.out (by omega))
  obtain ⟨B, hBv⟩ : ∃ B, Sl.xorl s.d (Shr.joinV (Shr.vals xs)) = B := ⟨_, rfl⟩
  have HBV := Lib.hid hBv
  rw [hBv] at HCO
  clear hBv
  go_wp2_with fail
  ((with_reducible refine HCO.out.mono ?_); rintro e w4 ⟨A4, c4, rfl, ho4, hb4⟩)
  clear HCO y32
  replace HB := Lib.hid (HB.out.trans (hb4.mono HB.out.size))
  replace HS := Lib.hid (HS.out.keep hb4)
  clear hb4
  have HR4 := Lib.hid (show RdB w4 A4 nk B from rd_of_own ho4)
  have HQ4 := Lib.hid (own_nil ho4)
  have HBL := Lib.hid (show B.length = nk from HR4.out.len)
  clear ho4 q
  go_wp2_with fail
  refine Sl.wp_normal ?_
  have s0 : Below w4.heap.size w4 w4.drew := (Below.refl _ w4).drew
  refine wp_region_named (fun ops hops => ?_)
  refine wp_region_T (by kernel_rfl) [] (fun w' => Below w4.heap.size w4 w') ?_
  rw [show ops.size = 5 from by rw [hops]; rfl]
  have HNS : Region.noSelect ops = true := by rw [hops]; kernel_rfl
  obtain ⟨o0, h0, d0, p0, g0⟩ := op_at5 hops 0 rfl (d := some 41) (p := Op.move (Operand.tmp 10)) (g := none) rfl rfl rfl
  obtain ⟨o1, h1, d1, p1, g1⟩ := op_at5 hops 1 rfl (d := some 42) (p := Op.call { callee := Callee.value (Operand.func 30), args := #[Operand.tmp 41], argTypes := #[24] }) (g := none) rfl rfl rfl
  obtain ⟨o2, h2, d2, p2, g2⟩ := op_at5 hops 2 rfl (d := some 43) (p := Op.fieldAddr 27 (Operand.tmp 2) 0) (g := none) rfl rfl rfl
  obtain ⟨o3, h3, d3, p3, g3⟩ := op_at5 hops 3 rfl (d := some 44) (p := Op.load 23 (Operand.tmp 43)) (g := none) rfl rfl rfl
  obtain ⟨o4, h4, d4, p4, g4⟩ := op_at5 hops 4 rfl (d := some 45) (p := Op.binOp BinOp.neq 23 (Operand.tmp 42) (Operand.tmp 44) 23) (g := none) rfl rfl rfl
  have HE30 := Lib.hid (enters_of Tryd.func30 (by kernel_rfl) rfl)
  refine wpAnyT_take (i := 0) (v := .slice A4 nk c4) [0, 1, 4] h0 HNS (by rw [hops]; kernel_rfl) (by rw [hops]; kernel_rfl) (by rw [hops]; kernel_rfl) (fun _ _ _ => NormalOnly.hQ _ _ _) (Or.inl ⟨(wanted_none g0), fun w' _ => by unfold execOp; rw [p0]; first | rfl | kernel_rfl⟩) s0 ?_
  rw [d0]
  simp only [Act.put, List.setIfInBounds_toArray, List.set_cons_zero, List.set_cons_succ]
  refine wpAnyT_take (i := 2) (v := .pointer (some ⟨gS, 0, none⟩)) [2, 3, 4] h2 HNS (by rw [hops]; kernel_rfl) (by rw [hops]; kernel_rfl) (by rw [hops]; kernel_rfl) (fun _ _ _ => NormalOnly.hQ _ _ _) (Or.inl ⟨(wanted_none g2), fun w' _ => by unfold execOp; rw [p2]; first | rfl | kernel_rfl⟩) s0 ?_
  rw [d2]
  simp only [Act.put, List.setIfInBounds_toArray, List.set_cons_zero, List.set_cons_succ]
  refine wpAnyT_take (i := 3) (v := .agg (s.cm.map Dg.b8).toArray) [3, 4] h3 HNS (by rw [hops]; kernel_rfl) (by rw [hops]; kernel_rfl) (by rw [hops]; kernel_rfl) (fun _ _ _ => NormalOnly.hQ _ _ _) (Or.inl ⟨(wanted_none g3), fun w' h => run_op_load_mid 23 _ p3 gS 0 (by rfl) (s.cm.map Dg.b8) _ (Sl.rowAtH (by have h2 := HS.out.keep h; rw [HT.out] at h2; exact h2)) Tryd.underlying23 rfl (Sl.infoDm _ HCL.out)⟩) s0 ?_
  rw [d3]
  simp only [Act.put, List.setIfInBounds_toArray, List.set_cons_zero, List.set_cons_succ]
  refine wpAnyT_one (by rw [hops]; kernel_rfl) h1 (wanted_none g1) (fun K hK => ?_)
  refine wp_call1 30 _ _ (.slice A4 nk c4) p1 HE30.out (by rfl) ?_
  (refine (Sl.commit_ref A4 nk c4 B _ (HR4.out.keep s0) HQ4.out (by omega)).mono ?_; rintro e w5 ⟨rfl, hb0⟩)
  have s1 : Below w4.heap.size w4 w5 := s0.trans (hb0.mono s0.size)
  clear hb0
  refine ⟨_, rfl, ?_⟩
  rw [d1]
  simp only [Act.put, List.setIfInBounds_toArray, List.set_cons_zero, List.set_cons_succ]
  refine hK.out _ _ (fun _ => s1) ?_
  clear hK K
  refine wpAnyT_take (i := 4) (v := .bool (!(Sl.com B == s.cm))) [4] h4 HNS (by rw [hops]; kernel_rfl) (by rw [hops]; kernel_rfl) (by rw [hops]; kernel_rfl) (fun _ _ _ => NormalOnly.hQ _ _ _) (Or.inl ⟨(wanted_none g4), fun w' h => run_op_neq_agg 23 23 _ _ p4 _ _ _ (by rfl) (by rfl) (by kernel_rfl) (Sl.neqD _ _ (Sl.com_len _) HCL.out w')⟩) s1 ?_
  rw [d4]
  simp only [Act.put, List.setIfInBounds_toArray, List.set_cons_zero, List.set_cons_succ]
  refine wpAnyT_done (by rw [hops]; kernel_rfl) ⟨rfl, ?_⟩ _
  clear HNS hops h0 d0 p0 g0 h1 d1 p1 g1 h2 d2 p2 g2 h3 d3 p3 g3 h4 d4 p4 g4
  clear s0
  clear HE30
  have KP4 := Lib.hid s1
  replace HB := Lib.hid (HB.out.trans (s1.mono HB.out.size))
  replace HS := Lib.hid (HS.out.keep s1)
  clear s1
  by_cases hcq : Sl.com B = s.cm
  rotate_left
  · have q : (!(Sl.com B == s.cm)) = true := by simpa using hcq
    have HCN := Lib.hid hcq
    have HNZ := Lib.hid (show (501 : Int) ≠ 0 from by decide)
    clear hcq
    have HE := Lib.hid (show Sl.opnE s (Shr.vals xs) = 501 from by unfold Sl.opnE; rw [if_neg (by rw [HZ.out]; simp), if_neg (by rw [HLN.out]; simp), if_neg (by rw [HJ0.out]; simp), if_neg (by rw [HNK.out, HND.out]; simp), if_pos (by rw [HBV.out]; exact HCN.out)])
    have HV := Lib.hid (Sl.opn_no HE.out HNZ.out)
    go_wp2_with fail
    refine bodyPost_ret (v := .tuple #[.slice none 0 0, .int .i64 (501)]) (by simp [results, Tryd.results24, go_sem]) rfl ?_
    exact ⟨none, 0, by rw [HV.out, HE.out]; rfl, fun _ => rfl, by rw [HV.out]; exact RdB.none_, HB.out⟩
  have q : (!(Sl.com B == s.cm)) = false := by simp [hcq]
  have HE := Lib.hid (show Sl.opnE s (Shr.vals xs) = 0 from by unfold Sl.opnE; rw [if_neg (by rw [HZ.out]; simp), if_neg (by rw [HLN.out]; simp), if_neg (by rw [HJ0.out]; simp), if_neg (by rw [HNK.out, HND.out]; simp), if_neg (by rw [HBV.out]; exact fun h => h hcq)])
  have HV := Lib.hid (show Sl.opnV s (Shr.vals xs) = B from by unfold Sl.opnV; rw [HE.out, if_pos rfl, HBV.out])
  clear hcq
  go_wp2_with fail
  refine bodyPost_ret (v := .tuple #[.slice A4 nk c4, .int .i64 0]) (by simp [results, Tryd.results24, go_sem]) rfl ?_
  exact ⟨A4, c4, by rw [HV.out, HE.out, HBL.out], HQ4.out, by rw [HV.out, HBL.out]; exact HR4.out.keep KP4.out, HB.out⟩
set_option maxRecDepth 100000 in
set_option maxHeartbeats 8000000 in
theorem Sl.twin_ref (A : Option Addr) (nl cl : Nat) (xs : List Shr.C) (s : Sl.W) (Ad : Option Addr) (cd : Nat) (Am : Option Addr) (cA : Nat) (Ab : Option Addr) (nb cb : Nat) (body : List UInt8) (w : World) (h : Sl.Rdy w A nl xs s Ad cd Am cA) (hb : RdB w Ab nb body) (hbm : nb ≤ maxLen) :
    Calls Tryd.prog 27 #[.agg (Sl.row s Ad cd Am cA).toArray, .slice A nl cl, .slice Ab nb cb] w (Sl.RetT w (Sl.twK s (Shr.vals xs) body) (Sl.twC s (Shr.vals xs) body) (Sl.twE s (Shr.vals xs) nb)) := by
  have HCL := Lib.hid h.s.cl
  have HI := Lib.hid (show (Tryd.prog.info? 27).map (·.size) = some (Sl.row s Ad cd Am cA).toArray.size from by rw [List.size_toArray, Sl.row_len h.s.cl]; exact Sl.infoW)
  have HH := Lib.hid h
  have HA32 := Lib.hid (Sl.row_at h.s.cl Ad cd Am cA).1
  obtain ⟨T, hT⟩ : ∃ T, Sl.row s Ad cd Am cA = T := ⟨_, rfl⟩
  have HT := Lib.hid hT.symm
  rw [hT] at HI HA32 ⊢
  clear hT h
  obtain ⟨nd, hnd⟩ : ∃ nd, s.d.length = nd := ⟨_, rfl⟩
  have HND := Lib.hid hnd
  rw [hnd] at HA32
  have HDM := Lib.hid (show nd ≤ maxLen from by rw [← hnd]; exact HH.out.s.dl)
  clear hnd
  obtain ⟨W1, hW1⟩ : ∃ W1, W1 = w.alloc (.cells T.toArray 27) := ⟨_, rfl⟩
  have HB := Lib.hid (show Below w.heap.size w W1 from by rw [hW1]; exact (Below.refl _ w).alloc (Nat.le_refl _) _)
  have HS := Lib.hid (show Has W1 w.heap.size 27 T from by rw [hW1]; exact Has.new w _ _)
  have HBY := Lib.hid hb
  have HBL := Lib.hid hb.len
  clear hb
  have hcl := Sl.rcheck_any s Ad cd Am cA W1 HCL.out
  rw [← HT.out] at hcl
  obtain ⟨z, hz⟩ : ∃ z, Sl.chk s = z := ⟨_, rfl⟩
  have HZ := Lib.hid hz
  rw [hz] at hcl
  have HC := Lib.hid hcl
  clear hz hcl
  unfold maxLen at hbm
  have hdm : nd ≤ 9223372036854775807 := by have h1 := HDM.out; unfold maxLen at h1; exact h1
  go_enter Tryd.func27, Tryd.ntmps27
  go_upto_region 1 with fail
  change Code.wp _ _ _ _ (w.alloc (.cells T.toArray 27))
  rw [← hW1]
  clear hW1
  obtain ⟨gS, hgS⟩ : ∃ gS, gS = w.heap.size := ⟨_, rfl⟩
  rw [← hgS] at HS ⊢
  clear hgS
  have HSr := Lib.hid (show W1.heap[gS]? = some (.cells T.toArray 27 (0, 0)) from HS.out)
  go_wp2_with (with_reducible refine wpList_load_row rfl 27 (.tmp 3) rfl gS rfl 27 T.toArray (0, 0) _ HSr.out Tryd.underlying27 rfl HI.out ?_)
  ((with_reducible refine HC.out.mono ?_); rintro e w2 ⟨rfl, hb2⟩)
  clear HC HSr
  replace HB := Lib.hid (HB.out.trans (hb2.mono HB.out.size))
  replace HS := Lib.hid (HS.out.keep hb2)
  clear hb2
  by_cases h0 : z = 0
  rotate_left
  · have q : (z != 0) = true := by simpa using h0
    have HNZ := Lib.hid (show (500 : Int) ≠ 0 from by decide)
    have HZ5 := Lib.hid (show Sl.chk s = 500 from Sl.chk_c (by rw [HZ.out]; exact h0))
    clear h0
    have HE := Lib.hid (show Sl.twE s (Shr.vals xs) nb = 500 from by unfold Sl.twE; rw [if_pos (by rw [HZ5.out]; decide), HZ5.out])
    have HKV := Lib.hid (show Sl.twK s (Shr.vals xs) body = [] ∧ Sl.twC s (Shr.vals xs) body = [] from by
      constructor
      · unfold Sl.twK; rw [HBL.out, HE.out, if_neg HNZ.out]
      · unfold Sl.twC; rw [HBL.out, HE.out, if_neg HNZ.out])
    go_wp2_with fail
    refine bodyPost_ret (v := .tuple #[.slice none 0 0, .slice none 0 0, .int .i64 (500)]) (by simp [results, Tryd.results27, go_sem]) rfl ?_
    exact ⟨none, 0, none, 0, by rw [HKV.out.1, HKV.out.2, HE.out]; rfl, by rw [HKV.out.1]; exact RdB.none_, by rw [HKV.out.2]; exact RdB.none_, (fun _ => rfl), (fun _ => rfl), by rw [HKV.out.2]; exact Nat.le_refl _, by decide, HB.out⟩
  subst h0
  have HGD := Lib.hid (Sl.good HZ.out)
  have y32 : w2.cell? ⟨gS, 32, none⟩ = some (.slice Ad nd cd) := (HS.out.cell 32).trans HA32.out
  by_cases hn : nb = nd
  rotate_left
  · have q : ((nb : Int) != (nd : Int)) = true := by simp; omega
    have HNE := Lib.hid hn
    have HNZ := Lib.hid (show (1 : Int) ≠ 0 from by decide)
    clear hn
    have HE := Lib.hid (show Sl.twE s (Shr.vals xs) nb = 1 from by unfold Sl.twE; rw [if_neg (by rw [HZ.out]; simp), if_pos (by rw [HND.out]; exact HNE.out)])
    have HKV := Lib.hid (show Sl.twK s (Shr.vals xs) body = [] ∧ Sl.twC s (Shr.vals xs) body = [] from by
      constructor
      · unfold Sl.twK; rw [HBL.out, HE.out, if_neg HNZ.out]
      · unfold Sl.twC; rw [HBL.out, HE.out, if_neg HNZ.out])
    go_wp2_with fail
    refine bodyPost_ret (v := .tuple #[.slice none 0 0, .slice none 0 0, .int .i64 (1)]) (by simp [results, Tryd.results27, go_sem]) rfl ?_
    exact ⟨none, 0, none, 0, by rw [HKV.out.1, HKV.out.2, HE.out]; rfl, by rw [HKV.out.1]; exact RdB.none_, by rw [HKV.out.2]; exact RdB.none_, (fun _ => rfl), (fun _ => rfl), by rw [HKV.out.2]; exact Nat.le_refl _, by decide, HB.out⟩
  subst hn
  have q : ((nb : Int) != (nb : Int)) = false := by simp
  have h64 : nb ≤ 64 := by rw [← HND.out]; exact HGD.out.d64
  have HTW := Lib.hid (show Sl.twE s (Shr.vals xs) nb = Shr.explE (Shr.vals xs) nb from by unfold Sl.twE; rw [if_neg (by rw [HZ.out]; simp), if_neg (by rw [HND.out]; simp)])
  have HCO := Lib.hid (Sl.comb_ref Ad Ab nb cd cb s.d body w2 (by have h1 := (HH.out.s.keep HB.out).rd; rw [HND.out] at h1; exact h1) (HBY.out.keep HB.out) (by omega))
  go_wp2_with fail
  ((with_reducible refine HCO.out.mono ?_); rintro e w3 ⟨A3, c3, rfl, ho3, hb3⟩)
  clear HCO y32
  replace HB := Lib.hid (HB.out.trans (hb3.mono HB.out.size))
  replace HS := Lib.hid (HS.out.keep hb3)
  clear hb3
  have HK3 := Lib.hid (show RdB w3 A3 nb (Sl.xorl s.d body) from rd_of_own ho3)
  have HQ3 := Lib.hid (own_nil ho3)
  have hxl : (Sl.xorl s.d body).length = nb := HK3.out.len
  have HXL := Lib.hid hxl
  clear ho3 hxl q
  by_cases he : Shr.explE (Shr.vals xs) nb = 0
  rotate_left
  · have HEX := Lib.hid (Shr.rexpl_no A nl cl A3 nb c3 xs w3 (HH.out.r.keep HB.out) (by have := HH.out.n; unfold maxLen; omega) (by unfold maxLen; omega) he)
    obtain ⟨ze, hze⟩ : ∃ ze, Shr.explE (Shr.vals xs) nb = ze := ⟨_, rfl⟩
    rw [hze] at HEX HTW he
    have q2 : (ze != 0) = true := by simpa using he
    have HNZ := Lib.hid he
    clear he hze
    go_wp2_with fail
    ((with_reducible refine HEX.out.mono ?_); rintro e w4 ⟨rfl, hb4⟩)
    replace HB := Lib.hid (HB.out.trans (hb4.mono HB.out.size))
    clear hb4 HEX
    have HE := Lib.hid (show Sl.twE s (Shr.vals xs) nb = ze from HTW.out)
    have HKV := Lib.hid (show Sl.twK s (Shr.vals xs) body = [] ∧ Sl.twC s (Shr.vals xs) body = [] from by
      constructor
      · unfold Sl.twK; rw [HBL.out, HE.out, if_neg HNZ.out]
      · unfold Sl.twC; rw [HBL.out, HE.out, if_neg HNZ.out])
    go_wp2_with fail
    refine bodyPost_ret (v := .tuple #[.slice none 0 0, .slice none 0 0, .int .i64 (ze)]) (by simp [results, Tryd.results27, go_sem]) rfl ?_
    exact ⟨none, 0, none, 0, by rw [HKV.out.1, HKV.out.2, HE.out]; rfl, by rw [HKV.out.1]; exact RdB.none_, by rw [HKV.out.2]; exact RdB.none_, (fun _ => rfl), (fun _ => rfl), by rw [HKV.out.2]; exact Nat.le_refl _, by decide, HB.out⟩
  have HEX := Lib.hid (Shr.rexpl_cap A nl cl A3 nb c3 xs (Sl.xorl s.d body) w3 (HH.out.r.keep HB.out) (by have := HH.out.n; unfold maxLen; omega) HK3.out (by unfold maxLen; omega) he)
  rw [he] at HTW
  have HKV := Lib.hid (show Sl.twK s (Shr.vals xs) body = Sl.xorl s.d body ∧ Sl.twC s (Shr.vals xs) body = Shr.explV (Shr.vals xs) (Sl.xorl s.d body) from by
    constructor
    · unfold Sl.twK; rw [HBL.out, HTW.out, if_pos rfl]
    · unfold Sl.twC; rw [HBL.out, HTW.out, if_pos rfl])
  clear he
  go_wp2_with fail
  ((with_reducible refine HEX.out.mono ?_); rintro e w4 ⟨A4, c4, rfl, hn4, hr4, _, _, hb4, hc4, hm4⟩)
  clear HEX
  replace HK3 := Lib.hid (HK3.out.keep hb4)
  replace HB := Lib.hid (HB.out.trans (hb4.mono HB.out.size))
  have HR4 := Lib.hid hr4
  have hln := hr4.len
  have HC4 := Lib.hid (And.intro hn4 (And.intro hc4 hm4))
  clear hn4 hr4 hb4 hc4 hm4
  obtain ⟨n4, hn4⟩ : ∃ n4, nb * (Shr.tt (Shr.vals xs) - 1) = n4 := ⟨_, rfl⟩
  rw [hn4] at hln HR4 HC4 ⊢
  have HLN := Lib.hid hln
  clear hn4 hln
  go_wp2_with fail
  refine bodyPost_ret (v := .tuple #[.slice A3 nb c3, .slice A4 n4 c4, .int .i64 0]) (by simp [results, Tryd.results27, go_sem]) rfl ?_
  refine ⟨A3, c3, A4, c4, ?_, ?_, ?_, HQ3.out, HC4.out.1, ?_, HC4.out.2.2, HB.out⟩
  · rw [HKV.out.1, HKV.out.2, HXL.out, HLN.out, HTW.out]
  · rw [HKV.out.1, HXL.out]; exact HK3.out
  · rw [HKV.out.2, HLN.out]; exact HR4.out
  · rw [HKV.out.2, HLN.out]; exact HC4.out.2.1
end Go.Proofs.YtideglpjgplpnaaDoor
