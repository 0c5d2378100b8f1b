import Derived.Test.YtideglpjgplpnaaDoorMSlX6
import Derived.Test.YtideglpjgplpnaaDoorMSlX7
import Derived.Test.YtideglpjgplpnaaDoorMSlS1
import Derived.Test.YtideglpjgplpnaaDoorMSlF
/- SealsSealSpec: the walk. -/
namespace Go.Proofs.YtideglpjgplpnaaDoor
open Go.RowKit Go.Shelf
set_option linter.unusedVariables false
set_option linter.unusedSimpArgs false

set_option maxRecDepth 100000 in
set_option maxHeartbeats 16000000 in
theorem Sl.sealspec_law (s : Sl.W) (Ad : Option Addr) (cd : Nat) (Am : Option Addr) (cA : Nat) (Ab : Option Addr) (nb cb : Nat) (body : List UInt8) (Ak : Option Addr) (nk ck : Nat) (key : List UInt8) (th mn : Int) (Ac : Option Addr) (nc cc : Nat) (coins : List UInt8) (w : World) (hok : Sl.Ok s w Ad cd Am cA) (rb : RdB w Ab nb body) (rk : RdB w Ak nk key) (rc : RdB w Ac nc coins) (bm : nb ≤ maxLen) (km : nk ≤ maxLen) (bn : Ab = none → cb = 0) (cl : nc ≤ cc) (cx : cc ≤ maxLen) (cn : Ac = none → cc = 0) (hth : -9223372036854775808 ≤ th ∧ th ≤ 9223372036854775807) (hG : Dg.G w Rc.K0 Rc.I0) :
    Calls Tryd.prog 5 #[.agg (Sl.row s Ad cd Am cA).toArray, .slice Ab nb cb, .slice Ak nk ck, .int .i64 th, .int .i64 mn, .slice Ac nc cc] w fun e w' => e = .returned (.bool true) ∧ Below w.heap.size w w' := by
  have HOK := Lib.hid hok
  have HG := Lib.hid hG
  obtain ⟨sx, l, z, hl8, hseal⟩ := Sl.seal_u Ab nb cb body Ak nk ck key th mn Ac nc cc coins w rb rk rc bm km bn cl cx cn hth
  have HSEAL := Lib.hid hseal
  have HCL := Lib.hid hok.cl
  have HI := Lib.hid (show (Tryd.prog.info? 27).map (·.size) = some (Sl.row s Ad cd Am cA).toArray.size from by rw [List.size_toArray, Sl.row_len hok.cl]; exact Sl.infoW)
  have hcm0 := Nat.le_trans cl cx
  unfold maxLen at bm km hcm0
  clear hok hG hseal rb rk rc bn cl cx cn hth
  obtain ⟨T, hT⟩ : ∃ T, Sl.row s Ad cd Am cA = T := ⟨_, rfl⟩
  have HT := Lib.hid hT.symm
  rw [hT] at HI ⊢
  clear hT
  obtain ⟨W1, hW1⟩ : ∃ W1, W1 = w.alloc (.cells T.toArray 27) := ⟨_, rfl⟩
  have HB := Lib.hid (show Below w.heap.size w W1 from by rw [hW1]; exact (Below.refl _ w).alloc (Nat.le_refl _) _)
  have HS := Lib.hid (show Has W1 w.heap.size 27 T from by rw [hW1]; exact Has.new w _ _)
  go_enter Tryd.func5, Tryd.ntmps5
  go_upto_region 1 with fail
  change Code.wp _ _ _ _ (w.alloc (.cells T.toArray 27))
  rw [← hW1]
  clear hW1
  obtain ⟨gS, hgS⟩ : ∃ gS, gS = w.heap.size := ⟨_, rfl⟩
  rw [← hgS] at HS ⊢
  clear hgS
  go_wp2_with fail
  ((with_reducible refine (Sl.sane_any W1 (HG.out.keep HB.out)).mono ?_); rintro e w2 ⟨rfl, hb2⟩)
  replace HB := Lib.hid (HB.out.trans (hb2.mono HB.out.size))
  replace HS := Lib.hid (HS.out.keep hb2)
  clear hb2
  have HSr := Lib.hid (show w2.heap[gS]? = some (.cells T.toArray 27 (0, 0)) from HS.out)
  have HFS := Sl.few_any s Ad cd Am cA w2 HCL.out
  rw [← HT.out] at HFS
  obtain ⟨fs, hfs⟩ : ∃ fs, Sl.fewS s = fs := ⟨_, rfl⟩
  rw [hfs] at HFS
  replace HFS := Lib.hid HFS
  clear hfs
  go_wp2_with (with_reducible refine wpList_load_row rfl 27 (.tmp 6) rfl gS rfl 27 T.toArray (0, 0) _ HSr.out Tryd.underlying27 rfl HI.out ?_)
  ((with_reducible refine HFS.out.mono ?_); rintro e w3 ⟨rfl, hb3⟩)
  clear HSr HFS
  replace HB := Lib.hid (HB.out.trans (hb3.mono HB.out.size))
  replace HS := Lib.hid (HS.out.keep hb3)
  clear hb3
  cases fs with
  | false =>
    go_wp2_with fail
    go_ret
    exact ⟨rfl, HB.out⟩
  | true =>
    by_cases g1 : 70 < nb
    · go_wp2_with fail
      go_ret
      exact ⟨rfl, HB.out⟩
    by_cases g2 : 70 < nk
    · go_wp2_with fail
      go_ret
      exact ⟨rfl, HB.out⟩
    by_cases g3 : 600 < nc
    · go_wp2_with fail
      go_ret
      exact ⟨rfl, HB.out⟩
    have HSL := Lib.hid (fun (W : World) (hb : Below w.heap.size w W) => HSEAL.out W hb (HG.out.keep hb))
    clear HSEAL
    go_wp2_with fail
    ((with_reducible refine (HSL.out w3 HB.out).1.mono ?_); rintro e w4 ⟨Pd, pd, Pm, pA, PA, pc, ps, rfl, hok1, hr1, hv1, hb4⟩)
    replace HB := Lib.hid (HB.out.trans (hb4.mono HB.out.size))
    replace HS := Lib.hid (HS.out.keep hb4)
    clear hb4
    have HI1 := Lib.hid (show (Tryd.prog.info? 27).map (·.size) = some (Sl.row sx Pd pd Pm pA).toArray.size from by rw [List.size_toArray, Sl.row_len hok1.cl]; exact Sl.infoW)
    have HZ1 := Lib.hid (show Sl.z36.toArray.size = (Sl.row sx Pd pd Pm pA).toArray.size from by rw [List.size_toArray, List.size_toArray, Sl.row_len hok1.cl]; rfl)
    have H11 := Lib.hid (show (Sl.row sx Pd pd Pm pA).toArray.all (·.oneCell') = true from all_oneCell_toArray (Sl.row_one _ _ _ _ _))
    have HOK1 := Lib.hid hok1
    have HR1 := Lib.hid hr1
    have HV1 := Lib.hid hv1
    clear hok1 hr1 hv1
    go_wp2_with (first
        | (refine wpList_store_row (o := ⟨none, .store 27 (.tmp 13) (.tmp 46), _, _, _, _⟩) rfl 27 (.tmp 13) (.tmp 46) rfl w4.heap.size (Sl.row sx Pd pd Pm pA).toArray rfl rfl 27 Sl.z36.toArray (World.alloc_heap_new w4 _) HI1.out HZ1.out H11.out ?_
           obtain ⟨w5, hw5⟩ : ∃ w5, w5 = (w4.alloc (.cells Sl.z36.toArray 27)).setRow w4.heap.size (Sl.row sx Pd pd Pm pA).toArray := ⟨_, rfl⟩
           change wpList _ _ _ _ _ ((w4.alloc (.cells Sl.z36.toArray 27)).setRow w4.heap.size (Sl.row sx Pd pd Pm pA).toArray)
           rw [← hw5]
           have HN1 := Lib.hid (show Has w5 w4.heap.size 27 (Sl.row sx Pd pd Pm pA) from by rw [hw5]; exact setRow_heap _ w4.heap.size _ _ 27 (0, 0) (World.alloc_heap_new w4 _))
           have hbn1 : Below w4.heap.size w4 w5 := by rw [hw5]; exact below_setRow ((Below.refl _ w4).alloc (Nat.le_refl _) _) (Nat.le_refl _) _
           clear hw5))
    obtain ⟨g1x, hg1x⟩ : ∃ g, w4.heap.size = g := ⟨_, rfl⟩
    rw [hg1x] at HN1 ⊢
    clear hg1x HZ1 H11
    replace HB := Lib.hid (HB.out.trans (hbn1.mono HB.out.size))
    replace HS := Lib.hid (HS.out.keep hbn1)
    replace HOK1 := Lib.hid (HOK1.out.keep hbn1)
    replace HR1 := Lib.hid (HR1.out.keep hbn1)
    clear hbn1
    ((with_reducible refine (HSL.out w5 HB.out).2.mono ?_); rintro e w6 ⟨Qd, qd, Qm, qA, QA, qc, qs, rfl, hok2, hr2, hv2, hb6⟩)
    replace HB := Lib.hid (HB.out.trans (hb6.mono HB.out.size))
    replace HS := Lib.hid (HS.out.keep hb6)
    replace HOK1 := Lib.hid (HOK1.out.keep hb6)
    replace HR1 := Lib.hid (HR1.out.keep hb6)
    replace HN1 := Lib.hid (HN1.out.keep hb6)
    clear hb6
    have HI2 := Lib.hid (show (Tryd.prog.info? 27).map (·.size) = some (Sl.row sx Qd qd Qm qA).toArray.size from by rw [List.size_toArray, Sl.row_len hok2.cl]; exact Sl.infoW)
    have HZ2 := Lib.hid (show Sl.z36.toArray.size = (Sl.row sx Qd qd Qm qA).toArray.size from by rw [List.size_toArray, List.size_toArray, Sl.row_len hok2.cl]; rfl)
    have H12 := Lib.hid (show (Sl.row sx Qd qd Qm qA).toArray.all (·.oneCell') = true from all_oneCell_toArray (Sl.row_one _ _ _ _ _))
    have HOK2 := Lib.hid hok2
    have HR2 := Lib.hid hr2
    have HV2 := Lib.hid hv2
    clear hok2 hr2 hv2
    go_wp2_with (first
        | (refine wpList_store_row (o := ⟨none, .store 27 (.tmp 16) (.tmp 56), _, _, _, _⟩) rfl 27 (.tmp 16) (.tmp 56) rfl w6.heap.size (Sl.row sx Qd qd Qm qA).toArray rfl rfl 27 Sl.z36.toArray (World.alloc_heap_new w6 _) HI2.out HZ2.out H12.out ?_
           obtain ⟨w7, hw7⟩ : ∃ w7, w7 = (w6.alloc (.cells Sl.z36.toArray 27)).setRow w6.heap.size (Sl.row sx Qd qd Qm qA).toArray := ⟨_, rfl⟩
           change wpList _ _ _ _ _ ((w6.alloc (.cells Sl.z36.toArray 27)).setRow w6.heap.size (Sl.row sx Qd qd Qm qA).toArray)
           rw [← hw7]
           have HN2 := Lib.hid (show Has w7 w6.heap.size 27 (Sl.row sx Qd qd Qm qA) from by rw [hw7]; exact setRow_heap _ w6.heap.size _ _ 27 (0, 0) (World.alloc_heap_new w6 _))
           have hbn2 : Below w6.heap.size w6 w7 := by rw [hw7]; exact below_setRow ((Below.refl _ w6).alloc (Nat.le_refl _) _) (Nat.le_refl _) _
           clear hw7))
    obtain ⟨g2x, hg2x⟩ : ∃ g, w6.heap.size = g := ⟨_, rfl⟩
    rw [hg2x] at HN2 ⊢
    clear hg2x HZ2 H12
    replace HB := Lib.hid (HB.out.trans (hbn2.mono HB.out.size))
    replace HS := Lib.hid (HS.out.keep hbn2)
    replace HOK1 := Lib.hid (HOK1.out.keep hbn2)
    replace HR1 := Lib.hid (HR1.out.keep hbn2)
    replace HN1 := Lib.hid (HN1.out.keep hbn2)
    replace HOK2 := Lib.hid (HOK2.out.keep hbn2)
    replace HR2 := Lib.hid (HR2.out.keep hbn2)
    clear hbn2
    have HNL := Lib.hid hl8
    obtain ⟨nl, hnl⟩ : ∃ nl, l.length = nl := ⟨_, rfl⟩
    rw [hnl] at HR1 HR2 HNL ⊢
    have HVE := Lib.hid (show Shr.vals ps = Shr.vals qs from HV1.out.trans HV2.out.symm)
    have hsm := fun (W : World) (hb : Below w7.heap.size w7 W) => Sl.same_ref sx Pd pd Pm pA Qd qd Qm qA W (HOK1.out.keep hb) (HOK2.out.keep hb)
    obtain ⟨T1, hT1⟩ : ∃ T, Sl.row sx Pd pd Pm pA = T := ⟨_, rfl⟩
    obtain ⟨T2, hT2⟩ : ∃ T, Sl.row sx Qd qd Qm qA = T := ⟨_, rfl⟩
    rw [hT1] at hsm HN1 HI1 ⊢
    rw [hT2] at hsm HN2 HI2 ⊢
    have HSM := Lib.hid hsm
    have hc1 := fun (W : World) => Sl.check_any s Ad cd Am cA W HCL.out
    have hc2 := fun (W : World) => Sl.rcheck_any s Ad cd Am cA W HCL.out
    obtain ⟨zc, hzc⟩ : ∃ zc, Sl.chk s = zc := ⟨_, rfl⟩
    rw [hzc, ← HT.out] at hc1 hc2
    have HC1 := Lib.hid hc1
    have HC2 := Lib.hid hc2
    clear hnl hsm hT1 hT2 hc1 hc2 hzc HV1 HV2 hl8
    go_wp2_with fail
    refine Sl.wp_normal ?_
    have s0 : Below w7.heap.size w7 w7.drew := (Below.refl _ w7).drew
    refine wp_region_named (fun ops hops => ?_)
    refine wp_region_T (by kernel_rfl) [] (fun w' => Below w7.heap.size w7 w') ?_
    rw [show ops.size = 21 from by rw [hops]; rfl]
    have HNS : Region.noSelect ops = true := by rw [hops]; kernel_rfl
    obtain ⟨o0, h0, d0, p0, g0⟩ := op_at5 hops 0 rfl (d := some 59) (p := Op.load 27 (Operand.tmp 13)) (g := none) rfl rfl rfl
    obtain ⟨o1, h1, d1, p1, g1⟩ := op_at5 hops 1 rfl (d := some 60) (p := Op.load 27 (Operand.tmp 16)) (g := none) rfl rfl rfl
    obtain ⟨o2, h2, d2, p2, g2⟩ := op_at5 hops 2 rfl (d := some 61) (p := Op.call { callee := Callee.value (Operand.func 19), args := #[Operand.tmp 59, Operand.tmp 60], argTypes := #[27, 27] }) (g := none) rfl rfl rfl
    obtain ⟨o3, h3, d3, p3, g3⟩ := op_at5 hops 3 rfl (d := some 62) (p := Op.move (Operand.tmp 61)) (g := none) rfl rfl rfl
    obtain ⟨o4, h4, d4, p4, g4⟩ := op_at5 hops 4 rfl (d := some 63) (p := Op.move (Operand.tmp 14)) (g := some (3, true)) rfl rfl rfl
    obtain ⟨o5, h5, d5, p5, g5⟩ := op_at5 hops 5 rfl (d := some 64) (p := Op.move (Operand.tmp 17)) (g := some (3, true)) rfl rfl rfl
    obtain ⟨o6, h6, d6, p6, g6⟩ := op_at5 hops 6 rfl (d := some 65) (p := Op.call { callee := Callee.value (Operand.func 20), args := #[Operand.tmp 63, Operand.tmp 64], argTypes := #[28, 28] }) (g := some (3, true)) rfl rfl rfl
    obtain ⟨o7, h7, d7, p7, g7⟩ := op_at5 hops 7 rfl (d := some 66) (p := Op.pick (Operand.tmp 62) (Operand.tmp 65) (Operand.const (Value.bool false))) (g := none) rfl rfl rfl
    obtain ⟨o8, h8, d8, p8, g8⟩ := op_at5 hops 8 rfl (d := some 67) (p := Op.move (Operand.tmp 66)) (g := none) rfl rfl rfl
    obtain ⟨o9, h9, d9, p9, g9⟩ := op_at5 hops 9 rfl (d := some 68) (p := Op.move (Operand.tmp 15)) (g := some (8, true)) rfl rfl rfl
    obtain ⟨o10, h10, d10, p10, g10⟩ := op_at5 hops 10 rfl (d := some 69) (p := Op.move (Operand.tmp 18)) (g := some (8, true)) rfl rfl rfl
    obtain ⟨o11, h11, d11, p11, g11⟩ := op_at5 hops 11 rfl (d := some 70) (p := Op.binOp BinOp.eql 32 (Operand.tmp 68) (Operand.tmp 69) 32) (g := some (8, true)) rfl rfl rfl
    obtain ⟨o12, h12, d12, p12, g12⟩ := op_at5 hops 12 rfl (d := some 71) (p := Op.pick (Operand.tmp 67) (Operand.tmp 70) (Operand.const (Value.bool false))) (g := none) rfl rfl rfl
    obtain ⟨o13, h13, d13, p13, g13⟩ := op_at5 hops 13 rfl (d := some 72) (p := Op.move (Operand.tmp 71)) (g := none) rfl rfl rfl
    obtain ⟨o14, h14, d14, p14, g14⟩ := op_at5 hops 14 rfl (d := some 73) (p := Op.load 27 (Operand.tmp 6)) (g := some (13, true)) rfl rfl rfl
    obtain ⟨o15, h15, d15, p15, g15⟩ := op_at5 hops 15 rfl (d := some 74) (p := Op.call { callee := Callee.value (Operand.func 21), args := #[Operand.tmp 73], argTypes := #[27] }) (g := some (13, true)) rfl rfl rfl
    obtain ⟨o16, h16, d16, p16, g16⟩ := op_at5 hops 16 rfl (d := some 75) (p := Op.load 27 (Operand.tmp 6)) (g := some (13, true)) rfl rfl rfl
    obtain ⟨o17, h17, d17, p17, g17⟩ := op_at5 hops 17 rfl (d := some 76) (p := Op.call { callee := Callee.value (Operand.func 22), args := #[Operand.tmp 75], argTypes := #[27] }) (g := some (13, true)) rfl rfl rfl
    obtain ⟨o18, h18, d18, p18, g18⟩ := op_at5 hops 18 rfl (d := some 77) (p := Op.binOp BinOp.eql 32 (Operand.tmp 74) (Operand.tmp 76) 32) (g := some (13, true)) rfl rfl rfl
    obtain ⟨o19, h19, d19, p19, g19⟩ := op_at5 hops 19 rfl (d := some 78) (p := Op.pick (Operand.tmp 72) (Operand.tmp 77) (Operand.const (Value.bool false))) (g := none) rfl rfl rfl
    obtain ⟨o20, h20, d20, p20, g20⟩ := op_at5 hops 20 rfl (d := some 12) (p := Op.assign (Operand.tmp 78)) (g := none) rfl rfl rfl
    have HE19 := Lib.hid (enters_of Tryd.func19 (by kernel_rfl) rfl)
    have HE20 := Lib.hid (enters_of Tryd.func20 (by kernel_rfl) rfl)
    have HE21 := Lib.hid (enters_of Tryd.func21 (by kernel_rfl) rfl)
    have HE22 := Lib.hid (enters_of Tryd.func22 (by kernel_rfl) rfl)
    refine wpAnyT_take (i := 0) (v := .agg T1.toArray) [0, 2, 3, 4, 5, 6, 7, 8, 9, 10, 11, 12, 13, 14, 15, 16, 17, 18, 19, 20] h0 HNS (by rw [hops]; kernel_rfl) (by rw [hops]; kernel_rfl) (by rw [hops]; kernel_rfl) (fun _ _ _ => NormalOnly.hQ _ _ _) (Or.inl ⟨(wanted_none g0), fun w' h => run_op_load_row 27 _ p0 g1x (by rfl) 27 _ (0, 0) _ (HN1.out.keep h) Tryd.underlying27 rfl HI1.out⟩) s0 ?_
    rw [d0]
    simp only [Act.put, List.setIfInBounds_toArray, List.set_cons_zero, List.set_cons_succ]
    refine wpAnyT_take (i := 1) (v := .agg T2.toArray) [1, 2, 3, 4, 5, 6, 7, 8, 9, 10, 11, 12, 13, 14, 15, 16, 17, 18, 19, 20] h1 HNS (by rw [hops]; kernel_rfl) (by rw [hops]; kernel_rfl) (by rw [hops]; kernel_rfl) (fun _ _ _ => NormalOnly.hQ _ _ _) (Or.inl ⟨(wanted_none g1), fun w' h => run_op_load_row 27 _ p1 g2x (by rfl) 27 _ (0, 0) _ (HN2.out.keep h) Tryd.underlying27 rfl HI2.out⟩) s0 ?_
    rw [d1]
    simp only [Act.put, List.setIfInBounds_toArray, List.set_cons_zero, List.set_cons_succ]
    refine wpAnyT_one (by rw [hops]; kernel_rfl) h2 (wanted_none g2) (fun K hK => ?_)
    refine wp_call2 19 _ _ _ (.agg T1.toArray) (.agg T2.toArray) p2 HE19.out (by rfl) (by rfl) ?_
    (refine (HSM.out _ s0).mono ?_; rintro e w8 ⟨rfl, hb0⟩)
    have s1 : Below w7.heap.size w7 w8 := s0.trans (hb0.mono s0.size)
    clear hb0
    refine ⟨_, rfl, ?_⟩
    rw [d2]
    simp only [Act.put, List.setIfInBounds_toArray, List.set_cons_zero, List.set_cons_succ]
    refine hK.out _ _ (fun _ => s1) ?_
    clear hK K
    refine wpAnyT_take (i := 3) (v := .bool true) [3, 4, 5, 6, 7, 8, 9, 10, 11, 12, 13, 14, 15, 16, 17, 18, 19, 20] h3 HNS (by rw [hops]; kernel_rfl) (by rw [hops]; kernel_rfl) (by rw [hops]; kernel_rfl) (fun _ _ _ => NormalOnly.hQ _ _ _) (Or.inl ⟨(wanted_none g3), fun w' _ => by unfold execOp; rw [p3]; first | rfl | kernel_rfl⟩) s1 ?_
    rw [d3]
    simp only [Act.put, List.setIfInBounds_toArray, List.set_cons_zero, List.set_cons_succ]
    refine wpAnyT_take (i := 4) (v := .slice PA nl pc) [4, 6, 7, 8, 9, 10, 11, 12, 13, 14, 15, 16, 17, 18, 19, 20] h4 HNS (by rw [hops]; kernel_rfl) (by rw [hops]; kernel_rfl) (by rw [hops]; kernel_rfl) (fun _ _ _ => NormalOnly.hQ _ _ _) (Or.inl ⟨(wanted_some g4 h3 d3 (by rfl)), fun w' _ => by unfold execOp; rw [p4]; first | rfl | kernel_rfl⟩) s1 ?_
    rw [d4]
    simp only [Act.put, List.setIfInBounds_toArray, List.set_cons_zero, List.set_cons_succ]
    refine wpAnyT_take (i := 5) (v := .slice QA nl qc) [5, 6, 7, 8, 9, 10, 11, 12, 13, 14, 15, 16, 17, 18, 19, 20] h5 HNS (by rw [hops]; kernel_rfl) (by rw [hops]; kernel_rfl) (by rw [hops]; kernel_rfl) (fun _ _ _ => NormalOnly.hQ _ _ _) (Or.inl ⟨(wanted_some g5 h3 d3 (by rfl)), fun w' _ => by unfold execOp; rw [p5]; first | rfl | kernel_rfl⟩) s1 ?_
    rw [d5]
    simp only [Act.put, List.setIfInBounds_toArray, List.set_cons_zero, List.set_cons_succ]
    refine wpAnyT_one (by rw [hops]; kernel_rfl) h6 (wanted_some g6 h3 d3 (by rfl)) (fun K hK => ?_)
    refine wp_call2 20 _ _ _ (.slice PA nl pc) (.slice QA nl qc) p6 HE20.out (by rfl) (by rfl) ?_
    (refine (Shr.same_any PA QA nl pc qc ps qs _ (HR1.out.keep s1) (HR2.out.keep s1) (by have := HNL.out; unfold maxLen; omega) HVE.out).mono ?_; rintro e w9 ⟨rfl, hb0⟩)
    have s2 : Below w7.heap.size w7 w9 := s1.trans (hb0.mono s1.size)
    clear hb0
    refine ⟨_, rfl, ?_⟩
    rw [d6]
    simp only [Act.put, List.setIfInBounds_toArray, List.set_cons_zero, List.set_cons_succ]
    refine hK.out _ _ (fun _ => s2) ?_
    clear hK K
    refine wpAnyT_take (i := 7) (v := .bool true) [7, 8, 9, 10, 11, 12, 13, 14, 15, 16, 17, 18, 19, 20] h7 HNS (by rw [hops]; kernel_rfl) (by rw [hops]; kernel_rfl) (by rw [hops]; kernel_rfl) (fun _ _ _ => NormalOnly.hQ _ _ _) (Or.inl ⟨(wanted_none g7), fun w' _ => by unfold execOp; rw [p7]; first | rfl | kernel_rfl⟩) s2 ?_
    rw [d7]
    simp only [Act.put, List.setIfInBounds_toArray, List.set_cons_zero, List.set_cons_succ]
    refine wpAnyT_take (i := 8) (v := .bool true) [8, 9, 10, 11, 12, 13, 14, 15, 16, 17, 18, 19, 20] h8 HNS (by rw [hops]; kernel_rfl) (by rw [hops]; kernel_rfl) (by rw [hops]; kernel_rfl) (fun _ _ _ => NormalOnly.hQ _ _ _) (Or.inl ⟨(wanted_none g8), fun w' _ => by unfold execOp; rw [p8]; first | rfl | kernel_rfl⟩) s2 ?_
    rw [d8]
    simp only [Act.put, List.setIfInBounds_toArray, List.set_cons_zero, List.set_cons_succ]
    refine wpAnyT_take (i := 9) (v := .int .i64 z) [9, 11, 12, 13, 14, 15, 16, 17, 18, 19, 20] h9 HNS (by rw [hops]; kernel_rfl) (by rw [hops]; kernel_rfl) (by rw [hops]; kernel_rfl) (fun _ _ _ => NormalOnly.hQ _ _ _) (Or.inl ⟨(wanted_some g9 h8 d8 (by rfl)), fun w' _ => by unfold execOp; rw [p9]; first | rfl | kernel_rfl⟩) s2 ?_
    rw [d9]
    simp only [Act.put, List.setIfInBounds_toArray, List.set_cons_zero, List.set_cons_succ]
    refine wpAnyT_take (i := 10) (v := .int .i64 z) [10, 11, 12, 13, 14, 15, 16, 17, 18, 19, 20] h10 HNS (by rw [hops]; kernel_rfl) (by rw [hops]; kernel_rfl) (by rw [hops]; kernel_rfl) (fun _ _ _ => NormalOnly.hQ _ _ _) (Or.inl ⟨(wanted_some g10 h8 d8 (by rfl)), fun w' _ => by unfold execOp; rw [p10]; first | rfl | kernel_rfl⟩) s2 ?_
    rw [d10]
    simp only [Act.put, List.setIfInBounds_toArray, List.set_cons_zero, List.set_cons_succ]
    refine wpAnyT_take (i := 11) (v := .bool true) [11, 12, 13, 14, 15, 16, 17, 18, 19, 20] h11 HNS (by rw [hops]; kernel_rfl) (by rw [hops]; kernel_rfl) (by rw [hops]; kernel_rfl) (fun _ _ _ => NormalOnly.hQ _ _ _) (Or.inl ⟨(wanted_some g11 h8 d8 (by rfl)), fun w' h => Sl.run_op_eql_int 32 32 _ _ p11 (z) (by rfl) (by rfl)⟩) s2 ?_
    rw [d11]
    simp only [Act.put, List.setIfInBounds_toArray, List.set_cons_zero, List.set_cons_succ]
    refine wpAnyT_take (i := 12) (v := .bool true) [12, 13, 14, 15, 16, 17, 18, 19, 20] h12 HNS (by rw [hops]; kernel_rfl) (by rw [hops]; kernel_rfl) (by rw [hops]; kernel_rfl) (fun _ _ _ => NormalOnly.hQ _ _ _) (Or.inl ⟨(wanted_none g12), fun w' _ => by unfold execOp; rw [p12]; first | rfl | kernel_rfl⟩) s2 ?_
    rw [d12]
    simp only [Act.put, List.setIfInBounds_toArray, List.set_cons_zero, List.set_cons_succ]
    refine wpAnyT_take (i := 13) (v := .bool true) [13, 14, 15, 16, 17, 18, 19, 20] h13 HNS (by rw [hops]; kernel_rfl) (by rw [hops]; kernel_rfl) (by rw [hops]; kernel_rfl) (fun _ _ _ => NormalOnly.hQ _ _ _) (Or.inl ⟨(wanted_none g13), fun w' _ => by unfold execOp; rw [p13]; first | rfl | kernel_rfl⟩) s2 ?_
    rw [d13]
    simp only [Act.put, List.setIfInBounds_toArray, List.set_cons_zero, List.set_cons_succ]
    refine wpAnyT_take (i := 14) (v := .agg T.toArray) [14, 15, 17, 18, 19, 20] h14 HNS (by rw [hops]; kernel_rfl) (by rw [hops]; kernel_rfl) (by rw [hops]; kernel_rfl) (fun _ _ _ => NormalOnly.hQ _ _ _) (Or.inl ⟨(wanted_some g14 h13 d13 (by rfl)), fun w' h => run_op_load_row 27 _ p14 gS (by rfl) 27 _ (0, 0) _ (HS.out.keep h) Tryd.underlying27 rfl HI.out⟩) s2 ?_
    rw [d14]
    simp only [Act.put, List.setIfInBounds_toArray, List.set_cons_zero, List.set_cons_succ]
    refine wpAnyT_take (i := 16) (v := .agg T.toArray) [16, 17, 18, 19, 20] h16 HNS (by rw [hops]; kernel_rfl) (by rw [hops]; kernel_rfl) (by rw [hops]; kernel_rfl) (fun _ _ _ => NormalOnly.hQ _ _ _) (Or.inl ⟨(wanted_some g16 h13 d13 (by rfl)), fun w' h => run_op_load_row 27 _ p16 gS (by rfl) 27 _ (0, 0) _ (HS.out.keep h) Tryd.underlying27 rfl HI.out⟩) s2 ?_
    rw [d16]
    simp only [Act.put, List.setIfInBounds_toArray, List.set_cons_zero, List.set_cons_succ]
    refine wpAnyT_one (by rw [hops]; kernel_rfl) h15 (wanted_some g15 h13 d13 (by rfl)) (fun K hK => ?_)
    refine wp_call1 21 _ _ (.agg T.toArray) p15 HE21.out (by rfl) ?_
    (refine (HC1.out _).mono ?_; rintro e w10 ⟨rfl, hb0⟩)
    have s3 : Below w7.heap.size w7 w10 := s2.trans (hb0.mono s2.size)
    clear hb0
    refine ⟨_, rfl, ?_⟩
    rw [d15]
    simp only [Act.put, List.setIfInBounds_toArray, List.set_cons_zero, List.set_cons_succ]
    refine hK.out _ _ (fun _ => s3) ?_
    clear hK K
    refine wpAnyT_one (by rw [hops]; kernel_rfl) h17 (wanted_some g17 h13 d13 (by rfl)) (fun K hK => ?_)
    refine wp_call1 22 _ _ (.agg T.toArray) p17 HE22.out (by rfl) ?_
    (refine (HC2.out _).mono ?_; rintro e w11 ⟨rfl, hb0⟩)
    have s4 : Below w7.heap.size w7 w11 := s3.trans (hb0.mono s3.size)
    clear hb0
    refine ⟨_, rfl, ?_⟩
    rw [d17]
    simp only [Act.put, List.setIfInBounds_toArray, List.set_cons_zero, List.set_cons_succ]
    refine hK.out _ _ (fun _ => s4) ?_
    clear hK K
    refine wpAnyT_take (i := 18) (v := .bool true) [18, 19, 20] h18 HNS (by rw [hops]; kernel_rfl) (by rw [hops]; kernel_rfl) (by rw [hops]; kernel_rfl) (fun _ _ _ => NormalOnly.hQ _ _ _) (Or.inl ⟨(wanted_some g18 h13 d13 (by rfl)), fun w' h => Sl.run_op_eql_int 32 32 _ _ p18 (zc) (by rfl) (by rfl)⟩) s4 ?_
    rw [d18]
    simp only [Act.put, List.setIfInBounds_toArray, List.set_cons_zero, List.set_cons_succ]
    refine wpAnyT_take (i := 19) (v := .bool true) [19, 20] h19 HNS (by rw [hops]; kernel_rfl) (by rw [hops]; kernel_rfl) (by rw [hops]; kernel_rfl) (fun _ _ _ => NormalOnly.hQ _ _ _) (Or.inl ⟨(wanted_none g19), fun w' _ => by unfold execOp; rw [p19]; first | rfl | kernel_rfl⟩) s4 ?_
    rw [d19]
    simp only [Act.put, List.setIfInBounds_toArray, List.set_cons_zero, List.set_cons_succ]
    refine wpAnyT_take (i := 20) (v := .bool true) [20] h20 HNS (by rw [hops]; kernel_rfl) (by rw [hops]; kernel_rfl) (by rw [hops]; kernel_rfl) (fun _ _ _ => NormalOnly.hQ _ _ _) (Or.inl ⟨(wanted_none g20), fun w' _ => by unfold execOp; rw [p20]; first | rfl | kernel_rfl⟩) s4 ?_
    rw [d20]
    simp only [Act.put, List.setIfInBounds_toArray, List.set_cons_zero, List.set_cons_succ]
    refine wpAnyT_done (by rw [hops]; kernel_rfl) ⟨rfl, ?_⟩ _
    clear HNS hops h0 d0 p0 g0 h1 d1 p1 g1 h2 d2 p2 g2 h3 d3 p3 g3 h4 d4 p4 g4 h5 d5 p5 g5 h6 d6 p6 g6 h7 d7 p7 g7 h8 d8 p8 g8 h9 d9 p9 g9 h10 d10 p10 g10 h11 d11 p11 g11 h12 d12 p12 g12 h13 d13 p13 g13 h14 d14 p14 g14 h15 d15 p15 g15 h16 d16 p16 g16 h17 d17 p17 g17 h18 d18 p18 g18 h19 d19 p19 g19 h20 d20 p20 g20
    clear s0
    clear s1
    clear s2
    clear s3
    go_wp2_with fail
    go_ret
    exact ⟨rfl, HB.out.trans (s4.mono HB.out.size)⟩
end Go.Proofs.YtideglpjgplpnaaDoor
