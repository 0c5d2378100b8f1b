import Derived.Test.YtideglpjgplpnaaDoorMSlK
import Derived.Test.YtideglpjgplpnaaDoorMSlR1
/- Contract of law50.mark. -/
namespace Go.Proofs.YtideglpjgplpnaaDoor
open Go.RowKit Go.Shelf
set_option linter.unusedVariables false
set_option linter.unusedSimpArgs false

theorem Sl.wp_callv1 {P : Program} {o : Oper} {a : Act} {w : World} {K : Act → World → Prop} {Q : Exit → Act → World → Prop} (f : FuncId) (y : Nat) (x : Operand) (tys : Array TypeId) (vx : Value)
    (ho : o.op = .call { callee := .value (.tmp y), args := #[x], argTypes := tys }) (hy : a.tmps[y]?.getD undef = .func (.func f) #[] #[]) (heg : ∀ args w, (callFunc f args).run P w = .ok (.enter f args) w) (hx : a.eval x = vx) (h : Calls P f #[vx] w fun e w' => ∃ v, e = .returned v ∧ K (a.put o.dst v) w') : Oper.wp P o a w K Q := by
  have hrun : (execOp a.eval o).run P w = .ok (.enter f #[vx]) w := by
    subst hx
    simp [execOp, ho, resolve, invoke, Act.eval, hy, Deferred.ofValue, go_sem, heg]
  unfold Oper.wp
  rw [hrun, Oper.upon_enter]
  exact h.mono fun e w' ⟨v, he, hk⟩ => by subst he; exact hk
theorem Sl.number_any (n : Int) (w : World) : Calls Tryd.prog 47 #[.int .i64 n] w fun e w' => e = .returned (.agg (Rc.ic n).toArray) ∧ Below w.heap.size w w' := by
  go_enter Tryd.func47, Tryd.ntmps47
  go_wp2_with fail
  refine bodyPost_ret (v := .agg #[.int .i64 1, .int .i64 n, .string ⟨#[]⟩, .slice none 0 0]) (by simp [results, Tryd.results47, go_sem]) rfl ⟨rfl, ?_⟩
  exact (Below.refl _ _).alloc (Nat.le_refl _) _
theorem Sl.enc_any (x : Shr.S) (cs : List Value) (w : World) (hh : (Sl.val x).hgt ≤ 1000000) (hc : Cd.CellB w w.heap.size (Sl.val x) cs) (hlen : (Sl.val x).enc.length ≤ 90000000) :
    Calls Tryd.prog 48 #[.agg cs.toArray] w fun e w' => ∃ A c, e = .returned (.tuple #[.slice A (Sl.val x).enc.length c, .int .i64 0]) ∧ (A = none → c = 0) ∧ RdB w' A (Sl.val x).enc.length (Sl.val x).enc ∧ Below w.heap.size w w' := by
  have h := Cd.encode_any (Sl.val x) cs w hh hc hlen
  unfold Cd.RetE at h
  rw [Sl.val_chk, Sl.val_out] at h
  refine h.mono ?_
  rintro e w' ⟨v, rfl, hb, ho⟩
  obtain ⟨A, c, rfl⟩ := own_form ho
  exact ⟨A, c, rfl, own_nil ho, RdB.of_own ho, hb⟩
set_option maxRecDepth 100000 in
set_option maxHeartbeats 16000000 in
theorem Sl.mark_law (x : Shr.S) (A : Option Addr) (c : Nat) (w : World) (hd : RdB w A x.d.length x.d) (hdl : x.d.length ≤ 10000000)
    (h1 : Rc.in64 x.ep) (h2 : Rc.in64 x.ix) (h3 : Rc.in64 x.th) (h4 : Rc.in64 x.mn) (hG : Dg.G w Rc.K0 Rc.I0) :
    Calls Tryd.prog 28 #[.agg #[.int .i64 x.ep, .int .i64 x.ix, .int .i64 x.th, .int .i64 x.mn, .slice A x.d.length c]] w fun e w' => e = .returned (.tuple #[.agg ((Sl.mark x).map Dg.b8).toArray, .bool true]) ∧ Below w.heap.size w w' := by
  have HR := Lib.hid hd
  have HDL := Lib.hid hdl
  have HG := Lib.hid hG
  have HI64 := Lib.hid (And.intro h1 (And.intro h2 (And.intro h3 h4)))
  obtain ⟨W1, hW1⟩ : ∃ W1, W1 = (w.alloc (.cells #[.int .i64 x.ep, .int .i64 x.ix, .int .i64 x.th, .int .i64 x.mn, .slice A x.d.length c] 43)).alloc (.cells Dg.z32.toArray 23) := ⟨_, rfl⟩
  have HB1 := Lib.hid (show Below w.heap.size w W1 from by rw [hW1]; exact ((Below.refl _ w).alloc (Nat.le_refl _) _).alloc (by simp) _)
  have HX1 := Lib.hid (show Has W1 w.heap.size 43 [.int .i64 x.ep, .int .i64 x.ix, .int .i64 x.th, .int .i64 x.mn, .slice A x.d.length c] from by rw [hW1]; exact (Has.new w _ _).alloc _)
  have HD1 := Lib.hid (show Has W1 (w.heap.size + 1) 23 Dg.z32 from by rw [hW1]; exact Has.second w _ _ _)
  clear hd hdl h1 h2 h3 h4 hG
  obtain ⟨D, hD⟩ : ∃ D, ((Sl.mark x).map Dg.b8).toArray = D := ⟨_, rfl⟩
  rw [hD]
  have HDZ := Lib.hid hD.symm
  clear hD
  go_enter Tryd.func28, Tryd.ntmps28
  go_upto_region 1 with fail
  change Code.wp _ _ _ _ ((w.alloc (.cells #[.int .i64 x.ep, .int .i64 x.ix, .int .i64 x.th, .int .i64 x.mn, .slice A x.d.length c] 43)).alloc (.cells Dg.z32.toArray 23))
  rw [← hW1]
  clear hW1
  have hsm := Sl.val_small x HDL.out
  have HSM := Lib.hid hsm
  have HDG := Lib.hid (show Sl.mark x = Dg.tagged Rc.K0 Rc.I0 Sl.tgS (Sl.val x).enc from rfl)
  clear hsm
  go_wp2_with fail
  refine Sl.wp_normal ?_
  have s0 : Below W1.heap.size W1 W1.drew := (Below.refl _ W1).drew
  refine wp_region_named (fun ops hops => ?_)
  refine wp_region_T (by kernel_rfl) [] (fun w' => Below W1.heap.size W1 w') ?_
  rw [show ops.size = 28 from by rw [hops]; rfl]
  have HNS : Region.noSelect ops = true := by rw [hops]; kernel_rfl
  obtain ⟨o0, h0, d0, p0, g0⟩ := op_at5 hops 0 rfl (d := some 8) (p := Op.move (Operand.tmp 4)) (g := none) rfl rfl rfl
  obtain ⟨o1, h1, d1, p1, g1⟩ := op_at5 hops 1 rfl (d := some 9) (p := Op.fieldAddr 43 (Operand.tmp 1) 0) (g := none) rfl rfl rfl
  obtain ⟨o2, h2, d2, p2, g2⟩ := op_at5 hops 2 rfl (d := some 10) (p := Op.load 3 (Operand.tmp 9)) (g := none) rfl rfl rfl
  obtain ⟨o3, h3, d3, p3, g3⟩ := op_at5 hops 3 rfl (d := some 11) (p := Op.call { callee := Callee.value (Operand.tmp 8), args := #[Operand.tmp 10], argTypes := #[3] }) (g := none) rfl rfl rfl
  obtain ⟨o4, h4, d4, p4, g4⟩ := op_at5 hops 4 rfl (d := some 12) (p := Op.move (Operand.tmp 4)) (g := none) rfl rfl rfl
  obtain ⟨o5, h5, d5, p5, g5⟩ := op_at5 hops 5 rfl (d := some 13) (p := Op.fieldAddr 43 (Operand.tmp 1) 1) (g := none) rfl rfl rfl
  obtain ⟨o6, h6, d6, p6, g6⟩ := op_at5 hops 6 rfl (d := some 14) (p := Op.load 3 (Operand.tmp 13)) (g := none) rfl rfl rfl
  obtain ⟨o7, h7, d7, p7, g7⟩ := op_at5 hops 7 rfl (d := some 15) (p := Op.call { callee := Callee.value (Operand.tmp 12), args := #[Operand.tmp 14], argTypes := #[3] }) (g := none) rfl rfl rfl
  obtain ⟨o8, h8, d8, p8, g8⟩ := op_at5 hops 8 rfl (d := some 16) (p := Op.move (Operand.tmp 4)) (g := none) rfl rfl rfl
  obtain ⟨o9, h9, d9, p9, g9⟩ := op_at5 hops 9 rfl (d := some 17) (p := Op.fieldAddr 43 (Operand.tmp 1) 2) (g := none) rfl rfl rfl
  obtain ⟨o10, h10, d10, p10, g10⟩ := op_at5 hops 10 rfl (d := some 18) (p := Op.load 3 (Operand.tmp 17)) (g := none) rfl rfl rfl
  obtain ⟨o11, h11, d11, p11, g11⟩ := op_at5 hops 11 rfl (d := some 19) (p := Op.call { callee := Callee.value (Operand.tmp 16), args := #[Operand.tmp 18], argTypes := #[3] }) (g := none) rfl rfl rfl
  obtain ⟨o12, h12, d12, p12, g12⟩ := op_at5 hops 12 rfl (d := some 20) (p := Op.move (Operand.tmp 4)) (g := none) rfl rfl rfl
  obtain ⟨o13, h13, d13, p13, g13⟩ := op_at5 hops 13 rfl (d := some 21) (p := Op.fieldAddr 43 (Operand.tmp 1) 3) (g := none) rfl rfl rfl
  obtain ⟨o14, h14, d14, p14, g14⟩ := op_at5 hops 14 rfl (d := some 22) (p := Op.load 3 (Operand.tmp 21)) (g := none) rfl rfl rfl
  obtain ⟨o15, h15, d15, p15, g15⟩ := op_at5 hops 15 rfl (d := some 23) (p := Op.call { callee := Callee.value (Operand.tmp 20), args := #[Operand.tmp 22], argTypes := #[3] }) (g := none) rfl rfl rfl
  obtain ⟨o16, h16, d16, p16, g16⟩ := op_at5 hops 16 rfl (d := some 24) (p := Op.fieldAddr 43 (Operand.tmp 1) 4) (g := none) rfl rfl rfl
  obtain ⟨o17, h17, d17, p17, g17⟩ := op_at5 hops 17 rfl (d := some 25) (p := Op.load 24 (Operand.tmp 24)) (g := none) rfl rfl rfl
  obtain ⟨o18, h18, d18, p18, g18⟩ := op_at5 hops 18 rfl (d := some 26) (p := Op.convert 24 9 (Operand.tmp 25)) (g := none) rfl rfl rfl
  obtain ⟨o19, h19, d19, p19, g19⟩ := op_at5 hops 19 rfl (d := some 27) (p := Op.build 77 #[(0, Operand.const (Value.int IntKind.i64 2)), (2, Operand.tmp 26)]) (g := none) rfl rfl rfl
  obtain ⟨o20, h20, d20, p20, g20⟩ := op_at5 hops 20 rfl (d := some 28) (p := Op.buildSlice 75 5 #[(0, Operand.tmp 11), (1, Operand.tmp 15), (2, Operand.tmp 19), (3, Operand.tmp 23), (4, Operand.tmp 27)]) (g := none) rfl rfl rfl
  obtain ⟨o21, h21, d21, p21, g21⟩ := op_at5 hops 21 rfl (d := some 29) (p := Op.build 77 #[(0, Operand.const (Value.int IntKind.i64 3)), (3, Operand.tmp 28)]) (g := none) rfl rfl rfl
  obtain ⟨o22, h22, d22, p22, g22⟩ := op_at5 hops 22 rfl (d := some 30) (p := Op.call { callee := Callee.value (Operand.func 48), args := #[Operand.tmp 29], argTypes := #[77] }) (g := none) rfl rfl rfl
  obtain ⟨o23, h23, d23, p23, g23⟩ := op_at5 hops 23 rfl (d := some 7) (p := Op.move (Operand.tmp 30)) (g := none) rfl rfl rfl
  obtain ⟨o24, h24, d24, p24, g24⟩ := op_at5 hops 24 rfl (d := some 31) (p := Op.extract (Operand.tmp 7) 0) (g := none) rfl rfl rfl
  obtain ⟨o25, h25, d25, p25, g25⟩ := op_at5 hops 25 rfl (d := some 32) (p := Op.extract (Operand.tmp 7) 1) (g := none) rfl rfl rfl
  obtain ⟨o26, h26, d26, p26, g26⟩ := op_at5 hops 26 rfl (d := some 5) (p := Op.assign (Operand.tmp 31)) (g := none) rfl rfl rfl
  obtain ⟨o27, h27, d27, p27, g27⟩ := op_at5 hops 27 rfl (d := some 6) (p := Op.assign (Operand.tmp 32)) (g := none) rfl rfl rfl
  have HE47 := Lib.hid (enters_of Tryd.func47 (by kernel_rfl) rfl)
  have HE48 := Lib.hid (enters_of Tryd.func48 (by kernel_rfl) rfl)
  refine wpAnyT_take (i := 0) (v := .func (.func 47) #[] #[]) [0, 3, 7, 11, 15, 20, 21, 22, 23, 24, 25, 26, 27] h0 HNS (by rw [hops]; kernel_rfl) (by rw [hops]; kernel_rfl) (by rw [hops]; kernel_rfl) (fun _ _ _ => NormalOnly.hQ _ _ _) (Or.inl ⟨(wanted_none g0), fun w' _ => by unfold execOp; rw [p0]; first | rfl | kernel_rfl⟩) s0 ?_
  rw [d0]
  simp only [Act.put, List.setIfInBounds_toArray, List.set_cons_zero, List.set_cons_succ]
  refine wpAnyT_take (i := 1) (v := .pointer (some ⟨w.heap.size, 0, none⟩)) [1, 2, 3, 7, 11, 15, 20, 21, 22, 23, 24, 25, 26, 27] h1 HNS (by rw [hops]; kernel_rfl) (by rw [hops]; kernel_rfl) (by rw [hops]; kernel_rfl) (fun _ _ _ => NormalOnly.hQ _ _ _) (Or.inl ⟨(wanted_none g1), fun w' _ => by unfold execOp; rw [p1]; first | rfl | kernel_rfl⟩) s0 ?_
  rw [d1]
  simp only [Act.put, List.setIfInBounds_toArray, List.set_cons_zero, List.set_cons_succ]
  refine wpAnyT_take (i := 2) (v := .int .i64 x.ep) [2, 3, 7, 11, 15, 20, 21, 22, 23, 24, 25, 26, 27] h2 HNS (by rw [hops]; kernel_rfl) (by rw [hops]; kernel_rfl) (by rw [hops]; kernel_rfl) (fun _ _ _ => NormalOnly.hQ _ _ _) (Or.inl ⟨(wanted_none g2), fun w' h => run_op_load_cell 3 _ p2 (w.heap.size) (0) (by rfl) (.int .i64 x.ep) ((HX1.out.keep h).cell 0) _ Tryd.underlying3 rfl⟩) s0 ?_
  rw [d2]
  simp only [Act.put, List.setIfInBounds_toArray, List.set_cons_zero, List.set_cons_succ]
  refine wpAnyT_take (i := 4) (v := .func (.func 47) #[] #[]) [4, 7, 11, 15, 20, 21, 22, 23, 24, 25, 26, 27] h4 HNS (by rw [hops]; kernel_rfl) (by rw [hops]; kernel_rfl) (by rw [hops]; kernel_rfl) (fun _ _ _ => NormalOnly.hQ _ _ _) (Or.inl ⟨(wanted_none g4), fun w' _ => by unfold execOp; rw [p4]; first | rfl | kernel_rfl⟩) s0 ?_
  rw [d4]
  simp only [Act.put, List.setIfInBounds_toArray, List.set_cons_zero, List.set_cons_succ]
  refine wpAnyT_take (i := 5) (v := .pointer (some ⟨w.heap.size, 1, none⟩)) [5, 6, 7, 11, 15, 20, 21, 22, 23, 24, 25, 26, 27] h5 HNS (by rw [hops]; kernel_rfl) (by rw [hops]; kernel_rfl) (by rw [hops]; kernel_rfl) (fun _ _ _ => NormalOnly.hQ _ _ _) (Or.inl ⟨(wanted_none g5), fun w' _ => by unfold execOp; rw [p5]; first | rfl | kernel_rfl⟩) s0 ?_
  rw [d5]
  simp only [Act.put, List.setIfInBounds_toArray, List.set_cons_zero, List.set_cons_succ]
  refine wpAnyT_take (i := 6) (v := .int .i64 x.ix) [6, 7, 11, 15, 20, 21, 22, 23, 24, 25, 26, 27] h6 HNS (by rw [hops]; kernel_rfl) (by rw [hops]; kernel_rfl) (by rw [hops]; kernel_rfl) (fun _ _ _ => NormalOnly.hQ _ _ _) (Or.inl ⟨(wanted_none g6), fun w' h => run_op_load_cell 3 _ p6 (w.heap.size) (1) (by rfl) (.int .i64 x.ix) ((HX1.out.keep h).cell 1) _ Tryd.underlying3 rfl⟩) s0 ?_
  rw [d6]
  simp only [Act.put, List.setIfInBounds_toArray, List.set_cons_zero, List.set_cons_succ]
  refine wpAnyT_take (i := 8) (v := .func (.func 47) #[] #[]) [8, 11, 15, 20, 21, 22, 23, 24, 25, 26, 27] h8 HNS (by rw [hops]; kernel_rfl) (by rw [hops]; kernel_rfl) (by rw [hops]; kernel_rfl) (fun _ _ _ => NormalOnly.hQ _ _ _) (Or.inl ⟨(wanted_none g8), fun w' _ => by unfold execOp; rw [p8]; first | rfl | kernel_rfl⟩) s0 ?_
  rw [d8]
  simp only [Act.put, List.setIfInBounds_toArray, List.set_cons_zero, List.set_cons_succ]
  refine wpAnyT_take (i := 9) (v := .pointer (some ⟨w.heap.size, 2, none⟩)) [9, 10, 11, 15, 20, 21, 22, 23, 24, 25, 26, 27] h9 HNS (by rw [hops]; kernel_rfl) (by rw [hops]; kernel_rfl) (by rw [hops]; kernel_rfl) (fun _ _ _ => NormalOnly.hQ _ _ _) (Or.inl ⟨(wanted_none g9), fun w' _ => by unfold execOp; rw [p9]; first | rfl | kernel_rfl⟩) s0 ?_
  rw [d9]
  simp only [Act.put, List.setIfInBounds_toArray, List.set_cons_zero, List.set_cons_succ]
  refine wpAnyT_take (i := 10) (v := .int .i64 x.th) [10, 11, 15, 20, 21, 22, 23, 24, 25, 26, 27] h10 HNS (by rw [hops]; kernel_rfl) (by rw [hops]; kernel_rfl) (by rw [hops]; kernel_rfl) (fun _ _ _ => NormalOnly.hQ _ _ _) (Or.inl ⟨(wanted_none g10), fun w' h => run_op_load_cell 3 _ p10 (w.heap.size) (2) (by rfl) (.int .i64 x.th) ((HX1.out.keep h).cell 2) _ Tryd.underlying3 rfl⟩) s0 ?_
  rw [d10]
  simp only [Act.put, List.setIfInBounds_toArray, List.set_cons_zero, List.set_cons_succ]
  refine wpAnyT_take (i := 12) (v := .func (.func 47) #[] #[]) [12, 15, 20, 21, 22, 23, 24, 25, 26, 27] h12 HNS (by rw [hops]; kernel_rfl) (by rw [hops]; kernel_rfl) (by rw [hops]; kernel_rfl) (fun _ _ _ => NormalOnly.hQ _ _ _) (Or.inl ⟨(wanted_none g12), fun w' _ => by unfold execOp; rw [p12]; first | rfl | kernel_rfl⟩) s0 ?_
  rw [d12]
  simp only [Act.put, List.setIfInBounds_toArray, List.set_cons_zero, List.set_cons_succ]
  refine wpAnyT_take (i := 13) (v := .pointer (some ⟨w.heap.size, 3, none⟩)) [13, 14, 15, 20, 21, 22, 23, 24, 25, 26, 27] h13 HNS (by rw [hops]; kernel_rfl) (by rw [hops]; kernel_rfl) (by rw [hops]; kernel_rfl) (fun _ _ _ => NormalOnly.hQ _ _ _) (Or.inl ⟨(wanted_none g13), fun w' _ => by unfold execOp; rw [p13]; first | rfl | kernel_rfl⟩) s0 ?_
  rw [d13]
  simp only [Act.put, List.setIfInBounds_toArray, List.set_cons_zero, List.set_cons_succ]
  refine wpAnyT_take (i := 14) (v := .int .i64 x.mn) [14, 15, 20, 21, 22, 23, 24, 25, 26, 27] h14 HNS (by rw [hops]; kernel_rfl) (by rw [hops]; kernel_rfl) (by rw [hops]; kernel_rfl) (fun _ _ _ => NormalOnly.hQ _ _ _) (Or.inl ⟨(wanted_none g14), fun w' h => run_op_load_cell 3 _ p14 (w.heap.size) (3) (by rfl) (.int .i64 x.mn) ((HX1.out.keep h).cell 3) _ Tryd.underlying3 rfl⟩) s0 ?_
  rw [d14]
  simp only [Act.put, List.setIfInBounds_toArray, List.set_cons_zero, List.set_cons_succ]
  refine wpAnyT_take (i := 16) (v := .pointer (some ⟨w.heap.size, 4, none⟩)) [16, 17, 18, 19, 20, 21, 22, 23, 24, 25, 26, 27] h16 HNS (by rw [hops]; kernel_rfl) (by rw [hops]; kernel_rfl) (by rw [hops]; kernel_rfl) (fun _ _ _ => NormalOnly.hQ _ _ _) (Or.inl ⟨(wanted_none g16), fun w' _ => by unfold execOp; rw [p16]; first | rfl | kernel_rfl⟩) s0 ?_
  rw [d16]
  simp only [Act.put, List.setIfInBounds_toArray, List.set_cons_zero, List.set_cons_succ]
  refine wpAnyT_take (i := 17) (v := .slice A x.d.length c) [17, 18, 19, 20, 21, 22, 23, 24, 25, 26, 27] h17 HNS (by rw [hops]; kernel_rfl) (by rw [hops]; kernel_rfl) (by rw [hops]; kernel_rfl) (fun _ _ _ => NormalOnly.hQ _ _ _) (Or.inl ⟨(wanted_none g17), fun w' h => run_op_load_cell 24 _ p17 (w.heap.size) (4) (by rfl) (.slice A x.d.length c) ((HX1.out.keep h).cell 4) _ Tryd.underlying24 rfl⟩) s0 ?_
  rw [d17]
  simp only [Act.put, List.setIfInBounds_toArray, List.set_cons_zero, List.set_cons_succ]
  refine wpAnyT_take (i := 18) (v := .string ⟨(x.d).toArray⟩) [18, 19, 20, 21, 22, 23, 24, 25, 26, 27] h18 HNS (by rw [hops]; kernel_rfl) (by rw [hops]; kernel_rfl) (by rw [hops]; kernel_rfl) (fun _ _ _ => NormalOnly.hQ _ _ _) (Or.inl ⟨(wanted_none g18), fun w' h => run_op_convR 24 9 _ p18 _ _ (by rfl) (RdB.str (P := Tryd.prog) ((HR.out.keep HB1.out).keep h) Tryd.underlying24 Tryd.underlying5 Tryd.underlying9 c)⟩) s0 ?_
  rw [d18]
  simp only [Act.put, List.setIfInBounds_toArray, List.set_cons_zero, List.set_cons_succ]
  refine wpAnyT_take (i := 19) (v := .agg (Sl.tcs x.d).toArray) [19, 20, 21, 22, 23, 24, 25, 26, 27] h19 HNS (by rw [hops]; kernel_rfl) (by rw [hops]; kernel_rfl) (by rw [hops]; kernel_rfl) (fun _ _ _ => NormalOnly.hQ _ _ _) (Or.inl ⟨(wanted_none g19), fun w' _ => by unfold execOp; rw [p19]; first | rfl | kernel_rfl⟩) s0 ?_
  rw [d19]
  simp only [Act.put, List.setIfInBounds_toArray, List.set_cons_zero, List.set_cons_succ]
  refine wpAnyT_one (by rw [hops]; kernel_rfl) h3 (wanted_none g3) (fun K hK => ?_)
  refine Sl.wp_callv1 47 _ _ _ (.int .i64 x.ep) p3 (by rfl) HE47.out (by rfl) ?_
  (refine (Sl.number_any x.ep _).mono ?_; rintro e v0 ⟨rfl, hb0⟩)
  have s1 : Below W1.heap.size W1 v0 := s0.trans (hb0.mono s0.size)
  clear hb0
  refine ⟨_, rfl, ?_⟩
  rw [d3]
  simp only [Act.put, List.setIfInBounds_toArray, List.set_cons_zero, List.set_cons_succ]
  refine hK.out _ _ (fun _ => s1) ?_
  clear hK K
  refine wpAnyT_one (by rw [hops]; kernel_rfl) h7 (wanted_none g7) (fun K hK => ?_)
  refine Sl.wp_callv1 47 _ _ _ (.int .i64 x.ix) p7 (by rfl) HE47.out (by rfl) ?_
  (refine (Sl.number_any x.ix _).mono ?_; rintro e v1 ⟨rfl, hb0⟩)
  have s2 : Below W1.heap.size W1 v1 := s1.trans (hb0.mono s1.size)
  clear hb0
  refine ⟨_, rfl, ?_⟩
  rw [d7]
  simp only [Act.put, List.setIfInBounds_toArray, List.set_cons_zero, List.set_cons_succ]
  refine hK.out _ _ (fun _ => s2) ?_
  clear hK K
  refine wpAnyT_one (by rw [hops]; kernel_rfl) h11 (wanted_none g11) (fun K hK => ?_)
  refine Sl.wp_callv1 47 _ _ _ (.int .i64 x.th) p11 (by rfl) HE47.out (by rfl) ?_
  (refine (Sl.number_any x.th _).mono ?_; rintro e v2 ⟨rfl, hb0⟩)
  have s3 : Below W1.heap.size W1 v2 := s2.trans (hb0.mono s2.size)
  clear hb0
  refine ⟨_, rfl, ?_⟩
  rw [d11]
  simp only [Act.put, List.setIfInBounds_toArray, List.set_cons_zero, List.set_cons_succ]
  refine hK.out _ _ (fun _ => s3) ?_
  clear hK K
  refine wpAnyT_one (by rw [hops]; kernel_rfl) h15 (wanted_none g15) (fun K hK => ?_)
  refine Sl.wp_callv1 47 _ _ _ (.int .i64 x.mn) p15 (by rfl) HE47.out (by rfl) ?_
  (refine (Sl.number_any x.mn _).mono ?_; rintro e v3 ⟨rfl, hb0⟩)
  have s4 : Below W1.heap.size W1 v3 := s3.trans (hb0.mono s3.size)
  clear hb0
  refine ⟨_, rfl, ?_⟩
  rw [d15]
  simp only [Act.put, List.setIfInBounds_toArray, List.set_cons_zero, List.set_cons_succ]
  refine hK.out _ _ (fun _ => s4) ?_
  clear hK K
  refine wpAnyT_one (by rw [hops]; kernel_rfl) h20 (wanted_none g20) (fun K hK => ?_)
  refine wp_runG (run_op_buildSliceR 75 5 _ p20 [(0, .agg (Rc.ic x.ep).toArray), (1, .agg (Rc.ic x.ix).toArray), (2, .agg (Rc.ic x.th).toArray), (3, .agg (Rc.ic x.mn).toArray), (4, .agg (Sl.tcs x.d).toArray)] (by rfl) (.slice (some ⟨v3.heap.size, 0, none⟩) 5 5) (v3.alloc (.cells (Rc.ics (Sl.ics x) ++ Sl.tcs x.d).toArray 77)) (Sl.bs5 x v3)) ?_
  have s5 : Below W1.heap.size W1 (v3.alloc (.cells (Rc.ics (Sl.ics x) ++ Sl.tcs x.d).toArray 77)) := s4.alloc s4.size _
  have hn := Has.new v3 77 (Rc.ics (Sl.ics x) ++ Sl.tcs x.d)
  have hrd : Rd (v3.alloc (.cells (Rc.ics (Sl.ics x) ++ Sl.tcs x.d).toArray 77)) (v3.alloc (.cells (Rc.ics (Sl.ics x) ++ Sl.tcs x.d).toArray 77)).heap.size 4 (some ⟨v3.heap.size, 0, none⟩) 5 (Rc.ics (Sl.ics x) ++ Sl.tcs x.d) := ⟨by simp [Rc.ics, Sl.ics], fun _ => ⟨v3.heap.size, 0, rfl, hn.lt, fun j u hu => by rw [Nat.zero_add, hn.cell j]; exact hu⟩⟩
  have hC := Sl.cell_val2 hrd (by simp) (by have := HDL.out; unfold maxLen; omega) HI64.out.1 HI64.out.2.1 HI64.out.2.2.1 HI64.out.2.2.2
  clear hn hrd
  rw [d20]
  simp only [Act.put, List.setIfInBounds_toArray, List.set_cons_zero, List.set_cons_succ]
  refine hK.out _ _ (fun _ => s5) ?_
  clear hK K
  refine wpAnyT_take (i := 21) (v := .agg (#[.int .i64 3, .int .i64 0, .string ⟨#[]⟩, .slice (some ⟨v3.heap.size, 0, none⟩) 5 5] : Array Value)) [21, 22, 23, 24, 25, 26, 27] h21 HNS (by rw [hops]; kernel_rfl) (by rw [hops]; kernel_rfl) (by rw [hops]; kernel_rfl) (fun _ _ _ => NormalOnly.hQ _ _ _) (Or.inl ⟨(wanted_none g21), fun w' _ => by unfold execOp; rw [p21]; first | rfl | kernel_rfl⟩) s5 ?_
  rw [d21]
  simp only [Act.put, List.setIfInBounds_toArray, List.set_cons_zero, List.set_cons_succ]
  refine wpAnyT_one (by rw [hops]; kernel_rfl) h22 (wanted_none g22) (fun K hK => ?_)
  refine wp_call1 48 _ _ (.agg (#[.int .i64 3, .int .i64 0, .string ⟨#[]⟩, .slice (some ⟨v3.heap.size, 0, none⟩) 5 5] : Array Value)) p22 HE48.out (by rfl) ?_
  (refine (Sl.enc_any x _ _ HSM.out.1 hC HSM.out.2).mono ?_; rintro e w7 ⟨A7, c7, rfl, hq7, hr7, hb0⟩)
  have s6 : Below W1.heap.size W1 w7 := s5.trans (hb0.mono s5.size)
  clear hb0 hC
  refine ⟨_, rfl, ?_⟩
  rw [d22]
  simp only [Act.put, List.setIfInBounds_toArray, List.set_cons_zero, List.set_cons_succ]
  refine hK.out _ _ (fun _ => s6) ?_
  clear hK K
  refine wpAnyT_take (i := 23) (v := .tuple #[.slice A7 (Sl.val x).enc.length c7, .int .i64 0]) [23, 24, 25, 26, 27] h23 HNS (by rw [hops]; kernel_rfl) (by rw [hops]; kernel_rfl) (by rw [hops]; kernel_rfl) (fun _ _ _ => NormalOnly.hQ _ _ _) (Or.inl ⟨(wanted_none g23), fun w' _ => by unfold execOp; rw [p23]; first | rfl | kernel_rfl⟩) s6 ?_
  rw [d23]
  simp only [Act.put, List.setIfInBounds_toArray, List.set_cons_zero, List.set_cons_succ]
  refine wpAnyT_take (i := 24) (v := .slice A7 (Sl.val x).enc.length c7) [24, 26, 27] h24 HNS (by rw [hops]; kernel_rfl) (by rw [hops]; kernel_rfl) (by rw [hops]; kernel_rfl) (fun _ _ _ => NormalOnly.hQ _ _ _) (Or.inl ⟨(wanted_none g24), fun w' _ => by unfold execOp; rw [p24]; first | rfl | kernel_rfl⟩) s6 ?_
  rw [d24]
  simp only [Act.put, List.setIfInBounds_toArray, List.set_cons_zero, List.set_cons_succ]
  refine wpAnyT_take (i := 25) (v := .int .i64 0) [25, 27] h25 HNS (by rw [hops]; kernel_rfl) (by rw [hops]; kernel_rfl) (by rw [hops]; kernel_rfl) (fun _ _ _ => NormalOnly.hQ _ _ _) (Or.inl ⟨(wanted_none g25), fun w' _ => by unfold execOp; rw [p25]; first | rfl | kernel_rfl⟩) s6 ?_
  rw [d25]
  simp only [Act.put, List.setIfInBounds_toArray, List.set_cons_zero, List.set_cons_succ]
  refine wpAnyT_take (i := 26) (v := .slice A7 (Sl.val x).enc.length c7) [26, 27] h26 HNS (by rw [hops]; kernel_rfl) (by rw [hops]; kernel_rfl) (by rw [hops]; kernel_rfl) (fun _ _ _ => NormalOnly.hQ _ _ _) (Or.inl ⟨(wanted_none g26), fun w' _ => by unfold execOp; rw [p26]; first | rfl | kernel_rfl⟩) s6 ?_
  rw [d26]
  simp only [Act.put, List.setIfInBounds_toArray, List.set_cons_zero, List.set_cons_succ]
  refine wpAnyT_take (i := 27) (v := .int .i64 0) [27] h27 HNS (by rw [hops]; kernel_rfl) (by rw [hops]; kernel_rfl) (by rw [hops]; kernel_rfl) (fun _ _ _ => NormalOnly.hQ _ _ _) (Or.inl ⟨(wanted_none g27), fun w' _ => by unfold execOp; rw [p27]; first | rfl | kernel_rfl⟩) s6 ?_
  rw [d27]
  simp only [Act.put, List.setIfInBounds_toArray, List.set_cons_zero, List.set_cons_succ]
  refine wpAnyT_done (by rw [hops]; kernel_rfl) ⟨rfl, ?_⟩ _
  clear HNS hops h0 d0 p0 g0 h1 d1 p1 g1 h2 d2 p2 g2 h3 d3 p3 g3 h4 d4 p4 g4 h5 d5 p5 g5 h6 d6 p6 g6 h7 d7 p7 g7 h8 d8 p8 g8 h9 d9 p9 g9 h10 d10 p10 g10 h11 d11 p11 g11 h12 d12 p12 g12 h13 d13 p13 g13 h14 d14 p14 g14 h15 d15 p15 g15 h16 d16 p16 g16 h17 d17 p17 g17 h18 d18 p18 g18 h19 d19 p19 g19 h20 d20 p20 g20 h21 d21 p21 g21 h22 d22 p22 g22 h23 d23 p23 g23 h24 d24 p24 g24 h25 d25 p25 g25 h26 d26 p26 g26 h27 d27 p27 g27
  clear s0
  clear s1
  clear s2
  clear s3
  clear s4
  clear s5
  clear HE47 HE48
  have HB7 := Lib.hid (HB1.out.trans (s6.mono HB1.out.size))
  have HD7 := Lib.hid (HD1.out.keep s6)
  obtain ⟨L, hL⟩ : ∃ L, (Sl.val x).enc = L := ⟨_, rfl⟩
  rw [hL] at hr7 HSM HDG ⊢
  have HTG := Lib.hid (by
    have h := Dg.tagged_any w7 Sl.tgS A7 L.length c7 L Rc.K0 Rc.I0 hr7 hq7 (by have := HSM.out.2; omega) (by decide) (HG.out.keep HB7.out)
    rw [← HDG.out, ← HDZ.out] at h
    exact h)
  clear s6 hq7 hr7 hL
  go_wp2_with fail
  ((with_reducible refine HTG.out.mono ?_); rintro e w8 ⟨rfl, hb8⟩)
  have HB8 := Lib.hid (HB7.out.trans (hb8.mono HB7.out.size))
  have HD8 := Lib.hid (show w8.heap[w.heap.size + 1]? = some (.cells Dg.z32.toArray 23 (0, 0)) from HD7.out.keep hb8)
  have hds : D.size = 32 := by rw [HDZ.out]; simp [Sl.mark_len]
  have hi31 : (Tryd.prog.info? 23).map (·.size) = some D.size := by rw [hds]; kernel_rfl
  have HI8 := Lib.hid hi31
  have HS8 := Lib.hid (show Dg.z32.toArray.size = D.size from by rw [hds]; rfl)
  have H18 := Lib.hid (show D.all (·.oneCell') = true from by rw [HDZ.out]; exact all_oneCell_toArray (one_bytes _))
  clear hb8 hds hi31
  go_wp2_with (first
    | (refine wpList_store_row (o := ⟨none, .store 23 (.tmp 2) (.tmp 34), _, _, _, _⟩) rfl 23 (.tmp 2) (.tmp 34) rfl (w.heap.size + 1) D rfl rfl 23 Dg.z32.toArray HD8.out HI8.out HS8.out H18.out ?_))
  have HF8 := Lib.hid (setRow_heap w8 (w.heap.size + 1) _ D 23 (0, 0) HD8.out)
  refine bodyPost_ret (results_cell_row2 rfl _ _ (w.heap.size + 1) 23 D (0, 0) _ rfl HF8.out Tryd.underlying23 rfl HI8.out) rfl ?_
  exact ⟨rfl, below_setRow HB8.out (by omega) _⟩
end Go.Proofs.YtideglpjgplpnaaDoor
