import Derived.Test.YtideglpjgplpnaaDoorMSlSP
/- law50.sane. -/
namespace Go.Proofs.YtideglpjgplpnaaDoor
open Go.RowKit Go.Shelf
set_option linter.unusedVariables false
set_option linter.unusedSimpArgs false

theorem Sl.wp_normal {P : Program} {c : Code} {a : Act} {w : World} {Q : Exit → Act → World → Prop} (h : c.wp P (NormalOnly (fun a' w' => Q .normal a' w')) a w) : c.wp P Q a w :=
  Code.wp_mono (by rintro e a w ⟨rfl, h⟩; exact h) h
theorem Sl.rdI_keep {W W' : World} {A : Option Addr} {n : Nat} {l : List Value} (h : Rd W W.heap.size 1 A n l) (hb : Below W.heap.size W W') : Rd W' W'.heap.size 1 A n l := (h.below hb (Nat.le_refl _)).more hb.size
theorem Sl.cs1 {W : World} {g : Nat} {l : List Shr.S} {Ad : Option Addr} {cd : Nat} {Am : Option Addr} {cA b off n c : Nat} {xs : List Shr.C} (h : Sl.Hold W g Sl.s1 l Ad cd Am cA b off n c xs) : W.cell? ⟨g, 32, none⟩ = some (.slice Ad 2 cd) ∧ W.cell? ⟨g, 35, none⟩ = some (.slice Am 2 cA) := by
  have h4 := Sl.row_at h.ok.cl Ad cd Am cA
  rw [Sl.s1_d, Sl.s1_ms] at h4
  exact ⟨(h.h.cell 32).trans h4.1, (h.h.cell 35).trans h4.2.2.2⟩
theorem Sl.cut1 {o : Oper} {a : Act} {w : World} (x y : Operand) (ho : o.op = .slice 28 x (some y) none none) (b off c : Nat) (hx : a.eval x = .slice (some ⟨b, off, none⟩) 2 c) (hy : a.eval y = .int .i64 1) (hc : 2 ≤ c) : (execOp a.eval o).run Tryd.prog w = .ok (.value (.slice (some ⟨b, off + 5, none⟩) 1 (c - 1))) w := by
  have h := run_op_slice_from (P := Tryd.prog) (w := w) 28 x y ho ⟨b, off, none⟩ 2 c 1 hx hy (by omega) hc 43 5 Tryd.underlying28 (by kernel_rfl)
  rw [if_neg (by omega), Addr.add_mid] at h
  exact h

theorem Sl.info5 : (Tryd.prog.info? 43).map (·.size) = some 5 := by kernel_rfl
theorem Sl.shAt {W : World} {g : Nat} {s : Sl.W} {l : List Shr.S} {Ad : Option Addr} {cd : Nat} {Am : Option Addr} {cA b off n c : Nat} {xs : List Shr.C} (h : Sl.Hold W g s l Ad cd Am cA b off n c xs) (k : Nat) (x : Shr.C) (hx : xs[k]? = some x) : W.rangeAt b (off + k * 5) x.cells := by
  obtain ⟨_, b', off', e, _, hr⟩ := h.r.get k x hx
  injection e with e
  injection e with e1 e2
  subst e1 e2
  exact hr
theorem Sl.bytes3 (w : World) (a b c : UInt8) : RdB (((w.alloc (.cells #[.int .u8 (a.toNat : Int)] 5)).alloc (.cells #[.int .u8 (b.toNat : Int)] 5)).alloc (.cells #[.int .u8 (c.toNat : Int)] 5)) (some ⟨w.heap.size, 0, none⟩) 1 [a] ∧ RdB (((w.alloc (.cells #[.int .u8 (a.toNat : Int)] 5)).alloc (.cells #[.int .u8 (b.toNat : Int)] 5)).alloc (.cells #[.int .u8 (c.toNat : Int)] 5)) (some ⟨w.heap.size + 1, 0, none⟩) 1 [b] ∧ RdB (((w.alloc (.cells #[.int .u8 (a.toNat : Int)] 5)).alloc (.cells #[.int .u8 (b.toNat : Int)] 5)).alloc (.cells #[.int .u8 (c.toNat : Int)] 5)) (some ⟨w.heap.size + 2, 0, none⟩) 1 [c] := by
  refine ⟨((RdB.new w 5 [a]).alloc _).alloc _, (RdB.second w 5 [b] _).alloc _, ?_⟩
  have h := RdB.second (w.alloc (.cells #[.int .u8 (a.toNat : Int)] 5)) 5 [c] (.cells #[.int .u8 (b.toNat : Int)] 5)
  rw [World.size_alloc] at h
  exact h

theorem Sl.run_op_eql_agg {P : Program} {o : Oper} {a : Act} {w : World} (t t2 : TypeId) (x y : Operand) (ho : o.op = .binOp .eql t x y t2) (xs ys : Array Value) (v : Value) (hx : a.eval x = .agg xs) (hy : a.eval y = .agg ys) (hg : P.eqGuardType P.depth t = false) (hr : (binOp .eql t (.agg xs) (.agg ys)).run P w = .ok v w) : (execOp a.eval o).run P w = .ok (.value v) w := by
  unfold execOp
  simp only [ho, hx, hy]
  simp [eqGuard, Sem.run_bind, go_sem, hg, hr, Result.andThen]
theorem Sl.eqlD (xs : List UInt8) (hx : xs.length = 32) (w : World) : (binOp .eql 23 (.agg (xs.map Dg.b8).toArray) (.agg (xs.map Dg.b8).toArray)).run Tryd.prog w = .ok (.bool true) w := by
  rw [run_eql_struct, Sl.eqD xs xs hx hx]
  simp [Result.andThen]
theorem Sl.infoDm (xs : List UInt8) (h : xs.length = 32) : (Tryd.prog.info? 23).map (·.size) = some (xs.map Dg.b8).length := by rw [List.length_map, h]; exact Sl.infoD
section
variable {W : World} {g : Nat} {l : List Shr.S} {Ad : Option Addr} {cd : Nat} {Am : Option Addr} {cA b off c : Nat} {xs : List Shr.C}
theorem Sl.rdA (h : Sl.Hold W g Sl.s1 l Ad cd Am cA b off 2 c xs) : RdB W Ad 2 [5, 6] := by
  have h2 := h.ok.rd
  rw [Sl.s1_d] at h2
  exact h2
theorem Sl.rdB2 (h : Sl.Hold W g Sl.s2 l Ad cd Am cA b off 2 c xs) : RdB W Ad 1 [12] := by
  have h2 := h.ok.rd
  rw [Sl.s2_d] at h2
  exact h2
theorem Sl.cs2 (h : Sl.Hold W g Sl.s2 l Ad cd Am cA b off 2 c xs) : W.cell? ⟨g, 32, none⟩ = some (.slice Ad 1 cd) := by
  have h4 := (Sl.row_at h.ok.cl Ad cd Am cA).1
  rw [Sl.s2_d] at h4
  exact (h.h.cell 32).trans h4
theorem Sl.rdX {A1 A2 : Option Addr} {c1 c2 : Nat} (h : Sl.Hold W g Sl.s1 l Ad cd Am cA b off 2 c [⟨Sl.a1, A1, c1⟩, ⟨Sl.a2, A2, c2⟩]) : RdB W A1 2 [4, 4] := (h.r.ok ⟨Sl.a1, A1, c1⟩ (by simp)).rd
theorem Sl.rdX2 {A1 A2 : Option Addr} {c1 c2 : Nat} (h : Sl.Hold W g Sl.s2 l Ad cd Am cA b off 2 c [⟨Sl.b1, A1, c1⟩, ⟨Sl.b2, A2, c2⟩]) : RdB W A1 1 [10] := (h.r.ok ⟨Sl.b1, A1, c1⟩ (by simp)).rd
theorem Sl.mk0 (h : Sl.Hold W g Sl.s1 l Ad cd Am cA b off 2 c xs) : ∃ bm om, Am = some ⟨bm, om, none⟩ := by
  obtain ⟨bm, om, e, _⟩ := h.ok.mark 1 (by rw [Sl.s1_ms]; decide)
  exact ⟨bm, om, e⟩
theorem Sl.mk1 {bm om : Nat} (h : Sl.Hold W g Sl.s1 l Ad cd (some ⟨bm, om, none⟩) cA b off 2 c xs) : W.rangeAt bm (om + 1 * 32) ((Sl.mark Sl.a2).map Dg.b8) := by
  obtain ⟨bm', om', e, _, hr, _⟩ := h.ok.mark 1 (by rw [Sl.s1_ms]; decide)
  injection e with e
  injection e with e1 e2
  subst e1 e2
  rw [Sl.s1_ms] at hr
  exact hr
theorem Sl.cmAt (h : Sl.Hold W g Sl.s1 l Ad cd Am cA b off 2 c xs) : W.rangeAt g 0 ((Sl.com [1, 2]).map Dg.b8) := by
  intro j v hj
  rw [Nat.zero_add, h.h.cell j]
  unfold Sl.row
  rw [Sl.s1_cm, List.getElem?_append_left (List.getElem?_eq_some_iff.1 hj).1]
  exact hj
theorem Sl.y29 {A1 A2 : Option Addr} {c1 c2 : Nat} (h : Sl.Hold W g Sl.s1 l Ad cd Am cA b off 2 c [⟨Sl.a1, A1, c1⟩, ⟨Sl.a2, A2, c2⟩]) : Calls Tryd.prog 29 #[.agg (⟨Sl.a2, A2, c2⟩ : Shr.C).cells.toArray] W fun e w' => e = .returned (.agg ((Sl.mark Sl.a2).map Dg.b8).toArray) ∧ Below W.heap.size W w' :=
  Sl.mark_ref Sl.a2 A2 c2 W (h.r.ok ⟨Sl.a2, A2, c2⟩ (by simp)).rd (by decide) (by unfold Rc.in64; decide) (by unfold Rc.in64; decide) (by unfold Rc.in64; decide) (by unfold Rc.in64; decide)
theorem Sl.rowAt {s : Sl.W} (h : Sl.Hold W g s l Ad cd Am cA b off 2 c xs) : W.rangeAt g 0 (Sl.row s Ad cd Am cA) := fun j v hj => by rw [Nat.zero_add, h.h.cell j]; exact hj
end

set_option maxRecDepth 100000 in
set_option maxHeartbeats 32000000 in
theorem Sl.sane_any (w : World) (hG : Dg.G w Rc.K0 Rc.I0) : Calls Tryd.prog 10 #[] w fun e w' => e = .returned (.bool true) ∧ Below w.heap.size w w' := by
  have HG := Lib.hid hG
  clear hG
  go_enter Tryd.func10, Tryd.ntmps10
  go_wp2_with fail
  have hb0 := Sl.bytes2 w 1 2 4 4
  obtain ⟨w0, hw0⟩ : ∃ w0, w0 = (w.alloc (.cells #[.int .u8 1, .int .u8 2] 5)).alloc (.cells #[.int .u8 4, .int .u8 4] 5) := ⟨_, rfl⟩
  have HB := Lib.hid (show Below w.heap.size w w0 from by rw [hw0]; exact below_of2 _ _ _)
  have HR0 := Lib.hid (show RdB w0 (some ⟨w.heap.size, 0, none⟩) 2 [1, 2] ∧ RdB w0 (some ⟨w.heap.size + 1, 0, none⟩) 2 [4, 4] from by rw [hw0]; exact hb0)
  rw [← hw0]
  clear hb0 hw0
  ((with_reducible refine (Sl.z1 w0 w.heap.size (w.heap.size + 1) HR0.out.1 HR0.out.2 (HG.out.keep HB.out)).mono ?_); rintro e w1 ⟨Ad, cd, Am, cA, b, off, c, xs, rfl, hok, hr, hv, hnc, hcm, hb1⟩)
  replace HB := Lib.hid (HB.out.trans (hb1.mono HB.out.size))
  clear hb1
  have HH := Lib.hid (fun W' he => Sl.Hold.make (W := w1) hok hr hv hnc hcm (W' := W') he)
  have HI := Lib.hid (show (Tryd.prog.info? 27).map (·.size) = some (Sl.row Sl.s1 Ad cd Am cA).toArray.size from by rw [List.size_toArray, Sl.row_len hok.cl]; exact Sl.infoW)
  have HZ := Lib.hid (show Sl.z36.toArray.size = (Sl.row Sl.s1 Ad cd Am cA).toArray.size from by rw [List.size_toArray, List.size_toArray, Sl.row_len hok.cl]; rfl)
  have H1 := Lib.hid (show (Sl.row Sl.s1 Ad cd Am cA).toArray.all (·.oneCell') = true from all_oneCell_toArray (Sl.row_one _ _ _ _ _))
  clear hok hr hv hnc hcm
  clear HR0
  go_wp2_with (first
      | ((refine wpList_store_row (o := ⟨none, .store 27 (.tmp 1) (.tmp 35), _, _, _, _⟩) rfl 27 (.tmp 1) (.tmp 35) rfl w1.heap.size (Sl.row Sl.s1 Ad cd Am cA).toArray rfl rfl 27 Sl.z36.toArray (World.alloc_heap_new w1 _) HI.out HZ.out H1.out ?_)
         obtain ⟨w2, hw2⟩ : ∃ w2, w2 = (w1.alloc (.cells Sl.z36.toArray 27)).setRow w1.heap.size (Sl.row Sl.s1 Ad cd Am cA).toArray := ⟨_, rfl⟩
         change wpList _ _ _ _ _ ((w1.alloc (.cells Sl.z36.toArray 27)).setRow w1.heap.size (Sl.row Sl.s1 Ad cd Am cA).toArray)
         rw [← hw2]
         have H2 := Lib.hid (HH.out w2 hw2)
         clear hw2))
  clear HH HZ H1
  obtain ⟨gA, hgA⟩ : ∃ gA, gA = w1.heap.size := ⟨_, rfl⟩
  have HS := Lib.hid H2.out.1
  have hb2 := H2.out.2
  clear H2
  rw [← hgA] at HS ⊢
  clear hgA
  replace HB := Lib.hid (HB.out.trans (hb2.mono HB.out.size))
  clear hb2
  ((with_reducible refine (Sl.z3 w2).mono ?_); rintro e w3 ⟨rfl, hb3⟩)
  replace HB := Lib.hid (HB.out.trans (hb3.mono HB.out.size))
  replace HS := Lib.hid (HS.out.keep hb3)
  clear hb3
  have HI0 := Lib.hid (show (Tryd.prog.info? 27).map (·.size) = some Sl.z36.toArray.size from Sl.infoW)
  have HSr := Lib.hid HS.out.row
  go_wp2_with (first
      | ((refine wpList_store_row (o := ⟨none, .store 27 (.tmp 4) (.tmp 40), _, _, _, _⟩) rfl 27 (.tmp 4) (.tmp 40) rfl w3.heap.size Sl.z36.toArray rfl rfl 27 Sl.z36.toArray (World.alloc_heap_new w3 _) HI0.out rfl Sl.z36_one ?_)
         obtain ⟨w4, hw4⟩ : ∃ w4, w4 = (w3.alloc (.cells Sl.z36.toArray 27)).setRow w3.heap.size Sl.z36.toArray := ⟨_, rfl⟩
         change wpList _ _ _ _ _ ((w3.alloc (.cells Sl.z36.toArray 27)).setRow w3.heap.size Sl.z36.toArray)
         rw [← hw4]
         have hb4 : Below w3.heap.size w3 w4 := by rw [hw4]; exact below_setRow ((Below.refl _ w3).alloc (Nat.le_refl _) _) (Nat.le_refl _) _
         clear hw4))
  clear HSr
  replace HB := Lib.hid (HB.out.trans (hb4.mono HB.out.size))
  replace HS := Lib.hid (HS.out.keep hb4)
  clear hb4
  obtain ⟨w5, hw5⟩ : ∃ w5, w5 = (w4.alloc (.cells #[.int .u8 1] 5)).alloc (.cells #[.int .u8 2] 5) := ⟨_, rfl⟩
  have hb5 : Below w4.heap.size w4 w5 := by rw [hw5]; exact below_of2 _ _ _
  rw [← hw5]
  clear hw5
  replace HB := Lib.hid (HB.out.trans (hb5.mono HB.out.size))
  replace HS := Lib.hid (HS.out.keep hb5)
  clear hb5
  ((with_reducible refine (Sl.z4 w5 w4.heap.size (w4.heap.size + 1)).mono ?_); rintro e w6 ⟨rfl, hb6⟩)
  replace HB := Lib.hid (HB.out.trans (hb6.mono HB.out.size))
  replace HS := Lib.hid (HS.out.keep hb6)
  clear hb6
  go_wp2_with (first
      | ((refine wpList_store_row (o := ⟨none, .store 27 (.tmp 7) (.tmp 47), _, _, _, _⟩) rfl 27 (.tmp 7) (.tmp 47) rfl w6.heap.size Sl.z36.toArray rfl rfl 27 Sl.z36.toArray (World.alloc_heap_new w6 _) HI0.out rfl Sl.z36_one ?_)
         obtain ⟨w7, hw7⟩ : ∃ w7, w7 = (w6.alloc (.cells Sl.z36.toArray 27)).setRow w6.heap.size Sl.z36.toArray := ⟨_, rfl⟩
         change wpList _ _ _ _ _ ((w6.alloc (.cells Sl.z36.toArray 27)).setRow w6.heap.size Sl.z36.toArray)
         rw [← hw7]
         have hb7 : Below w6.heap.size w6 w7 := by rw [hw7]; exact below_setRow ((Below.refl _ w6).alloc (Nat.le_refl _) _) (Nat.le_refl _) _
         have HS7 := Lib.hid (HS.out.keep hb7)
         have HSr := Lib.hid HS7.out.row
         clear hw7)
      | (with_reducible refine wpList_load_row rfl 27 (.tmp 1) rfl gA rfl 27 (Sl.row Sl.s1 Ad cd Am cA).toArray (0, 0) _ HSr.out Tryd.underlying27 rfl HI.out ?_))
  clear HS7 HSr
  replace HB := Lib.hid (HB.out.trans (hb7.mono HB.out.size))
  replace HS := Lib.hid (HS.out.keep hb7)
  clear hb7
  have hb8 : Below w7.heap.size w7 (w7.alloc (.cells #[.int .i64 0, .int .i64 0, .int .i64 0, .int .i64 0, .slice none 0 0] 43)) := (Below.refl _ w7).alloc (Nat.le_refl _) _
  have hz8 := Sl.zs_rds w7
  obtain ⟨w8, hw8⟩ : ∃ w8, w8 = w7.alloc (.cells #[.int .i64 0, .int .i64 0, .int .i64 0, .int .i64 0, .slice none 0 0] 43) := ⟨_, rfl⟩
  rw [← hw8] at hb8 hz8 ⊢
  clear hw8
  replace HB := Lib.hid (HB.out.trans (hb8.mono HB.out.size))
  replace HS := Lib.hid (HS.out.keep hb8)
  clear hb8
  ((with_reducible refine (Sl.y5 HS.out (HG.out.keep HB.out) _ hz8).mono ?_); rintro e w9 ⟨A9, c9, rfl, hr9, hb9⟩)
  clear hz8
  replace HB := Lib.hid (HB.out.trans (hb9.mono HB.out.size))
  replace HS := Lib.hid (HS.out.keep hb9)
  clear hb9
  have HRA := Lib.hid hr9
  clear hr9
  have HSr := Lib.hid HS.out.row
  go_wp2_with (with_reducible refine wpList_load_row rfl 27 (.tmp 1) rfl gA rfl 27 (Sl.row Sl.s1 Ad cd Am cA).toArray (0, 0) _ HSr.out Tryd.underlying27 rfl HI.out ?_)
  clear HSr
  ((with_reducible refine (Sl.y6 HS.out (HG.out.keep HB.out)).mono ?_); rintro e w10 ⟨A10, c10, rfl, hb10⟩)
  replace HB := Lib.hid (HB.out.trans (hb10.mono HB.out.size))
  replace HS := Lib.hid (HS.out.keep hb10)
  replace HRA := Lib.hid (Sl.rdI_keep HRA.out hb10)
  clear hb10
  obtain ⟨x32, x35⟩ := Sl.cs1 HS.out
  obtain ⟨A1, c1, A2, c2, rfl⟩ := HS.out.two
  go_wp2_with fail
  refine Sl.wp_normal ?_
  have s0 : Below w10.heap.size w10 w10.drew := (Below.refl _ w10).drew
  refine wp_region_named (fun ops hops => ?_)
  refine wp_region_T (by kernel_rfl) [] (fun w' => Below w10.heap.size w10 w') ?_
  rw [show ops.size = 9 from by rw [hops]; rfl]
  have HNS : Region.noSelect ops = true := by rw [hops]; kernel_rfl
  obtain ⟨o0, h0, d0, p0, g0⟩ := op_at5 hops 0 rfl (d := some 92) (p := Op.load 27 (Operand.tmp 1)) (g := none) rfl rfl rfl
  obtain ⟨o1, h1, d1, p1, g1⟩ := op_at5 hops 1 rfl (d := some 93) (p := Op.move (Operand.tmp 2)) (g := none) rfl rfl rfl
  obtain ⟨o2, h2, d2, p2, g2⟩ := op_at5 hops 2 rfl (d := some 94) (p := Op.slice 28 (Operand.tmp 93) (some (Operand.const (Value.int IntKind.i64 1))) none none) (g := none) rfl rfl rfl
  obtain ⟨o3, h3, d3, p3, g3⟩ := op_at5 hops 3 rfl (d := some 95) (p := Op.call { callee := Callee.value (Operand.func 13), args := #[Operand.tmp 92, Operand.tmp 94], argTypes := #[27, 28] }) (g := none) rfl rfl rfl
  obtain ⟨o4, h4, d4, p4, g4⟩ := op_at5 hops 4 rfl (d := some 91) (p := Op.move (Operand.tmp 95)) (g := none) rfl rfl rfl
  obtain ⟨o5, h5, d5, p5, g5⟩ := op_at5 hops 5 rfl (d := some 96) (p := Op.extract (Operand.tmp 91) 0) (g := none) rfl rfl rfl
  obtain ⟨o6, h6, d6, p6, g6⟩ := op_at5 hops 6 rfl (d := some 97) (p := Op.extract (Operand.tmp 91) 1) (g := none) rfl rfl rfl
  obtain ⟨o7, h7, d7, p7, g7⟩ := op_at5 hops 7 rfl (d := some 14) (p := Op.assign (Operand.tmp 96)) (g := none) rfl rfl rfl
  obtain ⟨o8, h8, d8, p8, g8⟩ := op_at5 hops 8 rfl (d := some 15) (p := Op.assign (Operand.tmp 97)) (g := none) rfl rfl rfl
  refine wpAnyT_take (i := 0) (v := .agg (Sl.row Sl.s1 Ad cd Am cA).toArray) [0, 3, 4, 5, 6, 7, 8] h0 HNS (by rw [hops]; kernel_rfl) (by rw [hops]; kernel_rfl) (by rw [hops]; kernel_rfl) (fun _ _ _ => NormalOnly.hQ _ _ _) (Or.inl ⟨(wanted_none g0), fun w' h => run_op_load_row 27 _ p0 gA (by rfl) 27 _ (0, 0) _ (HS.out.keep h).row Tryd.underlying27 rfl (HS.out.info)⟩) s0 ?_
  rw [d0]
  simp only [Act.put, List.setIfInBounds_toArray, List.set_cons_zero, List.set_cons_succ]
  refine wpAnyT_take (i := 1) (v := .slice (some ⟨b, off, none⟩) 2 c) [1, 2, 3, 4, 5, 6, 7, 8] h1 HNS (by rw [hops]; kernel_rfl) (by rw [hops]; kernel_rfl) (by rw [hops]; kernel_rfl) (fun _ _ _ => NormalOnly.hQ _ _ _) (Or.inl ⟨(wanted_none g1), fun w' _ => by unfold execOp; rw [p1]; first | rfl | kernel_rfl⟩) s0 ?_
  rw [d1]
  simp only [Act.put, List.setIfInBounds_toArray, List.set_cons_zero, List.set_cons_succ]
  refine wpAnyT_take (i := 2) (v := .slice (some ⟨b, off + 5, none⟩) 1 (c - 1)) [2, 3, 4, 5, 6, 7, 8] h2 HNS (by rw [hops]; kernel_rfl) (by rw [hops]; kernel_rfl) (by rw [hops]; kernel_rfl) (fun _ _ _ => NormalOnly.hQ _ _ _) (Or.inl ⟨(wanted_none g2), fun w' h => Sl.cut1 _ _ p2 b off c (by rfl) (by rfl) HS.out.nc⟩) s0 ?_
  rw [d2]
  simp only [Act.put, List.setIfInBounds_toArray, List.set_cons_zero, List.set_cons_succ]
  have HE13 := Lib.hid (enters_of Tryd.func13 (by kernel_rfl) rfl)
  refine wpAnyT_one (by rw [hops]; kernel_rfl) h3 (wanted_none g3) (fun K hK => ?_)
  refine wp_call2 13 _ _ _ (.agg (Sl.row Sl.s1 Ad cd Am cA).toArray) (.slice (some ⟨b, off + 5, none⟩) 1 (c - 1)) p3 HE13.out (by rfl) (by rfl) ?_
  (refine (Sl.y7 (HS.out.keep s0) (HG.out.keep (HB.out.trans (s0.mono HB.out.size)))).mono ?_; rintro e w12 ⟨A12, c12, rfl, hr12, hb12⟩)
  have s1 : Below w10.heap.size w10 w12 := s0.trans hb12
  clear hb12
  refine ⟨_, rfl, ?_⟩
  rw [d3]
  simp only [Act.put, List.setIfInBounds_toArray, List.set_cons_zero, List.set_cons_succ]
  refine hK.out _ _ (fun _ => s1) ?_
  clear hK K
  refine wpAnyT_take (i := 4) (v := .tuple #[.slice A12 2 c12, .int .i64 0]) [4, 5, 6, 7, 8] h4 HNS (by rw [hops]; kernel_rfl) (by rw [hops]; kernel_rfl) (by rw [hops]; kernel_rfl) (fun _ _ _ => NormalOnly.hQ _ _ _) (Or.inl ⟨(wanted_none g4), fun w' _ => by unfold execOp; rw [p4]; first | rfl | kernel_rfl⟩) s1 ?_
  rw [d4]
  simp only [Act.put, List.setIfInBounds_toArray, List.set_cons_zero, List.set_cons_succ]
  refine wpAnyT_take (i := 5) (v := .slice A12 2 c12) [5, 7, 8] h5 HNS (by rw [hops]; kernel_rfl) (by rw [hops]; kernel_rfl) (by rw [hops]; kernel_rfl) (fun _ _ _ => NormalOnly.hQ _ _ _) (Or.inl ⟨(wanted_none g5), fun w' _ => by unfold execOp; rw [p5]; first | rfl | kernel_rfl⟩) s1 ?_
  rw [d5]
  simp only [Act.put, List.setIfInBounds_toArray, List.set_cons_zero, List.set_cons_succ]
  refine wpAnyT_take (i := 6) (v := .int .i64 0) [6, 8] h6 HNS (by rw [hops]; kernel_rfl) (by rw [hops]; kernel_rfl) (by rw [hops]; kernel_rfl) (fun _ _ _ => NormalOnly.hQ _ _ _) (Or.inl ⟨(wanted_none g6), fun w' _ => by unfold execOp; rw [p6]; first | rfl | kernel_rfl⟩) s1 ?_
  rw [d6]
  simp only [Act.put, List.setIfInBounds_toArray, List.set_cons_zero, List.set_cons_succ]
  refine wpAnyT_take (i := 7) (v := .slice A12 2 c12) [7, 8] h7 HNS (by rw [hops]; kernel_rfl) (by rw [hops]; kernel_rfl) (by rw [hops]; kernel_rfl) (fun _ _ _ => NormalOnly.hQ _ _ _) (Or.inl ⟨(wanted_none g7), fun w' _ => by unfold execOp; rw [p7]; first | rfl | kernel_rfl⟩) s1 ?_
  rw [d7]
  simp only [Act.put, List.setIfInBounds_toArray, List.set_cons_zero, List.set_cons_succ]
  refine wpAnyT_take (i := 8) (v := .int .i64 0) [8] h8 HNS (by rw [hops]; kernel_rfl) (by rw [hops]; kernel_rfl) (by rw [hops]; kernel_rfl) (fun _ _ _ => NormalOnly.hQ _ _ _) (Or.inl ⟨(wanted_none g8), fun w' _ => by unfold execOp; rw [p8]; first | rfl | kernel_rfl⟩) s1 ?_
  rw [d8]
  simp only [Act.put, List.setIfInBounds_toArray, List.set_cons_zero, List.set_cons_succ]
  refine wpAnyT_done (by rw [hops]; kernel_rfl) ⟨rfl, ?_⟩ _
  clear HNS hops h0 d0 p0 g0 h1 d1 p1 g1 h2 d2 p2 g2 h3 d3 p3 g3 h4 d4 p4 g4 h5 d5 p5 g5 h6 d6 p6 g6 h7 d7 p7 g7 h8 d8 p8 g8
  clear HE13 s0
  replace HB := Lib.hid (HB.out.trans (s1.mono HB.out.size))
  replace HS := Lib.hid (HS.out.keep s1)
  replace HRA := Lib.hid (Sl.rdI_keep HRA.out s1)
  clear s1
  have HRO := Lib.hid hr12
  clear hr12
  go_wp2_with fail
  refine Sl.wp_normal ?_
  have s0 : Below w12.heap.size w12 w12.drew := (Below.refl _ w12).drew
  refine wp_region_named (fun ops hops => ?_)
  refine wp_region_T (by kernel_rfl) [] (fun w' => Below w12.heap.size w12 w') ?_
  rw [show ops.size = 14 from by rw [hops]; rfl]
  have HNS : Region.noSelect ops = true := by rw [hops]; kernel_rfl
  obtain ⟨o0, h0, d0, p0, g0⟩ := op_at5 hops 0 rfl (d := some 99) (p := Op.load 27 (Operand.tmp 1)) (g := none) rfl rfl rfl
  obtain ⟨o1, h1, d1, p1, g1⟩ := op_at5 hops 1 rfl (d := some 100) (p := Op.move (Operand.tmp 2)) (g := none) rfl rfl rfl
  obtain ⟨o2, h2, d2, p2, g2⟩ := op_at5 hops 2 rfl (d := some 101) (p := Op.indexAddr 28 (Operand.tmp 100) (Operand.const (Value.int IntKind.i64 1))) (g := none) rfl rfl rfl
  obtain ⟨o3, h3, d3, p3, g3⟩ := op_at5 hops 3 rfl (d := some 102) (p := Op.load 43 (Operand.tmp 101)) (g := none) rfl rfl rfl
  obtain ⟨o4, h4, d4, p4, g4⟩ := op_at5 hops 4 rfl (d := some 103) (p := Op.move (Operand.tmp 2)) (g := none) rfl rfl rfl
  obtain ⟨o5, h5, d5, p5, g5⟩ := op_at5 hops 5 rfl (d := some 104) (p := Op.indexAddr 28 (Operand.tmp 103) (Operand.const (Value.int IntKind.i64 0))) (g := none) rfl rfl rfl
  obtain ⟨o6, h6, d6, p6, g6⟩ := op_at5 hops 6 rfl (d := some 105) (p := Op.load 43 (Operand.tmp 104)) (g := none) rfl rfl rfl
  obtain ⟨o7, h7, d7, p7, g7⟩ := op_at5 hops 7 rfl (d := some 106) (p := Op.buildSlice 28 2 #[(0, Operand.tmp 102), (1, Operand.tmp 105)]) (g := none) rfl rfl rfl
  obtain ⟨o8, h8, d8, p8, g8⟩ := op_at5 hops 8 rfl (d := some 107) (p := Op.call { callee := Callee.value (Operand.func 14), args := #[Operand.tmp 99, Operand.tmp 106], argTypes := #[27, 28] }) (g := none) rfl rfl rfl
  obtain ⟨o9, h9, d9, p9, g9⟩ := op_at5 hops 9 rfl (d := some 98) (p := Op.move (Operand.tmp 107)) (g := none) rfl rfl rfl
  obtain ⟨o10, h10, d10, p10, g10⟩ := op_at5 hops 10 rfl (d := some 108) (p := Op.extract (Operand.tmp 98) 0) (g := none) rfl rfl rfl
  obtain ⟨o11, h11, d11, p11, g11⟩ := op_at5 hops 11 rfl (d := some 109) (p := Op.extract (Operand.tmp 98) 1) (g := none) rfl rfl rfl
  obtain ⟨o12, h12, d12, p12, g12⟩ := op_at5 hops 12 rfl (d := some 16) (p := Op.assign (Operand.tmp 108)) (g := none) rfl rfl rfl
  obtain ⟨o13, h13, d13, p13, g13⟩ := op_at5 hops 13 rfl (d := some 17) (p := Op.assign (Operand.tmp 109)) (g := none) rfl rfl rfl
  refine wpAnyT_take (i := 0) (v := .agg (Sl.row Sl.s1 Ad cd Am cA).toArray) [0, 8, 9, 10, 11, 12, 13] h0 HNS (by rw [hops]; kernel_rfl) (by rw [hops]; kernel_rfl) (by rw [hops]; kernel_rfl) (fun _ _ _ => NormalOnly.hQ _ _ _) (Or.inl ⟨(wanted_none g0), fun w' h => run_op_load_row 27 _ p0 gA (by rfl) 27 _ (0, 0) _ (HS.out.keep h).row Tryd.underlying27 rfl (HS.out.info)⟩) s0 ?_
  rw [d0]
  simp only [Act.put, List.setIfInBounds_toArray, List.set_cons_zero, List.set_cons_succ]
  refine wpAnyT_take (i := 1) (v := .slice (some ⟨b, off, none⟩) 2 c) [1, 2, 3, 7, 8, 9, 10, 11, 12, 13] h1 HNS (by rw [hops]; kernel_rfl) (by rw [hops]; kernel_rfl) (by rw [hops]; kernel_rfl) (fun _ _ _ => NormalOnly.hQ _ _ _) (Or.inl ⟨(wanted_none g1), fun w' _ => by unfold execOp; rw [p1]; first | rfl | kernel_rfl⟩) s0 ?_
  rw [d1]
  simp only [Act.put, List.setIfInBounds_toArray, List.set_cons_zero, List.set_cons_succ]
  refine wpAnyT_take (i := 2) (v := .pointer (some ⟨b, off + 1 * 5, none⟩)) [2, 3, 7, 8, 9, 10, 11, 12, 13] h2 HNS (by rw [hops]; kernel_rfl) (by rw [hops]; kernel_rfl) (by rw [hops]; kernel_rfl) (fun _ _ _ => NormalOnly.hQ _ _ _) (Or.inl ⟨(wanted_none g2), fun w' h => run_op_index_mid 28 _ _ p2 b off 2 c 1 (by rfl) (by rfl) (by decide) 43 5 Tryd.underlying28 Sl.info5⟩) s0 ?_
  rw [d2]
  simp only [Act.put, List.setIfInBounds_toArray, List.set_cons_zero, List.set_cons_succ]
  refine wpAnyT_take (i := 3) (v := .agg (⟨Sl.a2, A2, c2⟩ : Shr.C).cells.toArray) [3, 7, 8, 9, 10, 11, 12, 13] h3 HNS (by rw [hops]; kernel_rfl) (by rw [hops]; kernel_rfl) (by rw [hops]; kernel_rfl) (fun _ _ _ => NormalOnly.hQ _ _ _) (Or.inl ⟨(wanted_none g3), fun w' h => run_op_load_mid 43 _ p3 b (off + 1 * 5) (by rfl) (⟨Sl.a2, A2, c2⟩ : Shr.C).cells _ (Sl.shAt (HS.out.keep h) 1 (⟨Sl.a2, A2, c2⟩ : Shr.C) rfl) Tryd.underlying43 rfl Sl.info5⟩) s0 ?_
  rw [d3]
  simp only [Act.put, List.setIfInBounds_toArray, List.set_cons_zero, List.set_cons_succ]
  refine wpAnyT_take (i := 4) (v := .slice (some ⟨b, off, none⟩) 2 c) [4, 5, 6, 7, 8, 9, 10, 11, 12, 13] h4 HNS (by rw [hops]; kernel_rfl) (by rw [hops]; kernel_rfl) (by rw [hops]; kernel_rfl) (fun _ _ _ => NormalOnly.hQ _ _ _) (Or.inl ⟨(wanted_none g4), fun w' _ => by unfold execOp; rw [p4]; first | rfl | kernel_rfl⟩) s0 ?_
  rw [d4]
  simp only [Act.put, List.setIfInBounds_toArray, List.set_cons_zero, List.set_cons_succ]
  refine wpAnyT_take (i := 5) (v := .pointer (some ⟨b, off + 0 * 5, none⟩)) [5, 6, 7, 8, 9, 10, 11, 12, 13] h5 HNS (by rw [hops]; kernel_rfl) (by rw [hops]; kernel_rfl) (by rw [hops]; kernel_rfl) (fun _ _ _ => NormalOnly.hQ _ _ _) (Or.inl ⟨(wanted_none g5), fun w' h => run_op_index_mid 28 _ _ p5 b off 2 c 0 (by rfl) (by rfl) (by decide) 43 5 Tryd.underlying28 Sl.info5⟩) s0 ?_
  rw [d5]
  simp only [Act.put, List.setIfInBounds_toArray, List.set_cons_zero, List.set_cons_succ]
  refine wpAnyT_take (i := 6) (v := .agg (⟨Sl.a1, A1, c1⟩ : Shr.C).cells.toArray) [6, 7, 8, 9, 10, 11, 12, 13] h6 HNS (by rw [hops]; kernel_rfl) (by rw [hops]; kernel_rfl) (by rw [hops]; kernel_rfl) (fun _ _ _ => NormalOnly.hQ _ _ _) (Or.inl ⟨(wanted_none g6), fun w' h => run_op_load_mid 43 _ p6 b (off + 0 * 5) (by rfl) (⟨Sl.a1, A1, c1⟩ : Shr.C).cells _ (Sl.shAt (HS.out.keep h) 0 (⟨Sl.a1, A1, c1⟩ : Shr.C) rfl) Tryd.underlying43 rfl Sl.info5⟩) s0 ?_
  rw [d6]
  simp only [Act.put, List.setIfInBounds_toArray, List.set_cons_zero, List.set_cons_succ]
  have HE14 := Lib.hid (enters_of Tryd.func14 (by kernel_rfl) rfl)
  refine wpAnyT_one (by rw [hops]; kernel_rfl) h7 (wanted_none g7) (fun K hK => ?_)
  refine wp_runG (run_op_buildSliceR 28 2 _ p7 [(0, .agg (⟨Sl.a2, A2, c2⟩ : Shr.C).cells.toArray), (1, .agg (⟨Sl.a1, A1, c1⟩ : Shr.C).cells.toArray)] (by rfl) (.slice (some ⟨w12.drew.heap.size, 0, none⟩) 2 2) (w12.drew.alloc (.cells ((⟨Sl.a2, A2, c2⟩ : Shr.C).cells ++ (⟨Sl.a1, A1, c1⟩ : Shr.C).cells).toArray 43)) (by kernel_rfl)) ?_
  have s1 : Below w12.heap.size w12 (w12.drew.alloc (.cells ((⟨Sl.a2, A2, c2⟩ : Shr.C).cells ++ (⟨Sl.a1, A1, c1⟩ : Shr.C).cells).toArray 43)) := s0.alloc s0.size _
  have hn : Has (w12.drew.alloc (.cells ((⟨Sl.a2, A2, c2⟩ : Shr.C).cells ++ (⟨Sl.a1, A1, c1⟩ : Shr.C).cells).toArray 43)) w12.drew.heap.size 43 ((⟨Sl.a2, A2, c2⟩ : Shr.C).cells ++ (⟨Sl.a1, A1, c1⟩ : Shr.C).cells) := Has.new _ _ _
  rw [d7]
  simp only [Act.put, List.setIfInBounds_toArray, List.set_cons_zero, List.set_cons_succ]
  refine hK.out _ _ (fun _ => s1) ?_
  clear hK K
  refine wpAnyT_one (by rw [hops]; kernel_rfl) h8 (wanted_none g8) (fun K hK => ?_)
  refine wp_call2 14 _ _ _ (.agg (Sl.row Sl.s1 Ad cd Am cA).toArray) (.slice (some ⟨w12.drew.heap.size, 0, none⟩) 2 2) p8 HE14.out (by rfl) (by rfl) ?_
  (refine (Sl.y8 (HS.out.keep s1) (HG.out.keep (HB.out.trans (s1.mono HB.out.size))) _ A1 A2 c1 c2 rfl hn).mono ?_; rintro e w14 ⟨A14, c14, rfl, hb14⟩)
  have s2 : Below w12.heap.size w12 w14 := s1.trans (hb14.mono s1.size)
  clear hb14 hn
  refine ⟨_, rfl, ?_⟩
  rw [d8]
  simp only [Act.put, List.setIfInBounds_toArray, List.set_cons_zero, List.set_cons_succ]
  refine hK.out _ _ (fun _ => s2) ?_
  clear hK K
  refine wpAnyT_take (i := 9) (v := .tuple #[.slice A14 0 c14, .int .i64 0]) [9, 10, 11, 12, 13] h9 HNS (by rw [hops]; kernel_rfl) (by rw [hops]; kernel_rfl) (by rw [hops]; kernel_rfl) (fun _ _ _ => NormalOnly.hQ _ _ _) (Or.inl ⟨(wanted_none g9), fun w' _ => by unfold execOp; rw [p9]; first | rfl | kernel_rfl⟩) s2 ?_
  rw [d9]
  simp only [Act.put, List.setIfInBounds_toArray, List.set_cons_zero, List.set_cons_succ]
  refine wpAnyT_take (i := 10) (v := .slice A14 0 c14) [10, 12, 13] h10 HNS (by rw [hops]; kernel_rfl) (by rw [hops]; kernel_rfl) (by rw [hops]; kernel_rfl) (fun _ _ _ => NormalOnly.hQ _ _ _) (Or.inl ⟨(wanted_none g10), fun w' _ => by unfold execOp; rw [p10]; first | rfl | kernel_rfl⟩) s2 ?_
  rw [d10]
  simp only [Act.put, List.setIfInBounds_toArray, List.set_cons_zero, List.set_cons_succ]
  refine wpAnyT_take (i := 11) (v := .int .i64 0) [11, 13] h11 HNS (by rw [hops]; kernel_rfl) (by rw [hops]; kernel_rfl) (by rw [hops]; kernel_rfl) (fun _ _ _ => NormalOnly.hQ _ _ _) (Or.inl ⟨(wanted_none g11), fun w' _ => by unfold execOp; rw [p11]; first | rfl | kernel_rfl⟩) s2 ?_
  rw [d11]
  simp only [Act.put, List.setIfInBounds_toArray, List.set_cons_zero, List.set_cons_succ]
  refine wpAnyT_take (i := 12) (v := .slice A14 0 c14) [12, 13] h12 HNS (by rw [hops]; kernel_rfl) (by rw [hops]; kernel_rfl) (by rw [hops]; kernel_rfl) (fun _ _ _ => NormalOnly.hQ _ _ _) (Or.inl ⟨(wanted_none g12), fun w' _ => by unfold execOp; rw [p12]; first | rfl | kernel_rfl⟩) s2 ?_
  rw [d12]
  simp only [Act.put, List.setIfInBounds_toArray, List.set_cons_zero, List.set_cons_succ]
  refine wpAnyT_take (i := 13) (v := .int .i64 0) [13] h13 HNS (by rw [hops]; kernel_rfl) (by rw [hops]; kernel_rfl) (by rw [hops]; kernel_rfl) (fun _ _ _ => NormalOnly.hQ _ _ _) (Or.inl ⟨(wanted_none g13), fun w' _ => by unfold execOp; rw [p13]; first | rfl | kernel_rfl⟩) s2 ?_
  rw [d13]
  simp only [Act.put, List.setIfInBounds_toArray, List.set_cons_zero, List.set_cons_succ]
  refine wpAnyT_done (by rw [hops]; kernel_rfl) ⟨rfl, ?_⟩ _
  clear HNS hops h0 d0 p0 g0 h1 d1 p1 g1 h2 d2 p2 g2 h3 d3 p3 g3 h4 d4 p4 g4 h5 d5 p5 g5 h6 d6 p6 g6 h7 d7 p7 g7 h8 d8 p8 g8 h9 d9 p9 g9 h10 d10 p10 g10 h11 d11 p11 g11 h12 d12 p12 g12 h13 d13 p13 g13
  clear HE14 s0 s1
  replace HB := Lib.hid (HB.out.trans (s2.mono HB.out.size))
  replace HS := Lib.hid (HS.out.keep s2)
  replace HRA := Lib.hid (Sl.rdI_keep HRA.out s2)
  replace HRO := Lib.hid (HRO.out.keep s2)
  clear s2
  go_wp2_with fail
  refine Sl.wp_normal ?_
  have s0 : Below w14.heap.size w14 w14.drew := (Below.refl _ w14).drew
  refine wp_region_named (fun ops hops => ?_)
  refine wp_region_T (by kernel_rfl) [] (fun w' => Below w14.heap.size w14 w') ?_
  rw [show ops.size = 12 from by rw [hops]; rfl]
  have HNS : Region.noSelect ops = true := by rw [hops]; kernel_rfl
  obtain ⟨o0, h0, d0, p0, g0⟩ := op_at5 hops 0 rfl (d := some 111) (p := Op.load 27 (Operand.tmp 1)) (g := none) rfl rfl rfl
  obtain ⟨o1, h1, d1, p1, g1⟩ := op_at5 hops 1 rfl (d := some 112) (p := Op.move (Operand.tmp 2)) (g := none) rfl rfl rfl
  obtain ⟨o2, h2, d2, p2, g2⟩ := op_at5 hops 2 rfl (d := some 113) (p := Op.slice 28 (Operand.tmp 112) none (some (Operand.const (Value.int IntKind.i64 1))) none) (g := none) rfl rfl rfl
  obtain ⟨o3, h3, d3, p3, g3⟩ := op_at5 hops 3 rfl (d := some 114) (p := Op.buildSlice 24 2 #[(0, Operand.const (Value.int IntKind.u8 7)), (1, Operand.const (Value.int IntKind.u8 7))]) (g := none) rfl rfl rfl
  obtain ⟨o4, h4, d4, p4, g4⟩ := op_at5 hops 4 rfl (d := some 115) (p := Op.call { callee := Callee.value (Operand.func 26), args := #[Operand.tmp 111, Operand.tmp 113, Operand.tmp 114], argTypes := #[27, 28, 24] }) (g := none) rfl rfl rfl
  obtain ⟨o5, h5, d5, p5, g5⟩ := op_at5 hops 5 rfl (d := some 110) (p := Op.move (Operand.tmp 115)) (g := none) rfl rfl rfl
  obtain ⟨o6, h6, d6, p6, g6⟩ := op_at5 hops 6 rfl (d := some 116) (p := Op.extract (Operand.tmp 110) 0) (g := none) rfl rfl rfl
  obtain ⟨o7, h7, d7, p7, g7⟩ := op_at5 hops 7 rfl (d := some 117) (p := Op.extract (Operand.tmp 110) 1) (g := none) rfl rfl rfl
  obtain ⟨o8, h8, d8, p8, g8⟩ := op_at5 hops 8 rfl (d := some 118) (p := Op.extract (Operand.tmp 110) 2) (g := none) rfl rfl rfl
  obtain ⟨o9, h9, d9, p9, g9⟩ := op_at5 hops 9 rfl (d := some 18) (p := Op.assign (Operand.tmp 116)) (g := none) rfl rfl rfl
  obtain ⟨o10, h10, d10, p10, g10⟩ := op_at5 hops 10 rfl (d := some 19) (p := Op.assign (Operand.tmp 117)) (g := none) rfl rfl rfl
  obtain ⟨o11, h11, d11, p11, g11⟩ := op_at5 hops 11 rfl (d := some 20) (p := Op.assign (Operand.tmp 118)) (g := none) rfl rfl rfl
  refine wpAnyT_take (i := 0) (v := .agg (Sl.row Sl.s1 Ad cd Am cA).toArray) [0, 4, 5, 6, 7, 8, 9, 10, 11] h0 HNS (by rw [hops]; kernel_rfl) (by rw [hops]; kernel_rfl) (by rw [hops]; kernel_rfl) (fun _ _ _ => NormalOnly.hQ _ _ _) (Or.inl ⟨(wanted_none g0), fun w' h => run_op_load_row 27 _ p0 gA (by rfl) 27 _ (0, 0) _ (HS.out.keep h).row Tryd.underlying27 rfl (HS.out.info)⟩) s0 ?_
  rw [d0]
  simp only [Act.put, List.setIfInBounds_toArray, List.set_cons_zero, List.set_cons_succ]
  refine wpAnyT_take (i := 1) (v := .slice (some ⟨b, off, none⟩) 2 c) [1, 2, 4, 5, 6, 7, 8, 9, 10, 11] h1 HNS (by rw [hops]; kernel_rfl) (by rw [hops]; kernel_rfl) (by rw [hops]; kernel_rfl) (fun _ _ _ => NormalOnly.hQ _ _ _) (Or.inl ⟨(wanted_none g1), fun w' _ => by unfold execOp; rw [p1]; first | rfl | kernel_rfl⟩) s0 ?_
  rw [d1]
  simp only [Act.put, List.setIfInBounds_toArray, List.set_cons_zero, List.set_cons_succ]
  refine wpAnyT_take (i := 2) (v := .slice (some ⟨b, off, none⟩) 1 c) [2, 4, 5, 6, 7, 8, 9, 10, 11] h2 HNS (by rw [hops]; kernel_rfl) (by rw [hops]; kernel_rfl) (by rw [hops]; kernel_rfl) (fun _ _ _ => NormalOnly.hQ _ _ _) (Or.inl ⟨(wanted_none g2), fun w' h => run_op_slice_to 28 _ _ p2 ⟨b, off, none⟩ 2 c 1 (by rfl) (by rfl) (by have := HS.out.nc; omega) 43 5 Tryd.underlying28 Sl.info5⟩) s0 ?_
  rw [d2]
  simp only [Act.put, List.setIfInBounds_toArray, List.set_cons_zero, List.set_cons_succ]
  have HE26 := Lib.hid (enters_of Tryd.func26 (by kernel_rfl) rfl)
  refine wpAnyT_one (by rw [hops]; kernel_rfl) h3 (wanted_none g3) (fun K hK => ?_)
  refine wp_runG (w' := w14.drew.alloc (.cells #[.int .u8 7, .int .u8 7] 5)) (v := .slice (some ⟨w14.drew.heap.size, 0, none⟩) 2 2) (by unfold execOp; rw [p3]; first | rfl | kernel_rfl) ?_
  have s1 : Below w14.heap.size w14 (w14.drew.alloc (.cells #[.int .u8 7, .int .u8 7] 5)) := s0.alloc s0.size _
  have hn : RdB (w14.drew.alloc (.cells #[.int .u8 7, .int .u8 7] 5)) (some ⟨w14.drew.heap.size, 0, none⟩) 2 [7, 7] := RdB.new w14.drew 5 [7, 7]
  rw [d3]
  simp only [Act.put, List.setIfInBounds_toArray, List.set_cons_zero, List.set_cons_succ]
  refine hK.out _ _ (fun _ => s1) ?_
  clear hK K
  refine wpAnyT_one (by rw [hops]; kernel_rfl) h4 (wanted_none g4) (fun K hK => ?_)
  refine wp_call3 26 _ _ _ _ (.agg (Sl.row Sl.s1 Ad cd Am cA).toArray) (.slice (some ⟨b, off, none⟩) 1 c) (.slice (some ⟨w14.drew.heap.size, 0, none⟩) 2 2) p4 HE26.out (by rfl) (by rfl) (by rfl) ?_
  (refine (Sl.y9 (HS.out.keep s1) (HG.out.keep (HB.out.trans (s1.mono HB.out.size))) _ hn).mono ?_; rintro e w16 ⟨A16, n16, c16, A17, n17, c17, rfl, hb0⟩)
  have s2 : Below w14.heap.size w14 w16 := s1.trans (hb0.mono s1.size)
  clear hb0 hn
  refine ⟨_, rfl, ?_⟩
  rw [d4]
  simp only [Act.put, List.setIfInBounds_toArray, List.set_cons_zero, List.set_cons_succ]
  refine hK.out _ _ (fun _ => s2) ?_
  clear hK K
  refine wpAnyT_take (i := 5) (v := .tuple #[.slice A16 n16 c16, .slice A17 n17 c17, .int .i64 60]) [5, 6, 7, 8, 9, 10, 11] h5 HNS (by rw [hops]; kernel_rfl) (by rw [hops]; kernel_rfl) (by rw [hops]; kernel_rfl) (fun _ _ _ => NormalOnly.hQ _ _ _) (Or.inl ⟨(wanted_none g5), fun w' _ => by unfold execOp; rw [p5]; first | rfl | kernel_rfl⟩) s2 ?_
  rw [d5]
  simp only [Act.put, List.setIfInBounds_toArray, List.set_cons_zero, List.set_cons_succ]
  refine wpAnyT_take (i := 6) (v := .slice A16 n16 c16) [6, 9, 10, 11] h6 HNS (by rw [hops]; kernel_rfl) (by rw [hops]; kernel_rfl) (by rw [hops]; kernel_rfl) (fun _ _ _ => NormalOnly.hQ _ _ _) (Or.inl ⟨(wanted_none g6), fun w' _ => by unfold execOp; rw [p6]; first | rfl | kernel_rfl⟩) s2 ?_
  rw [d6]
  simp only [Act.put, List.setIfInBounds_toArray, List.set_cons_zero, List.set_cons_succ]
  refine wpAnyT_take (i := 7) (v := .slice A17 n17 c17) [7, 10, 11] h7 HNS (by rw [hops]; kernel_rfl) (by rw [hops]; kernel_rfl) (by rw [hops]; kernel_rfl) (fun _ _ _ => NormalOnly.hQ _ _ _) (Or.inl ⟨(wanted_none g7), fun w' _ => by unfold execOp; rw [p7]; first | rfl | kernel_rfl⟩) s2 ?_
  rw [d7]
  simp only [Act.put, List.setIfInBounds_toArray, List.set_cons_zero, List.set_cons_succ]
  refine wpAnyT_take (i := 8) (v := .int .i64 60) [8, 11] h8 HNS (by rw [hops]; kernel_rfl) (by rw [hops]; kernel_rfl) (by rw [hops]; kernel_rfl) (fun _ _ _ => NormalOnly.hQ _ _ _) (Or.inl ⟨(wanted_none g8), fun w' _ => by unfold execOp; rw [p8]; first | rfl | kernel_rfl⟩) s2 ?_
  rw [d8]
  simp only [Act.put, List.setIfInBounds_toArray, List.set_cons_zero, List.set_cons_succ]
  refine wpAnyT_take (i := 9) (v := .slice A16 n16 c16) [9, 10, 11] h9 HNS (by rw [hops]; kernel_rfl) (by rw [hops]; kernel_rfl) (by rw [hops]; kernel_rfl) (fun _ _ _ => NormalOnly.hQ _ _ _) (Or.inl ⟨(wanted_none g9), fun w' _ => by unfold execOp; rw [p9]; first | rfl | kernel_rfl⟩) s2 ?_
  rw [d9]
  simp only [Act.put, List.setIfInBounds_toArray, List.set_cons_zero, List.set_cons_succ]
  refine wpAnyT_take (i := 10) (v := .slice A17 n17 c17) [10, 11] h10 HNS (by rw [hops]; kernel_rfl) (by rw [hops]; kernel_rfl) (by rw [hops]; kernel_rfl) (fun _ _ _ => NormalOnly.hQ _ _ _) (Or.inl ⟨(wanted_none g10), fun w' _ => by unfold execOp; rw [p10]; first | rfl | kernel_rfl⟩) s2 ?_
  rw [d10]
  simp only [Act.put, List.setIfInBounds_toArray, List.set_cons_zero, List.set_cons_succ]
  refine wpAnyT_take (i := 11) (v := .int .i64 60) [11] h11 HNS (by rw [hops]; kernel_rfl) (by rw [hops]; kernel_rfl) (by rw [hops]; kernel_rfl) (fun _ _ _ => NormalOnly.hQ _ _ _) (Or.inl ⟨(wanted_none g11), fun w' _ => by unfold execOp; rw [p11]; first | rfl | kernel_rfl⟩) s2 ?_
  rw [d11]
  simp only [Act.put, List.setIfInBounds_toArray, List.set_cons_zero, List.set_cons_succ]
  refine wpAnyT_done (by rw [hops]; kernel_rfl) ⟨rfl, ?_⟩ _
  clear HNS hops h0 d0 p0 g0 h1 d1 p1 g1 h2 d2 p2 g2 h3 d3 p3 g3 h4 d4 p4 g4 h5 d5 p5 g5 h6 d6 p6 g6 h7 d7 p7 g7 h8 d8 p8 g8 h9 d9 p9 g9 h10 d10 p10 g10 h11 d11 p11 g11
  clear HE26 s0 s1
  replace HB := Lib.hid (HB.out.trans (s2.mono HB.out.size))
  replace HS := Lib.hid (HS.out.keep s2)
  replace HRA := Lib.hid (Sl.rdI_keep HRA.out s2)
  replace HRO := Lib.hid (HRO.out.keep s2)
  clear s2
  have HSr := Lib.hid HS.out.row
  go_wp2_with (with_reducible refine wpList_load_row rfl 27 (.tmp 1) rfl gA rfl 27 (Sl.row Sl.s1 Ad cd Am cA).toArray (0, 0) _ HSr.out Tryd.underlying27 rfl HI.out ?_)
  clear HSr
  have hn : RdB (w16.alloc (.cells #[.int .u8 7] 5)) (some ⟨w16.heap.size, 0, none⟩) 1 [7] := RdB.new w16 5 [7]
  have hb17 : Below w16.heap.size w16 (w16.alloc (.cells #[.int .u8 7] 5)) := (Below.refl _ w16).alloc (Nat.le_refl _) _
  obtain ⟨w17, hw17⟩ : ∃ w17, w17 = w16.alloc (.cells #[.int .u8 7] 5) := ⟨_, rfl⟩
  rw [← hw17] at hn hb17 ⊢
  clear hw17
  replace HB := Lib.hid (HB.out.trans (hb17.mono HB.out.size))
  replace HS := Lib.hid (HS.out.keep hb17)
  replace HRA := Lib.hid (Sl.rdI_keep HRA.out hb17)
  replace HRO := Lib.hid (HRO.out.keep hb17)
  clear hb17
  ((with_reducible refine (Sl.y10 HS.out (HG.out.keep HB.out) _ hn).mono ?_); rintro e w18 ⟨A18, n18, c18, A19, n19, c19, rfl, hb18⟩)
  clear hn
  replace HB := Lib.hid (HB.out.trans (hb18.mono HB.out.size))
  replace HS := Lib.hid (HS.out.keep hb18)
  replace HRA := Lib.hid (Sl.rdI_keep HRA.out hb18)
  replace HRO := Lib.hid (HRO.out.keep hb18)
  clear hb18
  go_wp2_with fail
  have hn := Sl.bytes3 w18 5 9 3
  have hb19 := below3 w18 (.cells #[.int .u8 5] 5) (.cells #[.int .u8 9] 5) (.cells #[.int .u8 3] 5)
  obtain ⟨w19, hw19⟩ : ∃ w19, w19 = ((w18.alloc (.cells #[.int .u8 5] 5)).alloc (.cells #[.int .u8 9] 5)).alloc (.cells #[.int .u8 3] 5) := ⟨_, rfl⟩
  change RdB (((w18.alloc (.cells #[.int .u8 5] 5)).alloc (.cells #[.int .u8 9] 5)).alloc (.cells #[.int .u8 3] 5)) _ _ _ ∧ RdB (((w18.alloc (.cells #[.int .u8 5] 5)).alloc (.cells #[.int .u8 9] 5)).alloc (.cells #[.int .u8 3] 5)) _ _ _ ∧ RdB (((w18.alloc (.cells #[.int .u8 5] 5)).alloc (.cells #[.int .u8 9] 5)).alloc (.cells #[.int .u8 3] 5)) _ _ _ at hn
  rw [← hw19] at hn hb19 ⊢
  clear hw19
  replace HB := Lib.hid (HB.out.trans (hb19.mono HB.out.size))
  replace HS := Lib.hid (HS.out.keep hb19)
  replace HRA := Lib.hid (Sl.rdI_keep HRA.out hb19)
  replace HRO := Lib.hid (HRO.out.keep hb19)
  clear hb19
  ((with_reducible refine (Sl.z2 w19 _ _ _ hn.1 hn.2.1 hn.2.2 (HG.out.keep HB.out)).mono ?_); rintro e w20 ⟨Ad2, cd2, Am2, cA2, b2, off2, cc2, xs2, rfl, hok, hr, hv, hnc, hcm, hb20⟩)
  clear hn
  replace HB := Lib.hid (HB.out.trans (hb20.mono HB.out.size))
  replace HS := Lib.hid (HS.out.keep hb20)
  replace HRA := Lib.hid (Sl.rdI_keep HRA.out hb20)
  replace HRO := Lib.hid (HRO.out.keep hb20)
  clear hb20
  have HH := Lib.hid (fun W' he => Sl.Hold.make (W := w20) hok hr hv hnc hcm (W' := W') he)
  have HI2 := Lib.hid (show (Tryd.prog.info? 27).map (·.size) = some (Sl.row Sl.s2 Ad2 cd2 Am2 cA2).toArray.size from by rw [List.size_toArray, Sl.row_len hok.cl]; exact Sl.infoW)
  have HZ := Lib.hid (show Sl.z36.toArray.size = (Sl.row Sl.s2 Ad2 cd2 Am2 cA2).toArray.size from by rw [List.size_toArray, List.size_toArray, Sl.row_len hok.cl]; rfl)
  have H1 := Lib.hid (show (Sl.row Sl.s2 Ad2 cd2 Am2 cA2).toArray.all (·.oneCell') = true from all_oneCell_toArray (Sl.row_one _ _ _ _ _))
  clear hok hr hv hnc hcm
  go_wp2_with (first
      | ((refine wpList_store_row (o := ⟨none, .store 27 (.tmp 24) (.tmp 131), _, _, _, _⟩) rfl 27 (.tmp 24) (.tmp 131) rfl w20.heap.size (Sl.row Sl.s2 Ad2 cd2 Am2 cA2).toArray rfl rfl 27 Sl.z36.toArray (World.alloc_heap_new w20 _) HI2.out HZ.out H1.out ?_)
         obtain ⟨w21, hw21⟩ : ∃ w21, w21 = (w20.alloc (.cells Sl.z36.toArray 27)).setRow w20.heap.size (Sl.row Sl.s2 Ad2 cd2 Am2 cA2).toArray := ⟨_, rfl⟩
         change wpList _ _ _ _ _ ((w20.alloc (.cells Sl.z36.toArray 27)).setRow w20.heap.size (Sl.row Sl.s2 Ad2 cd2 Am2 cA2).toArray)
         rw [← hw21]
         have H2 := Lib.hid (HH.out w21 hw21)
         clear hw21))
  clear HH HZ H1
  obtain ⟨gB, hgB⟩ : ∃ gB, gB = w20.heap.size := ⟨_, rfl⟩
  have HT := Lib.hid H2.out.1
  have hb21 := H2.out.2
  clear H2
  rw [← hgB] at HT ⊢
  clear hgB
  replace HB := Lib.hid (HB.out.trans (hb21.mono HB.out.size))
  replace HS := Lib.hid (HS.out.keep hb21)
  replace HRA := Lib.hid (Sl.rdI_keep HRA.out hb21)
  replace HRO := Lib.hid (HRO.out.keep hb21)
  clear hb21
  obtain ⟨B1, e1, B2, e2, rfl⟩ := HT.out.two
  refine Sl.wp_normal ?_
  have s0 : Below w21.heap.size w21 w21.drew := (Below.refl _ w21).drew
  refine wp_region_named (fun ops hops => ?_)
  refine wp_region_T (by kernel_rfl) [] (fun w' => Below w21.heap.size w21 w') ?_
  rw [show ops.size = 12 from by rw [hops]; rfl]
  have HNS : Region.noSelect ops = true := by rw [hops]; kernel_rfl
  obtain ⟨o0, h0, d0, p0, g0⟩ := op_at5 hops 0 rfl (d := some 158) (p := Op.load 27 (Operand.tmp 24)) (g := none) rfl rfl rfl
  obtain ⟨o1, h1, d1, p1, g1⟩ := op_at5 hops 1 rfl (d := some 159) (p := Op.move (Operand.tmp 25)) (g := none) rfl rfl rfl
  obtain ⟨o2, h2, d2, p2, g2⟩ := op_at5 hops 2 rfl (d := some 160) (p := Op.slice 28 (Operand.tmp 159) none (some (Operand.const (Value.int IntKind.i64 1))) none) (g := none) rfl rfl rfl
  obtain ⟨o3, h3, d3, p3, g3⟩ := op_at5 hops 3 rfl (d := some 161) (p := Op.buildSlice 24 1 #[(0, Operand.const (Value.int IntKind.u8 6))]) (g := none) rfl rfl rfl
  obtain ⟨o4, h4, d4, p4, g4⟩ := op_at5 hops 4 rfl (d := some 162) (p := Op.call { callee := Callee.value (Operand.func 26), args := #[Operand.tmp 158, Operand.tmp 160, Operand.tmp 161], argTypes := #[27, 28, 24] }) (g := none) rfl rfl rfl
  obtain ⟨o5, h5, d5, p5, g5⟩ := op_at5 hops 5 rfl (d := some 157) (p := Op.move (Operand.tmp 162)) (g := none) rfl rfl rfl
  obtain ⟨o6, h6, d6, p6, g6⟩ := op_at5 hops 6 rfl (d := some 163) (p := Op.extract (Operand.tmp 157) 0) (g := none) rfl rfl rfl
  obtain ⟨o7, h7, d7, p7, g7⟩ := op_at5 hops 7 rfl (d := some 164) (p := Op.extract (Operand.tmp 157) 1) (g := none) rfl rfl rfl
  obtain ⟨o8, h8, d8, p8, g8⟩ := op_at5 hops 8 rfl (d := some 165) (p := Op.extract (Operand.tmp 157) 2) (g := none) rfl rfl rfl
  obtain ⟨o9, h9, d9, p9, g9⟩ := op_at5 hops 9 rfl (d := some 27) (p := Op.assign (Operand.tmp 163)) (g := none) rfl rfl rfl
  obtain ⟨o10, h10, d10, p10, g10⟩ := op_at5 hops 10 rfl (d := some 28) (p := Op.assign (Operand.tmp 164)) (g := none) rfl rfl rfl
  obtain ⟨o11, h11, d11, p11, g11⟩ := op_at5 hops 11 rfl (d := some 29) (p := Op.assign (Operand.tmp 165)) (g := none) rfl rfl rfl
  refine wpAnyT_take (i := 0) (v := .agg (Sl.row Sl.s2 Ad2 cd2 Am2 cA2).toArray) [0, 4, 5, 6, 7, 8, 9, 10, 11] h0 HNS (by rw [hops]; kernel_rfl) (by rw [hops]; kernel_rfl) (by rw [hops]; kernel_rfl) (fun _ _ _ => NormalOnly.hQ _ _ _) (Or.inl ⟨(wanted_none g0), fun w' h => run_op_load_row 27 _ p0 gB (by rfl) 27 _ (0, 0) _ (HT.out.keep h).row Tryd.underlying27 rfl (HT.out.info)⟩) s0 ?_
  rw [d0]
  simp only [Act.put, List.setIfInBounds_toArray, List.set_cons_zero, List.set_cons_succ]
  refine wpAnyT_take (i := 1) (v := .slice (some ⟨b2, off2, none⟩) 2 cc2) [1, 2, 4, 5, 6, 7, 8, 9, 10, 11] h1 HNS (by rw [hops]; kernel_rfl) (by rw [hops]; kernel_rfl) (by rw [hops]; kernel_rfl) (fun _ _ _ => NormalOnly.hQ _ _ _) (Or.inl ⟨(wanted_none g1), fun w' _ => by unfold execOp; rw [p1]; first | rfl | kernel_rfl⟩) s0 ?_
  rw [d1]
  simp only [Act.put, List.setIfInBounds_toArray, List.set_cons_zero, List.set_cons_succ]
  refine wpAnyT_take (i := 2) (v := .slice (some ⟨b2, off2, none⟩) 1 cc2) [2, 4, 5, 6, 7, 8, 9, 10, 11] h2 HNS (by rw [hops]; kernel_rfl) (by rw [hops]; kernel_rfl) (by rw [hops]; kernel_rfl) (fun _ _ _ => NormalOnly.hQ _ _ _) (Or.inl ⟨(wanted_none g2), fun w' h => run_op_slice_to 28 _ _ p2 ⟨b2, off2, none⟩ 2 cc2 1 (by rfl) (by rfl) (by have := HT.out.nc; omega) 43 5 Tryd.underlying28 Sl.info5⟩) s0 ?_
  rw [d2]
  simp only [Act.put, List.setIfInBounds_toArray, List.set_cons_zero, List.set_cons_succ]
  have HE26 := Lib.hid (enters_of Tryd.func26 (by kernel_rfl) rfl)
  refine wpAnyT_one (by rw [hops]; kernel_rfl) h3 (wanted_none g3) (fun K hK => ?_)
  refine wp_runG (w' := w21.drew.alloc (.cells #[.int .u8 6] 5)) (v := .slice (some ⟨w21.drew.heap.size, 0, none⟩) 1 1) (by unfold execOp; rw [p3]; first | rfl | kernel_rfl) ?_
  have s1 : Below w21.heap.size w21 (w21.drew.alloc (.cells #[.int .u8 6] 5)) := s0.alloc s0.size _
  have hn : RdB (w21.drew.alloc (.cells #[.int .u8 6] 5)) (some ⟨w21.drew.heap.size, 0, none⟩) 1 [6] := RdB.new w21.drew 5 [6]
  rw [d3]
  simp only [Act.put, List.setIfInBounds_toArray, List.set_cons_zero, List.set_cons_succ]
  refine hK.out _ _ (fun _ => s1) ?_
  clear hK K
  refine wpAnyT_one (by rw [hops]; kernel_rfl) h4 (wanted_none g4) (fun K hK => ?_)
  refine wp_call3 26 _ _ _ _ (.agg (Sl.row Sl.s2 Ad2 cd2 Am2 cA2).toArray) (.slice (some ⟨b2, off2, none⟩) 1 cc2) (.slice (some ⟨w21.drew.heap.size, 0, none⟩) 1 1) p4 HE26.out (by rfl) (by rfl) (by rfl) ?_
  (refine (Sl.y12 (HT.out.keep s1) (HG.out.keep (HB.out.trans (s1.mono HB.out.size))) _ hn).mono ?_; rintro e w23 ⟨A23, c23, A24, c24, rfl, hr23, hr24, hb0⟩)
  have s2 : Below w21.heap.size w21 w23 := s1.trans (hb0.mono s1.size)
  clear hb0 hn
  refine ⟨_, rfl, ?_⟩
  rw [d4]
  simp only [Act.put, List.setIfInBounds_toArray, List.set_cons_zero, List.set_cons_succ]
  refine hK.out _ _ (fun _ => s2) ?_
  clear hK K
  refine wpAnyT_take (i := 5) (v := .tuple #[.slice A23 1 c23, .slice A24 1 c24, .int .i64 0]) [5, 6, 7, 8, 9, 10, 11] h5 HNS (by rw [hops]; kernel_rfl) (by rw [hops]; kernel_rfl) (by rw [hops]; kernel_rfl) (fun _ _ _ => NormalOnly.hQ _ _ _) (Or.inl ⟨(wanted_none g5), fun w' _ => by unfold execOp; rw [p5]; first | rfl | kernel_rfl⟩) s2 ?_
  rw [d5]
  simp only [Act.put, List.setIfInBounds_toArray, List.set_cons_zero, List.set_cons_succ]
  refine wpAnyT_take (i := 6) (v := .slice A23 1 c23) [6, 9, 10, 11] h6 HNS (by rw [hops]; kernel_rfl) (by rw [hops]; kernel_rfl) (by rw [hops]; kernel_rfl) (fun _ _ _ => NormalOnly.hQ _ _ _) (Or.inl ⟨(wanted_none g6), fun w' _ => by unfold execOp; rw [p6]; first | rfl | kernel_rfl⟩) s2 ?_
  rw [d6]
  simp only [Act.put, List.setIfInBounds_toArray, List.set_cons_zero, List.set_cons_succ]
  refine wpAnyT_take (i := 7) (v := .slice A24 1 c24) [7, 10, 11] h7 HNS (by rw [hops]; kernel_rfl) (by rw [hops]; kernel_rfl) (by rw [hops]; kernel_rfl) (fun _ _ _ => NormalOnly.hQ _ _ _) (Or.inl ⟨(wanted_none g7), fun w' _ => by unfold execOp; rw [p7]; first | rfl | kernel_rfl⟩) s2 ?_
  rw [d7]
  simp only [Act.put, List.setIfInBounds_toArray, List.set_cons_zero, List.set_cons_succ]
  refine wpAnyT_take (i := 8) (v := .int .i64 0) [8, 11] h8 HNS (by rw [hops]; kernel_rfl) (by rw [hops]; kernel_rfl) (by rw [hops]; kernel_rfl) (fun _ _ _ => NormalOnly.hQ _ _ _) (Or.inl ⟨(wanted_none g8), fun w' _ => by unfold execOp; rw [p8]; first | rfl | kernel_rfl⟩) s2 ?_
  rw [d8]
  simp only [Act.put, List.setIfInBounds_toArray, List.set_cons_zero, List.set_cons_succ]
  refine wpAnyT_take (i := 9) (v := .slice A23 1 c23) [9, 10, 11] h9 HNS (by rw [hops]; kernel_rfl) (by rw [hops]; kernel_rfl) (by rw [hops]; kernel_rfl) (fun _ _ _ => NormalOnly.hQ _ _ _) (Or.inl ⟨(wanted_none g9), fun w' _ => by unfold execOp; rw [p9]; first | rfl | kernel_rfl⟩) s2 ?_
  rw [d9]
  simp only [Act.put, List.setIfInBounds_toArray, List.set_cons_zero, List.set_cons_succ]
  refine wpAnyT_take (i := 10) (v := .slice A24 1 c24) [10, 11] h10 HNS (by rw [hops]; kernel_rfl) (by rw [hops]; kernel_rfl) (by rw [hops]; kernel_rfl) (fun _ _ _ => NormalOnly.hQ _ _ _) (Or.inl ⟨(wanted_none g10), fun w' _ => by unfold execOp; rw [p10]; first | rfl | kernel_rfl⟩) s2 ?_
  rw [d10]
  simp only [Act.put, List.setIfInBounds_toArray, List.set_cons_zero, List.set_cons_succ]
  refine wpAnyT_take (i := 11) (v := .int .i64 0) [11] h11 HNS (by rw [hops]; kernel_rfl) (by rw [hops]; kernel_rfl) (by rw [hops]; kernel_rfl) (fun _ _ _ => NormalOnly.hQ _ _ _) (Or.inl ⟨(wanted_none g11), fun w' _ => by unfold execOp; rw [p11]; first | rfl | kernel_rfl⟩) s2 ?_
  rw [d11]
  simp only [Act.put, List.setIfInBounds_toArray, List.set_cons_zero, List.set_cons_succ]
  refine wpAnyT_done (by rw [hops]; kernel_rfl) ⟨rfl, ?_⟩ _
  clear HNS hops h0 d0 p0 g0 h1 d1 p1 g1 h2 d2 p2 g2 h3 d3 p3 g3 h4 d4 p4 g4 h5 d5 p5 g5 h6 d6 p6 g6 h7 d7 p7 g7 h8 d8 p8 g8 h9 d9 p9 g9 h10 d10 p10 g10 h11 d11 p11 g11
  clear HE26 s0 s1
  replace HB := Lib.hid (HB.out.trans (s2.mono HB.out.size))
  replace HS := Lib.hid (HS.out.keep s2)
  replace HRA := Lib.hid (Sl.rdI_keep HRA.out s2)
  replace HRO := Lib.hid (HRO.out.keep s2)
  replace HT := Lib.hid (HT.out.keep s2)
  clear s2
  have HRK := Lib.hid hr23
  have HRC := Lib.hid hr24
  clear hr23 hr24
  go_wp2_with fail
  obtain ⟨bm, om, rfl⟩ := Sl.mk0 HS.out
  refine Sl.wp_normal ?_
  have s0 : Below w23.heap.size w23 w23.drew := (Below.refl _ w23).drew
  refine wp_region_named (fun ops hops => ?_)
  refine wp_region_T (by kernel_rfl) [] (fun w' => Below w23.heap.size w23 w') ?_
  rw [show ops.size = 46 from by rw [hops]; rfl]
  have HNS : Region.noSelect ops = true := by rw [hops]; kernel_rfl
  obtain ⟨o0, h0, d0, p0, g0⟩ := op_at5 hops 0 rfl (d := some 166) (p := Op.fieldAddr 27 (Operand.tmp 1) 1) (g := none) rfl rfl rfl
  obtain ⟨o1, h1, d1, p1, g1⟩ := op_at5 hops 1 rfl (d := some 167) (p := Op.load 24 (Operand.tmp 166)) (g := none) rfl rfl rfl
  obtain ⟨o2, h2, d2, p2, g2⟩ := op_at5 hops 2 rfl (d := some 168) (p := Op.convert 24 9 (Operand.tmp 167)) (g := none) rfl rfl rfl
  obtain ⟨o3, h3, d3, p3, g3⟩ := op_at5 hops 3 rfl (d := some 169) (p := Op.binOp BinOp.eql 9 (Operand.tmp 168) (Operand.const (Value.string { data := #[5, 6] })) 9) (g := none) rfl rfl rfl
  obtain ⟨o4, h4, d4, p4, g4⟩ := op_at5 hops 4 rfl (d := some 170) (p := Op.move (Operand.tmp 169)) (g := none) rfl rfl rfl
  obtain ⟨o5, h5, d5, p5, g5⟩ := op_at5 hops 5 rfl (d := some 171) (p := Op.move (Operand.tmp 2)) (g := some (4, true)) rfl rfl rfl
  obtain ⟨o6, h6, d6, p6, g6⟩ := op_at5 hops 6 rfl (d := some 172) (p := Op.indexAddr 28 (Operand.tmp 171) (Operand.const (Value.int IntKind.i64 0))) (g := some (4, true)) rfl rfl rfl
  obtain ⟨o7, h7, d7, p7, g7⟩ := op_at5 hops 7 rfl (d := some 173) (p := Op.fieldAddr 43 (Operand.tmp 172) 4) (g := some (4, true)) rfl rfl rfl
  obtain ⟨o8, h8, d8, p8, g8⟩ := op_at5 hops 8 rfl (d := some 174) (p := Op.load 24 (Operand.tmp 173)) (g := some (4, true)) rfl rfl rfl
  obtain ⟨o9, h9, d9, p9, g9⟩ := op_at5 hops 9 rfl (d := some 175) (p := Op.convert 24 9 (Operand.tmp 174)) (g := some (4, true)) rfl rfl rfl
  obtain ⟨o10, h10, d10, p10, g10⟩ := op_at5 hops 10 rfl (d := some 176) (p := Op.binOp BinOp.eql 9 (Operand.tmp 175) (Operand.const (Value.string { data := #[4, 4] })) 9) (g := some (4, true)) rfl rfl rfl
  obtain ⟨o11, h11, d11, p11, g11⟩ := op_at5 hops 11 rfl (d := some 177) (p := Op.pick (Operand.tmp 170) (Operand.tmp 176) (Operand.const (Value.bool false))) (g := none) rfl rfl rfl
  obtain ⟨o12, h12, d12, p12, g12⟩ := op_at5 hops 12 rfl (d := some 178) (p := Op.move (Operand.tmp 177)) (g := none) rfl rfl rfl
  obtain ⟨o13, h13, d13, p13, g13⟩ := op_at5 hops 13 rfl (d := some 179) (p := Op.fieldAddr 27 (Operand.tmp 1) 4) (g := some (12, true)) rfl rfl rfl
  obtain ⟨o14, h14, d14, p14, g14⟩ := op_at5 hops 14 rfl (d := some 180) (p := Op.load 25 (Operand.tmp 179)) (g := some (12, true)) rfl rfl rfl
  obtain ⟨o15, h15, d15, p15, g15⟩ := op_at5 hops 15 rfl (d := some 181) (p := Op.indexAddr 25 (Operand.tmp 180) (Operand.const (Value.int IntKind.i64 1))) (g := some (12, true)) rfl rfl rfl
  obtain ⟨o16, h16, d16, p16, g16⟩ := op_at5 hops 16 rfl (d := some 182) (p := Op.load 23 (Operand.tmp 181)) (g := some (12, true)) rfl rfl rfl
  obtain ⟨o17, h17, d17, p17, g17⟩ := op_at5 hops 17 rfl (d := some 183) (p := Op.move (Operand.tmp 2)) (g := some (12, true)) rfl rfl rfl
  obtain ⟨o18, h18, d18, p18, g18⟩ := op_at5 hops 18 rfl (d := some 184) (p := Op.indexAddr 28 (Operand.tmp 183) (Operand.const (Value.int IntKind.i64 1))) (g := some (12, true)) rfl rfl rfl
  obtain ⟨o19, h19, d19, p19, g19⟩ := op_at5 hops 19 rfl (d := some 185) (p := Op.load 43 (Operand.tmp 184)) (g := some (12, true)) rfl rfl rfl
  obtain ⟨o20, h20, d20, p20, g20⟩ := op_at5 hops 20 rfl (d := some 186) (p := Op.call { callee := Callee.value (Operand.func 29), args := #[Operand.tmp 185], argTypes := #[43] }) (g := some (12, true)) rfl rfl rfl
  obtain ⟨o21, h21, d21, p21, g21⟩ := op_at5 hops 21 rfl (d := some 187) (p := Op.binOp BinOp.eql 23 (Operand.tmp 182) (Operand.tmp 186) 23) (g := some (12, true)) rfl rfl rfl
  obtain ⟨o22, h22, d22, p22, g22⟩ := op_at5 hops 22 rfl (d := some 188) (p := Op.pick (Operand.tmp 178) (Operand.tmp 187) (Operand.const (Value.bool false))) (g := none) rfl rfl rfl
  obtain ⟨o23, h23, d23, p23, g23⟩ := op_at5 hops 23 rfl (d := some 189) (p := Op.move (Operand.tmp 188)) (g := none) rfl rfl rfl
  obtain ⟨o24, h24, d24, p24, g24⟩ := op_at5 hops 24 rfl (d := some 190) (p := Op.fieldAddr 27 (Operand.tmp 1) 0) (g := some (23, true)) rfl rfl rfl
  obtain ⟨o25, h25, d25, p25, g25⟩ := op_at5 hops 25 rfl (d := some 191) (p := Op.load 23 (Operand.tmp 190)) (g := some (23, true)) rfl rfl rfl
  obtain ⟨o26, h26, d26, p26, g26⟩ := op_at5 hops 26 rfl (d := some 192) (p := Op.buildSlice 24 2 #[(0, Operand.const (Value.int IntKind.u8 1)), (1, Operand.const (Value.int IntKind.u8 2))]) (g := some (23, true)) rfl rfl rfl
  obtain ⟨o27, h27, d27, p27, g27⟩ := op_at5 hops 27 rfl (d := some 193) (p := Op.call { callee := Callee.value (Operand.func 30), args := #[Operand.tmp 192], argTypes := #[24] }) (g := some (23, true)) rfl rfl rfl
  obtain ⟨o28, h28, d28, p28, g28⟩ := op_at5 hops 28 rfl (d := some 194) (p := Op.binOp BinOp.eql 23 (Operand.tmp 191) (Operand.tmp 193) 23) (g := some (23, true)) rfl rfl rfl
  obtain ⟨o29, h29, d29, p29, g29⟩ := op_at5 hops 29 rfl (d := some 195) (p := Op.pick (Operand.tmp 189) (Operand.tmp 194) (Operand.const (Value.bool false))) (g := none) rfl rfl rfl
  obtain ⟨o30, h30, d30, p30, g30⟩ := op_at5 hops 30 rfl (d := some 196) (p := Op.move (Operand.tmp 195)) (g := none) rfl rfl rfl
  obtain ⟨o31, h31, d31, p31, g31⟩ := op_at5 hops 31 rfl (d := some 197) (p := Op.move (Operand.tmp 10)) (g := some (30, true)) rfl rfl rfl
  obtain ⟨o32, h32, d32, p32, g32⟩ := op_at5 hops 32 rfl (d := some 198) (p := Op.buildSlice 35 1 #[(0, Operand.const (Value.int IntKind.i64 0))]) (g := some (30, true)) rfl rfl rfl
  obtain ⟨o33, h33, d33, p33, g33⟩ := op_at5 hops 33 rfl (d := some 199) (p := Op.call { callee := Callee.value (Operand.func 25), args := #[Operand.tmp 197, Operand.tmp 198], argTypes := #[35, 35] }) (g := some (30, true)) rfl rfl rfl
  obtain ⟨o34, h34, d34, p34, g34⟩ := op_at5 hops 34 rfl (d := some 200) (p := Op.pick (Operand.tmp 196) (Operand.tmp 199) (Operand.const (Value.bool false))) (g := none) rfl rfl rfl
  obtain ⟨o35, h35, d35, p35, g35⟩ := op_at5 hops 35 rfl (d := some 201) (p := Op.move (Operand.tmp 200)) (g := none) rfl rfl rfl
  obtain ⟨o36, h36, d36, p36, g36⟩ := op_at5 hops 36 rfl (d := some 202) (p := Op.move (Operand.tmp 14)) (g := some (35, true)) rfl rfl rfl
  obtain ⟨o37, h37, d37, p37, g37⟩ := op_at5 hops 37 rfl (d := some 203) (p := Op.convert 24 9 (Operand.tmp 202)) (g := some (35, true)) rfl rfl rfl
  obtain ⟨o38, h38, d38, p38, g38⟩ := op_at5 hops 38 rfl (d := some 204) (p := Op.binOp BinOp.eql 9 (Operand.tmp 203) (Operand.const (Value.string { data := #[1, 2] })) 9) (g := some (35, true)) rfl rfl rfl
  obtain ⟨o39, h39, d39, p39, g39⟩ := op_at5 hops 39 rfl (d := some 205) (p := Op.pick (Operand.tmp 201) (Operand.tmp 204) (Operand.const (Value.bool false))) (g := none) rfl rfl rfl
  obtain ⟨o40, h40, d40, p40, g40⟩ := op_at5 hops 40 rfl (d := some 206) (p := Op.move (Operand.tmp 205)) (g := none) rfl rfl rfl
  obtain ⟨o41, h41, d41, p41, g41⟩ := op_at5 hops 41 rfl (d := some 207) (p := Op.move (Operand.tmp 16)) (g := some (40, true)) rfl rfl rfl
  obtain ⟨o42, h42, d42, p42, g42⟩ := op_at5 hops 42 rfl (d := some 208) (p := Op.call { callee := Callee.builtin Builtin.len, args := #[Operand.tmp 207], argTypes := #[35] }) (g := some (40, true)) rfl rfl rfl
  obtain ⟨o43, h43, d43, p43, g43⟩ := op_at5 hops 43 rfl (d := some 209) (p := Op.binOp BinOp.eql 3 (Operand.tmp 208) (Operand.const (Value.int IntKind.i64 0)) 3) (g := some (40, true)) rfl rfl rfl
  obtain ⟨o44, h44, d44, p44, g44⟩ := op_at5 hops 44 rfl (d := some 210) (p := Op.pick (Operand.tmp 206) (Operand.tmp 209) (Operand.const (Value.bool false))) (g := none) rfl rfl rfl
  obtain ⟨o45, h45, d45, p45, g45⟩ := op_at5 hops 45 rfl (d := some 30) (p := Op.assign (Operand.tmp 210)) (g := none) rfl rfl rfl
  have HE29 := Lib.hid (enters_of Tryd.func29 (by kernel_rfl) rfl)
  have HE30 := Lib.hid (enters_of Tryd.func30 (by kernel_rfl) rfl)
  have HE25 := Lib.hid (enters_of Tryd.func25 (by kernel_rfl) rfl)
  refine wpAnyT_take (i := 0) (v := .pointer (some ⟨gA, 32, none⟩)) [0, 1, 2, 3, 4, 5, 6, 7, 8, 9, 10, 11, 12, 13, 14, 15, 16, 17, 18, 19, 20, 21, 22, 23, 24, 25, 26, 27, 28, 29, 30, 31, 32, 33, 34, 35, 36, 37, 38, 39, 40, 41, 42, 43, 44, 45] h0 HNS (by rw [hops]; kernel_rfl) (by rw [hops]; kernel_rfl) (by rw [hops]; kernel_rfl) (fun _ _ _ => NormalOnly.hQ _ _ _) (Or.inl ⟨(wanted_none g0), fun w' _ => by unfold execOp; rw [p0]; first | rfl | kernel_rfl⟩) s0 ?_
  rw [d0]
  simp only [Act.put, List.setIfInBounds_toArray, List.set_cons_zero, List.set_cons_succ]
  refine wpAnyT_take (i := 1) (v := .slice Ad 2 cd) [1, 2, 3, 4, 5, 6, 7, 8, 9, 10, 11, 12, 13, 14, 15, 16, 17, 18, 19, 20, 21, 22, 23, 24, 25, 26, 27, 28, 29, 30, 31, 32, 33, 34, 35, 36, 37, 38, 39, 40, 41, 42, 43, 44, 45] h1 HNS (by rw [hops]; kernel_rfl) (by rw [hops]; kernel_rfl) (by rw [hops]; kernel_rfl) (fun _ _ _ => NormalOnly.hQ _ _ _) (Or.inl ⟨(wanted_none g1), fun w' h => run_op_load_cell 24 _ p1 (gA) (32) (by rfl) (.slice Ad 2 cd) ((Sl.cs1 (HS.out.keep h)).1) _ Tryd.underlying24 rfl⟩) s0 ?_
  rw [d1]
  simp only [Act.put, List.setIfInBounds_toArray, List.set_cons_zero, List.set_cons_succ]
  refine wpAnyT_take (i := 2) (v := .string ⟨#[5, 6]⟩) [2, 3, 4, 5, 6, 7, 8, 9, 10, 11, 12, 13, 14, 15, 16, 17, 18, 19, 20, 21, 22, 23, 24, 25, 26, 27, 28, 29, 30, 31, 32, 33, 34, 35, 36, 37, 38, 39, 40, 41, 42, 43, 44, 45] h2 HNS (by rw [hops]; kernel_rfl) (by rw [hops]; kernel_rfl) (by rw [hops]; kernel_rfl) (fun _ _ _ => NormalOnly.hQ _ _ _) (Or.inl ⟨(wanted_none g2), fun w' h => run_op_convR 24 9 _ p2 _ _ (by rfl) (RdB.str (P := Tryd.prog) (Sl.rdA (HS.out.keep h)) Tryd.underlying24 Tryd.underlying5 Tryd.underlying9 cd)⟩) s0 ?_
  rw [d2]
  simp only [Act.put, List.setIfInBounds_toArray, List.set_cons_zero, List.set_cons_succ]
  refine wpAnyT_take (i := 3) (v := .bool true) [3, 4, 5, 6, 7, 8, 9, 10, 11, 12, 13, 14, 15, 16, 17, 18, 19, 20, 21, 22, 23, 24, 25, 26, 27, 28, 29, 30, 31, 32, 33, 34, 35, 36, 37, 38, 39, 40, 41, 42, 43, 44, 45] h3 HNS (by rw [hops]; kernel_rfl) (by rw [hops]; kernel_rfl) (by rw [hops]; kernel_rfl) (fun _ _ _ => NormalOnly.hQ _ _ _) (Or.inl ⟨(wanted_none g3), fun w' _ => by unfold execOp; rw [p3]; first | rfl | kernel_rfl⟩) s0 ?_
  rw [d3]
  simp only [Act.put, List.setIfInBounds_toArray, List.set_cons_zero, List.set_cons_succ]
  refine wpAnyT_take (i := 4) (v := .bool true) [4, 5, 6, 7, 8, 9, 10, 11, 12, 13, 14, 15, 16, 17, 18, 19, 20, 21, 22, 23, 24, 25, 26, 27, 28, 29, 30, 31, 32, 33, 34, 35, 36, 37, 38, 39, 40, 41, 42, 43, 44, 45] h4 HNS (by rw [hops]; kernel_rfl) (by rw [hops]; kernel_rfl) (by rw [hops]; kernel_rfl) (fun _ _ _ => NormalOnly.hQ _ _ _) (Or.inl ⟨(wanted_none g4), fun w' _ => by unfold execOp; rw [p4]; first | rfl | kernel_rfl⟩) s0 ?_
  rw [d4]
  simp only [Act.put, List.setIfInBounds_toArray, List.set_cons_zero, List.set_cons_succ]
  refine wpAnyT_take (i := 5) (v := .slice (some ⟨b, off, none⟩) 2 c) [5, 6, 7, 8, 9, 10, 11, 12, 13, 14, 15, 16, 17, 18, 19, 20, 21, 22, 23, 24, 25, 26, 27, 28, 29, 30, 31, 32, 33, 34, 35, 36, 37, 38, 39, 40, 41, 42, 43, 44, 45] h5 HNS (by rw [hops]; kernel_rfl) (by rw [hops]; kernel_rfl) (by rw [hops]; kernel_rfl) (fun _ _ _ => NormalOnly.hQ _ _ _) (Or.inl ⟨(wanted_some g5 h4 d4 (by rfl)), fun w' _ => by unfold execOp; rw [p5]; first | rfl | kernel_rfl⟩) s0 ?_
  rw [d5]
  simp only [Act.put, List.setIfInBounds_toArray, List.set_cons_zero, List.set_cons_succ]
  refine wpAnyT_take (i := 6) (v := .pointer (some ⟨b, off + 0 * 5, none⟩)) [6, 7, 8, 9, 10, 11, 12, 13, 14, 15, 16, 17, 18, 19, 20, 21, 22, 23, 24, 25, 26, 27, 28, 29, 30, 31, 32, 33, 34, 35, 36, 37, 38, 39, 40, 41, 42, 43, 44, 45] h6 HNS (by rw [hops]; kernel_rfl) (by rw [hops]; kernel_rfl) (by rw [hops]; kernel_rfl) (fun _ _ _ => NormalOnly.hQ _ _ _) (Or.inl ⟨(wanted_some g6 h4 d4 (by rfl)), fun w' h => run_op_index_mid 28 _ _ p6 b off 2 c 0 (by rfl) (by rfl) (by decide) 43 5 Tryd.underlying28 Sl.info5⟩) s0 ?_
  rw [d6]
  simp only [Act.put, List.setIfInBounds_toArray, List.set_cons_zero, List.set_cons_succ]
  refine wpAnyT_take (i := 7) (v := .pointer (some ⟨b, off + 0 * 5 + 4, none⟩)) [7, 8, 9, 10, 11, 12, 13, 14, 15, 16, 17, 18, 19, 20, 21, 22, 23, 24, 25, 26, 27, 28, 29, 30, 31, 32, 33, 34, 35, 36, 37, 38, 39, 40, 41, 42, 43, 44, 45] h7 HNS (by rw [hops]; kernel_rfl) (by rw [hops]; kernel_rfl) (by rw [hops]; kernel_rfl) (fun _ _ _ => NormalOnly.hQ _ _ _) (Or.inl ⟨(wanted_some g7 h4 d4 (by rfl)), fun w' _ => by unfold execOp; rw [p7]; first | rfl | kernel_rfl⟩) s0 ?_
  rw [d7]
  simp only [Act.put, List.setIfInBounds_toArray, List.set_cons_zero, List.set_cons_succ]
  refine wpAnyT_take (i := 8) (v := .slice A1 2 c1) [8, 9, 10, 11, 12, 13, 14, 15, 16, 17, 18, 19, 20, 21, 22, 23, 24, 25, 26, 27, 28, 29, 30, 31, 32, 33, 34, 35, 36, 37, 38, 39, 40, 41, 42, 43, 44, 45] h8 HNS (by rw [hops]; kernel_rfl) (by rw [hops]; kernel_rfl) (by rw [hops]; kernel_rfl) (fun _ _ _ => NormalOnly.hQ _ _ _) (Or.inl ⟨(wanted_some g8 h4 d4 (by rfl)), fun w' h => run_op_load_cell 24 _ p8 (b) (off + 0 * 5 + 4) (by rfl) (.slice A1 2 c1) ((Sl.shAt (HS.out.keep h) 0 (⟨Sl.a1, A1, c1⟩ : Shr.C) rfl) 4 _ rfl) _ Tryd.underlying24 rfl⟩) s0 ?_
  rw [d8]
  simp only [Act.put, List.setIfInBounds_toArray, List.set_cons_zero, List.set_cons_succ]
  refine wpAnyT_take (i := 9) (v := .string ⟨#[4, 4]⟩) [9, 10, 11, 12, 13, 14, 15, 16, 17, 18, 19, 20, 21, 22, 23, 24, 25, 26, 27, 28, 29, 30, 31, 32, 33, 34, 35, 36, 37, 38, 39, 40, 41, 42, 43, 44, 45] h9 HNS (by rw [hops]; kernel_rfl) (by rw [hops]; kernel_rfl) (by rw [hops]; kernel_rfl) (fun _ _ _ => NormalOnly.hQ _ _ _) (Or.inl ⟨(wanted_some g9 h4 d4 (by rfl)), fun w' h => run_op_convR 24 9 _ p9 _ _ (by rfl) (RdB.str (P := Tryd.prog) (Sl.rdX (HS.out.keep h)) Tryd.underlying24 Tryd.underlying5 Tryd.underlying9 c1)⟩) s0 ?_
  rw [d9]
  simp only [Act.put, List.setIfInBounds_toArray, List.set_cons_zero, List.set_cons_succ]
  refine wpAnyT_take (i := 10) (v := .bool true) [10, 11, 12, 13, 14, 15, 16, 17, 18, 19, 20, 21, 22, 23, 24, 25, 26, 27, 28, 29, 30, 31, 32, 33, 34, 35, 36, 37, 38, 39, 40, 41, 42, 43, 44, 45] h10 HNS (by rw [hops]; kernel_rfl) (by rw [hops]; kernel_rfl) (by rw [hops]; kernel_rfl) (fun _ _ _ => NormalOnly.hQ _ _ _) (Or.inl ⟨(wanted_some g10 h4 d4 (by rfl)), fun w' _ => by unfold execOp; rw [p10]; first | rfl | kernel_rfl⟩) s0 ?_
  rw [d10]
  simp only [Act.put, List.setIfInBounds_toArray, List.set_cons_zero, List.set_cons_succ]
  refine wpAnyT_take (i := 11) (v := .bool true) [11, 12, 13, 14, 15, 16, 17, 18, 19, 20, 21, 22, 23, 24, 25, 26, 27, 28, 29, 30, 31, 32, 33, 34, 35, 36, 37, 38, 39, 40, 41, 42, 43, 44, 45] h11 HNS (by rw [hops]; kernel_rfl) (by rw [hops]; kernel_rfl) (by rw [hops]; kernel_rfl) (fun _ _ _ => NormalOnly.hQ _ _ _) (Or.inl ⟨(wanted_none g11), fun w' _ => by unfold execOp; rw [p11]; first | rfl | kernel_rfl⟩) s0 ?_
  rw [d11]
  simp only [Act.put, List.setIfInBounds_toArray, List.set_cons_zero, List.set_cons_succ]
  refine wpAnyT_take (i := 12) (v := .bool true) [12, 13, 14, 15, 16, 17, 18, 19, 20, 21, 22, 23, 24, 25, 26, 27, 28, 29, 30, 31, 32, 33, 34, 35, 36, 37, 38, 39, 40, 41, 42, 43, 44, 45] h12 HNS (by rw [hops]; kernel_rfl) (by rw [hops]; kernel_rfl) (by rw [hops]; kernel_rfl) (fun _ _ _ => NormalOnly.hQ _ _ _) (Or.inl ⟨(wanted_none g12), fun w' _ => by unfold execOp; rw [p12]; first | rfl | kernel_rfl⟩) s0 ?_
  rw [d12]
  simp only [Act.put, List.setIfInBounds_toArray, List.set_cons_zero, List.set_cons_succ]
  refine wpAnyT_take (i := 13) (v := .pointer (some ⟨gA, 35, none⟩)) [13, 14, 15, 16, 21, 22, 23, 24, 25, 26, 27, 28, 29, 30, 31, 32, 33, 34, 35, 36, 37, 38, 39, 40, 41, 42, 43, 44, 45] h13 HNS (by rw [hops]; kernel_rfl) (by rw [hops]; kernel_rfl) (by rw [hops]; kernel_rfl) (fun _ _ _ => NormalOnly.hQ _ _ _) (Or.inl ⟨(wanted_some g13 h12 d12 (by rfl)), fun w' _ => by unfold execOp; rw [p13]; first | rfl | kernel_rfl⟩) s0 ?_
  rw [d13]
  simp only [Act.put, List.setIfInBounds_toArray, List.set_cons_zero, List.set_cons_succ]
  refine wpAnyT_take (i := 14) (v := .slice (some ⟨bm, om, none⟩) 2 cA) [14, 15, 16, 21, 22, 23, 24, 25, 26, 27, 28, 29, 30, 31, 32, 33, 34, 35, 36, 37, 38, 39, 40, 41, 42, 43, 44, 45] h14 HNS (by rw [hops]; kernel_rfl) (by rw [hops]; kernel_rfl) (by rw [hops]; kernel_rfl) (fun _ _ _ => NormalOnly.hQ _ _ _) (Or.inl ⟨(wanted_some g14 h12 d12 (by rfl)), fun w' h => run_op_load_cell 25 _ p14 (gA) (35) (by rfl) (.slice (some ⟨bm, om, none⟩) 2 cA) ((Sl.cs1 (HS.out.keep h)).2) _ Tryd.underlying25 rfl⟩) s0 ?_
  rw [d14]
  simp only [Act.put, List.setIfInBounds_toArray, List.set_cons_zero, List.set_cons_succ]
  refine wpAnyT_take (i := 15) (v := .pointer (some ⟨bm, om + 1 * 32, none⟩)) [15, 16, 21, 22, 23, 24, 25, 26, 27, 28, 29, 30, 31, 32, 33, 34, 35, 36, 37, 38, 39, 40, 41, 42, 43, 44, 45] h15 HNS (by rw [hops]; kernel_rfl) (by rw [hops]; kernel_rfl) (by rw [hops]; kernel_rfl) (fun _ _ _ => NormalOnly.hQ _ _ _) (Or.inl ⟨(wanted_some g15 h12 d12 (by rfl)), fun w' h => run_op_index_mid 25 _ _ p15 bm om 2 cA 1 (by rfl) (by rfl) (by decide) 23 32 Tryd.underlying25 Sl.infoD⟩) s0 ?_
  rw [d15]
  simp only [Act.put, List.setIfInBounds_toArray, List.set_cons_zero, List.set_cons_succ]
  refine wpAnyT_take (i := 16) (v := .agg ((Sl.mark Sl.a2).map Dg.b8).toArray) [16, 21, 22, 23, 24, 25, 26, 27, 28, 29, 30, 31, 32, 33, 34, 35, 36, 37, 38, 39, 40, 41, 42, 43, 44, 45] h16 HNS (by rw [hops]; kernel_rfl) (by rw [hops]; kernel_rfl) (by rw [hops]; kernel_rfl) (fun _ _ _ => NormalOnly.hQ _ _ _) (Or.inl ⟨(wanted_some g16 h12 d12 (by rfl)), fun w' h => run_op_load_mid 23 _ p16 bm (om + 1 * 32) (by rfl) ((Sl.mark Sl.a2).map Dg.b8) _ (Sl.mk1 (HS.out.keep h)) Tryd.underlying23 rfl (Sl.infoDm _ (Sl.mark_len _))⟩) s0 ?_
  rw [d16]
  simp only [Act.put, List.setIfInBounds_toArray, List.set_cons_zero, List.set_cons_succ]
  refine wpAnyT_take (i := 17) (v := .slice (some ⟨b, off, none⟩) 2 c) [17, 18, 19, 20, 21, 22, 23, 24, 25, 26, 27, 28, 29, 30, 31, 32, 33, 34, 35, 36, 37, 38, 39, 40, 41, 42, 43, 44, 45] h17 HNS (by rw [hops]; kernel_rfl) (by rw [hops]; kernel_rfl) (by rw [hops]; kernel_rfl) (fun _ _ _ => NormalOnly.hQ _ _ _) (Or.inl ⟨(wanted_some g17 h12 d12 (by rfl)), fun w' _ => by unfold execOp; rw [p17]; first | rfl | kernel_rfl⟩) s0 ?_
  rw [d17]
  simp only [Act.put, List.setIfInBounds_toArray, List.set_cons_zero, List.set_cons_succ]
  refine wpAnyT_take (i := 18) (v := .pointer (some ⟨b, off + 1 * 5, none⟩)) [18, 19, 20, 21, 22, 23, 24, 25, 26, 27, 28, 29, 30, 31, 32, 33, 34, 35, 36, 37, 38, 39, 40, 41, 42, 43, 44, 45] h18 HNS (by rw [hops]; kernel_rfl) (by rw [hops]; kernel_rfl) (by rw [hops]; kernel_rfl) (fun _ _ _ => NormalOnly.hQ _ _ _) (Or.inl ⟨(wanted_some g18 h12 d12 (by rfl)), fun w' h => run_op_index_mid 28 _ _ p18 b off 2 c 1 (by rfl) (by rfl) (by decide) 43 5 Tryd.underlying28 Sl.info5⟩) s0 ?_
  rw [d18]
  simp only [Act.put, List.setIfInBounds_toArray, List.set_cons_zero, List.set_cons_succ]
  refine wpAnyT_take (i := 19) (v := .agg (⟨Sl.a2, A2, c2⟩ : Shr.C).cells.toArray) [19, 20, 21, 22, 23, 24, 25, 26, 27, 28, 29, 30, 31, 32, 33, 34, 35, 36, 37, 38, 39, 40, 41, 42, 43, 44, 45] h19 HNS (by rw [hops]; kernel_rfl) (by rw [hops]; kernel_rfl) (by rw [hops]; kernel_rfl) (fun _ _ _ => NormalOnly.hQ _ _ _) (Or.inl ⟨(wanted_some g19 h12 d12 (by rfl)), fun w' h => run_op_load_mid 43 _ p19 b (off + 1 * 5) (by rfl) (⟨Sl.a2, A2, c2⟩ : Shr.C).cells _ (Sl.shAt (HS.out.keep h) 1 (⟨Sl.a2, A2, c2⟩ : Shr.C) rfl) Tryd.underlying43 rfl Sl.info5⟩) s0 ?_
  rw [d19]
  simp only [Act.put, List.setIfInBounds_toArray, List.set_cons_zero, List.set_cons_succ]
  refine wpAnyT_one (by rw [hops]; kernel_rfl) h20 (wanted_some g20 h12 d12 (by rfl)) (fun K hK => ?_)
  refine wp_call1 29 _ _ (.agg (⟨Sl.a2, A2, c2⟩ : Shr.C).cells.toArray) p20 HE29.out (by rfl) ?_
  (refine (Sl.y29 (HS.out.keep s0)).mono ?_; rintro e w24 ⟨rfl, hb0⟩)
  have s1 : Below w23.heap.size w23 w24 := s0.trans (hb0.mono s0.size)
  clear hb0
  refine ⟨_, rfl, ?_⟩
  rw [d20]
  simp only [Act.put, List.setIfInBounds_toArray, List.set_cons_zero, List.set_cons_succ]
  refine hK.out _ _ (fun _ => s1) ?_
  clear hK K
  refine wpAnyT_take (i := 21) (v := .bool true) [21, 22, 23, 24, 25, 26, 27, 28, 29, 30, 31, 32, 33, 34, 35, 36, 37, 38, 39, 40, 41, 42, 43, 44, 45] h21 HNS (by rw [hops]; kernel_rfl) (by rw [hops]; kernel_rfl) (by rw [hops]; kernel_rfl) (fun _ _ _ => NormalOnly.hQ _ _ _) (Or.inl ⟨(wanted_some g21 h12 d12 (by rfl)), fun w' h => Sl.run_op_eql_agg 23 23 _ _ p21 _ _ _ (by rfl) (by rfl) (by kernel_rfl) (Sl.eqlD (Sl.mark Sl.a2) (Sl.mark_len _) w')⟩) s1 ?_
  rw [d21]
  simp only [Act.put, List.setIfInBounds_toArray, List.set_cons_zero, List.set_cons_succ]
  refine wpAnyT_take (i := 22) (v := .bool true) [22, 23, 24, 25, 26, 27, 28, 29, 30, 31, 32, 33, 34, 35, 36, 37, 38, 39, 40, 41, 42, 43, 44, 45] h22 HNS (by rw [hops]; kernel_rfl) (by rw [hops]; kernel_rfl) (by rw [hops]; kernel_rfl) (fun _ _ _ => NormalOnly.hQ _ _ _) (Or.inl ⟨(wanted_none g22), fun w' _ => by unfold execOp; rw [p22]; first | rfl | kernel_rfl⟩) s1 ?_
  rw [d22]
  simp only [Act.put, List.setIfInBounds_toArray, List.set_cons_zero, List.set_cons_succ]
  refine wpAnyT_take (i := 23) (v := .bool true) [23, 24, 25, 26, 27, 28, 29, 30, 31, 32, 33, 34, 35, 36, 37, 38, 39, 40, 41, 42, 43, 44, 45] h23 HNS (by rw [hops]; kernel_rfl) (by rw [hops]; kernel_rfl) (by rw [hops]; kernel_rfl) (fun _ _ _ => NormalOnly.hQ _ _ _) (Or.inl ⟨(wanted_none g23), fun w' _ => by unfold execOp; rw [p23]; first | rfl | kernel_rfl⟩) s1 ?_
  rw [d23]
  simp only [Act.put, List.setIfInBounds_toArray, List.set_cons_zero, List.set_cons_succ]
  refine wpAnyT_take (i := 24) (v := .pointer (some ⟨gA, 0, none⟩)) [24, 25, 28, 29, 30, 31, 32, 33, 34, 35, 36, 37, 38, 39, 40, 41, 42, 43, 44, 45] h24 HNS (by rw [hops]; kernel_rfl) (by rw [hops]; kernel_rfl) (by rw [hops]; kernel_rfl) (fun _ _ _ => NormalOnly.hQ _ _ _) (Or.inl ⟨(wanted_some g24 h23 d23 (by rfl)), fun w' _ => by unfold execOp; rw [p24]; first | rfl | kernel_rfl⟩) s1 ?_
  rw [d24]
  simp only [Act.put, List.setIfInBounds_toArray, List.set_cons_zero, List.set_cons_succ]
  refine wpAnyT_take (i := 25) (v := .agg ((Sl.com [1, 2]).map Dg.b8).toArray) [25, 28, 29, 30, 31, 32, 33, 34, 35, 36, 37, 38, 39, 40, 41, 42, 43, 44, 45] h25 HNS (by rw [hops]; kernel_rfl) (by rw [hops]; kernel_rfl) (by rw [hops]; kernel_rfl) (fun _ _ _ => NormalOnly.hQ _ _ _) (Or.inl ⟨(wanted_some g25 h23 d23 (by rfl)), fun w' h => run_op_load_mid 23 _ p25 gA 0 (by rfl) ((Sl.com [1, 2]).map Dg.b8) _ (Sl.cmAt (HS.out.keep h)) Tryd.underlying23 rfl (Sl.infoDm _ (Sl.com_len _))⟩) s1 ?_
  rw [d25]
  simp only [Act.put, List.setIfInBounds_toArray, List.set_cons_zero, List.set_cons_succ]
  refine wpAnyT_one (by rw [hops]; kernel_rfl) h26 (wanted_some g26 h23 d23 (by rfl)) (fun K hK => ?_)
  refine wp_runG (w' := w24.alloc (.cells #[.int .u8 1, .int .u8 2] 5)) (v := .slice (some ⟨w24.heap.size, 0, none⟩) 2 2) (by unfold execOp; rw [p26]; first | rfl | kernel_rfl) ?_
  have s2 : Below w23.heap.size w23 (w24.alloc (.cells #[.int .u8 1, .int .u8 2] 5)) := s1.alloc s1.size _
  have hn : RdB (w24.alloc (.cells #[.int .u8 1, .int .u8 2] 5)) (some ⟨w24.heap.size, 0, none⟩) 2 [1, 2] := RdB.new w24 5 [1, 2]
  rw [d26]
  simp only [Act.put, List.setIfInBounds_toArray, List.set_cons_zero, List.set_cons_succ]
  refine hK.out _ _ (fun _ => s2) ?_
  clear hK K
  refine wpAnyT_one (by rw [hops]; kernel_rfl) h27 (wanted_some g27 h23 d23 (by rfl)) (fun K hK => ?_)
  refine wp_call1 30 _ _ (.slice (some ⟨w24.heap.size, 0, none⟩) 2 2) p27 HE30.out (by rfl) ?_
  (refine (Sl.commit_ref _ 2 2 [1, 2] _ hn (fun e => by cases e) (by decide)).mono ?_; rintro e w25 ⟨rfl, hb0⟩)
  have s3 : Below w23.heap.size w23 w25 := s2.trans (hb0.mono s2.size)
  clear hb0 hn
  refine ⟨_, rfl, ?_⟩
  rw [d27]
  simp only [Act.put, List.setIfInBounds_toArray, List.set_cons_zero, List.set_cons_succ]
  refine hK.out _ _ (fun _ => s3) ?_
  clear hK K
  refine wpAnyT_take (i := 28) (v := .bool true) [28, 29, 30, 31, 32, 33, 34, 35, 36, 37, 38, 39, 40, 41, 42, 43, 44, 45] h28 HNS (by rw [hops]; kernel_rfl) (by rw [hops]; kernel_rfl) (by rw [hops]; kernel_rfl) (fun _ _ _ => NormalOnly.hQ _ _ _) (Or.inl ⟨(wanted_some g28 h23 d23 (by rfl)), fun w' h => Sl.run_op_eql_agg 23 23 _ _ p28 _ _ _ (by rfl) (by rfl) (by kernel_rfl) (Sl.eqlD (Sl.com [1, 2]) (Sl.com_len _) w')⟩) s3 ?_
  rw [d28]
  simp only [Act.put, List.setIfInBounds_toArray, List.set_cons_zero, List.set_cons_succ]
  refine wpAnyT_take (i := 29) (v := .bool true) [29, 30, 31, 32, 33, 34, 35, 36, 37, 38, 39, 40, 41, 42, 43, 44, 45] h29 HNS (by rw [hops]; kernel_rfl) (by rw [hops]; kernel_rfl) (by rw [hops]; kernel_rfl) (fun _ _ _ => NormalOnly.hQ _ _ _) (Or.inl ⟨(wanted_none g29), fun w' _ => by unfold execOp; rw [p29]; first | rfl | kernel_rfl⟩) s3 ?_
  rw [d29]
  simp only [Act.put, List.setIfInBounds_toArray, List.set_cons_zero, List.set_cons_succ]
  refine wpAnyT_take (i := 30) (v := .bool true) [30, 31, 32, 33, 34, 35, 36, 37, 38, 39, 40, 41, 42, 43, 44, 45] h30 HNS (by rw [hops]; kernel_rfl) (by rw [hops]; kernel_rfl) (by rw [hops]; kernel_rfl) (fun _ _ _ => NormalOnly.hQ _ _ _) (Or.inl ⟨(wanted_none g30), fun w' _ => by unfold execOp; rw [p30]; first | rfl | kernel_rfl⟩) s3 ?_
  rw [d30]
  simp only [Act.put, List.setIfInBounds_toArray, List.set_cons_zero, List.set_cons_succ]
  refine wpAnyT_take (i := 31) (v := .slice A9 1 c9) [31, 33, 34, 35, 36, 37, 38, 39, 40, 41, 42, 43, 44, 45] h31 HNS (by rw [hops]; kernel_rfl) (by rw [hops]; kernel_rfl) (by rw [hops]; kernel_rfl) (fun _ _ _ => NormalOnly.hQ _ _ _) (Or.inl ⟨(wanted_some g31 h30 d30 (by rfl)), fun w' _ => by unfold execOp; rw [p31]; first | rfl | kernel_rfl⟩) s3 ?_
  rw [d31]
  simp only [Act.put, List.setIfInBounds_toArray, List.set_cons_zero, List.set_cons_succ]
  refine wpAnyT_one (by rw [hops]; kernel_rfl) h32 (wanted_some g32 h30 d30 (by rfl)) (fun K hK => ?_)
  refine wp_runG (w' := w25.alloc (.cells #[.int .i64 0] 3)) (v := .slice (some ⟨w25.heap.size, 0, none⟩) 1 1) (by unfold execOp; rw [p32]; first | rfl | kernel_rfl) ?_
  have s4 : Below w23.heap.size w23 (w25.alloc (.cells #[.int .i64 0] 3)) := s3.alloc s3.size _
  have hn : Rd (w25.alloc (.cells #[.int .i64 0] 3)) (w25.alloc (.cells #[.int .i64 0] 3)).heap.size 1 (some ⟨w25.heap.size, 0, none⟩) 1 [.int .i64 0] := rd_new w25 3 1 [.int .i64 0] rfl
  rw [d32]
  simp only [Act.put, List.setIfInBounds_toArray, List.set_cons_zero, List.set_cons_succ]
  refine hK.out _ _ (fun _ => s4) ?_
  clear hK K
  refine wpAnyT_one (by rw [hops]; kernel_rfl) h33 (wanted_some g33 h30 d30 (by rfl)) (fun K hK => ?_)
  refine wp_call2 25 _ _ _ (.slice A9 1 c9) (.slice (some ⟨w25.heap.size, 0, none⟩) 1 1) p33 HE25.out (by rfl) (by rfl) ?_
  (refine (Sl.same13 A9 (some ⟨w25.heap.size, 0, none⟩) 1 c9 1 [0] _ (Sl.rdI_keep HRA.out s4) hn (by decide)).mono ?_; rintro e w26 ⟨rfl, hb0⟩)
  have s5 : Below w23.heap.size w23 w26 := s4.trans (hb0.mono s4.size)
  clear hb0 hn
  refine ⟨_, rfl, ?_⟩
  rw [d33]
  simp only [Act.put, List.setIfInBounds_toArray, List.set_cons_zero, List.set_cons_succ]
  refine hK.out _ _ (fun _ => s5) ?_
  clear hK K
  refine wpAnyT_take (i := 34) (v := .bool true) [34, 35, 36, 37, 38, 39, 40, 41, 42, 43, 44, 45] h34 HNS (by rw [hops]; kernel_rfl) (by rw [hops]; kernel_rfl) (by rw [hops]; kernel_rfl) (fun _ _ _ => NormalOnly.hQ _ _ _) (Or.inl ⟨(wanted_none g34), fun w' _ => by unfold execOp; rw [p34]; first | rfl | kernel_rfl⟩) s5 ?_
  rw [d34]
  simp only [Act.put, List.setIfInBounds_toArray, List.set_cons_zero, List.set_cons_succ]
  refine wpAnyT_take (i := 35) (v := .bool true) [35, 36, 37, 38, 39, 40, 41, 42, 43, 44, 45] h35 HNS (by rw [hops]; kernel_rfl) (by rw [hops]; kernel_rfl) (by rw [hops]; kernel_rfl) (fun _ _ _ => NormalOnly.hQ _ _ _) (Or.inl ⟨(wanted_none g35), fun w' _ => by unfold execOp; rw [p35]; first | rfl | kernel_rfl⟩) s5 ?_
  rw [d35]
  simp only [Act.put, List.setIfInBounds_toArray, List.set_cons_zero, List.set_cons_succ]
  refine wpAnyT_take (i := 36) (v := .slice A12 2 c12) [36, 37, 38, 39, 40, 41, 42, 43, 44, 45] h36 HNS (by rw [hops]; kernel_rfl) (by rw [hops]; kernel_rfl) (by rw [hops]; kernel_rfl) (fun _ _ _ => NormalOnly.hQ _ _ _) (Or.inl ⟨(wanted_some g36 h35 d35 (by rfl)), fun w' _ => by unfold execOp; rw [p36]; first | rfl | kernel_rfl⟩) s5 ?_
  rw [d36]
  simp only [Act.put, List.setIfInBounds_toArray, List.set_cons_zero, List.set_cons_succ]
  refine wpAnyT_take (i := 37) (v := .string ⟨#[1, 2]⟩) [37, 38, 39, 40, 41, 42, 43, 44, 45] h37 HNS (by rw [hops]; kernel_rfl) (by rw [hops]; kernel_rfl) (by rw [hops]; kernel_rfl) (fun _ _ _ => NormalOnly.hQ _ _ _) (Or.inl ⟨(wanted_some g37 h35 d35 (by rfl)), fun w' h => run_op_convR 24 9 _ p37 _ _ (by rfl) (RdB.str (P := Tryd.prog) (HRO.out.keep h) Tryd.underlying24 Tryd.underlying5 Tryd.underlying9 c12)⟩) s5 ?_
  rw [d37]
  simp only [Act.put, List.setIfInBounds_toArray, List.set_cons_zero, List.set_cons_succ]
  refine wpAnyT_take (i := 38) (v := .bool true) [38, 39, 40, 41, 42, 43, 44, 45] h38 HNS (by rw [hops]; kernel_rfl) (by rw [hops]; kernel_rfl) (by rw [hops]; kernel_rfl) (fun _ _ _ => NormalOnly.hQ _ _ _) (Or.inl ⟨(wanted_some g38 h35 d35 (by rfl)), fun w' _ => by unfold execOp; rw [p38]; first | rfl | kernel_rfl⟩) s5 ?_
  rw [d38]
  simp only [Act.put, List.setIfInBounds_toArray, List.set_cons_zero, List.set_cons_succ]
  refine wpAnyT_take (i := 39) (v := .bool true) [39, 40, 41, 42, 43, 44, 45] h39 HNS (by rw [hops]; kernel_rfl) (by rw [hops]; kernel_rfl) (by rw [hops]; kernel_rfl) (fun _ _ _ => NormalOnly.hQ _ _ _) (Or.inl ⟨(wanted_none g39), fun w' _ => by unfold execOp; rw [p39]; first | rfl | kernel_rfl⟩) s5 ?_
  rw [d39]
  simp only [Act.put, List.setIfInBounds_toArray, List.set_cons_zero, List.set_cons_succ]
  refine wpAnyT_take (i := 40) (v := .bool true) [40, 41, 42, 43, 44, 45] h40 HNS (by rw [hops]; kernel_rfl) (by rw [hops]; kernel_rfl) (by rw [hops]; kernel_rfl) (fun _ _ _ => NormalOnly.hQ _ _ _) (Or.inl ⟨(wanted_none g40), fun w' _ => by unfold execOp; rw [p40]; first | rfl | kernel_rfl⟩) s5 ?_
  rw [d40]
  simp only [Act.put, List.setIfInBounds_toArray, List.set_cons_zero, List.set_cons_succ]
  refine wpAnyT_take (i := 41) (v := .slice A14 0 c14) [41, 42, 43, 44, 45] h41 HNS (by rw [hops]; kernel_rfl) (by rw [hops]; kernel_rfl) (by rw [hops]; kernel_rfl) (fun _ _ _ => NormalOnly.hQ _ _ _) (Or.inl ⟨(wanted_some g41 h40 d40 (by rfl)), fun w' _ => by unfold execOp; rw [p41]; first | rfl | kernel_rfl⟩) s5 ?_
  rw [d41]
  simp only [Act.put, List.setIfInBounds_toArray, List.set_cons_zero, List.set_cons_succ]
  refine wpAnyT_take (i := 42) (v := .int .i64 0) [42, 43, 44, 45] h42 HNS (by rw [hops]; kernel_rfl) (by rw [hops]; kernel_rfl) (by rw [hops]; kernel_rfl) (fun _ _ _ => NormalOnly.hQ _ _ _) (Or.inl ⟨(wanted_some g42 h40 d40 (by rfl)), fun w' _ => by unfold execOp; rw [p42]; first | rfl | kernel_rfl⟩) s5 ?_
  rw [d42]
  simp only [Act.put, List.setIfInBounds_toArray, List.set_cons_zero, List.set_cons_succ]
  refine wpAnyT_take (i := 43) (v := .bool true) [43, 44, 45] h43 HNS (by rw [hops]; kernel_rfl) (by rw [hops]; kernel_rfl) (by rw [hops]; kernel_rfl) (fun _ _ _ => NormalOnly.hQ _ _ _) (Or.inl ⟨(wanted_some g43 h40 d40 (by rfl)), fun w' _ => by unfold execOp; rw [p43]; first | rfl | kernel_rfl⟩) s5 ?_
  rw [d43]
  simp only [Act.put, List.setIfInBounds_toArray, List.set_cons_zero, List.set_cons_succ]
  refine wpAnyT_take (i := 44) (v := .bool true) [44, 45] h44 HNS (by rw [hops]; kernel_rfl) (by rw [hops]; kernel_rfl) (by rw [hops]; kernel_rfl) (fun _ _ _ => NormalOnly.hQ _ _ _) (Or.inl ⟨(wanted_none g44), fun w' _ => by unfold execOp; rw [p44]; first | rfl | kernel_rfl⟩) s5 ?_
  rw [d44]
  simp only [Act.put, List.setIfInBounds_toArray, List.set_cons_zero, List.set_cons_succ]
  refine wpAnyT_take (i := 45) (v := .bool true) [45] h45 HNS (by rw [hops]; kernel_rfl) (by rw [hops]; kernel_rfl) (by rw [hops]; kernel_rfl) (fun _ _ _ => NormalOnly.hQ _ _ _) (Or.inl ⟨(wanted_none g45), fun w' _ => by unfold execOp; rw [p45]; first | rfl | kernel_rfl⟩) s5 ?_
  rw [d45]
  simp only [Act.put, List.setIfInBounds_toArray, List.set_cons_zero, List.set_cons_succ]
  refine wpAnyT_done (by rw [hops]; kernel_rfl) ⟨rfl, ?_⟩ _
  clear HNS hops h0 d0 p0 g0 h1 d1 p1 g1 h2 d2 p2 g2 h3 d3 p3 g3 h4 d4 p4 g4 h5 d5 p5 g5 h6 d6 p6 g6 h7 d7 p7 g7 h8 d8 p8 g8 h9 d9 p9 g9 h10 d10 p10 g10 h11 d11 p11 g11 h12 d12 p12 g12 h13 d13 p13 g13 h14 d14 p14 g14 h15 d15 p15 g15 h16 d16 p16 g16 h17 d17 p17 g17 h18 d18 p18 g18 h19 d19 p19 g19 h20 d20 p20 g20 h21 d21 p21 g21 h22 d22 p22 g22 h23 d23 p23 g23 h24 d24 p24 g24 h25 d25 p25 g25 h26 d26 p26 g26 h27 d27 p27 g27 h28 d28 p28 g28 h29 d29 p29 g29 h30 d30 p30 g30 h31 d31 p31 g31 h32 d32 p32 g32 h33 d33 p33 g33 h34 d34 p34 g34 h35 d35 p35 g35 h36 d36 p36 g36 h37 d37 p37 g37 h38 d38 p38 g38 h39 d39 p39 g39 h40 d40 p40 g40 h41 d41 p41 g41 h42 d42 p42 g42 h43 d43 p43 g43 h44 d44 p44 g44 h45 d45 p45 g45
  clear HE29 HE30 HE25 s0 s1 s2 s3 s4
  replace HB := Lib.hid (HB.out.trans (s5.mono HB.out.size))
  replace HS := Lib.hid (HS.out.keep s5)
  replace HRA := Lib.hid (Sl.rdI_keep HRA.out s5)
  replace HRO := Lib.hid (HRO.out.keep s5)
  replace HT := Lib.hid (HT.out.keep s5)
  replace HRK := Lib.hid (HRK.out.keep s5)
  replace HRC := Lib.hid (HRC.out.keep s5)
  clear s5
  have y32 := Sl.cs2 HT.out
  have k1 := (RdB.str (P := Tryd.prog) (Sl.rdB2 HT.out) Tryd.underlying24 Tryd.underlying5 Tryd.underlying9 cd2)
  have y5 : w26.cell? ⟨b2, off2 + 4, none⟩ = some (.slice B1 1 e1) := (Sl.shAt HT.out 0 (⟨Sl.b1, B1, e1⟩ : Shr.C) rfl) 4 _ rfl
  have k2 := (RdB.str (P := Tryd.prog) (Sl.rdX2 HT.out) Tryd.underlying24 Tryd.underlying5 Tryd.underlying9 e1)
  have k3 := (RdB.str (P := Tryd.prog) (HRK.out) Tryd.underlying24 Tryd.underlying5 Tryd.underlying9 c23)
  have k4 := (RdB.str (P := Tryd.prog) (HRC.out) Tryd.underlying24 Tryd.underlying5 Tryd.underlying9 c24)
  have HSm := Lib.hid (Sl.rowAt HS.out)
  have HIm := Lib.hid (show (Tryd.prog.info? 27).map (·.size) = some (Sl.row Sl.s1 Ad cd (some ⟨bm, om, none⟩) cA).length from by rw [Sl.row_len HS.out.ok.cl]; exact Sl.infoW)
  go_wp2_with (refine wpList_load_midG (op := ⟨some 241, _, _, _, _, _⟩) (by rfl) 27 (.tmp 1) rfl gA 0 rfl (Sl.row Sl.s1 Ad cd (some ⟨bm, om, none⟩) cA) _ HSm.out Tryd.underlying27 rfl HIm.out ?_)
  ((with_reducible refine (Sl.y13 w26 HS.out.ok.cl).mono ?_); rintro e w27 ⟨rfl, hb27⟩)
  clear HSm HIm
  replace HB := Lib.hid (HB.out.trans (hb27.mono HB.out.size))
  replace HS := Lib.hid (HS.out.keep hb27)
  replace HRA := Lib.hid (Sl.rdI_keep HRA.out hb27)
  replace HRO := Lib.hid (HRO.out.keep hb27)
  replace HT := Lib.hid (HT.out.keep hb27)
  replace HRK := Lib.hid (HRK.out.keep hb27)
  replace HRC := Lib.hid (HRC.out.keep hb27)
  clear hb27
  go_wp2_with fail
  ((refine (Sl.y14 w27).mono ?_); rintro e w28 ⟨rfl, hb28⟩)
  replace HB := Lib.hid (HB.out.trans (hb28.mono HB.out.size))
  replace HS := Lib.hid (HS.out.keep hb28)
  replace HRA := Lib.hid (Sl.rdI_keep HRA.out hb28)
  replace HRO := Lib.hid (HRO.out.keep hb28)
  replace HT := Lib.hid (HT.out.keep hb28)
  replace HRK := Lib.hid (HRK.out.keep hb28)
  replace HRC := Lib.hid (HRC.out.keep hb28)
  clear hb28
  go_wp2_with fail
  go_ret
  exact ⟨rfl, HB.out⟩
end Go.Proofs.YtideglpjgplpnaaDoor
