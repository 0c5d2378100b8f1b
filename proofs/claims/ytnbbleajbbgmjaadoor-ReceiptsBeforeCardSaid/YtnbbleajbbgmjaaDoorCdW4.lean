/- Steps of regions that draw; contract of the writer of integers. -/
import Derived.Deep.RegionLaw
import Derived.Shelf.Abstract
import Derived.Test.YtnbbleajbbgmjaaDoorCdT
namespace Go.Proofs.YtnbbleajbbgmjaaDoor
open Go.RowKit Go.Shelf
set_option linter.unusedVariables false

section
variable {P : Program} {ops : Array Oper} {o : Oper} {a : Act} {w : World} {K : Act → World → Prop} {Q : Exit → Act → World → Prop} {F : Prop}
/-- a call of one argument that leaves memory as it was, as one step of a region that draws -/
theorem step_call1 {v : Value} (f : FuncId) (x : Operand) (tys : Array TypeId) (vx : Value) (hgd : o.guard = none)
    (ho : o.op = .call { callee := .value (.func f), args := #[x], argTypes := tys }) (heg : ∀ args w, (callFunc f args).run P w = .ok (.enter f args) w) (hx : a.eval x = vx) (hC : Calls P f #[vx] w fun e w' => e = .returned v ∧ w = w') (h : K (a.put o.dst v) w) :
    if Region.wanted o (yielded ops a.tmps) = true then Oper.wp P o a w K Q else F := by
  rw [if_pos (by simp [Region.wanted, hgd])]
  have hrun : (execOp a.eval o).run P w = .ok (.enter f #[vx]) w := by
    subst hx
    simp [execOp, ho, resolve, invoke, Act.eval, Deferred.ofValue, go_sem, heg]
  unfold Oper.wp
  rw [hrun, Oper.upon_enter]
  exact hC.mono fun e w' ⟨he, hw⟩ => by subst he hw; exact h
/-- a call of two arguments, as one step of a region that draws -/
theorem step_callR (R : Ending → World → Prop) (f : FuncId) (x y : Operand) (tys : Array TypeId) (vx vy : Value) (hgd : o.guard = none)
    (ho : o.op = .call { callee := .value (.func f), args := #[x, y], argTypes := tys }) (heg : ∀ args w, (callFunc f args).run P w = .ok (.enter f args) w) (hx : a.eval x = vx) (hy : a.eval y = vy) (hC : Calls P f #[vx, vy] w R)
    (hR : ∀ e w', R e w' → ∃ v, e = .returned v) (h : ∀ v w', R (.returned v) w' → K (a.put o.dst v) w') :
    if Region.wanted o (yielded ops a.tmps) = true then Oper.wp P o a w K Q else F := by
  rw [if_pos (by simp [Region.wanted, hgd])]
  have hrun : (execOp a.eval o).run P w = .ok (.enter f #[vx, vy]) w := by
    subst hx hy
    simp [execOp, ho, resolve, invoke, Act.eval, Deferred.ofValue, go_sem, heg]
  unfold Oper.wp
  rw [hrun, Oper.upon_enter]
  refine hC.mono fun e w' hr => ?_
  obtain ⟨v, rfl⟩ := hR e w' hr
  exact h v w' hr
end

set_option maxRecDepth 100000 in
set_option maxHeartbeats 2000000 in
theorem Cd.wInt_any (v : Value) (base : Nat) (k n : Int) (s : ByteArray) (A : Option Addr) (ln c : Nat) (xs : List UInt8) (w : World) (hown : w.ownsRow base 5 1 v xs.length (xs.map fun a => Value.int .u8 (a.toNat : Int))) (hbase : base ≤ w.heap.size) (hn : -9223372036854775808 ≤ n ∧ n ≤ 9223372036854775807) (hlen : xs.length ≤ 100000000) :
    Calls Tryd.prog 71 #[v, .agg #[.int .i64 k, .int .i64 n, .string s, .slice A ln c]] w (Cd.RetG w base v (xs ++ (1 :: Cd.num (Cd.uns n)))) := by
  have HO := Lib.hid hown
  have HN := Lib.hid hn
  have HUL := Lib.hid (Cd.uns_lt n hn)
  clear hown hn
  go_enter Tryd.func71, Tryd.ntmps71
  go_wp2_with fail
  obtain ⟨w0, hw0⟩ : ∃ w0, w0 = w.alloc (.cells #[.int .i64 k, .int .i64 n, .string s, .slice A ln c] 62) := ⟨_, rfl⟩
  have HB0 := Lib.hid (show Below w.heap.size w w0 by rw [hw0]; exact (Below.refl _ _).alloc (Nat.le_refl _) _)
  have HH0 := Lib.hid (show Has w0 w.heap.size 62 [.int .i64 k, .int .i64 n, .string s, .slice A ln c] by rw [hw0]; exact Has.new _ _ _)
  have HO0 := Lib.hid (own_below HO.out HB0.out)
  have hz0 : w0.heap.size = w.heap.size + 1 := by rw [hw0]; simp
  rw [← hw0]
  clear hw0
  have c1 := HH0.out.cell 1
  simp only [List.getElem?_cons_succ, List.getElem?_cons_zero] at c1
  have HEU := Lib.hid (enters_of Tryd.func73 (by kernel_rfl) rfl)
  have HEN := Lib.hid (enters_of Tryd.func72 (by kernel_rfl) rfl)
  have HUN := Lib.hid (Cd.unsigned_any n)
  have OW := Lib.hid (show ((w0.alloc (.cells #[.int .u8 1] 5)).drew).ownsRow base 5 1 v xs.length (xs.map fun a => Value.int .u8 (a.toNat : Int)) from own_drew (HO0.out.alloc _))
  have SR := Lib.hid (show Rd ((w0.alloc (.cells #[.int .u8 1] 5)).drew) (w0.heap.size + 1) 1 (some ⟨w0.heap.size, 0, none⟩) 1 [.int .u8 1] by have h := rd_new w0 5 1 [.int .u8 1] rfl; rw [World.size_alloc] at h; exact h)
  have H1 := Lib.hid (show ∀ u ∈ [Value.int .u8 1], u.oneCell' = true by simp [Value.oneCell'])
  have H63 := Lib.hid (show xs.length + 1 ≤ maxLen by unfold maxLen; omega)
  have H64 := Lib.hid (show (xs.length + 1) * 1 ≤ 140737488355328 by omega)
  have HPB := Lib.hid (show Below w0.heap.size w0 ((w0.alloc (.cells #[.int .u8 1] 5)).drew) from ((Below.refl _ _).alloc (Nat.le_refl _) _).drew)
  have HBS := Lib.hid (show base ≤ ((w0.alloc (.cells #[.int .u8 1] 5)).drew).heap.size from Nat.le_trans (by omega) HPB.out.size)
  have HGW := Lib.hid (show ∀ v4 w4, Grew ((w0.alloc (.cells #[.int .u8 1] 5)).drew) base 5 1 v (xs.length + 1) ((xs.map fun a => Value.int .u8 (a.toNat : Int)) ++ [.int .u8 1]) v4 w4 → Grw w0 base v (xs.length + 1) (xs ++ [1]) v4 w4 from fun v4 w4 hG =>
    Grw.pre HPB.out (Grw.of hG (by rw [List.map_append (l₂ := [1])]; rfl)))
  have HNU := Lib.hid (show ∀ v4 w4, Grw w0 base v (xs.length + 1) (xs ++ [1]) v4 w4 → Calls Tryd.prog 72 #[v4, .int .u64 (Cd.uns n)] w4 (Cd.RetG w4 base v4 ((xs ++ [1]) ++ Cd.num (Cd.uns n))) from fun v4 w4 hG =>
    Cd.numeral_any v4 base (Cd.uns n) (xs ++ [1]) w4 (by have h := hG.own; rw [show (xs ++ [(1 : UInt8)]).length = xs.length + 1 by simp]; exact h) (by have := hG.grown.size; omega) HUL.out (by simp; omega))
  have HCL := Lib.hid (show ∀ v4 w4, Grw w0 base v (xs.length + 1) (xs ++ [1]) v4 w4 → w4.cell? ⟨w.heap.size, 1, none⟩ = some (.int .i64 n) from fun v4 w4 hG => by
    have h := (HH0.out.grown hG.grown (fun e => by have := (HO.out.lt _ e).2; omega)).cell 1
    simpa using h)
  have HSZ := Lib.hid (show ∀ v4 w4, Grw w0 base v (xs.length + 1) (xs ++ [1]) v4 w4 → w.heap.size < w4.heap.size from fun v4 w4 hG => by have := hG.grown.size; omega)
  obtain ⟨un, hun⟩ : ∃ un, Cd.uns n = un := ⟨_, rfl⟩
  rw [hun] at HUN HNU
  have HEQ := Lib.hid hun
  clear hun
  have c1a := (HH0.out.alloc (.cells #[.int .u8 1] 5)).cell 1
  simp only [List.getElem?_cons_succ, List.getElem?_cons_zero] at c1a
  have z0 := HH0.out.lt
  clear hz0
  go_region_law (first
    | (refine step_append_rd (by rfl) (.tmp 5) (.tmp 6) (by rfl) el27 (by rfl) OW.out (by rfl) SR.out H1.out (fun h => by (cases h)) H63.out H64.out HBS.out ?_; intro v4 w4 hG4; have HG4 := Lib.hid (HGW.out v4 w4 hG4); have c14 := HCL.out v4 w4 HG4.out; have z14 := HSZ.out v4 w4 HG4.out; clear hG4)
    | (refine step_call1 73 (.tmp 9) _ (.int .i64 n) (by rfl) (by rfl) HEU.out (by rfl) (HUN.out _ HN.out) ?_)
    | (refine step_callR _ 72 (.tmp 7) (.tmp 10) _ v4 (.int .u64 (un : Int)) (by rfl) (by rfl) HEN.out (by rfl) (by rfl) (HNU.out v4 w4 HG4.out) (fun e w' h => by obtain ⟨v', e', _⟩ := h; exact ⟨v', e'⟩) ?_; intro v5 w5 hR5))
  all_goals (
    have HG6 := Lib.hid (show Grw w base v (xs ++ (1 :: Cd.num un)).length (xs ++ (1 :: Cd.num un)) v5 w5 by
      obtain ⟨v6, e6, hG6⟩ := hR5
      injection e6 with e6
      subst e6
      rw [show xs ++ (1 :: Cd.num un) = (xs ++ [1]) ++ Cd.num un by simp]
      exact Grw.pre HB0.out (HG4.out.trans hG6))
    clear hR5 c14 z14
    go_wp2_with fail
    go_ret
    exact ⟨_, rfl, by rw [HEQ.out]; exact HG6.out⟩)
end Go.Proofs.YtnbbleajbbgmjaaDoor
