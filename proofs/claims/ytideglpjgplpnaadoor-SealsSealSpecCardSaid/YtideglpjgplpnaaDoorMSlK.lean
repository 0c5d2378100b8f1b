import Derived.Test.YtideglpjgplpnaaDoorMSlS1
import Derived.Test.YtideglpjgplpnaaDoorMSlF
import Derived.Test.YtideglpjgplpnaaDoorMShR1
/- Run equations of comparisons; what Open's answer says. -/
namespace Go.Proofs.YtideglpjgplpnaaDoor
open Go.RowKit Go.Shelf
set_option linter.unusedVariables false
set_option linter.unusedSimpArgs false

theorem Sl.run_op_eql_str {P : Program} {o : Oper} {a : Act} {w : World} (t t2 : TypeId) (x y : Operand) (ho : o.op = .binOp .eql t x y t2) (l : List UInt8) (hx : a.eval x = .string ⟨l.toArray⟩) (hy : a.eval y = .string ⟨l.toArray⟩) : (execOp a.eval o).run P w = .ok (.value (.bool true)) w := by
  unfold execOp
  simp only [ho, hx, hy]
  simp [eqGuard, Sem.run_bind, go_sem, Result.andThen]
theorem Sl.run_op_eql_int {P : Program} {o : Oper} {a : Act} {w : World} (t t2 : TypeId) (x y : Operand) (ho : o.op = .binOp .eql t x y t2) (n : Int) (hx : a.eval x = .int .i64 n) (hy : a.eval y = .int .i64 n) : (execOp a.eval o).run P w = .ok (.value (.bool true)) w := by
  unfold execOp
  simp only [ho, hx, hy]
  simp [eqGuard, Sem.run_bind, go_sem, Result.andThen]
/-- what a body that was opened satisfies -/
theorem Sl.opn_yes {s : Sl.W} {l : List Shr.S} (h : Sl.opnE s l = 0) : Sl.chk s = 0 ∧ Sl.altV s l = [] ∧ (Sl.opnV s l).length = s.d.length ∧ Sl.com (Sl.opnV s l) = s.cm := by
  have hv : Sl.opnV s l = Sl.xorl s.d (Shr.joinV l) := by unfold Sl.opnV; rw [h, if_pos rfl]
  unfold Sl.opnE at h
  by_cases h1 : Sl.chk s = 0
  · rw [if_neg (by rw [h1]; simp)] at h
    by_cases h2 : Sl.alt s l = []
    · rw [if_neg (by rw [h2]; simp)] at h
      by_cases h3 : Shr.joinE l = 0
      · rw [if_neg (by rw [h3]; simp)] at h
        by_cases h4 : l[0]!.d.length = s.d.length
        · rw [if_neg (by rw [h4]; simp)] at h
          by_cases h5 : Sl.com (Sl.xorl s.d (Shr.joinV l)) = s.cm
          · rw [hv]
            exact ⟨h1, by unfold Sl.altV; rw [if_pos h1, h2], Sl.xorl_len _ _, h5⟩
          · rw [if_pos h5] at h; cases h
        · rw [if_pos h4] at h; cases h
      · rw [if_pos h3] at h; exact absurd h h3
    · rw [if_pos h2] at h; cases h
  · rw [if_pos h1] at h; exact absurd h h1
theorem Sl.open_nd {P : Program} {f : FuncId} {args : Array Value} {w : World} {V : List UInt8} {nd : Nat} (h : Calls P f args w (Sl.RetO w V 0)) (hl : V.length = nd) : Calls P f args w fun e w' => ∃ A c, e = .returned (.tuple #[.slice A nd c, .int .i64 0]) ∧ (A = none → c = 0) ∧ RdB w' A nd V ∧ Below w.heap.size w w' := by
  subst hl
  exact h
theorem Sl.tag_cm (w : World) (A : Option Addr) (n c : Nat) (V cm : List UInt8) (hr : RdB w A n V) (hq : A = none → c = 0) (hn : n ≤ 1000000) (hG : Dg.G w Rc.K0 Rc.I0) (he : Sl.com V = cm) :
    Calls Tryd.prog 15 #[.string ⟨Sl.tgC.toArray⟩, .slice A n c] w fun e w' => e = .returned (.agg (cm.map Dg.b8).toArray) ∧ Below w.heap.size w w' := by
  have h := Dg.tagged_any w Sl.tgC A n c V Rc.K0 Rc.I0 hr hq (by omega) (by decide) hG
  rw [show Dg.tagged Rc.K0 Rc.I0 Sl.tgC V = Sl.com V from rfl, he] at h
  exact h
theorem Sl.rowAtH {W : World} {g : Nat} {s : Sl.W} {Ad : Option Addr} {cd : Nat} {Am : Option Addr} {cA : Nat} (h : Has W g 27 (Sl.row s Ad cd Am cA)) : W.rangeAt g 0 (s.cm.map Dg.b8) := by
  intro j v hj
  rw [Nat.zero_add, h.cell j]
  unfold Sl.row
  rw [List.getElem?_append_left (List.getElem?_eq_some_iff.1 hj).1]
  exact hj
/-- the arguments of a law about a sealed body and shares, few of them -/
structure Sl.Arg (w : World) (s : Sl.W) (Ad : Option Addr) (cd : Nat) (Am : Option Addr) (cA : Nat) (A : Option Addr) (n c : Nat) (xs : List Shr.C) : Prop where
  s : Sl.Ok s w Ad cd Am cA
  r : Shr.Rds w A n xs
  g : ∀ x ∈ xs, Sl.rg x.s
  nc : n ≤ c
  cm : c ≤ maxLen
  nil : A = none → c = 0
  k : Dg.G w Rc.K0 Rc.I0
theorem Sl.Arg.rdy {w W : World} {s : Sl.W} {Ad : Option Addr} {cd : Nat} {Am : Option Addr} {cA : Nat} {A : Option Addr} {n c : Nat} {xs : List Shr.C} (h : Sl.Arg w s Ad cd Am cA A n c xs) (hf : Shr.fewB (Shr.vals xs) = true) (hb : Below w.heap.size w W) {A' : Option Addr} {n' : Nat} (hr : Shr.Rds W A' n' xs) : Sl.Rdy W A' n' xs s Ad cd Am cA := by
  obtain ⟨h1, h2⟩ := Shr.fewB_yes _ hf
  have hl := h.r.len
  have hl' := hr.len
  rw [Shr.vals_len, hl] at h2
  refine ⟨hr, h.g, by omega, fun x hx => ?_, h.s.keep hb, h.k.keep hb⟩
  obtain ⟨i, hi, rfl⟩ := List.mem_iff_getElem.1 hx
  have h3 := h1 i (by rw [Shr.vals_len]; exact hi)
  rw [Shr.vals_at xs i hi, getElem!_pos xs i hi] at h3
  omega
theorem Sl.Arg.few {w : World} {s : Sl.W} {Ad : Option Addr} {cd : Nat} {Am : Option Addr} {cA : Nat} {A : Option Addr} {n c : Nat} {xs : List Shr.C} (h : Sl.Arg w s Ad cd Am cA A n c xs) (hf : Shr.fewB (Shr.vals xs) = true) : n ≤ 10 := by
  have h2 := (Shr.fewB_yes _ hf).2
  rw [Shr.vals_len, h.r.len] at h2
  exact h2
theorem Sl.ones (xs : List Shr.C) : ∀ u ∈ xs.flatMap Shr.C.cells, u.oneCell' = true := by
  intro u hu
  obtain ⟨x, _, hx⟩ := List.mem_flatMap.1 hu
  simp only [Shr.C.cells, List.mem_cons, List.not_mem_nil, or_false] at hx
  rcases hx with rfl | rfl | rfl | rfl | rfl <;> rfl
end Go.Proofs.YtideglpjgplpnaaDoor
