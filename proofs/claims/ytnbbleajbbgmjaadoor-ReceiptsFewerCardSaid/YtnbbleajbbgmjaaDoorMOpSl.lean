import Derived.Deep.MidRow
import Derived.Test.YtnbbleajbbgmjaaDoorMUtil
/- Run equations of a slice cut, by the operation's own text. -/
namespace Go.Proofs.YtnbbleajbbgmjaaDoor
open Go.RowKit
set_option linter.unusedVariables false

theorem run_op_slice_to {P : Program} {o : Oper} {a : Act} {w : World} (ty : TypeId) (x y : Operand) (ho : o.op = .slice ty x none (some y) none)
    (A : Addr) (n c i : Nat) (hx : a.eval x = .slice (some A) n c) (hy : a.eval y = .int .i64 (i : Int)) (hic : i ≤ c) (el : TypeId) (sz : Nat)
    (hu : P.underlying ty = some (.slice el)) (hz : (P.info? el).map (·.size) = some sz) : (execOp a.eval o).run P w = .ok (.value (.slice (some A) i c)) w := by
  cases hq : P.info? el with
  | none => simp [hq] at hz
  | some inf =>
    have hs : inf.size = sz := by simpa [hq] using hz
    have hsz : (sizeOf el).run P w = .ok sz w := by simp [sizeOf, typeInfo, Sem.run_bind, hq, hs]
    have hru := run_underlying hu w
    have h1 : (0 : Int) ≤ (i : Int) ∧ (i : Int) ≤ (c : Int) := ⟨by omega, by omega⟩
    simp only [execOp, ho, hx, hy, Option.map_none, Option.map_some]
    simp [Instr.sliceAt, Instr.slice, Instr.sliceBounds, Sem.run_bind, hru, go_sem, hsz, Result.andThen, h1]
theorem run_op_slice_from {P : Program} {o : Oper} {a : Act} {w : World} (ty : TypeId) (x y : Operand) (ho : o.op = .slice ty x (some y) none none)
    (A : Addr) (n c i : Nat) (hx : a.eval x = .slice (some A) n c) (hy : a.eval y = .int .i64 (i : Int)) (hin : i ≤ n) (hnc : n ≤ c) (el : TypeId) (sz : Nat)
    (hu : P.underlying ty = some (.slice el)) (hz : (P.info? el).map (·.size) = some sz) : (execOp a.eval o).run P w = .ok (.value (.slice (some (if c = i then A else A.add (i * sz))) (n - i) (c - i))) w := by
  cases hq : P.info? el with
  | none => simp [hq] at hz
  | some inf =>
    have hs : inf.size = sz := by simpa [hq] using hz
    have hsz : (sizeOf el).run P w = .ok sz w := by simp [sizeOf, typeInfo, Sem.run_bind, hq, hs]
    have hru := run_underlying hu w
    have h1 : (0 : Int) ≤ (i : Int) ∧ (i : Int) ≤ (n : Int) := ⟨by omega, by omega⟩
    simp only [execOp, ho, hx, hy, Option.map_none, Option.map_some]
    by_cases hci : c = i
    · simp [Instr.sliceAt, Instr.slice, Instr.sliceBounds, Sem.run_bind, hru, go_sem, hsz, Result.andThen, h1, hci]
    · simp [Instr.sliceAt, Instr.slice, Instr.sliceBounds, Sem.run_bind, hru, go_sem, hsz, Result.andThen, h1, hci]
end Go.Proofs.YtnbbleajbbgmjaaDoor
