/- Contracts of the deferred closure of codec.Decode. -/
import Derived.Recover
import Derived.Test.YtnhodcjbmloeeaaCdD3
namespace Go.Proofs.Ytnhodcjbmloeeaa
open Go.RowKit Go.Shelf
set_option linter.unusedVariables false

theorem Cd.catch_idle (p q : Addr) (w : World) :
    CallsD Try.prog 31 #[.pointer (some p), .pointer (some q)] .returning w fun e u' w' => e = .returned (.tuple #[]) ∧ u' = .returning ∧ w = w' := by
  refine callsD_of_wpS Try.func31 rfl fun c₀ cs hu => ?_
  apply wpS_seq
  apply wpS_region
  simp [wpOpsS, go_sem, recoverD, hu, Try.ntmps31, Exit.thenS]
  apply wpS_seq
  apply wpS_region
  have hnn : ∀ w, (binOp .neq 20 .nilIface .nilIface).run Try.prog w = .ok (.bool false) w := fun _ => by kernel_rfl
  simp [wpOpsS, go_sem, recoverD, hnn, Exit.thenS]
  refine wpS_cond (t := false) (by simp [Act.eval, Array.replicate]) ?_
  simp only [Bool.false_eq_true, if_false]
  refine wpS_of_wp (wp_skip ?_)
  cases c₀
  simp_all [bodyPostS, results, Try.results31]

/-- behind the closure: the value is put back to nothing, the error is set -/
theorem Cd.catch_boom (g h : Nat) (w : World) (v0 v1 v2 v3 x : Value) (h0 : Has w g 24 [v0, v1, v2, v3]) (h1 : Has w h 28 [x]) (hgh : g ≠ h) :
    CallsD Try.prog 31 #[.pointer (some ⟨g, 0, none⟩), .pointer (some ⟨h, 0, none⟩)] (.panicking Cd.boom) w fun e u' w' => e = .returned (.tuple #[]) ∧ u' = .panicking [{ v := .iface 28 (.int .i64 10), recovered := true }] ∧
      Has w' g 24 [.int .i64 0, .int .i64 0, .string ⟨#[]⟩, .slice none 0 0] ∧ Has w' h 28 [.int .i64 10] ∧ ∀ B, B ≤ g → B ≤ h → Below B w w' := by
  refine callsD_of_wpS Try.func31 rfl fun c₀ cs hu => ?_
  apply wpS_seq
  apply wpS_region
  have hu2 : c₀.mode = .panicking [{ v := .iface 28 (.int .i64 10), recovered := false }] := hu
  simp [wpOpsS, go_sem, recoverD, hu2, Try.ntmps31, Exit.thenS]
  apply wpS_seq
  apply wpS_region
  have hnn : ∀ w, (binOp .neq 20 (.iface 28 (.int .i64 10)) .nilIface).run Try.prog w = .ok (.bool true) w := fun _ => by kernel_rfl
  simp [wpOpsS, go_sem, recoverD, hnn, Exit.thenS]
  refine wpS_cond (t := true) (by simp [Act.eval, Array.replicate]) ?_
  simp only [if_true]
  refine wpS_of_wp ?_
  have H0 := Lib.hid h0
  have H1 := Lib.hid h1
  have q0 := h0.cell 0
  have q1 := h0.cell 1
  have q2 := h0.cell 2
  have q3 := h0.cell 3
  have f0 := h0.frozen 0
  have f1 := h0.frozen 1
  have f2 := h0.frozen 2
  have f3 := h0.frozen 3
  have x0 := h1.cell 0
  have y0 := h1.frozen 0
  have zg := h0.lt
  have zh := h1.lt
  simp only [List.getElem?_cons_succ, List.getElem?_cons_zero] at q0 q1 q2 q3 x0
  clear h0 h1 hnn hu
  have hta : ∀ w, (Instr.typeAssert (.iface 28 (.int .i64 10)) 20 28 false).run Try.prog w = .ok (.int .i64 10) w := fun _ => by kernel_rfl
  change Code.wp _ _ _ { tmps := #[.pointer (some ⟨g, 0, none⟩), .pointer (some ⟨h, 0, none⟩), .iface 28 (.int .i64 10), .iface 28 (.int .i64 10), .iface 28 (.int .i64 10), .bool true, undef, undef, undef], defers := [] } w
  go_region
  refine ⟨rfl, _, rfl, .tuple #[], by simp [results, Try.results31], rfl, rfl, ?_, ?_, fun B hg hh => ?_⟩
  · exact (((((H0.out.set 0 _).set 1 _).set 2 _).set 3 _).far hgh _).drew
  · exact (((((H1.out.far (p := ⟨g, 0, none⟩) (Ne.symm hgh) _).far (p := ⟨g, 1, none⟩) (Ne.symm hgh) _).far (p := ⟨g, 2, none⟩) (Ne.symm hgh) _).far (p := ⟨g, 3, none⟩) (Ne.symm hgh) _).set 0 _).drew
  · exact ((((((Below.refl B w).setCell hg _).setCell hg _).setCell hg _).setCell hg _).setCell hh _).drew

/-- what Decode hands back -/
def Cd.dec (b : List UInt8) : Option Cd.T := match Cd.dv 16 b with | none => none | some (t, r) => if r = [] then some t else none
def Cd.RetD (w : World) (b : List UInt8) (e : Ending) (w' : World) : Prop := ∃ cs, e = .returned (.tuple #[.agg cs.toArray, .int .i64 (if (Cd.dec b).isSome then 0 else 10)]) ∧ Below w.heap.size w w' ∧ Cd.CellB w' w'.heap.size ((Cd.dec b).getD (.mk 0 0 [] [])) cs
end Go.Proofs.Ytnhodcjbmloeeaa
