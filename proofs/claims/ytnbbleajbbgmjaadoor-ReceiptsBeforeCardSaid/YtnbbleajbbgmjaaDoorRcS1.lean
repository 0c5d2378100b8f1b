/- law51.sane returns true. -/
import Derived.Test.YtnbbleajbbgmjaaDoorRcW9
namespace Go.Proofs.YtnbbleajbbgmjaaDoor
open Go.RowKit
set_option linter.unusedVariables false

/-- the chapter's example of a submission -/
def Rc.one : Rc.Sb := ⟨0, 0, 0, [1, 0]⟩
theorem list32 {α : Type} (l : List α) (h : l.length = 32) : ∃ x0 x1 x2 x3 x4 x5 x6 x7 x8 x9 x10 x11 x12 x13 x14 x15 x16 x17 x18 x19 x20 x21 x22 x23 x24 x25 x26 x27 x28 x29 x30 x31, l = [x0, x1, x2, x3, x4, x5, x6, x7, x8, x9, x10, x11, x12, x13, x14, x15, x16, x17, x18, x19, x20, x21, x22, x23, x24, x25, x26, x27, x28, x29, x30, x31] := by
  rcases l with _ | ⟨x0, _ | ⟨x1, _ | ⟨x2, _ | ⟨x3, _ | ⟨x4, _ | ⟨x5, _ | ⟨x6, _ | ⟨x7, _ | ⟨x8, _ | ⟨x9, _ | ⟨x10, _ | ⟨x11, _ | ⟨x12, _ | ⟨x13, _ | ⟨x14, _ | ⟨x15, _ | ⟨x16, _ | ⟨x17, _ | ⟨x18, _ | ⟨x19, _ | ⟨x20, _ | ⟨x21, _ | ⟨x22, _ | ⟨x23, _ | ⟨x24, _ | ⟨x25, _ | ⟨x26, _ | ⟨x27, _ | ⟨x28, _ | ⟨x29, _ | ⟨x30, _ | ⟨x31, _ | ⟨x32, l⟩⟩⟩⟩⟩⟩⟩⟩⟩⟩⟩⟩⟩⟩⟩⟩⟩⟩⟩⟩⟩⟩⟩⟩⟩⟩⟩⟩⟩⟩⟩⟩⟩ <;> first | (exfalso; simp at h; done) | (exfalso; simp at h; omega) | exact ⟨x0, x1, x2, x3, x4, x5, x6, x7, x8, x9, x10, x11, x12, x13, x14, x15, x16, x17, x18, x19, x20, x21, x22, x23, x24, x25, x26, x27, x28, x29, x30, x31, rfl⟩

theorem wpList_buildR {P : Program} {ops : Array Oper} {rest : List Oper} {o : Oper} {a : Act} {w : World} {Q : Exit → Act → World → Prop} (hg : o.guard = none) (t : TypeId) (parts : Array (Nat × Operand)) (ho : o.op = .build t parts) (vs : List (Nat × Value)) (hv : parts.toList.map (fun p => (p.1, a.eval p.2)) = vs) (v : Value) (w' : World)
    (hr : (Instr.build t vs.toArray).run P w = .ok v w') (h : wpList P ops Q rest (a.put o.dst v) w') : wpList P ops Q (o :: rest) a w :=
  wpList_plain hg fun _ hK => by
    have hv' : (parts.map fun (i, x) => (i, a.eval x)) = vs.toArray := by rw [← hv]; apply Array.ext'; simp
    unfold Oper.wp execOp
    simp only [ho, hv', Sem.run_bind, hr, Result.andThen_ok]
    exact hK _ _ h
theorem wpList_buildSliceR {P : Program} {ops : Array Oper} {rest : List Oper} {o : Oper} {a : Act} {w : World} {Q : Exit → Act → World → Prop} (hg : o.guard = none) (t : TypeId) (len : Nat) (parts : Array (Nat × Operand)) (ho : o.op = .buildSlice t len parts) (vs : List (Nat × Value)) (hv : parts.toList.map (fun p => (p.1, a.eval p.2)) = vs) (v : Value) (w' : World)
    (hr : (Instr.buildSlice t len vs.toArray).run P w = .ok v w') (h : wpList P ops Q rest (a.put o.dst v) w') : wpList P ops Q (o :: rest) a w :=
  wpList_plain hg fun _ hK => by
    have hv' : (parts.map fun (i, x) => (i, a.eval x)) = vs.toArray := by rw [← hv]; apply Array.ext'; simp
    unfold Oper.wp execOp
    simp only [ho, hv', Sem.run_bind, hr, Result.andThen_ok]
    exact hK _ _ h
/-- a receipt's cells, of a digest's cells -/
def Rc.rw (rf st : Int) (dc : List Value) : List Value := Rc.i rf :: Rc.i 0 :: Rc.i st :: dc
theorem Rc.bld (rf st : Int) (dc : List Value) (h : dc.length = 32) (W : World) : (Instr.build 47 #[(0, .int .i64 rf), (2, .int .i64 st), (3, .agg dc.toArray)]).run Tryd.prog W = .ok (.agg (Rc.rw rf st dc).toArray) W := by
  obtain ⟨x0, x1, x2, x3, x4, x5, x6, x7, x8, x9, x10, x11, x12, x13, x14, x15, x16, x17, x18, x19, x20, x21, x22, x23, x24, x25, x26, x27, x28, x29, x30, x31, rfl⟩ := list32 dc h
  exact run_build W _ _ _ (by kernel_rfl)
theorem Rc.bld0 (st : Int) (dc : List Value) (h : dc.length = 32) (W : World) : (Instr.build 47 #[(2, .int .i64 st), (3, .agg dc.toArray)]).run Tryd.prog W = .ok (.agg (Rc.rw 0 st dc).toArray) W := by
  obtain ⟨x0, x1, x2, x3, x4, x5, x6, x7, x8, x9, x10, x11, x12, x13, x14, x15, x16, x17, x18, x19, x20, x21, x22, x23, x24, x25, x26, x27, x28, x29, x30, x31, rfl⟩ := list32 dc h
  exact run_build W _ _ _ (by kernel_rfl)
theorem Rc.bs2 (rf st rf' st' : Int) (dc : List Value) (h : dc.length = 32) (W : World) : (Instr.buildSlice 24 2 #[(0, .agg (Rc.rw rf st dc).toArray), (1, .agg (Rc.rw rf' st' dc).toArray)]).run Tryd.prog W = .ok (.slice (some ⟨W.heap.size, 0, none⟩) 2 2) (W.alloc (.cells (Rc.rw rf st dc ++ Rc.rw rf' st' dc).toArray 47)) := by
  obtain ⟨x0, x1, x2, x3, x4, x5, x6, x7, x8, x9, x10, x11, x12, x13, x14, x15, x16, x17, x18, x19, x20, x21, x22, x23, x24, x25, x26, x27, x28, x29, x30, x31, rfl⟩ := list32 dc h
  kernel_rfl
theorem Rc.bs1 (rf st : Int) (dc : List Value) (h : dc.length = 32) (W : World) : (Instr.buildSlice 24 1 #[(0, .agg (Rc.rw rf st dc).toArray)]).run Tryd.prog W = .ok (.slice (some ⟨W.heap.size, 0, none⟩) 1 1) (W.alloc (.cells (Rc.rw rf st dc).toArray 47)) := by
  obtain ⟨x0, x1, x2, x3, x4, x5, x6, x7, x8, x9, x10, x11, x12, x13, x14, x15, x16, x17, x18, x19, x20, x21, x22, x23, x24, x25, x26, x27, x28, x29, x30, x31, rfl⟩ := list32 dc h
  kernel_rfl
end Go.Proofs.YtnbbleajbbgmjaaDoor
