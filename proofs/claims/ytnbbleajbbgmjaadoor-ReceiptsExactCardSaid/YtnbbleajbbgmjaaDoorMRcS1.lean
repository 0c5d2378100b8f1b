import Derived.Test.YtnbbleajbbgmjaaDoorMRcW9
/- law51.sane returns true. -/
namespace Go.Proofs.YtnbbleajbbgmjaaDoor
open Go.RowKit
set_option linter.unusedVariables false

/-- the chapter's example of a submission -/
def Rc.one : Rc.Sb := ⟨0, 0, 0, [1, 0]⟩
theorem list32 {α : Type} (l : List α) (h : l.length = 32) : ∃ x0 x1 x2 x3 x4 x5 x6 x7 x8 x9 x10 x11 x12 x13 x14 x15 x16 x17 x18 x19 x20 x21 x22 x23 x24 x25 x26 x27 x28 x29 x30 x31, l = [x0, x1, x2, x3, x4, x5, x6, x7, x8, x9, x10, x11, x12, x13, x14, x15, x16, x17, x18, x19, x20, x21, x22, x23, x24, x25, x26, x27, x28, x29, x30, x31] := by
  rcases l with _ | ⟨x0, _ | ⟨x1, _ | ⟨x2, _ | ⟨x3, _ | ⟨x4, _ | ⟨x5, _ | ⟨x6, _ | ⟨x7, _ | ⟨x8, _ | ⟨x9, _ | ⟨x10, _ | ⟨x11, _ | ⟨x12, _ | ⟨x13, _ | ⟨x14, _ | ⟨x15, _ | ⟨x16, _ | ⟨x17, _ | ⟨x18, _ | ⟨x19, _ | ⟨x20, _ | ⟨x21, _ | ⟨x22, _ | ⟨x23, _ | ⟨x24, _ | ⟨x25, _ | ⟨x26, _ | ⟨x27, _ | ⟨x28, _ | ⟨x29, _ | ⟨x30, _ | ⟨x31, _ | ⟨x32, l⟩⟩⟩⟩⟩⟩⟩⟩⟩⟩⟩⟩⟩⟩⟩⟩⟩⟩⟩⟩⟩⟩⟩⟩⟩⟩⟩⟩⟩⟩⟩⟩⟩ <;> first | (exfalso; simp at h; done) | (exfalso; simp at h; omega) | exact ⟨x0, x1, x2, x3, x4, x5, x6, x7, x8, x9, x10, x11, x12, x13, x14, x15, x16, x17, x18, x19, x20, x21, x22, x23, x24, x25, x26, x27, x28, x29, x30, x31, rfl⟩

theorem wpList_buildR {P : Program} {ops : Array Oper} {rest : List Oper} {o : Oper} {a : Act} {w : World} {Q : Exit → Act → World → Prop} (hg : o.guard = none) (t : TypeId) (parts : Array (Nat × Operand)) (ho : o.op = .build t parts) (vs : List (Nat × Value)) (hv : parts.toList.map (fun p => (p.1, a.eval p.2)) = vs) (v : Value) (w' : World)
    (hr : (Instr.build t vs.toArray).run P w = .ok v w') (h : wpList P ops Q rest (a.put o.dst v) w') : wpList P ops Q (o :: rest) a w :=
  wpList_plain hg fun _ hK => by
    have hv' : (parts.map fun (i, x) => (i, a.eval x)) = vs.toArray := by rw [← hv]; apply Array.ext'; simp
    unfold Oper.wp execOp
    simp only [ho, hv', Sem.run_bind, hr, Result.andThen_ok]
    exact hK _ _ h
theorem wpList_buildSliceR {P : Program} {ops : Array Oper} {rest : List Oper} {o : Oper} {a : Act} {w : World} {Q : Exit → Act → World → Prop} (hg : o.guard = none) (t : TypeId) (len : Nat) (parts : Array (Nat × Operand)) (ho : o.op = .buildSlice t len parts) (vs : List (Nat × Value)) (hv : parts.toList.map (fun p => (p.1, a.eval p.2)) = vs) (v : Value) (w' : World)
    (hr : (Instr.buildSlice t len vs.toArray).run P w = .ok v w') (h : wpList P ops Q rest (a.put o.dst v) w') : wpList P ops Q (o :: rest) a w :=
  wpList_plain hg fun _ hK => by
    have hv' : (parts.map fun (i, x) => (i, a.eval x)) = vs.toArray := by rw [← hv]; apply Array.ext'; simp
    unfold Oper.wp execOp
    simp only [ho, hv', Sem.run_bind, hr, Result.andThen_ok]
    exact hK _ _ h
/-- a receipt's cells, of a digest's cells -/
def Rc.rw (rf st : Int) (dc : List Value) : List Value := Rc.i rf :: Rc.i 0 :: Rc.i st :: dc
theorem Rc.bld (rf st : Int) (dc : List Value) (h : dc.length = 32) (W : World) : (Instr.build 47 #[(0, .int .i64 rf), (2, .int .i64 st), (3, .agg dc.toArray)]).run Tryd.prog W = .ok (.agg (Rc.rw rf st dc).toArray) W := by
  obtain ⟨x0, x1, x2, x3, x4, x5, x6, x7, x8, x9, x10, x11, x12, x13, x14, x15, x16, x17, x18, x19, x20, x21, x22, x23, x24, x25, x26, x27, x28, x29, x30, x31, rfl⟩ := list32 dc h
  exact run_build W _ _ _ (by kernel_rfl)
theorem Rc.bld0 (st : Int) (dc : List Value) (h : dc.length = 32) (W : World) : (Instr.build 47 #[(2, .int .i64 st), (3, .agg dc.toArray)]).run Tryd.prog W = .ok (.agg (Rc.rw 0 st dc).toArray) W := by
  obtain ⟨x0, x1, x2, x3, x4, x5, x6, x7, x8, x9, x10, x11, x12, x13, x14, x15, x16, x17, x18, x19, x20, x21, x22, x23, x24, x25, x26, x27, x28, x29, x30, x31, rfl⟩ := list32 dc h
  exact run_build W _ _ _ (by kernel_rfl)
theorem Rc.bs2 (rf st rf' st' : Int) (dc : List Value) (h : dc.length = 32) (W : World) : (Instr.buildSlice 24 2 #[(0, .agg (Rc.rw rf st dc).toArray), (1, .agg (Rc.rw rf' st' dc).toArray)]).run Tryd.prog W = .ok (.slice (some ⟨W.heap.size, 0, none⟩) 2 2) (W.alloc (.cells (Rc.rw rf st dc ++ Rc.rw rf' st' dc).toArray 47)) := by
  obtain ⟨x0, x1, x2, x3, x4, x5, x6, x7, x8, x9, x10, x11, x12, x13, x14, x15, x16, x17, x18, x19, x20, x21, x22, x23, x24, x25, x26, x27, x28, x29, x30, x31, rfl⟩ := list32 dc h
  kernel_rfl
theorem Rc.bs1 (rf st : Int) (dc : List Value) (h : dc.length = 32) (W : World) : (Instr.buildSlice 24 1 #[(0, .agg (Rc.rw rf st dc).toArray)]).run Tryd.prog W = .ok (.slice (some ⟨W.heap.size, 0, none⟩) 1 1) (W.alloc (.cells (Rc.rw rf st dc).toArray 47)) := by
  obtain ⟨x0, x1, x2, x3, x4, x5, x6, x7, x8, x9, x10, x11, x12, x13, x14, x15, x16, x17, x18, x19, x20, x21, x22, x23, x24, x25, x26, x27, x28, x29, x30, x31, rfl⟩ := list32 dc h
  kernel_rfl
end Go.Proofs.YtnbbleajbbgmjaaDoor
/- The chapter's examples: what the functions answer there; how they lie in memory. -/
namespace Go.Proofs.YtnbbleajbbgmjaaDoor
open Go.RowKit
set_option linter.unusedVariables false

def Rc.two : List Rc.C := [⟨0, 0, 0⟩, ⟨0, 2, 0⟩]
def Rc.lone : List Rc.C := [⟨0, 2, 0⟩]
theorem Rc.bad0 (K : List UInt32) (I : Dg.S) (D : List UInt8) (hD : D = Rc.one.dl K I) (st : Int) (l : List Rc.R) (n : Nat) (hn : 0 < n) (hs : Rc.inB st 1048577 = true) : Rc.badR K I n [Rc.one] (⟨0, 0, st, D⟩ :: l) 0 = false := by
  have hb : (Rc.one.dl K I == D) = true := by rw [hD]; simp
  show (!Rc.inB 0 n || (!Rc.inB 0 1 || (!Rc.inB st 1048577 || (false || (Rc.one.odd || !(Rc.one.dl K I == D)))))) = false
  have h0 : Rc.inB 0 n = true := by unfold Rc.inB; simp; omega
  rw [hb, hs, h0]
  rfl
theorem Rc.chk_two (K : List UInt32) (I : Dg.S) (D : List UInt8) (hD : D = Rc.one.dl K I) : Rc.chkE K I Rc.two [Rc.one] [⟨0, 0, 10, D⟩, ⟨1, 0, 13, D⟩] = 0 := by
  have hb : (Rc.one.dl K I == D) = true := by rw [hD]; simp
  have h1 : Rc.badR K I 2 [Rc.one] [⟨0, 0, 10, D⟩, ⟨1, 0, 13, D⟩] 0 = false := Rc.bad0 K I D hD 10 _ 2 (by omega) rfl
  have h2 : Rc.badR K I 2 [Rc.one] [⟨0, 0, 10, D⟩, ⟨1, 0, 13, D⟩] 1 = false := by
    show (!Rc.inB 1 2 || (!Rc.inB 0 1 || (!Rc.inB 13 1048577 || (Rc.late ⟨0, 0, 10, D⟩ ⟨1, 0, 13, D⟩ || (Rc.one.odd || !(Rc.one.dl K I == D)))))) = false
    rw [hb]
    rfl
  have h : Rc.wrong K I Rc.two [Rc.one] [⟨0, 0, 10, D⟩, ⟨1, 0, 13, D⟩] = false := by
    show (Rc.w1 2 1 2 || (Rc.pre (Rc.w2 Rc.two) 2 || (Rc.pre (Rc.w3 [Rc.one]) 1 || ((false || Rc.badR K I 2 [Rc.one] [⟨0, 0, 10, D⟩, ⟨1, 0, 13, D⟩] 0) || Rc.badR K I 2 [Rc.one] [⟨0, 0, 10, D⟩, ⟨1, 0, 13, D⟩] 1)))) = false
    rw [h1, h2]
    rfl
  unfold Rc.chkE
  rw [h]
  rfl
theorem Rc.chk_lone (K : List UInt32) (I : Dg.S) (D : List UInt8) (hD : D = Rc.one.dl K I) : Rc.chkE K I Rc.lone [Rc.one] [⟨0, 0, 1, D⟩] = 0 := by
  have h1 : Rc.badR K I 1 [Rc.one] [⟨0, 0, 1, D⟩] 0 = false := Rc.bad0 K I D hD 1 _ 1 (by omega) rfl
  have h : Rc.wrong K I Rc.lone [Rc.one] [⟨0, 0, 1, D⟩] = false := by
    show (Rc.w1 1 1 1 || (Rc.pre (Rc.w2 Rc.lone) 1 || (Rc.pre (Rc.w3 [Rc.one]) 1 || (false || Rc.badR K I 1 [Rc.one] [⟨0, 0, 1, D⟩] 0)))) = false
    rw [h1]
    rfl
  unfold Rc.chkE
  rw [h]
  rfl
theorem Rc.chk_nil (K : List UInt32) (I : Dg.S) : Rc.chkE K I [] [Rc.one] [] = 0 := by
  have h : Rc.wrong K I [] [Rc.one] [] = false := rfl
  unfold Rc.chkE
  rw [h]
  rfl
theorem Rc.chk_nil0 (K : List UInt32) (I : Dg.S) : Rc.chkE K I [] [] [] = 0 := by
  have h : Rc.wrong K I [] [] [] = false := rfl
  unfold Rc.chkE
  rw [h]
  rfl
theorem Rc.chk_twice (K : List UInt32) (I : Dg.S) (D : List UInt8) : Rc.chkE K I Rc.two [Rc.one] [⟨0, 0, 10, D⟩, ⟨0, 0, 10, D⟩] = 510 := by
  have h2 : Rc.badR K I 2 [Rc.one] [⟨0, 0, 10, D⟩, ⟨0, 0, 10, D⟩] 1 = true := by
    show (!Rc.inB 0 2 || (!Rc.inB 0 1 || (!Rc.inB 10 1048577 || (Rc.late ⟨0, 0, 10, D⟩ ⟨0, 0, 10, D⟩ || (Rc.one.odd || !(Rc.one.dl K I == D)))))) = true
    rfl
  have h : Rc.wrong K I Rc.two [Rc.one] [⟨0, 0, 10, D⟩, ⟨0, 0, 10, D⟩] = true := by
    show (Rc.w1 2 1 2 || (Rc.pre (Rc.w2 Rc.two) 2 || (Rc.pre (Rc.w3 [Rc.one]) 1 || ((false || Rc.badR K I 2 [Rc.one] [⟨0, 0, 10, D⟩, ⟨0, 0, 10, D⟩] 0) || Rc.badR K I 2 [Rc.one] [⟨0, 0, 10, D⟩, ⟨0, 0, 10, D⟩] 1)))) = true
    rw [h2, Bool.or_true, Bool.or_true, Bool.or_true, Bool.or_true]
  unfold Rc.chkE
  rw [h]
  rfl
theorem Rc.ofs_two (D : List UInt8) : Rc.ofs Rc.two [⟨0, 0, 10, D⟩, ⟨1, 0, 13, D⟩] 0 = [(0, 10, 10), (1, 11, 15)] := by kernel_rfl
theorem Rc.ofs_lone (D : List UInt8) : Rc.ofs Rc.lone [⟨0, 0, 1, D⟩] 0 = [(0, 0, 3)] := by kernel_rfl
theorem Rc.conf_two (K : List UInt32) (I : Dg.S) (D : List UInt8) (hD : D = Rc.one.dl K I) : Rc.confV (Rc.readE (Rc.chkE K I Rc.two [Rc.one] [⟨0, 0, 10, D⟩, ⟨1, 0, 13, D⟩]) (1 : Nat) 0) (Rc.ofs Rc.two [⟨0, 0, 10, D⟩, ⟨1, 0, 13, D⟩] 0) = .tuple #[.int .i64 0, .int .i64 1, .bool true, .int .i64 0] := by
  rw [Rc.chk_two K I D hD, Rc.ofs_two]; rfl
theorem Rc.when_two (K : List UInt32) (I : Dg.S) (D : List UInt8) (hD : D = Rc.one.dl K I) : Rc.whenV (Rc.readE (Rc.chkE K I Rc.two [Rc.one] [⟨0, 0, 10, D⟩, ⟨1, 0, 13, D⟩]) (1 : Nat) 0) (Rc.ofs Rc.two [⟨0, 0, 10, D⟩, ⟨1, 0, 13, D⟩] 0) = .tuple #[.agg #[.int .i64 0, .int .i64 0], .int .i64 511] := by
  rw [Rc.chk_two K I D hD, Rc.ofs_two]; rfl
theorem Rc.when_lone (K : List UInt32) (I : Dg.S) (D : List UInt8) (hD : D = Rc.one.dl K I) : Rc.whenV (Rc.readE (Rc.chkE K I Rc.lone [Rc.one] [⟨0, 0, 1, D⟩]) (1 : Nat) 0) (Rc.ofs Rc.lone [⟨0, 0, 1, D⟩] 0) = .tuple #[.agg #[.int .i64 0, .int .i64 3], .int .i64 0] := by
  rw [Rc.chk_lone K I D hD, Rc.ofs_lone]; rfl
theorem Rc.when_nil (K : List UInt32) (I : Dg.S) : Rc.whenV (Rc.readE (Rc.chkE K I [] [Rc.one] []) (1 : Nat) 0) (Rc.ofs [] [] 0) = .tuple #[.agg #[.int .i64 0, .int .i64 1048576], .int .i64 0] := by
  rw [Rc.chk_nil]; rfl
theorem Rc.when_nil1 (K : List UInt32) (I : Dg.S) : Rc.whenV (Rc.readE (Rc.chkE K I [] [Rc.one] []) (1 : Nat) 1) (Rc.ofs [] [] 1) = .tuple #[.agg #[.int .i64 0, .int .i64 0], .int .i64 1] := by
  rw [Rc.chk_nil]; rfl

theorem rd_has {W : World} {g off k n : Nat} {t : TypeId} {cs xs : List Value} (h : Has W g t cs) (hx : xs.length = n * k) (hc : ∀ j u, xs[j]? = some u → cs[off + j]? = some u) : Rd W W.heap.size k (some ⟨g, off, none⟩) n xs :=
  ⟨hx, fun _ => ⟨g, off, rfl, h.lt, fun j u hu => (h.cell (off + j)).trans (hc j u hu)⟩⟩
theorem Rc.clks_two {W : World} {g : Nat} {t : TypeId} (h : Has W g t [.int .i64 0, .int .i64 0, .int .i64 0, .int .i64 0, .int .i64 2, .int .i64 0]) : Rc.Clks W W.heap.size (some ⟨g, 0, none⟩) 2 Rc.two :=
  ⟨rfl, rd_has h rfl (fun j u hu => by rw [Nat.zero_add]; exact hu)⟩
theorem Rc.clks_lone {W : World} {g : Nat} {t : TypeId} (h : Has W g t [.int .i64 0, .int .i64 0, .int .i64 0, .int .i64 0, .int .i64 2, .int .i64 0]) : Rc.Clks W W.heap.size (some ⟨g, 3, none⟩) 1 Rc.lone :=
  ⟨rfl, rd_has h rfl (fun j u hu => by rw [Nat.add_comm]; exact hu)⟩
theorem Rc.clks_nil {W : World} : Rc.Clks W W.heap.size none 0 [] := ⟨rfl, Rd.none_⟩
theorem Rc.subs_nil {W : World} : Rc.Subs W W.heap.size none 0 [] := ⟨rfl, [], rfl, fun i s h => by simp at h, Rd.none_, fun _ h => by cases h⟩
theorem Rc.subs_one {W : World} {g g' : Nat} {t t' : TypeId} (h : Has W g t [.int .i64 0, .int .i64 0, .int .i64 0, .slice (some ⟨g', 0, none⟩) 2 2]) (h' : Has W g' t' [.int .i64 1, .int .i64 0]) : Rc.Subs W W.heap.size (some ⟨g, 0, none⟩) 1 [Rc.one] :=
  ⟨rfl, [[.int .i64 0, .int .i64 0, .int .i64 0, .slice (some ⟨g', 0, none⟩) 2 2]], rfl, fun i s hs => by
    cases i with
    | zero =>
      obtain rfl : Rc.one = s := by simpa using hs
      exact ⟨_, rfl, some ⟨g', 0, none⟩, 2, rfl, rd_has h' rfl (fun j u hu => by rw [Nat.zero_add]; exact hu), by decide⟩
    | succ i => simp at hs, rd_has h rfl (fun j u hu => by rw [Nat.zero_add]; exact hu), fun xs hx => by
      obtain rfl : xs = [.int .i64 0, .int .i64 0, .int .i64 0, .slice (some ⟨g', 0, none⟩) 2 2] := by simpa using hx
      rfl⟩
theorem Rc.rcs_nil {W : World} : Rc.Rcs W W.heap.size none 0 [] := ⟨rfl, (fun _ h => by cases h), Rd.none_⟩
theorem Rc.rcs_two {W : World} {g : Nat} {t : TypeId} {D : List UInt8} {dc : List Value} {a b c d : Int} (h : Has W g t (Rc.rw a b dc ++ Rc.rw c d dc)) (hdc : dc = D.map Dg.b8) (hD : D.length = 32) : Rc.Rcs W W.heap.size (some ⟨g, 0, none⟩) 2 [⟨a, 0, b, D⟩, ⟨c, 0, d, D⟩] := by
  have e : ([⟨a, 0, b, D⟩, ⟨c, 0, d, D⟩].map Rc.R.cells).flatten = Rc.rw a b dc ++ Rc.rw c d dc := by rw [hdc]; simp [Rc.R.cells, Rc.rw]
  refine ⟨rfl, fun r hr => ?_, ?_⟩
  · simp only [List.mem_cons, List.not_mem_nil, or_false] at hr
    rcases hr with rfl | rfl <;> exact hD
  · rw [e]
    exact rd_has h (by subst hdc; simp [Rc.rw, hD]) (fun j u hu => by rw [Nat.zero_add]; exact hu)
theorem Rc.rcs_one {W : World} {g : Nat} {t : TypeId} {D : List UInt8} {dc : List Value} {a b : Int} (h : Has W g t (Rc.rw a b dc)) (hdc : dc = D.map Dg.b8) (hD : D.length = 32) : Rc.Rcs W W.heap.size (some ⟨g, 0, none⟩) 1 [⟨a, 0, b, D⟩] := by
  have e : ([⟨a, 0, b, D⟩].map Rc.R.cells).flatten = Rc.rw a b dc := by rw [hdc]; simp [Rc.R.cells, Rc.rw]
  refine ⟨rfl, fun r hr => ?_, ?_⟩
  · simp only [List.mem_cons, List.not_mem_nil, or_false] at hr
    rcases hr with rfl
    exact hD
  · rw [e]
    exact rd_has h (by subst hdc; simp [Rc.rw, hD]) (fun j u hu => by rw [Nat.zero_add]; exact hu)
theorem Rc.set2C {W2 W4 : World} {u v : Value} (h : Below W2.heap.size W2 W4) : Below W2.heap.size W2 ((W4.setCell ⟨W2.heap.size + 1, 0, none⟩ u).setCell ⟨W2.heap.size + 1, 1, none⟩ v) :=
  (h.setCell (p := ⟨W2.heap.size + 1, 0, none⟩) (Nat.le_succ _) u).setCell (p := ⟨W2.heap.size + 1, 1, none⟩) (Nat.le_succ _) v
theorem run_op_buildR {P : Program} {o : Oper} {a : Act} {w : World} (t : TypeId) (parts : Array (Nat × Operand)) (ho : o.op = .build t parts) (vs : List (Nat × Value)) (hv : parts.toList.map (fun p => (p.1, a.eval p.2)) = vs) (v : Value) (w' : World)
    (hr : (Instr.build t vs.toArray).run P w = .ok v w') : (execOp a.eval o).run P w = .ok (.value v) w' := by
  have hv' : (parts.map fun (i, x) => (i, a.eval x)) = vs.toArray := by rw [← hv]; apply Array.ext'; simp
  unfold execOp
  simp only [ho, hv', Sem.run_bind, hr, Result.andThen_ok]
  rfl
theorem run_op_buildSliceR {P : Program} {o : Oper} {a : Act} {w : World} (t : TypeId) (len : Nat) (parts : Array (Nat × Operand)) (ho : o.op = .buildSlice t len parts) (vs : List (Nat × Value)) (hv : parts.toList.map (fun p => (p.1, a.eval p.2)) = vs) (v : Value) (w' : World)
    (hr : (Instr.buildSlice t len vs.toArray).run P w = .ok v w') : (execOp a.eval o).run P w = .ok (.value v) w' := by
  have hv' : (parts.map fun (i, x) => (i, a.eval x)) = vs.toArray := by rw [← hv]; apply Array.ext'; simp
  unfold execOp
  simp only [ho, hv', Sem.run_bind, hr, Result.andThen_ok]
  rfl
theorem run_op_load_row {P : Program} {o : Oper} {a : Act} {w : World} (ty : TypeId) (x : Operand) (ho : o.op = .load ty x)
    (g : Nat) (hx : a.eval x = .pointer (some ⟨g, 0, none⟩)) (t : TypeId) (cs : Array Value) (fr : Nat × Nat) (d : TypeDesc) (hg : w.heap[g]? = some (.cells cs t fr))
    (hu : P.underlying ty = some d) (hd : (match d with | .struct _ | .array _ _ => true | _ => false) = true) (hi : (P.info? ty).map (·.size) = some cs.size) : (execOp a.eval o).run P w = .ok (.value (.agg cs)) w := by
  simp [execOp, ho, hx, Instr.loadAt, Instr.sureAddr, run_loadVar_row w g t ty cs fr d hg hu hd hi, Result.andThen]
theorem step_run {P : Program} {ops : Array Oper} {o : Oper} {a : Act} {w : World} {K : Act → World → Prop} {Q : Exit → Act → World → Prop} {F : Prop} {v : Value} {w' : World} (hgd : o.guard = none) (hr : (execOp a.eval o).run P w = .ok (.value v) w') (h : K (a.put o.dst v) w') : if Region.wanted o (yielded ops a.tmps) = true then Oper.wp P o a w K Q else F := by
  rw [if_pos (by simp [Region.wanted, hgd])]
  unfold Oper.wp
  rw [hr]
  exact h
theorem step_runG {P : Program} {ops : Array Oper} {o : Oper} {a : Act} {w : World} {K : Act → World → Prop} {Q : Exit → Act → World → Prop} {F : Prop} {v : Value} {w' : World} (hgd : Region.wanted o (yielded ops a.tmps) = true) (hr : (execOp a.eval o).run P w = .ok (.value v) w') (h : K (a.put o.dst v) w') : if Region.wanted o (yielded ops a.tmps) = true then Oper.wp P o a w K Q else F := by
  rw [if_pos hgd]
  unfold Oper.wp
  rw [hr]
  exact h
theorem run_op_load_mid {P : Program} {o : Oper} {a : Act} {w : World} (ty : TypeId) (x : Operand) (ho : o.op = .load ty x)
    (b off : Nat) (hx : a.eval x = .pointer (some ⟨b, off, none⟩)) (cs : List Value) (d : TypeDesc) (hc : w.rangeAt b off cs)
    (hu : P.underlying ty = some d) (hd : d.isRow = true) (hi : (P.info? ty).map (·.size) = some cs.length) : (execOp a.eval o).run P w = .ok (.value (.agg cs.toArray)) w := by
  simp [execOp, ho, hx, Instr.loadAt, Instr.sureAddr, run_loadVar_mid w b off ty cs d hc hu hd hi, Result.andThen]
theorem Rc.info38 : (Tryd.prog.info? 38).map (·.size) = some 2 := by kernel_rfl
/-- a region's operations as a letter -/
theorem wp_region_named {P : Program} {id : Nat} {ops : Array Oper} {b : Bool} {Q : Exit → Act → World → Prop} {a : Act} {w : World} (h : ∀ ops', ops' = ops → (Code.region id ops' b).wp P Q a w) : (Code.region id ops b).wp P Q a w := h ops rfl
theorem op_at5 {ops arr : Array Oper} (h : ops = arr) (i : Nat) {o : Oper} (hi : arr[i]? = some o) {d : Option Tmp} {p : Op} {g : Option (Nat × Bool)} (hd : o.dst = d) (hp : o.op = p) (hg : o.guard = g) : ∃ o, ops[i]? = some o ∧ o.dst = d ∧ o.op = p ∧ o.guard = g := ⟨o, by rw [h]; exact hi, hd, hp, hg⟩
theorem wanted_none {o : Oper} {y : Nat → Option Bool} (h : o.guard = none) : Region.wanted o y = true := by simp [Region.wanted, h]
theorem wanted_some {ops : Array Oper} {tmps : Array Value} {o oj : Oper} {j d : Nat} {b : Bool} (h : o.guard = some (j, b)) (hj : ops[j]? = some oj) (hd : oj.dst = some d) (ht : tmps[d]? = some (.bool b)) : Region.wanted o (yielded ops tmps) = true := by
  simp [Region.wanted, h, yielded, hj, hd, ht]
theorem wp_runG {P : Program} {o : Oper} {a : Act} {w : World} {K : Act → World → Prop} {Q : Exit → Act → World → Prop} {v : Value} {w' : World} (hr : (execOp a.eval o).run P w = .ok (.value v) w') (h : K (a.put o.dst v) w') : Oper.wp P o a w K Q := by
  unfold Oper.wp
  rw [hr]
  exact h
/-- a call of a function of three arguments -/
theorem wp_call3 {P : Program} {o : Oper} {a : Act} {w : World} {K : Act → World → Prop} {Q : Exit → Act → World → Prop} (f : FuncId) (x y z : Operand) (tys : Array TypeId) (vx vy vz : Value)
    (ho : o.op = .call { callee := .value (.func f), args := #[x, y, z], argTypes := tys }) (heg : ∀ args w, (callFunc f args).run P w = .ok (.enter f args) w) (hx : a.eval x = vx) (hy : a.eval y = vy) (hz : a.eval z = vz) (h : Calls P f #[vx, vy, vz] w fun e w' => ∃ v, e = .returned v ∧ K (a.put o.dst v) w') : Oper.wp P o a w K Q := by
  have hrun : (execOp a.eval o).run P w = .ok (.enter f #[vx, vy, vz]) w := by
    subst hx hy hz
    simp [execOp, ho, resolve, invoke, Act.eval, Deferred.ofValue, go_sem, heg]
  unfold Oper.wp
  rw [hrun, Oper.upon_enter]
  exact h.mono fun e w' ⟨v, he, hk⟩ => by subst he; exact hk
end Go.Proofs.YtnbbleajbbgmjaaDoor
/- The law ReceiptsBefore returns true, if sane does. -/
namespace Go.Proofs.YtnbbleajbbgmjaaDoor
open Go.RowKit
set_option linter.unusedVariables false

/-- the state behind the three calls of the law -/
def Rc.midB (w W : World) (a0 a1 b0 b1 c0 c1 s t : Int) (ab bc ac : Bool) : Exit → Act → World → Prop := fun e a' W' => e = .normal ∧ ∃ (u17 u18 u19 u20 u21 u22 u23 u24 u25 u26 u27 u28 u29 u30 u31 u32 u33 u34 u35 : Value), a' = { tmps := #[.agg #[Rc.i a0, Rc.i a1], .agg #[Rc.i b0, Rc.i b1], .agg #[Rc.i c0, Rc.i c1], Rc.i s, Rc.i t, .pointer (some ⟨w.heap.size, 0, none⟩), .pointer (some ⟨w.heap.size + 1, 0, none⟩), .pointer (some ⟨w.heap.size + 1 + 1, 0, none⟩), undef, undef, .bool false, .bool ab, .bool bc, .bool ac, undef, .bool true, .bool false, u17, u18, u19, u20, u21, u22, u23, u24, u25, u26, u27, u28, u29, u30, u31, u32, u33, u34, u35, .agg #[Rc.i a0, Rc.i a1], .agg #[Rc.i b0, Rc.i b1], .bool ab, .agg #[Rc.i b0, Rc.i b1], .agg #[Rc.i c0, Rc.i c1], .bool bc, .agg #[Rc.i a0, Rc.i a1], .agg #[Rc.i c0, Rc.i c1], .bool ac, undef, undef, undef, undef, undef, undef, undef, undef, undef, undef, undef, undef, undef, undef, undef, undef, undef, undef, undef, undef, undef, undef, undef, undef, undef, undef, undef, undef, undef, undef, undef, undef, undef, undef, undef, undef, undef, undef, undef, undef, undef, undef, undef, undef, undef, undef, undef, undef, undef, undef, undef, undef, undef, undef], defers := [] } ∧ Below W.heap.size W W'
set_option maxRecDepth 100000 in
set_option maxHeartbeats 8000000 in
theorem Rc.before_law (K : List UInt32) (I : Dg.S) (hsn : ∀ W, Dg.G W K I → Calls Tryd.prog 10 #[] W fun e w' => e = .returned (.bool true) ∧ Below W.heap.size W w') (a0 a1 b0 b1 c0 c1 s t : Int) (w : World) (hG : Dg.G w K I) :
    Calls Tryd.prog 7 #[.agg #[Rc.i a0, Rc.i a1], .agg #[Rc.i b0, Rc.i b1], .agg #[Rc.i c0, Rc.i c1], Rc.i s, Rc.i t] w fun e w' => e = .returned (.bool true) ∧ Below w.heap.size w w' := by
  have HG := Lib.hid hG
  have HSN := Lib.hid hsn
  have HS0 := Lib.hid (show St w (((w.alloc (.cells #[Rc.i a0, Rc.i a1] 38)).alloc (.cells #[Rc.i b0, Rc.i b1] 38)).alloc (.cells #[Rc.i c0, Rc.i c1] 38)) [(w.heap.size + 1 + 1, 38, [Rc.i c0, Rc.i c1]), (w.heap.size + 1, 38, [Rc.i b0, Rc.i b1]), (w.heap.size, 38, [Rc.i a0, Rc.i a1])] from by
    have h := (((St.start w).new 38 [Rc.i a0, Rc.i a1]).new 38 [Rc.i b0, Rc.i b1]).new 38 [Rc.i c0, Rc.i c1]
    simp only [World.size_alloc] at h
    exact h)
  clear hG hsn
  by_cases hA : a1 < a0
  · go_enter Tryd.func7, Tryd.ntmps7
    go_wp2_with fail
    ((with_reducible refine (HSN.out _ (HG.out.keep HS0.out.below)).mono ?_); rintro e w1 ⟨rfl, hb⟩)
    have HS1 := Lib.hid (HS0.out.keep hb)
    obtain ⟨za, a_0, a_1⟩ := (HS1.out.nth 2 rfl).r2
    obtain ⟨zb, b_0, b_1⟩ := (HS1.out.nth 1 rfl).r2
    obtain ⟨zc, c_0, c_1⟩ := (HS1.out.nth 0 rfl).r2
    clear hb
    go_wp2_with fail
    go_ret
    exact ⟨rfl, HS1.out.below⟩
  by_cases hB : b1 < b0
  · have hA' : a0 ≤ a1 := by omega
    go_enter Tryd.func7, Tryd.ntmps7
    go_wp2_with fail
    ((with_reducible refine (HSN.out _ (HG.out.keep HS0.out.below)).mono ?_); rintro e w1 ⟨rfl, hb⟩)
    have HS1 := Lib.hid (HS0.out.keep hb)
    obtain ⟨za, a_0, a_1⟩ := (HS1.out.nth 2 rfl).r2
    obtain ⟨zb, b_0, b_1⟩ := (HS1.out.nth 1 rfl).r2
    obtain ⟨zc, c_0, c_1⟩ := (HS1.out.nth 0 rfl).r2
    clear hb
    go_wp2_with fail
    go_ret
    exact ⟨rfl, HS1.out.below⟩
  by_cases hC : c1 < c0
  · have hA' : a0 ≤ a1 := by omega
    have hB' : b0 ≤ b1 := by omega
    go_enter Tryd.func7, Tryd.ntmps7
    go_wp2_with fail
    ((with_reducible refine (HSN.out _ (HG.out.keep HS0.out.below)).mono ?_); rintro e w1 ⟨rfl, hb⟩)
    have HS1 := Lib.hid (HS0.out.keep hb)
    obtain ⟨za, a_0, a_1⟩ := (HS1.out.nth 2 rfl).r2
    obtain ⟨zb, b_0, b_1⟩ := (HS1.out.nth 1 rfl).r2
    obtain ⟨zc, c_0, c_1⟩ := (HS1.out.nth 0 rfl).r2
    clear hb
    go_wp2_with fail
    go_ret
    exact ⟨rfl, HS1.out.below⟩
  have hA' : a0 ≤ a1 := by omega
  have hB' : b0 ≤ b1 := by omega
  have hC' : c0 ≤ c1 := by omega
  obtain ⟨ab, hab0⟩ : ∃ ab, ab = decide (a1 < b0) := ⟨_, rfl⟩
  obtain ⟨bc, hbc0⟩ : ∃ bc, bc = decide (b1 < c0) := ⟨_, rfl⟩
  obtain ⟨ac, hac0⟩ : ∃ ac, ac = decide (a1 < c0) := ⟨_, rfl⟩
  have HAB := Lib.hid (fun W => Rc.Before_any a0 a1 b0 b1 W)
  have HBC := Lib.hid (fun W => Rc.Before_any b0 b1 c0 c1 W)
  have HACC := Lib.hid (fun W => Rc.Before_any a0 a1 c0 c1 W)
  have HAA := Lib.hid (fun W => Rc.Before_any a0 a1 a0 a1 W)
  have HBA := Lib.hid (fun W => Rc.Before_any b0 b1 a0 a1 W)
  rw [← hab0] at HAB
  rw [← hbc0] at HBC
  rw [← hac0] at HACC
  rw [show decide (a1 < a0) = false from decide_eq_false (by omega)] at HAA
  have HABT := Lib.hid (show ab = true → a1 < b0 from fun h => by rw [hab0] at h; exact of_decide_eq_true h)
  have HAC := Lib.hid (show ab = true → bc = true → ac = true from fun h1 h2 => by
    rw [hab0] at h1; rw [hbc0] at h2; rw [hac0]
    have := of_decide_eq_true h1; have := of_decide_eq_true h2
    exact decide_eq_true (by omega))
  have HBAF := Lib.hid (show ab = true → decide (b1 < a0) = false from fun h1 => by
    rw [hab0] at h1
    have := of_decide_eq_true h1
    exact decide_eq_false (by omega))
  clear hA hB hC hab0 hbc0 hac0
  go_enter Tryd.func7, Tryd.ntmps7
  go_wp2_with fail
  ((with_reducible refine (HSN.out _ (HG.out.keep HS0.out.below)).mono ?_); rintro e w1 ⟨rfl, hb⟩)
  have HS1 := Lib.hid (HS0.out.keep hb)
  obtain ⟨za, a_0, a_1⟩ := (HS1.out.nth 2 rfl).r2
  obtain ⟨zb, b_0, b_1⟩ := (HS1.out.nth 1 rfl).r2
  obtain ⟨zc, c_0, c_1⟩ := (HS1.out.nth 0 rfl).r2
  clear hb
  go_upto_region 5 with fail
  refine Code.wp_mono (Q := Rc.midB w w1 a0 a1 b0 b1 c0 c1 s t ab bc ac) ?tail ?region
  case region =>
    have s0 : Below w1.heap.size w1 w1.drew := (Below.refl _ w1).drew
    have KP := Lib.hid (fun (w' : World) (h : Below w1.heap.size w1 w') => (⟨((HS1.out.nth 2 rfl).keep h).cell 0, ((HS1.out.nth 2 rfl).keep h).cell 1, ((HS1.out.nth 1 rfl).keep h).cell 0, ((HS1.out.nth 1 rfl).keep h).cell 1, ((HS1.out.nth 0 rfl).keep h).cell 0, ((HS1.out.nth 0 rfl).keep h).cell 1, h⟩ : w'.cell? ⟨w.heap.size, 0, none⟩ = some (Rc.i a0) ∧ w'.cell? ⟨w.heap.size, 1, none⟩ = some (Rc.i a1) ∧ w'.cell? ⟨w.heap.size + 1, 0, none⟩ = some (Rc.i b0) ∧ w'.cell? ⟨w.heap.size + 1, 1, none⟩ = some (Rc.i b1) ∧ w'.cell? ⟨w.heap.size + 1 + 1, 0, none⟩ = some (Rc.i c0) ∧ w'.cell? ⟨w.heap.size + 1 + 1, 1, none⟩ = some (Rc.i c1) ∧ Below w1.heap.size w1 w'))
    go_region_held3 (fun w' => w'.cell? ⟨w.heap.size, 0, none⟩ = some (Rc.i a0) ∧ w'.cell? ⟨w.heap.size, 1, none⟩ = some (Rc.i a1) ∧ w'.cell? ⟨w.heap.size + 1, 0, none⟩ = some (Rc.i b0) ∧ w'.cell? ⟨w.heap.size + 1, 1, none⟩ = some (Rc.i b1) ∧ w'.cell? ⟨w.heap.size + 1 + 1, 0, none⟩ = some (Rc.i c0) ∧ w'.cell? ⟨w.heap.size + 1 + 1, 1, none⟩ = some (Rc.i c1) ∧ Below w1.heap.size w1 w')
      (first | exact KP.out _ (by assumption))
      (first
        | (go_at_call 20; (with_reducible refine (HAB.out _).mono ?_); rintro e w2 ⟨rfl, hb⟩; have s2 := Below.trans (by assumption) (Below.mono hb (Below.size (by assumption))))
        | (go_at_call 20; (with_reducible refine (HBC.out _).mono ?_); rintro e w2 ⟨rfl, hb⟩; have s2 := Below.trans (by assumption) (Below.mono hb (Below.size (by assumption))))
        | (go_at_call 20; (with_reducible refine (HACC.out _).mono ?_); rintro e w2 ⟨rfl, hb⟩; have s2 := Below.trans (by assumption) (Below.mono hb (Below.size (by assumption)))))
    all_goals exact ⟨rfl, _, _, _, _, _, _, _, _, _, _, _, _, _, _, _, _, _, _, _, rfl, s2⟩
  case tail =>
    rintro e a' W' ⟨rfl, u17, u18, u19, u20, u21, u22, u23, u24, u25, u26, u27, u28, u29, u30, u31, u32, u33, u34, u35, rfl, hBW⟩
    have HS2 := Lib.hid (HS1.out.keep hBW)
    clear hBW za zb zc a_0 a_1 b_0 b_1 c_0 c_1
    obtain ⟨za, a_0, a_1⟩ := (HS2.out.nth 2 rfl).r2
    obtain ⟨zb, b_0, b_1⟩ := (HS2.out.nth 1 rfl).r2
    obtain ⟨zc, c_0, c_1⟩ := (HS2.out.nth 0 rfl).r2
    cases hab : ab with
    | false =>
      subst hab
      go_wp2_with fail
      ((with_reducible refine (HAA.out _).mono ?_); rintro e w3 ⟨rfl, hb⟩)
      have HS3 := Lib.hid (HS2.out.keep hb)
      clear hb za zb zc a_0 a_1 b_0 b_1 c_0 c_1
      obtain ⟨za, a_0, a_1⟩ := (HS3.out.nth 2 rfl).r2
      obtain ⟨zb, b_0, b_1⟩ := (HS3.out.nth 1 rfl).r2
      obtain ⟨zc, c_0, c_1⟩ := (HS3.out.nth 0 rfl).r2
      have H89 := trivial
      by_cases h0 : a0 ≤ s
      · by_cases h1 : s ≤ a1
        · by_cases h2 : b0 ≤ t
          · by_cases h3 : t ≤ b1
            · go_wp2_with fail
              go_ret
              exact ⟨by first | rfl | simp_all | (simp; omega), HS3.out.below⟩
            · go_wp2_with fail
              go_ret
              exact ⟨by first | rfl | simp_all | (simp; omega), HS3.out.below⟩
          · go_wp2_with fail
            go_ret
            exact ⟨by first | rfl | simp_all | (simp; omega), HS3.out.below⟩
        · go_wp2_with fail
          go_ret
          exact ⟨by first | rfl | simp_all | (simp; omega), HS3.out.below⟩
      · go_wp2_with fail
        go_ret
        exact ⟨by first | rfl | simp_all | (simp; omega), HS3.out.below⟩
    | true =>
      subst hab
      rw [HBAF.out (by first | rfl | trivial)] at HBA
      go_wp2_with fail
      ((with_reducible refine (HAA.out _).mono ?_); rintro e w3 ⟨rfl, hb⟩)
      have HS3 := Lib.hid (HS2.out.keep hb)
      clear hb za zb zc a_0 a_1 b_0 b_1 c_0 c_1
      obtain ⟨za, a_0, a_1⟩ := (HS3.out.nth 2 rfl).r2
      obtain ⟨zb, b_0, b_1⟩ := (HS3.out.nth 1 rfl).r2
      obtain ⟨zc, c_0, c_1⟩ := (HS3.out.nth 0 rfl).r2
      go_wp2_with fail
      ((with_reducible refine (HBA.out _).mono ?_); rintro e w4 ⟨rfl, hb⟩)
      have HS4 := Lib.hid (HS3.out.keep hb)
      clear hb za zb zc a_0 a_1 b_0 b_1 c_0 c_1
      obtain ⟨za, a_0, a_1⟩ := (HS4.out.nth 2 rfl).r2
      obtain ⟨zb, b_0, b_1⟩ := (HS4.out.nth 1 rfl).r2
      obtain ⟨zc, c_0, c_1⟩ := (HS4.out.nth 0 rfl).r2
      cases hbc : bc with
      | false =>
        subst hbc
        by_cases h0 : a0 ≤ s
        · by_cases h1 : s ≤ a1
          · by_cases h2 : b0 ≤ t
            · by_cases h3 : t ≤ b1
              · have hst : s < t := by have := HABT.out (by first | rfl | trivial); omega
                go_wp2_with fail
                go_ret
                exact ⟨by first | rfl | simp_all | (simp; omega), HS4.out.below⟩
              · go_wp2_with fail
                go_ret
                exact ⟨by first | rfl | simp_all | (simp; omega), HS4.out.below⟩
            · go_wp2_with fail
              go_ret
              exact ⟨by first | rfl | simp_all | (simp; omega), HS4.out.below⟩
          · go_wp2_with fail
            go_ret
            exact ⟨by first | rfl | simp_all | (simp; omega), HS4.out.below⟩
        · go_wp2_with fail
          go_ret
          exact ⟨by first | rfl | simp_all | (simp; omega), HS4.out.below⟩
      | true =>
        subst hbc
        obtain rfl : ac = true := HAC.out (by first | rfl | trivial) (by first | rfl | trivial)
        by_cases h0 : a0 ≤ s
        · by_cases h1 : s ≤ a1
          · by_cases h2 : b0 ≤ t
            · by_cases h3 : t ≤ b1
              · have hst : s < t := by have := HABT.out (by first | rfl | trivial); omega
                go_wp2_with fail
                go_ret
                exact ⟨by first | rfl | simp_all | (simp; omega), HS4.out.below⟩
              · go_wp2_with fail
                go_ret
                exact ⟨by first | rfl | simp_all | (simp; omega), HS4.out.below⟩
            · go_wp2_with fail
              go_ret
              exact ⟨by first | rfl | simp_all | (simp; omega), HS4.out.below⟩
          · go_wp2_with fail
            go_ret
            exact ⟨by first | rfl | simp_all | (simp; omega), HS4.out.below⟩
        · go_wp2_with fail
          go_ret
          exact ⟨by first | rfl | simp_all | (simp; omega), HS4.out.below⟩

end Go.Proofs.YtnbbleajbbgmjaaDoor
