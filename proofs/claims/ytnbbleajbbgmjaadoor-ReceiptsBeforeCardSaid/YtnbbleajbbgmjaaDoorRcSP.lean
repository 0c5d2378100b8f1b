/- The chapter's examples: what the functions answer there; how they lie in memory. -/
import Derived.Test.YtnbbleajbbgmjaaDoorRcS1
namespace Go.Proofs.YtnbbleajbbgmjaaDoor
open Go.RowKit
set_option linter.unusedVariables false

def Rc.two : List Rc.C := [⟨0, 0, 0⟩, ⟨0, 2, 0⟩]
def Rc.lone : List Rc.C := [⟨0, 2, 0⟩]
theorem Rc.bad0 (K : List UInt32) (I : Dg.S) (D : List UInt8) (hD : D = Rc.one.dl K I) (st : Int) (l : List Rc.R) (n : Nat) (hn : 0 < n) (hs : Rc.inB st 1048577 = true) : Rc.badR K I n [Rc.one] (⟨0, 0, st, D⟩ :: l) 0 = false := by
  have hb : (Rc.one.dl K I == D) = true := by rw [hD]; simp
  show (!Rc.inB 0 n || (!Rc.inB 0 1 || (!Rc.inB st 1048577 || (false || (Rc.one.odd || !(Rc.one.dl K I == D)))))) = false
  have h0 : Rc.inB 0 n = true := by unfold Rc.inB; simp; omega
  rw [hb, hs, h0]
  rfl
theorem Rc.chk_two (K : List UInt32) (I : Dg.S) (D : List UInt8) (hD : D = Rc.one.dl K I) : Rc.chkE K I Rc.two [Rc.one] [⟨0, 0, 10, D⟩, ⟨1, 0, 13, D⟩] = 0 := by
  have hb : (Rc.one.dl K I == D) = true := by rw [hD]; simp
  have h1 : Rc.badR K I 2 [Rc.one] [⟨0, 0, 10, D⟩, ⟨1, 0, 13, D⟩] 0 = false := Rc.bad0 K I D hD 10 _ 2 (by omega) rfl
  have h2 : Rc.badR K I 2 [Rc.one] [⟨0, 0, 10, D⟩, ⟨1, 0, 13, D⟩] 1 = false := by
    show (!Rc.inB 1 2 || (!Rc.inB 0 1 || (!Rc.inB 13 1048577 || (Rc.late ⟨0, 0, 10, D⟩ ⟨1, 0, 13, D⟩ || (Rc.one.odd || !(Rc.one.dl K I == D)))))) = false
    rw [hb]
    rfl
  have h : Rc.wrong K I Rc.two [Rc.one] [⟨0, 0, 10, D⟩, ⟨1, 0, 13, D⟩] = false := by
    show (Rc.w1 2 1 2 || (Rc.pre (Rc.w2 Rc.two) 2 || (Rc.pre (Rc.w3 [Rc.one]) 1 || ((false || Rc.badR K I 2 [Rc.one] [⟨0, 0, 10, D⟩, ⟨1, 0, 13, D⟩] 0) || Rc.badR K I 2 [Rc.one] [⟨0, 0, 10, D⟩, ⟨1, 0, 13, D⟩] 1)))) = false
    rw [h1, h2]
    rfl
  unfold Rc.chkE
  rw [h]
  rfl
theorem Rc.chk_lone (K : List UInt32) (I : Dg.S) (D : List UInt8) (hD : D = Rc.one.dl K I) : Rc.chkE K I Rc.lone [Rc.one] [⟨0, 0, 1, D⟩] = 0 := by
  have h1 : Rc.badR K I 1 [Rc.one] [⟨0, 0, 1, D⟩] 0 = false := Rc.bad0 K I D hD 1 _ 1 (by omega) rfl
  have h : Rc.wrong K I Rc.lone [Rc.one] [⟨0, 0, 1, D⟩] = false := by
    show (Rc.w1 1 1 1 || (Rc.pre (Rc.w2 Rc.lone) 1 || (Rc.pre (Rc.w3 [Rc.one]) 1 || (false || Rc.badR K I 1 [Rc.one] [⟨0, 0, 1, D⟩] 0)))) = false
    rw [h1]
    rfl
  unfold Rc.chkE
  rw [h]
  rfl
theorem Rc.chk_nil (K : List UInt32) (I : Dg.S) : Rc.chkE K I [] [Rc.one] [] = 0 := by
  have h : Rc.wrong K I [] [Rc.one] [] = false := rfl
  unfold Rc.chkE
  rw [h]
  rfl
theorem Rc.chk_nil0 (K : List UInt32) (I : Dg.S) : Rc.chkE K I [] [] [] = 0 := by
  have h : Rc.wrong K I [] [] [] = false := rfl
  unfold Rc.chkE
  rw [h]
  rfl
theorem Rc.chk_twice (K : List UInt32) (I : Dg.S) (D : List UInt8) : Rc.chkE K I Rc.two [Rc.one] [⟨0, 0, 10, D⟩, ⟨0, 0, 10, D⟩] = 510 := by
  have h2 : Rc.badR K I 2 [Rc.one] [⟨0, 0, 10, D⟩, ⟨0, 0, 10, D⟩] 1 = true := by
    show (!Rc.inB 0 2 || (!Rc.inB 0 1 || (!Rc.inB 10 1048577 || (Rc.late ⟨0, 0, 10, D⟩ ⟨0, 0, 10, D⟩ || (Rc.one.odd || !(Rc.one.dl K I == D)))))) = true
    rfl
  have h : Rc.wrong K I Rc.two [Rc.one] [⟨0, 0, 10, D⟩, ⟨0, 0, 10, D⟩] = true := by
    show (Rc.w1 2 1 2 || (Rc.pre (Rc.w2 Rc.two) 2 || (Rc.pre (Rc.w3 [Rc.one]) 1 || ((false || Rc.badR K I 2 [Rc.one] [⟨0, 0, 10, D⟩, ⟨0, 0, 10, D⟩] 0) || Rc.badR K I 2 [Rc.one] [⟨0, 0, 10, D⟩, ⟨0, 0, 10, D⟩] 1)))) = true
    rw [h2, Bool.or_true, Bool.or_true, Bool.or_true, Bool.or_true]
  unfold Rc.chkE
  rw [h]
  rfl
theorem Rc.ofs_two (D : List UInt8) : Rc.ofs Rc.two [⟨0, 0, 10, D⟩, ⟨1, 0, 13, D⟩] 0 = [(0, 10, 10), (1, 11, 15)] := by kernel_rfl
theorem Rc.ofs_lone (D : List UInt8) : Rc.ofs Rc.lone [⟨0, 0, 1, D⟩] 0 = [(0, 0, 3)] := by kernel_rfl
theorem Rc.conf_two (K : List UInt32) (I : Dg.S) (D : List UInt8) (hD : D = Rc.one.dl K I) : Rc.confV (Rc.readE (Rc.chkE K I Rc.two [Rc.one] [⟨0, 0, 10, D⟩, ⟨1, 0, 13, D⟩]) (1 : Nat) 0) (Rc.ofs Rc.two [⟨0, 0, 10, D⟩, ⟨1, 0, 13, D⟩] 0) = .tuple #[.int .i64 0, .int .i64 1, .bool true, .int .i64 0] := by
  rw [Rc.chk_two K I D hD, Rc.ofs_two]; rfl
theorem Rc.when_two (K : List UInt32) (I : Dg.S) (D : List UInt8) (hD : D = Rc.one.dl K I) : Rc.whenV (Rc.readE (Rc.chkE K I Rc.two [Rc.one] [⟨0, 0, 10, D⟩, ⟨1, 0, 13, D⟩]) (1 : Nat) 0) (Rc.ofs Rc.two [⟨0, 0, 10, D⟩, ⟨1, 0, 13, D⟩] 0) = .tuple #[.agg #[.int .i64 0, .int .i64 0], .int .i64 511] := by
  rw [Rc.chk_two K I D hD, Rc.ofs_two]; rfl
theorem Rc.when_lone (K : List UInt32) (I : Dg.S) (D : List UInt8) (hD : D = Rc.one.dl K I) : Rc.whenV (Rc.readE (Rc.chkE K I Rc.lone [Rc.one] [⟨0, 0, 1, D⟩]) (1 : Nat) 0) (Rc.ofs Rc.lone [⟨0, 0, 1, D⟩] 0) = .tuple #[.agg #[.int .i64 0, .int .i64 3], .int .i64 0] := by
  rw [Rc.chk_lone K I D hD, Rc.ofs_lone]; rfl
theorem Rc.when_nil (K : List UInt32) (I : Dg.S) : Rc.whenV (Rc.readE (Rc.chkE K I [] [Rc.one] []) (1 : Nat) 0) (Rc.ofs [] [] 0) = .tuple #[.agg #[.int .i64 0, .int .i64 1048576], .int .i64 0] := by
  rw [Rc.chk_nil]; rfl
theorem Rc.when_nil1 (K : List UInt32) (I : Dg.S) : Rc.whenV (Rc.readE (Rc.chkE K I [] [Rc.one] []) (1 : Nat) 1) (Rc.ofs [] [] 1) = .tuple #[.agg #[.int .i64 0, .int .i64 0], .int .i64 1] := by
  rw [Rc.chk_nil]; rfl

theorem rd_has {W : World} {g off k n : Nat} {t : TypeId} {cs xs : List Value} (h : Has W g t cs) (hx : xs.length = n * k) (hc : ∀ j u, xs[j]? = some u → cs[off + j]? = some u) : Rd W W.heap.size k (some ⟨g, off, none⟩) n xs :=
  ⟨hx, fun _ => ⟨g, off, rfl, h.lt, fun j u hu => (h.cell (off + j)).trans (hc j u hu)⟩⟩
theorem Rc.clks_two {W : World} {g : Nat} {t : TypeId} (h : Has W g t [.int .i64 0, .int .i64 0, .int .i64 0, .int .i64 0, .int .i64 2, .int .i64 0]) : Rc.Clks W W.heap.size (some ⟨g, 0, none⟩) 2 Rc.two :=
  ⟨rfl, rd_has h rfl (fun j u hu => by rw [Nat.zero_add]; exact hu)⟩
theorem Rc.clks_lone {W : World} {g : Nat} {t : TypeId} (h : Has W g t [.int .i64 0, .int .i64 0, .int .i64 0, .int .i64 0, .int .i64 2, .int .i64 0]) : Rc.Clks W W.heap.size (some ⟨g, 3, none⟩) 1 Rc.lone :=
  ⟨rfl, rd_has h rfl (fun j u hu => by rw [Nat.add_comm]; exact hu)⟩
theorem Rc.clks_nil {W : World} : Rc.Clks W W.heap.size none 0 [] := ⟨rfl, Rd.none_⟩
theorem Rc.subs_nil {W : World} : Rc.Subs W W.heap.size none 0 [] := ⟨rfl, [], rfl, fun i s h => by simp at h, Rd.none_, fun _ h => by cases h⟩
theorem Rc.subs_one {W : World} {g g' : Nat} {t t' : TypeId} (h : Has W g t [.int .i64 0, .int .i64 0, .int .i64 0, .slice (some ⟨g', 0, none⟩) 2 2]) (h' : Has W g' t' [.int .i64 1, .int .i64 0]) : Rc.Subs W W.heap.size (some ⟨g, 0, none⟩) 1 [Rc.one] :=
  ⟨rfl, [[.int .i64 0, .int .i64 0, .int .i64 0, .slice (some ⟨g', 0, none⟩) 2 2]], rfl, fun i s hs => by
    cases i with
    | zero =>
      obtain rfl : Rc.one = s := by simpa using hs
      exact ⟨_, rfl, some ⟨g', 0, none⟩, 2, rfl, rd_has h' rfl (fun j u hu => by rw [Nat.zero_add]; exact hu), by decide⟩
    | succ i => simp at hs, rd_has h rfl (fun j u hu => by rw [Nat.zero_add]; exact hu), fun xs hx => by
      obtain rfl : xs = [.int .i64 0, .int .i64 0, .int .i64 0, .slice (some ⟨g', 0, none⟩) 2 2] := by simpa using hx
      rfl⟩
theorem Rc.rcs_nil {W : World} : Rc.Rcs W W.heap.size none 0 [] := ⟨rfl, (fun _ h => by cases h), Rd.none_⟩
theorem Rc.rcs_two {W : World} {g : Nat} {t : TypeId} {D : List UInt8} {dc : List Value} {a b c d : Int} (h : Has W g t (Rc.rw a b dc ++ Rc.rw c d dc)) (hdc : dc = D.map Dg.b8) (hD : D.length = 32) : Rc.Rcs W W.heap.size (some ⟨g, 0, none⟩) 2 [⟨a, 0, b, D⟩, ⟨c, 0, d, D⟩] := by
  have e : ([⟨a, 0, b, D⟩, ⟨c, 0, d, D⟩].map Rc.R.cells).flatten = Rc.rw a b dc ++ Rc.rw c d dc := by rw [hdc]; simp [Rc.R.cells, Rc.rw]
  refine ⟨rfl, fun r hr => ?_, ?_⟩
  · simp only [List.mem_cons, List.not_mem_nil, or_false] at hr
    rcases hr with rfl | rfl <;> exact hD
  · rw [e]
    exact rd_has h (by subst hdc; simp [Rc.rw, hD]) (fun j u hu => by rw [Nat.zero_add]; exact hu)
theorem Rc.rcs_one {W : World} {g : Nat} {t : TypeId} {D : List UInt8} {dc : List Value} {a b : Int} (h : Has W g t (Rc.rw a b dc)) (hdc : dc = D.map Dg.b8) (hD : D.length = 32) : Rc.Rcs W W.heap.size (some ⟨g, 0, none⟩) 1 [⟨a, 0, b, D⟩] := by
  have e : ([⟨a, 0, b, D⟩].map Rc.R.cells).flatten = Rc.rw a b dc := by rw [hdc]; simp [Rc.R.cells, Rc.rw]
  refine ⟨rfl, fun r hr => ?_, ?_⟩
  · simp only [List.mem_cons, List.not_mem_nil, or_false] at hr
    rcases hr with rfl
    exact hD
  · rw [e]
    exact rd_has h (by subst hdc; simp [Rc.rw, hD]) (fun j u hu => by rw [Nat.zero_add]; exact hu)
theorem Rc.set2C {W2 W4 : World} {u v : Value} (h : Below W2.heap.size W2 W4) : Below W2.heap.size W2 ((W4.setCell ⟨W2.heap.size + 1, 0, none⟩ u).setCell ⟨W2.heap.size + 1, 1, none⟩ v) :=
  (h.setCell (p := ⟨W2.heap.size + 1, 0, none⟩) (Nat.le_succ _) u).setCell (p := ⟨W2.heap.size + 1, 1, none⟩) (Nat.le_succ _) v
theorem run_op_buildR {P : Program} {o : Oper} {a : Act} {w : World} (t : TypeId) (parts : Array (Nat × Operand)) (ho : o.op = .build t parts) (vs : List (Nat × Value)) (hv : parts.toList.map (fun p => (p.1, a.eval p.2)) = vs) (v : Value) (w' : World)
    (hr : (Instr.build t vs.toArray).run P w = .ok v w') : (execOp a.eval o).run P w = .ok (.value v) w' := by
  have hv' : (parts.map fun (i, x) => (i, a.eval x)) = vs.toArray := by rw [← hv]; apply Array.ext'; simp
  unfold execOp
  simp only [ho, hv', Sem.run_bind, hr, Result.andThen_ok]
  rfl
theorem run_op_buildSliceR {P : Program} {o : Oper} {a : Act} {w : World} (t : TypeId) (len : Nat) (parts : Array (Nat × Operand)) (ho : o.op = .buildSlice t len parts) (vs : List (Nat × Value)) (hv : parts.toList.map (fun p => (p.1, a.eval p.2)) = vs) (v : Value) (w' : World)
    (hr : (Instr.buildSlice t len vs.toArray).run P w = .ok v w') : (execOp a.eval o).run P w = .ok (.value v) w' := by
  have hv' : (parts.map fun (i, x) => (i, a.eval x)) = vs.toArray := by rw [← hv]; apply Array.ext'; simp
  unfold execOp
  simp only [ho, hv', Sem.run_bind, hr, Result.andThen_ok]
  rfl
theorem run_op_load_row {P : Program} {o : Oper} {a : Act} {w : World} (ty : TypeId) (x : Operand) (ho : o.op = .load ty x)
    (g : Nat) (hx : a.eval x = .pointer (some ⟨g, 0, none⟩)) (t : TypeId) (cs : Array Value) (fr : Nat × Nat) (d : TypeDesc) (hg : w.heap[g]? = some (.cells cs t fr))
    (hu : P.underlying ty = some d) (hd : (match d with | .struct _ | .array _ _ => true | _ => false) = true) (hi : (P.info? ty).map (·.size) = some cs.size) : (execOp a.eval o).run P w = .ok (.value (.agg cs)) w := by
  simp [execOp, ho, hx, Instr.loadAt, Instr.sureAddr, run_loadVar_row w g t ty cs fr d hg hu hd hi, Result.andThen]
theorem step_run {P : Program} {ops : Array Oper} {o : Oper} {a : Act} {w : World} {K : Act → World → Prop} {Q : Exit → Act → World → Prop} {F : Prop} {v : Value} {w' : World} (hgd : o.guard = none) (hr : (execOp a.eval o).run P w = .ok (.value v) w') (h : K (a.put o.dst v) w') : if Region.wanted o (yielded ops a.tmps) = true then Oper.wp P o a w K Q else F := by
  rw [if_pos (by simp [Region.wanted, hgd])]
  unfold Oper.wp
  rw [hr]
  exact h
theorem step_runG {P : Program} {ops : Array Oper} {o : Oper} {a : Act} {w : World} {K : Act → World → Prop} {Q : Exit → Act → World → Prop} {F : Prop} {v : Value} {w' : World} (hgd : Region.wanted o (yielded ops a.tmps) = true) (hr : (execOp a.eval o).run P w = .ok (.value v) w') (h : K (a.put o.dst v) w') : if Region.wanted o (yielded ops a.tmps) = true then Oper.wp P o a w K Q else F := by
  rw [if_pos hgd]
  unfold Oper.wp
  rw [hr]
  exact h
theorem run_op_load_mid {P : Program} {o : Oper} {a : Act} {w : World} (ty : TypeId) (x : Operand) (ho : o.op = .load ty x)
    (b off : Nat) (hx : a.eval x = .pointer (some ⟨b, off, none⟩)) (cs : List Value) (d : TypeDesc) (hc : w.rangeAt b off cs)
    (hu : P.underlying ty = some d) (hd : d.isRow = true) (hi : (P.info? ty).map (·.size) = some cs.length) : (execOp a.eval o).run P w = .ok (.value (.agg cs.toArray)) w := by
  simp [execOp, ho, hx, Instr.loadAt, Instr.sureAddr, run_loadVar_mid w b off ty cs d hc hu hd hi, Result.andThen]
theorem Rc.info38 : (Tryd.prog.info? 38).map (·.size) = some 2 := by kernel_rfl
/-- a region's operations as a letter -/
theorem wp_region_named {P : Program} {id : Nat} {ops : Array Oper} {b : Bool} {Q : Exit → Act → World → Prop} {a : Act} {w : World} (h : ∀ ops', ops' = ops → (Code.region id ops' b).wp P Q a w) : (Code.region id ops b).wp P Q a w := h ops rfl
theorem op_at5 {ops arr : Array Oper} (h : ops = arr) (i : Nat) {o : Oper} (hi : arr[i]? = some o) {d : Option Tmp} {p : Op} {g : Option (Nat × Bool)} (hd : o.dst = d) (hp : o.op = p) (hg : o.guard = g) : ∃ o, ops[i]? = some o ∧ o.dst = d ∧ o.op = p ∧ o.guard = g := ⟨o, by rw [h]; exact hi, hd, hp, hg⟩
theorem wanted_none {o : Oper} {y : Nat → Option Bool} (h : o.guard = none) : Region.wanted o y = true := by simp [Region.wanted, h]
theorem wanted_some {ops : Array Oper} {tmps : Array Value} {o oj : Oper} {j d : Nat} {b : Bool} (h : o.guard = some (j, b)) (hj : ops[j]? = some oj) (hd : oj.dst = some d) (ht : tmps[d]? = some (.bool b)) : Region.wanted o (yielded ops tmps) = true := by
  simp [Region.wanted, h, yielded, hj, hd, ht]
theorem wp_runG {P : Program} {o : Oper} {a : Act} {w : World} {K : Act → World → Prop} {Q : Exit → Act → World → Prop} {v : Value} {w' : World} (hr : (execOp a.eval o).run P w = .ok (.value v) w') (h : K (a.put o.dst v) w') : Oper.wp P o a w K Q := by
  unfold Oper.wp
  rw [hr]
  exact h
/-- a call of a function of three arguments -/
theorem wp_call3 {P : Program} {o : Oper} {a : Act} {w : World} {K : Act → World → Prop} {Q : Exit → Act → World → Prop} (f : FuncId) (x y z : Operand) (tys : Array TypeId) (vx vy vz : Value)
    (ho : o.op = .call { callee := .value (.func f), args := #[x, y, z], argTypes := tys }) (heg : ∀ args w, (callFunc f args).run P w = .ok (.enter f args) w) (hx : a.eval x = vx) (hy : a.eval y = vy) (hz : a.eval z = vz) (h : Calls P f #[vx, vy, vz] w fun e w' => ∃ v, e = .returned v ∧ K (a.put o.dst v) w') : Oper.wp P o a w K Q := by
  have hrun : (execOp a.eval o).run P w = .ok (.enter f #[vx, vy, vz]) w := by
    subst hx hy hz
    simp [execOp, ho, resolve, invoke, Act.eval, Deferred.ofValue, go_sem, heg]
  unfold Oper.wp
  rw [hrun, Oper.upon_enter]
  exact h.mono fun e w' ⟨v, he, hk⟩ => by subst he; exact hk
end Go.Proofs.YtnbbleajbbgmjaaDoor
