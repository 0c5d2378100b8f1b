import Derived.Test.YtnbbleajbbgmjaaDoorMRcW4
import Derived.RangeFuncNested
import Derived.RangeFuncBound
import Derived.RangeFuncCalls
import Derived.RangeFuncLeaves
import Derived.Shelf.Abstract
import Derived.Shelf.RegionOpen
import Derived.OwnWalkIn
import Derived.TacticsInMore
import Derived.LoopNIn
import Derived.LoopIn
/- Contracts of receipts.read, span.before, Before, evidence.of. -/
namespace Go.Proofs.YtnbbleajbbgmjaaDoor
open Go.RowKit
set_option linter.unusedVariables false

theorem Rc.before_any (a b c d : Int) (w : World) : Calls Tryd.prog 48 #[.agg #[Rc.i a, Rc.i b], .agg #[Rc.i c, Rc.i d]] w fun e w' => e = .returned (.bool (decide (b < c))) ∧ Below w.heap.size w w' := by
  have HB := Lib.hid (below_two w (.cells #[Rc.i a, Rc.i b] 82) (.cells #[Rc.i c, Rc.i d] 82))
  go_enter Tryd.func48, Tryd.ntmps48
  go_wp2_with fail
  go_ret
  exact ⟨rfl, HB.out⟩
theorem Rc.Before_any (a b c d : Int) (w : World) : Calls Tryd.prog 20 #[.agg #[Rc.i a, Rc.i b], .agg #[Rc.i c, Rc.i d]] w fun e w' => e = .returned (.bool (decide (b < c))) ∧ Below w.heap.size w w' := by
  have HB := Lib.hid (below_two w (.cells #[Rc.i a, Rc.i b] 38) (.cells #[Rc.i c, Rc.i d] 38))
  have HC := Lib.hid (Rc.before_any a b c d ((w.alloc (.cells #[Rc.i a, Rc.i b] 38)).alloc (.cells #[Rc.i c, Rc.i d] 38)))
  go_enter Tryd.func20, Tryd.ntmps20
  go_wp2_with fail
  ((with_reducible refine HC.out.mono ?_); rintro e w2 ⟨rfl, hb2⟩)
  have HB2 := Lib.hid (HB.out.trans (hb2.mono HB.out.size))
  clear hb2
  go_wp2_with fail
  go_ret
  exact ⟨rfl, HB2.out⟩
theorem Rc.of_any (e1 e2 e3 : Value) (h1 : e1.oneCell' = true) (h2 : e2.oneCell' = true) (h3 : e3.oneCell' = true) (no : Int) (w : World) :
    Calls Tryd.prog 45 #[.agg #[e1, e2, e3], Rc.i no] w fun e w' => e = .returned (.func (.func 65) #[] #[.pointer (some ⟨w.heap.size, 0, none⟩), .pointer (some ⟨w.heap.size + 1, 0, none⟩)]) ∧
      (w.alloc (.cells #[e1, e2, e3] 70)).alloc (.cells #[Rc.i no] 3) = w' := by
  have hmf : ∀ (fn : Fn) (first cap : Array Value) (w : World), (Instr.makeFunc fn first cap).run Tryd.prog w = .ok (.func fn first cap) w := fun _ _ _ _ => rfl
  go_enter Tryd.func45, Tryd.ntmps45
  go_wp2_with fail
  go_ret
  exact ⟨rfl, rfl⟩

def Rc.z3 : List Value := [.slice none 0 0, .slice none 0 0, .slice none 0 0]
/-- what read answers -/
def Rc.readE (E : Int) (ns : Nat) (no : Int) : Int := if E = 0 then (if Rc.inB no ns = true then 0 else 1) else E
def Rc.readV (E : Int) (ns : Nat) (no : Int) (v : List Value) : List Value := if E = 0 ∧ Rc.inB no ns = true then v else Rc.z3
set_option maxHeartbeats 2000000 in
theorem Rc.read_any (Ac As Al : Option Addr) (nc cc ns cs nl cl : Nat) (c : List Rc.C) (subs : List Rc.Sb) (l : List Rc.R) (no : Int) (K : List UInt32) (I : Dg.S) (w : World) (hE : Rc.Ev w w.heap.size Ac As Al nc ns nl c subs l) (hG : Dg.G w K I) :
    Calls Tryd.prog 44 #[.slice Ac nc cc, .slice As ns cs, .slice Al nl cl, Rc.i no] w fun e w' =>
      e = .returned (.tuple #[.agg (Rc.readV (Rc.chkE K I c subs l) ns no [.slice Ac nc cc, .slice As ns cs, .slice Al nl cl]).toArray, .int .i64 (Rc.readE (Rc.chkE K I c subs l) ns no)]) ∧ Below w.heap.size w w' := by
  obtain ⟨W1, hW1⟩ : ∃ W1, W1 = w.alloc (.cells #[.slice none 0 0, .slice none 0 0, .slice none 0 0] 70) := ⟨_, rfl⟩
  have HB1 := Lib.hid (show Below w.heap.size w W1 from by rw [hW1]; exact (Below.refl _ w).alloc (Nat.le_refl _) _)
  have HZ1 := Lib.hid (show Has W1 w.heap.size 70 Rc.z3 from by rw [hW1]; exact Has.new w _ _)
  have HC := Lib.hid (Rc.check_any Ac As Al nc cc ns cs nl cl c subs l K I W1 (hE.up HB1.out) (hG.keep HB1.out))
  have hEE : Rc.chkE K I c subs l = 0 ∨ Rc.chkE K I c subs l = 510 := by unfold Rc.chkE; split <;> simp
  generalize Rc.chkE K I c subs l = E at HC hEE ⊢
  have hi70 : (Tryd.prog.info? 70).map (·.size) = some 3 := by kernel_rfl
  have HI := Lib.hid hi70
  clear hE hG hi70
  rcases hEE with rfl | rfl
  · cases hb : Rc.inB no ns with
    | true =>
      have HV := Lib.hid (show Rc.readV 0 ns no [.slice Ac nc cc, .slice As ns cs, .slice Al nl cl] = [.slice Ac nc cc, .slice As ns cs, .slice Al nl cl] ∧ Rc.readE 0 ns no = 0 from ⟨by rw [Rc.readV, if_pos ⟨rfl, hb⟩], by rw [Rc.readE, if_pos rfl, if_pos hb]⟩)
      rw [HV.out.1, HV.out.2]
      have HWI := Lib.hid (fun W => Rc.within_any no ns W)
      rw [hb] at HWI
      clear hb
      go_enter Tryd.func44, Tryd.ntmps44
      go_upto_region 1 with fail
      rw [← hW1]
      clear hW1
      go_wp2_with fail
      ((with_reducible refine HC.out.mono ?_); rintro e w2 ⟨rfl, hb2⟩)
      have hZ2 := HZ1.out.keep hb2
      have z0 : w2.cell? ⟨w.heap.size, 0, none⟩ = some (.slice none 0 0) := hZ2.cell 0
      have z1 : w2.cell? ⟨w.heap.size, 1, none⟩ = some (.slice none 0 0) := hZ2.cell 1
      have z2 : w2.cell? ⟨w.heap.size, 2, none⟩ = some (.slice none 0 0) := hZ2.cell 2
      have f0 := hZ2.frozen 0
      have f1 := hZ2.frozen 1
      have f2 := hZ2.frozen 2
      have HZ2 := Lib.hid hZ2
      have HB2 := Lib.hid (HB1.out.trans (hb2.mono HB1.out.size))
      clear hb2 hZ2
      go_wp2_with fail
      ((with_reducible refine (HWI.out w2).mono ?_); rintro e w3 ⟨rfl, hw3⟩; rw [hw3]; clear hw3)
      go_wp2_with fail
      have HF := Lib.hid (((HZ2.out.set 0 (.slice Ac nc cc)).set 1 (.slice As ns cs)).set 2 (.slice Al nl cl))
      refine bodyPost_ret (results_cell_row2 rfl _ _ w.heap.size 70 #[.slice Ac nc cc, .slice As ns cs, .slice Al nl cl] (0, 0) _ rfl HF.out Tryd.underlying70 rfl HI.out) rfl ?_
      exact ⟨rfl, ((HB2.out.setCell (p := ⟨w.heap.size, 0, none⟩) (Nat.le_refl _) _).setCell (p := ⟨w.heap.size, 1, none⟩) (Nat.le_refl _) _).setCell (p := ⟨w.heap.size, 2, none⟩) (Nat.le_refl _) _⟩
    | false =>
      have HV := Lib.hid (show Rc.readV 0 ns no [.slice Ac nc cc, .slice As ns cs, .slice Al nl cl] = Rc.z3 ∧ Rc.readE 0 ns no = 1 from ⟨by rw [Rc.readV, if_neg (by rw [hb]; simp)], by rw [Rc.readE, if_pos rfl, if_neg (by rw [hb]; decide)]⟩)
      rw [HV.out.1, HV.out.2]
      have HWI := Lib.hid (fun W => Rc.within_any no ns W)
      rw [hb] at HWI
      clear hb
      go_enter Tryd.func44, Tryd.ntmps44
      go_upto_region 1 with fail
      rw [← hW1]
      clear hW1
      go_wp2_with fail
      ((with_reducible refine HC.out.mono ?_); rintro e w2 ⟨rfl, hb2⟩)
      have hZ2 := HZ1.out.keep hb2
      have z0 : w2.cell? ⟨w.heap.size, 0, none⟩ = some (.slice none 0 0) := hZ2.cell 0
      have z1 : w2.cell? ⟨w.heap.size, 1, none⟩ = some (.slice none 0 0) := hZ2.cell 1
      have z2 : w2.cell? ⟨w.heap.size, 2, none⟩ = some (.slice none 0 0) := hZ2.cell 2
      have f0 := hZ2.frozen 0
      have f1 := hZ2.frozen 1
      have f2 := hZ2.frozen 2
      have HZ2 := Lib.hid hZ2
      have HB2 := Lib.hid (HB1.out.trans (hb2.mono HB1.out.size))
      clear hb2 hZ2
      go_wp2_with fail
      ((with_reducible refine (HWI.out w2).mono ?_); rintro e w3 ⟨rfl, hw3⟩; rw [hw3]; clear hw3)
      go_wp2_with fail
      have HF := Lib.hid (((HZ2.out.set 0 (.slice none 0 0)).set 1 (.slice none 0 0)).set 2 (.slice none 0 0))
      refine bodyPost_ret (results_cell_row2 rfl _ _ w.heap.size 70 #[.slice none 0 0, .slice none 0 0, .slice none 0 0] (0, 0) _ rfl HF.out Tryd.underlying70 rfl HI.out) rfl ?_
      exact ⟨rfl, ((HB2.out.setCell (p := ⟨w.heap.size, 0, none⟩) (Nat.le_refl _) _).setCell (p := ⟨w.heap.size, 1, none⟩) (Nat.le_refl _) _).setCell (p := ⟨w.heap.size, 2, none⟩) (Nat.le_refl _) _⟩
  · have HV := Lib.hid (show Rc.readV 510 ns no [.slice Ac nc cc, .slice As ns cs, .slice Al nl cl] = Rc.z3 ∧ Rc.readE 510 ns no = 510 from ⟨by rw [Rc.readV, if_neg (by simp)], by rw [Rc.readE, if_neg (by decide)]⟩)
    rw [HV.out.1, HV.out.2]
    go_enter Tryd.func44, Tryd.ntmps44
    go_upto_region 1 with fail
    rw [← hW1]
    clear hW1
    go_wp2_with fail
    ((with_reducible refine HC.out.mono ?_); rintro e w2 ⟨rfl, hb2⟩)
    have hZ2 := HZ1.out.keep hb2
    have z0 : w2.cell? ⟨w.heap.size, 0, none⟩ = some (.slice none 0 0) := hZ2.cell 0
    have z1 : w2.cell? ⟨w.heap.size, 1, none⟩ = some (.slice none 0 0) := hZ2.cell 1
    have z2 : w2.cell? ⟨w.heap.size, 2, none⟩ = some (.slice none 0 0) := hZ2.cell 2
    have f0 := hZ2.frozen 0
    have f1 := hZ2.frozen 1
    have f2 := hZ2.frozen 2
    have HZ2 := Lib.hid hZ2
    have HB2 := Lib.hid (HB1.out.trans (hb2.mono HB1.out.size))
    clear hb2 hZ2
    go_wp2_with fail
    have HF := Lib.hid (((HZ2.out.set 0 (.slice none 0 0)).set 1 (.slice none 0 0)).set 2 (.slice none 0 0))
    refine bodyPost_ret (results_cell_row2 rfl _ _ w.heap.size 70 #[.slice none 0 0, .slice none 0 0, .slice none 0 0] (0, 0) _ rfl HF.out Tryd.underlying70 rfl HI.out) rfl ?_
    exact ⟨rfl, ((HB2.out.setCell (p := ⟨w.heap.size, 0, none⟩) (Nat.le_refl _) _).setCell (p := ⟨w.heap.size, 1, none⟩) (Nat.le_refl _) _).setCell (p := ⟨w.heap.size, 2, none⟩) (Nat.le_refl _) _⟩
end Go.Proofs.YtnbbleajbbgmjaaDoor
/- The iterator evidence.of$1: the receipts of a submission, with their times. -/
namespace Go.Proofs.YtnbbleajbbgmjaaDoor
open Go.RowKit Go.Shelf
attribute [local go_sem] Oper.semAt_some
set_option linter.unusedVariables false

theorem wpListIn_load_mid {F : Fence} {n : Nat} {P : Program} {ops : Array Oper} {rest : List Oper} {op : Oper} {a : Act} {w : World} {Q : Exit → Act → World → Prop} (hgd : op.guard = none) (ty : TypeId) (x : Operand) (ho : op.op = .load ty x)
    (b o : Nat) (hx : a.eval x = .pointer (some ⟨b, o, none⟩)) (cs : List Value) (d : TypeDesc) (hc : w.rangeAt b o cs)
    (hu : P.underlying ty = some d) (hd : d.isRow = true) (hi : (P.info? ty).map (·.size) = some cs.length)
    (h : wpListIn F n P ops Q rest (a.put op.dst (.agg cs.toArray)) w) : wpListIn F n P ops Q (op :: rest) a w := by
  refine wpListIn_plain hgd fun K hK => ?_
  unfold Oper.wpIn
  refine ⟨?_, ?_⟩
  · simp [Oper.about, ho]
  · rw [Oper.semAt_plain F _ _ (by rw [ho]; intro c hc'; cases hc')]
    simp [execOp, ho, hx, Instr.loadAt, Instr.sureAddr, run_loadVar_mid w b o ty cs d hc hu hd hi, Result.andThen]
    exact hK _ _ h
theorem wpListIn_store_row {F : Fence} {n : Nat} {P : Program} {ops : Array Oper} {rest : List Oper} {o : Oper} {a : Act} {w : World} {Q : Exit → Act → World → Prop} (hgd : o.guard = none) (ty : TypeId) (x y : Operand) (ho : o.op = .store ty x y)
    (g : Nat) (cells : Array Value) (hx : a.eval x = .pointer (some ⟨g, 0, none⟩)) (hy : a.eval y = .agg cells)
    (t : TypeId) (old : Array Value) (hg : w.heap[g]? = some (.cells old t (0, 0))) (hi : (P.info? ty).map (·.size) = some cells.size)
    (hold : old.size = cells.size) (h1 : cells.all (·.oneCell') = true)
    (h : wpListIn F n P ops Q rest (a.put o.dst undef) (w.setRow g cells)) : wpListIn F n P ops Q (o :: rest) a w := by
  refine wpListIn_plain hgd fun K hK => ?_
  unfold Oper.wpIn
  refine ⟨?_, ?_⟩
  · simp [Oper.about, ho]
  · rw [Oper.semAt_plain F _ _ (by rw [ho]; intro c hc'; cases hc')]
    simp [execOp, ho, hx, hy, Instr.storeAt, Instr.sureAddr, run_storeVar_row w g t ty old cells hg hi hold h1, Result.andThen]
    exact hK _ _ h

/-- the times of a receipt -/
def Rc.spL (c : List Rc.C) (x : Rc.R) : Int := let q := c.getD x.rf.toNat default; Clk.timLo q.s q.er q.d x.st
def Rc.spH (c : List Rc.C) (x : Rc.R) : Int := let q := c.getD x.rf.toNat default; Clk.timHi q.s q.er q.d x.st
/-- the receipts of a submission among the first k -/
def Rc.ofk (c : List Rc.C) (l : List Rc.R) (no : Int) (k : Nat) : List (Nat × Int × Int) := match l[k]? with | none => [] | some x => if x.no = no then [(k, Rc.spL c x, Rc.spH c x)] else []
def Rc.ofp (c : List Rc.C) (l : List Rc.R) (no : Int) : Nat → List (Nat × Int × Int)
  | 0 => []
  | k + 1 => Rc.ofp c l no k ++ Rc.ofk c l no k
theorem Rc.ofp_pre (c : List Rc.C) (l : List Rc.R) (no : Int) (k n : Nat) (h : k ≤ n) : ∃ r, Rc.ofp c l no k ++ r = Rc.ofp c l no n := by
  induction n with
  | zero => exact ⟨[], by rw [show k = 0 by omega]; rfl⟩
  | succ n ih =>
    by_cases he : k = n + 1
    · exact ⟨[], by rw [he]; simp⟩
    · obtain ⟨r, hr⟩ := ih (by omega)
      exact ⟨r ++ Rc.ofk c l no n, by rw [← List.append_assoc, hr]; rfl⟩
def Rc.ofs (c : List Rc.C) (l : List Rc.R) (no : Int) : List (Nat × Int × Int) := Rc.ofp c l no l.length
def Rc.enc (v : Nat × Int × Int) : Array Value := #[.int .i64 (v.1 : Int), .agg #[Rc.i v.2.1, Rc.i v.2.2]]
/-- the range's box laid ahead of the call -/
theorem Rc.boxA {W2 W4 : World} {t : TypeId} {a b : Value} {Q : Prop} (hb : Below (W2.drew.alloc (.cells #[a, b] t)).heap.size (W2.drew.alloc (.cells #[a, b] t)) W4)
    (h : Has W4 W2.heap.size t [a, b] → Below W2.heap.size W2 W4 → W4.cell? ⟨W2.heap.size, 0, none⟩ = some a → W4.cell? ⟨W2.heap.size, 1, none⟩ = some b → W4.frozen? ⟨W2.heap.size, 0, none⟩ = false → W4.frozen? ⟨W2.heap.size, 1, none⟩ = false → W2.heap.size < W4.heap.size → Q) : Q := by
  have hw : Below W2.heap.size W2 W2.drew := (Below.refl _ W2).drew
  have g : Has W4 W2.heap.size t [a, b] := (Has.new W2.drew t [a, b]).keep hb
  have hz : W2.heap.size ≤ (W2.drew.alloc (.cells #[a, b] t)).heap.size := by rw [World.size_alloc]; exact Nat.le_succ_of_le hw.size
  exact h g ((hw.alloc hw.size _).trans (hb.mono hz)) (g.cell 0) (g.cell 1) (g.frozen 0) (g.frozen 1) g.lt
theorem Rc.set2 {W2 W4 : World} {u v : Value} (h : Below W2.heap.size W2 W4) : Below W2.heap.size W2 ((W4.setCell ⟨W2.heap.size, 0, none⟩ u).setCell ⟨W2.heap.size, 1, none⟩ v) :=
  (h.setCell (p := ⟨W2.heap.size, 0, none⟩) (Nat.le_refl _) u).setCell (p := ⟨W2.heap.size, 1, none⟩) (Nat.le_refl _) v
theorem Rc.new2 {W2 W4 : World} {o : Obj} (h : Below W2.heap.size W2 W4) : Below W2.heap.size W2 (W4.alloc o) := h.alloc h.size _
theorem Rc.set2B {W2 W4 : World} {o : Obj} {u v : Value} (h : Below W2.heap.size W2 W4) : Below W2.heap.size W2 (((W4.alloc o).setCell ⟨W4.heap.size, 0, none⟩ u).setCell ⟨W4.heap.size, 1, none⟩ v) :=
  ((h.alloc h.size _).setCell (p := ⟨W4.heap.size, 0, none⟩) h.size u).setCell (p := ⟨W4.heap.size, 1, none⟩) h.size v
theorem Rc.keep7 {W2 : World} {ge xb bc o : Nat} {v0 v1 v2 v3 v4 v5 : Value} (hb : bc < W2.heap.size) (hx : xb < W2.heap.size) (hg : ge < W2.heap.size)
    (h0 : W2.cell? ⟨ge, 0, none⟩ = some v0) (h1 : W2.cell? ⟨xb, 0, none⟩ = some v1) (h2 : W2.cell? ⟨xb, 2, none⟩ = some v2) (h3 : W2.cell? ⟨bc, o, none⟩ = some v3) (h4 : W2.cell? ⟨bc, o + 1, none⟩ = some v4) (h5 : W2.cell? ⟨bc, o + 2, none⟩ = some v5) (w' : World) (s : Below W2.heap.size W2 w') :
    w'.cell? ⟨ge, 0, none⟩ = some v0 ∧ w'.cell? ⟨xb, 0, none⟩ = some v1 ∧ w'.cell? ⟨xb, 2, none⟩ = some v2 ∧ w'.cell? ⟨bc, o, none⟩ = some v3 ∧ w'.cell? ⟨bc, o + 1, none⟩ = some v4 ∧ w'.cell? ⟨bc, o + 2, none⟩ = some v5 ∧ Below W2.heap.size W2 w' :=
  ⟨(s.cell hg).trans h0, (s.cell hx).trans h1, (s.cell hx).trans h2, (s.cell hb).trans h3, (s.cell hb).trans h4, (s.cell hb).trans h5, s⟩
theorem grown_none {w w' : World} (h : Below w.heap.size w w') : w.grownBy w' none := ⟨h.os, h.tape, h.output, h.size, fun k hk _ => h.block k hk⟩

/-- what a round of the caller's keeps: all that lay ahead of the caller, and the two boxes -/
def Rc.Kp (n0 ge gn : Nat) (A B : World) : Prop := Below n0 A B ∧ B.heap[ge]? = A.heap[ge]? ∧ B.heap[gn]? = A.heap[gn]?
theorem Rc.Kp.trans {n0 ge gn : Nat} {A B C : World} (h : Rc.Kp n0 ge gn A B) (k : Rc.Kp n0 ge gn B C) : Rc.Kp n0 ge gn A C := ⟨h.1.trans k.1, k.2.1.trans h.2.1, k.2.2.trans h.2.2⟩
theorem Rc.Kp.of {n0 ge gn : Nat} {A B : World} (h : Below A.heap.size A B) (hn : n0 ≤ A.heap.size) (hge : ge < A.heap.size) (hgn : gn < A.heap.size) : Rc.Kp n0 ge gn A B := ⟨h.mono hn, h.block _ hge, h.block _ hgn⟩
theorem Rc.Kp.step {n0 ge gn : Nat} {A B C : World} (h : Rc.Kp n0 ge gn A B) (hn : n0 ≤ A.heap.size) (hge : ge < A.heap.size) (hgn : gn < A.heap.size) (k : Below B.heap.size B C) : Rc.Kp n0 ge gn A C :=
  h.trans (.of k (Nat.le_trans hn h.1.size) (Nat.lt_of_lt_of_le hge h.1.size) (Nat.lt_of_lt_of_le hgn h.1.size))
theorem Rc.Kp.cg {n0 ge gn : Nat} {A B : World} (h : Rc.Kp n0 ge gn A B) (i : Nat) : B.cell? ⟨ge, i, none⟩ = A.cell? ⟨ge, i, none⟩ := World.cell?_of_block h.2.1
theorem Rc.Kp.cn {n0 ge gn : Nat} {A B : World} (h : Rc.Kp n0 ge gn A B) (i : Nat) : B.cell? ⟨gn, i, none⟩ = A.cell? ⟨gn, i, none⟩ := World.cell?_of_block h.2.2

set_option maxRecDepth 100000 in
set_option maxHeartbeats 8000000 in
theorem Rc.of_stops (n : Nat) (hn : 5 ≤ n) (ge gn : Nat) (Ac As Al : Option Addr) (nc cc ns cs nl cl : Nat) (c : List Rc.C) (subs : List Rc.Sb) (l : List Rc.R) (no : Int) (n0 : Nat) (w : World) (hn0 : n0 ≤ w.heap.size) (hE : Rc.Ev w n0 Ac As Al nc ns nl c subs l)
    (hrf : ∀ x ∈ l, 0 ≤ x.rf ∧ x.rf < nc) (hge : ge < w.heap.size) (hgn : gn < w.heap.size)
    (e0 : w.cell? ⟨ge, 0, none⟩ = some (.slice Ac nc cc)) (e1 : w.cell? ⟨ge, 1, none⟩ = some (.slice As ns cs)) (e2 : w.cell? ⟨ge, 2, none⟩ = some (.slice Al nl cl)) (e3 : w.cell? ⟨gn, 0, none⟩ = some (Rc.i no)) :
    SeqStopsK Fence.wide n Tryd.prog 65 #[.pointer (some ⟨ge, 0, none⟩), .pointer (some ⟨gn, 0, none⟩)] Rc.enc (Rc.Kp n0 ge gn) (fun xs => xs = Rc.ofs c l no) (fun pre => ∃ r, pre ++ r = Rc.ofs c l no) (Rc.ofs c l no).length w := fun L J Jx W hbW hJ _ hY h0 => by
  have h1 : 1 ≤ n := by omega
  have h2 : 1 ≤ n - 1 := by omega
  have h3 : 1 ≤ n - 1 - 1 := by omega
  have hfn : ∀ f, Fence.wide.fn f := fun _ => trivial
  have HE := Lib.hid hE
  have HRF := Lib.hid hrf
  have HJ := Lib.hid hJ
  have HY := Lib.hid hY
  have HBW := Lib.hid (Rc.Kp.of hbW hn0 hge hgn)
  have hll := hE.l.len
  have hcl := hE.c.len
  have hml := hE.ml
  have hmc := hE.mc
  unfold maxLen at hml hmc
  have a0 := (hbW.cell (p := ⟨ge, 0, none⟩) hge).trans e0
  have a2 := (hbW.cell (p := ⟨ge, 2, none⟩) hge).trans e2
  have H0 := Lib.hid h0
  clear hE hrf hJ hY hbW h0
  refine callsIn_of_wp Tryd.func65 rfl trivial ?_ rfl
  simp only [Tryd.ntmps65, List.size_toArray, List.length_cons, List.length_nil, Nat.reduceAdd, Nat.reduceSub, Array.replicate_succ, Array.replicate_zero, List.push_toArray, List.append_toArray, List.nil_append, List.cons_append]
  gi_wp2
  gi_loopw [12] (fun i wr => ∃ k : Nat, k ≤ nl ∧ i = .int .i64 k ∧ J (Rc.ofp c l no k) wr ∧ Rc.Kp n0 ge gn w wr) (fun i wr => nl - (intOf i).toNat)
  case atStart => exact ⟨0, by omega, rfl, H0.out, HBW.out⟩
  case round =>
    clear a0 a2
    obtain ⟨k, hk, rfl, hJk, hB⟩ := hrel
    by_cases hlt : k < nl
    · obtain ⟨x, hx⟩ : ∃ x, l[k]? = some x := ⟨_, List.getElem?_eq_getElem (by omega)⟩
      obtain ⟨hx32, bl, ol, rfl, hbl, hrx⟩ := (HE.out.l.keep hB.1).get k x hx
      have hc35 : x.cells.length = 35 := Rc.R.cells_len hx32
      have HRX := Lib.hid hrx
      have HI47 := Lib.hid (show (Tryd.prog.info? 47).map (·.size) = some x.cells.length from by rw [hc35]; exact Rc.info47)
      have HI47b := Lib.hid (show (Tryd.prog.info? 47).map (·.size) = some x.cells.toArray.size from by rw [List.size_toArray, hc35]; exact Rc.info47)
      have HZ35 := Lib.hid (show Rc.z35.toArray.size = x.cells.toArray.size from by rw [List.size_toArray, List.size_toArray, hc35]; rfl)
      have H135 := Lib.hid (show x.cells.toArray.all (·.oneCell') = true from all_oneCell_toArray x.cells_one)
      have HN1 := Lib.hid (show (wr.alloc (.cells Rc.z35.toArray 47)).heap[wr.heap.size]? = some (.cells Rc.z35.toArray 47 (0, 0)) from World.alloc_heap_new _ _)
      have a0 := (hB.cg 0).trans e0
      have a3 := (hB.cn 0).trans e3
      have HB := Lib.hid hB
      have HJK := Lib.hid hJk
      have hzw := hB.1.size
      have hznw := hn0
      have HSN := Lib.hid (show Rc.ofp c l no (k + 1) = Rc.ofp c l no k ++ (if x.no = no then [(k, Rc.spL c x, Rc.spH c x)] else []) from by rw [Rc.ofp, Rc.ofk, hx])
      have HXM := Lib.hid (HRF.out x (List.mem_of_getElem? hx))
      clear hJk hB hx hx32 hrx hc35
      by_cases hno : x.no = no
      · have hq : (x.no != no) = false := by simp [hno]
        have HS1 := Lib.hid (show Rc.ofp c l no (k + 1) = Rc.ofp c l no k ++ [(k, Rc.spL c x, Rc.spH c x)] from by rw [HSN.out, if_pos hno])
        obtain ⟨hx0, hx1⟩ := HXM.out
        obtain ⟨q, hqc⟩ : ∃ q, c[x.rf.toNat]? = some q := ⟨_, List.getElem?_eq_getElem (by omega)⟩
        have HSP := Lib.hid (show Rc.spL c x = Clk.timLo q.s q.er q.d x.st ∧ Rc.spH c x = Clk.timHi q.s q.er q.d x.st from by
          have hd : c.getD x.rf.toNat default = q := by rw [List.getD_eq_getElem?_getD, hqc]; rfl
          exact ⟨by unfold Rc.spL; rw [hd], by unfold Rc.spH; rw [hd]⟩)
        obtain ⟨bc, oc, rfl, hbc, q0, q1, q2⟩ := HE.out.c.get x.rf.toNat q hqc
        obtain ⟨rn, hrn⟩ : ∃ rn : Nat, x.rf.toNat = rn := ⟨_, rfl⟩
        have hrx : x.rf = (rn : Int) := by omega
        rw [hrn] at q0 q1 q2
        have HR := Lib.hid hrx
        have p0 := (HB.out.1.cell (p := ⟨bc, oc + rn * 3, none⟩) hbc).trans q0
        have p1 := (HB.out.1.cell (p := ⟨bc, oc + rn * 3 + 1, none⟩) hbc).trans q1
        have p2 := (HB.out.1.cell (p := ⟨bc, oc + rn * 3 + 2, none⟩) hbc).trans q2
        have hrl : rn < nc := by omega
        clear hno hqc hrn hrx hx0 hx1 q0 q1 q2
        gi_wp2_with (first
          | (with_reducible refine wpListIn_load_mid rfl 47 (.tmp 15) rfl bl (ol + k * 35) rfl x.cells _ HRX.out Tryd.underlying47 rfl HI47.out ?_)
          | ((refine wpListIn_store_row (o := ⟨none, .store 47 (.tmp 5) (.tmp 16), _, _, _, _⟩) rfl 47 (.tmp 5) (.tmp 16) rfl wr.heap.size x.cells.toArray rfl rfl 47 Rc.z35.toArray HN1.out HI47b.out HZ35.out H135.out ?_)
             obtain ⟨W2, hW2⟩ : ∃ W2, W2 = (wr.alloc (.cells Rc.z35.toArray 47)).setRow wr.heap.size x.cells.toArray := ⟨_, rfl⟩
             change wpListIn _ _ _ _ _ _ _ ((wr.alloc (.cells Rc.z35.toArray 47)).setRow wr.heap.size x.cells.toArray)
             have hX2 : Has W2 wr.heap.size 47 x.cells := by rw [hW2]; exact setRow_heap _ wr.heap.size _ x.cells.toArray 47 (0, 0) HN1.out
             have hB2 : Below wr.heap.size wr W2 := by rw [hW2]; exact below_setRow ((Below.refl _ wr).alloc (Nat.le_refl _) _) (Nat.le_refl _) _
             rw [← hW2]
             have x0 : W2.cell? ⟨wr.heap.size, 0, none⟩ = some (Rc.i x.rf) := hX2.cell 0
             have x1 : W2.cell? ⟨wr.heap.size, 1, none⟩ = some (Rc.i x.no) := hX2.cell 1
             have x2 : W2.cell? ⟨wr.heap.size, 2, none⟩ = some (Rc.i x.st) := hX2.cell 2
             rw [HR.out] at x0
             have r0 := (hB2.cell (p := ⟨bc, oc + rn * 3, none⟩) (by show bc < wr.heap.size; omega)).trans p0
             have r1 := (hB2.cell (p := ⟨bc, oc + rn * 3 + 1, none⟩) (by show bc < wr.heap.size; omega)).trans p1
             have r2 := (hB2.cell (p := ⟨bc, oc + rn * 3 + 2, none⟩) (by show bc < wr.heap.size; omega)).trans p2
             have b0 := (hB2.cell (p := ⟨ge, 0, none⟩) (by show ge < wr.heap.size; omega)).trans a0
             have b3 := (hB2.cell (p := ⟨gn, 0, none⟩) (by show gn < wr.heap.size; omega)).trans a3
             have HX2 := Lib.hid hX2
             have HB2 := Lib.hid hB2
             clear hX2 hB2 hW2 p0 p1 p2 a0 a3))
        have HT := Lib.hid (fun W' => Clk.times_any q.s q.er q.d x.st W')
        rw [← HSP.out.1, ← HSP.out.2] at HT
        generalize Rc.spL c x = lo at HT HS1
        generalize Rc.spH c x = hi at HT HS1
        have hzx : wr.heap.size < W2.heap.size := HX2.out.lt
        have hzg : ge < W2.heap.size := by omega
        have hzc : bc < W2.heap.size := by omega
        have hmix : Tryd.prog.follows .mixedOrders = true := by kernel_rfl
        have hlr : (rn : Int) < (nc : Int) := by omega
        refine wpIn_mono (Q := fun e a' W' => e = .normal ∧ ∃ (rb : Nat) (u5 u7 u8 u13 u14 u15 u16 u17 u18 u19 u20 u21 u22 u23 u24 u25 u26 u27 u28 u29 u30 u31 u32 u33 u34 u35 u36 u37 u38 u39 : Value), a' = { tmps := #[.func (.yield L) #[] #[], .pointer (some ⟨ge, 0, none⟩), .pointer (some ⟨gn, 0, none⟩), undef, .int .i64 k, u5, .pointer (some ⟨rb, 0, none⟩), u7, u8, .pointer (some ⟨ge, 2, none⟩), .slice (some ⟨bl, ol, none⟩) nl cl, .int .i64 nl, .int .i64 k, u13, u14, u15, u16, u17, u18, u19, u20, u21, u22, u23, u24, u25, u26, u27, u28, u29, u30, u31, u32, u33, u34, u35, u36, u37, u38, u39], defers := [] } ∧ Has W' rb 38 [Rc.i lo, Rc.i hi] ∧ Below wr.heap.size wr W') ?region ?tail
        case region =>
          refine wpIn_wide.2 ?_
          have KP := Lib.hid (Rc.keep7 hzc hzx hzg b0 x0 x2 r0 r1 r2)
          have s2 : Below W2.heap.size W2 W2.drew := (Below.refl _ W2).drew
          go_region_held3 (fun w' => w'.cell? ⟨ge, 0, none⟩ = some (.slice (some ⟨bc, oc, none⟩) nc cc) ∧ w'.cell? ⟨wr.heap.size, 0, none⟩ = some (Rc.i (rn : Int)) ∧ w'.cell? ⟨wr.heap.size, 2, none⟩ = some (Rc.i x.st) ∧ w'.cell? ⟨bc, oc + rn * 3, none⟩ = some (Rc.i q.s) ∧ w'.cell? ⟨bc, oc + rn * 3 + 1, none⟩ = some (Rc.i q.er) ∧ w'.cell? ⟨bc, oc + rn * 3 + 2, none⟩ = some (Rc.i q.d) ∧ Below W2.heap.size W2 w')
            (first
              | exact KP.out _ (by assumption)
              | exact KP.out _ (Rc.new2 (by assumption))
              | exact KP.out _ (Rc.set2 (by assumption))
              | exact KP.out _ (Rc.set2B (by assumption)))
            (first
              | (go_at_call 24
                 (with_reducible refine (HT.out _).mono ?_)
                 rintro e W4 ⟨rfl, hb4⟩
                 refine Rc.boxA hb4 (fun gA sA g0 g1 k0 k1 kz => ?_))
              | (go_at_call 24
                 (with_reducible refine (HT.out _).mono ?_)
                 rintro e W4 ⟨rfl, hb4⟩
                 have sB := s2.trans hb4))
          all_goals (refine ⟨rfl, _, _, _, _, _, _, _, _, _, _, _, _, _, _, _, _, _, _, _, _, _, _, _, _, _, _, _, _, _, _, _, rfl, ?_, ?_⟩)
          all_goals first
            | exact Has.new _ _ _
            | exact (gA.set 0 _).set 1 _
            | exact HB2.out.trans ((Rc.new2 sB).mono HB2.out.size)
            | exact HB2.out.trans ((Rc.set2 sA).mono HB2.out.size)
        case tail =>
          rintro e a' W5 ⟨rfl, rb, u5, u7, u8, u13, u14, u15, u16, u17, u18, u19, u20, u21, u22, u23, u24, u25, u26, u27, u28, u29, u30, u31, u32, u33, u34, u35, u36, u37, u38, u39, rfl, hHas, hB5⟩
          obtain ⟨zr, c0, c1⟩ := hHas.r2
          have hJ5 : J (Rc.ofp c l no k) W5 := HJ.out _ wr W5 none HJK.out (grown_none hB5) (fun _ e => by cases e)
          have HP := Lib.hid (Rc.ofp_pre c l no (k + 1) l.length (by omega))
          have hlen : (Rc.ofp c l no k).length < (Rc.ofs c l no).length := by
            obtain ⟨r, hr⟩ := HP.out
            have h := congrArg List.length hr
            rw [HS1.out] at h
            simp only [List.length_append, List.length_cons, List.length_nil] at h
            show _ < (Rc.ofp c l no l.length).length
            omega
          obtain ⟨fn, tmps, assign, body, hy, hR⟩ := HY.out _ (k, lo, hi) W5 hJ5 hlen
          dsimp only [Rc.enc] at hy
          have HB5 := Lib.hid (HB.out.step hn0 hge hgn hB5)
          clear hJ5 hlen hHas hB5 HJK x0 x1 x2 r0 r1 r2 b0 b3
          gi_wp2
          refine hR.mono ?_
          rintro e W3 (⟨rfl, hJ3, hk3⟩ | ⟨rfl, hJx3⟩)
          · have HJ3 := Lib.hid (show J (Rc.ofp c l no (k + 1)) W3 from by rw [HS1.out]; exact hJ3)
            have HK3 := Lib.hid (HB5.out.trans hk3)
            clear hJ3 hk3
            gi_wp2
            go_roundw
            case rel => exact ⟨k + 1, by omega, by go_num, HJ3.out, HK3.out⟩
            case measure => simp [intOf]; omega
          · have HJx3 := Lib.hid (show Jx (Rc.ofp c l no (k + 1)) W3 from by rw [HS1.out]; exact hJx3)
            clear hJx3
            gi_wp2
            refine bodyPost_ret (results_none rfl _ _ _) rfl ?_
            exact ⟨⟨_, rfl⟩, .inr ⟨_, HP.out, HJx3.out⟩⟩
      · have hq : (x.no != no) = true := by simpa using hno
        have HS1 := Lib.hid (show Rc.ofp c l no (k + 1) = Rc.ofp c l no k from by rw [HSN.out, if_neg hno, List.append_nil])
        clear hno
        gi_wp2_with (first
          | (with_reducible refine wpListIn_load_mid rfl 47 (.tmp 15) rfl bl (ol + k * 35) rfl x.cells _ HRX.out Tryd.underlying47 rfl HI47.out ?_)
          | ((refine wpListIn_store_row (o := ⟨none, .store 47 (.tmp 5) (.tmp 16), _, _, _, _⟩) rfl 47 (.tmp 5) (.tmp 16) rfl wr.heap.size x.cells.toArray rfl rfl 47 Rc.z35.toArray HN1.out HI47b.out HZ35.out H135.out ?_)
             obtain ⟨W2, hW2⟩ : ∃ W2, W2 = (wr.alloc (.cells Rc.z35.toArray 47)).setRow wr.heap.size x.cells.toArray := ⟨_, rfl⟩
             change wpListIn _ _ _ _ _ _ _ ((wr.alloc (.cells Rc.z35.toArray 47)).setRow wr.heap.size x.cells.toArray)
             have hX2 : Has W2 wr.heap.size 47 x.cells := by rw [hW2]; exact setRow_heap _ wr.heap.size _ x.cells.toArray 47 (0, 0) HN1.out
             have hB2 : Below wr.heap.size wr W2 := by rw [hW2]; exact below_setRow ((Below.refl _ wr).alloc (Nat.le_refl _) _) (Nat.le_refl _) _
             rw [← hW2]
             have x1 : W2.cell? ⟨wr.heap.size, 1, none⟩ = some (Rc.i x.no) := hX2.cell 1
             have b3 := (hB2.cell (p := ⟨gn, 0, none⟩) (by show gn < wr.heap.size; omega)).trans a3
             have HB2 := Lib.hid hB2
             clear hX2 hB2 hW2 a0 a3))
        have HJ2 := Lib.hid (show J (Rc.ofp c l no (k + 1)) W2 from by rw [HS1.out]; exact HJ.out _ wr W2 none HJK.out (grown_none HB2.out) (fun _ e => by cases e))
        have HB5 := Lib.hid (HB.out.step hn0 hge hgn HB2.out)
        go_roundw
        case rel => exact ⟨k + 1, by omega, by go_num, HJ2.out, HB5.out⟩
        case measure => simp [intOf]; omega
    · obtain rfl : k = nl := by omega
      have HX := Lib.hid (show J (Rc.ofs c l no) wr from by unfold Rc.ofs; rw [hll]; exact hJk)
      clear hJk hB
      gi_wp2
      go_end0
      exact ⟨⟨_, rfl⟩, .inl ⟨_, rfl, HX.out⟩⟩
end Go.Proofs.YtnbbleajbbgmjaaDoor
