/- Contracts of receipts.read, span.before, Before, evidence.of. -/
import Derived.Test.YtnbbleajbbgmjaaDoorRcW5
namespace Go.Proofs.YtnbbleajbbgmjaaDoor
open Go.RowKit
set_option linter.unusedVariables false

theorem Rc.before_any (a b c d : Int) (w : World) : Calls Tryd.prog 48 #[.agg #[Rc.i a, Rc.i b], .agg #[Rc.i c, Rc.i d]] w fun e w' => e = .returned (.bool (decide (b < c))) ∧ Below w.heap.size w w' := by
  have HB := Lib.hid (below_two w (.cells #[Rc.i a, Rc.i b] 82) (.cells #[Rc.i c, Rc.i d] 82))
  go_enter Tryd.func48, Tryd.ntmps48
  go_wp2_with fail
  go_ret
  exact ⟨rfl, HB.out⟩
theorem Rc.Before_any (a b c d : Int) (w : World) : Calls Tryd.prog 20 #[.agg #[Rc.i a, Rc.i b], .agg #[Rc.i c, Rc.i d]] w fun e w' => e = .returned (.bool (decide (b < c))) ∧ Below w.heap.size w w' := by
  have HB := Lib.hid (below_two w (.cells #[Rc.i a, Rc.i b] 38) (.cells #[Rc.i c, Rc.i d] 38))
  have HC := Lib.hid (Rc.before_any a b c d ((w.alloc (.cells #[Rc.i a, Rc.i b] 38)).alloc (.cells #[Rc.i c, Rc.i d] 38)))
  go_enter Tryd.func20, Tryd.ntmps20
  go_wp2_with fail
  ((with_reducible refine HC.out.mono ?_); rintro e w2 ⟨rfl, hb2⟩)
  have HB2 := Lib.hid (HB.out.trans (hb2.mono HB.out.size))
  clear hb2
  go_wp2_with fail
  go_ret
  exact ⟨rfl, HB2.out⟩
theorem Rc.of_any (e1 e2 e3 : Value) (h1 : e1.oneCell' = true) (h2 : e2.oneCell' = true) (h3 : e3.oneCell' = true) (no : Int) (w : World) :
    Calls Tryd.prog 45 #[.agg #[e1, e2, e3], Rc.i no] w fun e w' => e = .returned (.func (.func 65) #[] #[.pointer (some ⟨w.heap.size, 0, none⟩), .pointer (some ⟨w.heap.size + 1, 0, none⟩)]) ∧
      (w.alloc (.cells #[e1, e2, e3] 70)).alloc (.cells #[Rc.i no] 3) = w' := by
  have hmf : ∀ (fn : Fn) (first cap : Array Value) (w : World), (Instr.makeFunc fn first cap).run Tryd.prog w = .ok (.func fn first cap) w := fun _ _ _ _ => rfl
  go_enter Tryd.func45, Tryd.ntmps45
  go_wp2_with fail
  go_ret
  exact ⟨rfl, rfl⟩

def Rc.z3 : List Value := [.slice none 0 0, .slice none 0 0, .slice none 0 0]
/-- what read answers -/
def Rc.readE (E : Int) (ns : Nat) (no : Int) : Int := if E = 0 then (if Rc.inB no ns = true then 0 else 1) else E
def Rc.readV (E : Int) (ns : Nat) (no : Int) (v : List Value) : List Value := if E = 0 ∧ Rc.inB no ns = true then v else Rc.z3
set_option maxHeartbeats 2000000 in
theorem Rc.read_any (Ac As Al : Option Addr) (nc cc ns cs nl cl : Nat) (c : List Rc.C) (subs : List Rc.Sb) (l : List Rc.R) (no : Int) (K : List UInt32) (I : Dg.S) (w : World) (hE : Rc.Ev w w.heap.size Ac As Al nc ns nl c subs l) (hG : Dg.G w K I) :
    Calls Tryd.prog 44 #[.slice Ac nc cc, .slice As ns cs, .slice Al nl cl, Rc.i no] w fun e w' =>
      e = .returned (.tuple #[.agg (Rc.readV (Rc.chkE K I c subs l) ns no [.slice Ac nc cc, .slice As ns cs, .slice Al nl cl]).toArray, .int .i64 (Rc.readE (Rc.chkE K I c subs l) ns no)]) ∧ Below w.heap.size w w' := by
  obtain ⟨W1, hW1⟩ : ∃ W1, W1 = w.alloc (.cells #[.slice none 0 0, .slice none 0 0, .slice none 0 0] 70) := ⟨_, rfl⟩
  have HB1 := Lib.hid (show Below w.heap.size w W1 from by rw [hW1]; exact (Below.refl _ w).alloc (Nat.le_refl _) _)
  have HZ1 := Lib.hid (show Has W1 w.heap.size 70 Rc.z3 from by rw [hW1]; exact Has.new w _ _)
  have HC := Lib.hid (Rc.check_any Ac As Al nc cc ns cs nl cl c subs l K I W1 (hE.up HB1.out) (hG.keep HB1.out))
  have hEE : Rc.chkE K I c subs l = 0 ∨ Rc.chkE K I c subs l = 510 := by unfold Rc.chkE; split <;> simp
  generalize Rc.chkE K I c subs l = E at HC hEE ⊢
  have hi70 : (Tryd.prog.info? 70).map (·.size) = some 3 := by kernel_rfl
  have HI := Lib.hid hi70
  clear hE hG hi70
  rcases hEE with rfl | rfl
  · cases hb : Rc.inB no ns with
    | true =>
      have HV := Lib.hid (show Rc.readV 0 ns no [.slice Ac nc cc, .slice As ns cs, .slice Al nl cl] = [.slice Ac nc cc, .slice As ns cs, .slice Al nl cl] ∧ Rc.readE 0 ns no = 0 from ⟨by rw [Rc.readV, if_pos ⟨rfl, hb⟩], by rw [Rc.readE, if_pos rfl, if_pos hb]⟩)
      rw [HV.out.1, HV.out.2]
      have HWI := Lib.hid (fun W => Rc.within_any no ns W)
      rw [hb] at HWI
      clear hb
      go_enter Tryd.func44, Tryd.ntmps44
      go_upto_region 1 with fail
      rw [← hW1]
      clear hW1
      go_wp2_with fail
      ((with_reducible refine HC.out.mono ?_); rintro e w2 ⟨rfl, hb2⟩)
      have hZ2 := HZ1.out.keep hb2
      have z0 : w2.cell? ⟨w.heap.size, 0, none⟩ = some (.slice none 0 0) := hZ2.cell 0
      have z1 : w2.cell? ⟨w.heap.size, 1, none⟩ = some (.slice none 0 0) := hZ2.cell 1
      have z2 : w2.cell? ⟨w.heap.size, 2, none⟩ = some (.slice none 0 0) := hZ2.cell 2
      have f0 := hZ2.frozen 0
      have f1 := hZ2.frozen 1
      have f2 := hZ2.frozen 2
      have HZ2 := Lib.hid hZ2
      have HB2 := Lib.hid (HB1.out.trans (hb2.mono HB1.out.size))
      clear hb2 hZ2
      go_wp2_with fail
      ((with_reducible refine (HWI.out w2).mono ?_); rintro e w3 ⟨rfl, hw3⟩; rw [hw3]; clear hw3)
      go_wp2_with fail
      have HF := Lib.hid (((HZ2.out.set 0 (.slice Ac nc cc)).set 1 (.slice As ns cs)).set 2 (.slice Al nl cl))
      refine bodyPost_ret (results_cell_row2 rfl _ _ w.heap.size 70 #[.slice Ac nc cc, .slice As ns cs, .slice Al nl cl] (0, 0) _ rfl HF.out Tryd.underlying70 rfl HI.out) rfl ?_
      exact ⟨rfl, ((HB2.out.setCell (p := ⟨w.heap.size, 0, none⟩) (Nat.le_refl _) _).setCell (p := ⟨w.heap.size, 1, none⟩) (Nat.le_refl _) _).setCell (p := ⟨w.heap.size, 2, none⟩) (Nat.le_refl _) _⟩
    | false =>
      have HV := Lib.hid (show Rc.readV 0 ns no [.slice Ac nc cc, .slice As ns cs, .slice Al nl cl] = Rc.z3 ∧ Rc.readE 0 ns no = 1 from ⟨by rw [Rc.readV, if_neg (by rw [hb]; simp)], by rw [Rc.readE, if_pos rfl, if_neg (by rw [hb]; decide)]⟩)
      rw [HV.out.1, HV.out.2]
      have HWI := Lib.hid (fun W => Rc.within_any no ns W)
      rw [hb] at HWI
      clear hb
      go_enter Tryd.func44, Tryd.ntmps44
      go_upto_region 1 with fail
      rw [← hW1]
      clear hW1
      go_wp2_with fail
      ((with_reducible refine HC.out.mono ?_); rintro e w2 ⟨rfl, hb2⟩)
      have hZ2 := HZ1.out.keep hb2
      have z0 : w2.cell? ⟨w.heap.size, 0, none⟩ = some (.slice none 0 0) := hZ2.cell 0
      have z1 : w2.cell? ⟨w.heap.size, 1, none⟩ = some (.slice none 0 0) := hZ2.cell 1
      have z2 : w2.cell? ⟨w.heap.size, 2, none⟩ = some (.slice none 0 0) := hZ2.cell 2
      have f0 := hZ2.frozen 0
      have f1 := hZ2.frozen 1
      have f2 := hZ2.frozen 2
      have HZ2 := Lib.hid hZ2
      have HB2 := Lib.hid (HB1.out.trans (hb2.mono HB1.out.size))
      clear hb2 hZ2
      go_wp2_with fail
      ((with_reducible refine (HWI.out w2).mono ?_); rintro e w3 ⟨rfl, hw3⟩; rw [hw3]; clear hw3)
      go_wp2_with fail
      have HF := Lib.hid (((HZ2.out.set 0 (.slice none 0 0)).set 1 (.slice none 0 0)).set 2 (.slice none 0 0))
      refine bodyPost_ret (results_cell_row2 rfl _ _ w.heap.size 70 #[.slice none 0 0, .slice none 0 0, .slice none 0 0] (0, 0) _ rfl HF.out Tryd.underlying70 rfl HI.out) rfl ?_
      exact ⟨rfl, ((HB2.out.setCell (p := ⟨w.heap.size, 0, none⟩) (Nat.le_refl _) _).setCell (p := ⟨w.heap.size, 1, none⟩) (Nat.le_refl _) _).setCell (p := ⟨w.heap.size, 2, none⟩) (Nat.le_refl _) _⟩
  · have HV := Lib.hid (show Rc.readV 510 ns no [.slice Ac nc cc, .slice As ns cs, .slice Al nl cl] = Rc.z3 ∧ Rc.readE 510 ns no = 510 from ⟨by rw [Rc.readV, if_neg (by simp)], by rw [Rc.readE, if_neg (by decide)]⟩)
    rw [HV.out.1, HV.out.2]
    go_enter Tryd.func44, Tryd.ntmps44
    go_upto_region 1 with fail
    rw [← hW1]
    clear hW1
    go_wp2_with fail
    ((with_reducible refine HC.out.mono ?_); rintro e w2 ⟨rfl, hb2⟩)
    have hZ2 := HZ1.out.keep hb2
    have z0 : w2.cell? ⟨w.heap.size, 0, none⟩ = some (.slice none 0 0) := hZ2.cell 0
    have z1 : w2.cell? ⟨w.heap.size, 1, none⟩ = some (.slice none 0 0) := hZ2.cell 1
    have z2 : w2.cell? ⟨w.heap.size, 2, none⟩ = some (.slice none 0 0) := hZ2.cell 2
    have f0 := hZ2.frozen 0
    have f1 := hZ2.frozen 1
    have f2 := hZ2.frozen 2
    have HZ2 := Lib.hid hZ2
    have HB2 := Lib.hid (HB1.out.trans (hb2.mono HB1.out.size))
    clear hb2 hZ2
    go_wp2_with fail
    have HF := Lib.hid (((HZ2.out.set 0 (.slice none 0 0)).set 1 (.slice none 0 0)).set 2 (.slice none 0 0))
    refine bodyPost_ret (results_cell_row2 rfl _ _ w.heap.size 70 #[.slice none 0 0, .slice none 0 0, .slice none 0 0] (0, 0) _ rfl HF.out Tryd.underlying70 rfl HI.out) rfl ?_
    exact ⟨rfl, ((HB2.out.setCell (p := ⟨w.heap.size, 0, none⟩) (Nat.le_refl _) _).setCell (p := ⟨w.heap.size, 1, none⟩) (Nat.le_refl _) _).setCell (p := ⟨w.heap.size, 2, none⟩) (Nat.le_refl _) _⟩
end Go.Proofs.YtnbbleajbbgmjaaDoor
