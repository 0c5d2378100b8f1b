import Derived.Test.YtnbbleajbbgmjaaDoorMUtil
import Derived.Test.YtnbbleajbbgmjaaDoorProg
/- Contracts of package receipts: within, odd. -/
namespace Go.Proofs.YtnbbleajbbgmjaaDoor
open Go.RowKit
set_option linter.unusedVariables false

abbrev Rc.i (x : Int) : Value := .int .i64 x
def Rc.inB (x n : Int) : Bool := decide (0 ≤ x) && decide (x < n)
theorem Rc.inB_yes {x n : Int} (h : Rc.inB x n = true) : 0 ≤ x ∧ x < n := by
  unfold Rc.inB at h
  simpa using h
theorem Rc.inB_no {x n : Int} (h : Rc.inB x n = false) : ¬ (0 ≤ x ∧ x < n) := by
  unfold Rc.inB at h
  intro ⟨h1, h2⟩
  simp [h1, h2] at h
theorem Rc.within_any (x n : Int) (w : World) : Calls Tryd.prog 55 #[Rc.i x, Rc.i n] w fun e w' => e = .returned (.bool (Rc.inB x n)) ∧ w' = w := by
  by_cases h : 0 ≤ x
  · have hd : decide (0 ≤ x) = true := decide_eq_true h
    have HE := Lib.hid (show Rc.inB x n = decide (x < n) by unfold Rc.inB; rw [hd, Bool.true_and])
    go_enter Tryd.func55, Tryd.ntmps55
    go_wp2_with fail
    go_ret
    exact ⟨by rw [HE.out]; rfl, rfl⟩
  · have hd : decide (0 ≤ x) = false := decide_eq_false h
    have HE := Lib.hid (show Rc.inB x n = false by unfold Rc.inB; rw [hd, Bool.false_and])
    go_enter Tryd.func55, Tryd.ntmps55
    go_wp2_with fail
    go_ret
    exact ⟨by rw [HE.out]; rfl, rfl⟩

/-- is a symbol none? -/
def Rc.noS (x : Int) : Bool := !Rc.inB x 16
theorem Rc.odd1_any (x : Int) (w : World) : Calls Tryd.prog 54 #[Rc.i x] w fun e w' => e = .returned (.bool (Rc.noS x)) ∧ w' = w := by
  have HW := Lib.hid (Rc.within_any x 16 w)
  go_enter Tryd.func54, Tryd.ntmps54
  go_wp2_with fail
  ((with_reducible refine HW.out.mono ?_); rintro e w1 ⟨rfl, rfl⟩)
  go_wp2_with fail
  go_ret
  exact ⟨rfl, rfl⟩
/-- the first index at which a list has such an element, or -1 -/
def Rc.ixS (l : List Int) : Nat → Bool
  | 0 => false
  | k + 1 => Rc.ixS l k || Rc.noS (l.getD k 0)
theorem Rc.ixS_all (l : List Int) : Rc.ixS l l.length = l.any Rc.noS := by
  have h : ∀ k, k ≤ l.length → Rc.ixS l k = (l.take k).any Rc.noS := by
    intro k
    induction k with
    | zero => intro _; rfl
    | succ k ih =>
      intro hk
      rw [Rc.ixS, ih (by omega), List.take_add_one, List.any_append, List.getElem?_eq_getElem (by omega)]
      simp [List.getElem?_eq_getElem (show k < l.length by omega)]
  rw [h _ (Nat.le_refl _), List.take_length]
set_option maxHeartbeats 1000000 in
theorem Rc.index_any (A : Option Addr) (n c : Nat) (l : List Int) (w : World) (hr : Rd w w.heap.size 1 A n (l.map Rc.i)) (hn : n ≤ maxLen) :
    Calls Tryd.prog 69 #[.slice A n c, .func (.func 54) #[] #[]] w fun e w' => (∃ z : Int, e = .returned (Rc.i z) ∧ decide (0 ≤ z) = l.any Rc.noS) ∧ w' = w := by
  have hl : l.length = n := by have := hr.1; simpa using this
  unfold maxLen at hn
  have HL := Lib.hid (Rc.ixS_all l)
  have HR := Lib.hid hr
  clear hr
  go_enter Tryd.func69, Tryd.ntmps69
  go_wp2_with fail
  go_loop [8] (fun i => ∃ k : Nat, k ≤ n ∧ i = .int .i64 k ∧ Rc.ixS l k = false) (fun i => n - (intOf i).toNat)
  case atStart => exact ⟨0, by omega, rfl, rfl⟩
  case round =>
    obtain ⟨k, hk, rfl, hx⟩ := hrel
    by_cases hlt : k < n
    · obtain ⟨b, off, rfl, hb, hcell⟩ := HR.out.addr (by omega)
      have cc : w.cell? ⟨b, off + k, none⟩ = some (Rc.i (l.getD k 0)) := hcell k _ (by rw [List.getElem?_map, List.getElem?_eq_getElem (by omega)]; simp [List.getElem?_eq_getElem (show k < l.length by omega)])
      have HX := Lib.hid (show Rc.ixS l (k + 1) = Rc.noS (l.getD k 0) by rw [Rc.ixS, hx, Bool.false_or])
      have HA := Lib.hid (show Rc.noS (l.getD k 0) = true → l.any Rc.noS = true from fun h => by
        rw [List.any_eq_true]
        refine ⟨l.getD k 0, ?_, h⟩
        rw [List.getD_eq_getElem?_getD, List.getElem?_eq_getElem (by omega)]
        exact List.getElem_mem _)
      generalize l.getD k 0 = q at cc HX HA
      have HC := Lib.hid (Rc.odd1_any q w)
      clear hcell hx
      cases hq : Rc.noS q with
      | true =>
        have HQ := Lib.hid hq
        rw [hq] at HC
        clear hq
        go_wp2_with fail
        ((with_reducible refine HC.out.mono ?_); rintro e w1 ⟨rfl, rfl⟩)
        go_wp2_with fail
        go_ret
        exact ⟨⟨_, rfl, by rw [HA.out HQ.out]; exact decide_eq_true (by omega)⟩, rfl⟩
      | false =>
        rw [hq] at HC HX
        clear hq
        go_wp2_with fail
        ((with_reducible refine HC.out.mono ?_); rintro e w1 ⟨rfl, rfl⟩)
        go_wp2_with fail
        exact ⟨⟨k + 1, by omega, by go_num, HX.out⟩, by simp [intOf]; omega⟩
    · obtain rfl : k = n := by omega
      have HX := Lib.hid hx
      clear hx
      go_wp2_with fail
      go_ret
      refine ⟨⟨-1, rfl, ?_⟩, rfl⟩
      have h := HL.out
      rw [hl, HX.out] at h
      rw [← h]
      decide
theorem Rc.contains_any (A : Option Addr) (n c : Nat) (l : List Int) (w : World) (hr : Rd w w.heap.size 1 A n (l.map Rc.i)) (hn : n ≤ maxLen) :
    Calls Tryd.prog 56 #[.slice A n c, .func (.func 54) #[] #[]] w fun e w' => e = .returned (.bool (l.any Rc.noS)) ∧ w' = w := by
  have HI := Lib.hid (Rc.index_any A n c l w hr hn)
  clear hr
  go_enter Tryd.func56, Tryd.ntmps56
  go_wp2_with fail
  ((with_reducible refine HI.out.mono ?_); rintro e w1 ⟨⟨z, rfl, hz⟩, rfl⟩)
  have HZ := Lib.hid hz
  clear hz
  go_wp2_with fail
  go_ret
  exact ⟨by rw [← HZ.out]; rfl, rfl⟩

/-- is a submission not valid? -/
def Rc.odd (no comp puz : Int) (grid : List Int) : Bool := !Rc.inB no 32 || (!Rc.inB comp 8 || (!Rc.inB puz 8 || (decide (256 < grid.length) || grid.any Rc.noS)))
abbrev Rc.sv (no comp puz : Int) (A : Option Addr) (n c : Nat) : Value := .agg #[Rc.i no, Rc.i comp, Rc.i puz, .slice A n c]
set_option maxHeartbeats 2000000 in
theorem Rc.odd_any (no comp puz : Int) (A : Option Addr) (n c : Nat) (grid : List Int) (w : World) (hr : Rd w w.heap.size 1 A n (grid.map Rc.i)) (hn : n ≤ maxLen) :
    Calls Tryd.prog 26 #[Rc.sv no comp puz A n c] w fun e w' => e = .returned (.bool (Rc.odd no comp puz grid)) ∧ Below w.heap.size w w' := by
  have hl : grid.length = n := by have := hr.1; simpa using this
  have HN := Lib.hid hn
  unfold maxLen at hn
  have HB := Lib.hid ((Below.refl w.heap.size w).alloc (Nat.le_refl _) (.cells #[Rc.i no, Rc.i comp, Rc.i puz, .slice A n c] 27))
  have hR1 : Rd (w.alloc (.cells #[Rc.i no, Rc.i comp, Rc.i puz, .slice A n c] 27)) (w.alloc (.cells #[Rc.i no, Rc.i comp, Rc.i puz, .slice A n c] 27)).heap.size 1 A n (grid.map Rc.i) := (Rd.below hr HB.out (Nat.le_refl _)).more HB.out.size
  have HC := Lib.hid (Rc.contains_any A n c grid _ hR1 HN.out)
  have HW := Lib.hid (fun x m => Rc.within_any x m (w.alloc (.cells #[Rc.i no, Rc.i comp, Rc.i puz, .slice A n c] 27)))
  have HO := Lib.hid (show Rc.odd no comp puz grid = (!Rc.inB no 32 || (!Rc.inB comp 8 || (!Rc.inB puz 8 || (decide (256 < grid.length) || grid.any Rc.noS)))) from rfl)
  clear hR1 hr
  generalize grid.any Rc.noS = g at HC HO
  generalize Rc.odd no comp puz grid = o at HO ⊢
  have HW1 := Lib.hid (HW.out no 32)
  have HW2 := Lib.hid (HW.out comp 8)
  have HW3 := Lib.hid (HW.out puz 8)
  generalize Rc.inB no 32 = b1 at HW1 HO
  generalize Rc.inB comp 8 = b2 at HW2 HO
  generalize Rc.inB puz 8 = b3 at HW3 HO
  rw [hl] at HO
  clear HW
  cases b1 with
  | false =>
    go_enter Tryd.func26, Tryd.ntmps26
    go_wp2_with (first | ((with_reducible refine HW1.out.mono ?_); rintro e w2 ⟨rfl, rfl⟩))
    go_ret
    exact ⟨by rw [HO.out]; rfl, HB.out⟩
  | true =>
    cases b2 with
    | false =>
      go_enter Tryd.func26, Tryd.ntmps26
      go_wp2_with (first | ((with_reducible refine HW1.out.mono ?_); rintro e w2 ⟨rfl, rfl⟩) | ((with_reducible refine HW2.out.mono ?_); rintro e w2 ⟨rfl, rfl⟩))
      go_ret
      exact ⟨by rw [HO.out]; rfl, HB.out⟩
    | true =>
      cases b3 with
      | false =>
        go_enter Tryd.func26, Tryd.ntmps26
        go_wp2_with (first | ((with_reducible refine HW1.out.mono ?_); rintro e w2 ⟨rfl, rfl⟩) | ((with_reducible refine HW2.out.mono ?_); rintro e w2 ⟨rfl, rfl⟩) | ((with_reducible refine HW3.out.mono ?_); rintro e w2 ⟨rfl, rfl⟩))
        go_ret
        exact ⟨by rw [HO.out]; rfl, HB.out⟩
      | true =>
        by_cases h256 : 256 < n
        · have hd : decide ((256 : Int) < (n : Int)) = true := decide_eq_true (by omega)
          have HE := Lib.hid (show o = true from by rw [HO.out, decide_eq_true h256]; rfl)
          go_enter Tryd.func26, Tryd.ntmps26
          go_wp2_with (first | ((with_reducible refine HW1.out.mono ?_); rintro e w2 ⟨rfl, rfl⟩) | ((with_reducible refine HW2.out.mono ?_); rintro e w2 ⟨rfl, rfl⟩) | ((with_reducible refine HW3.out.mono ?_); rintro e w2 ⟨rfl, rfl⟩))
          go_ret
          exact ⟨by rw [HE.out]; rfl, HB.out⟩
        · have hd : decide ((256 : Int) < (n : Int)) = false := decide_eq_false (by omega)
          have HE := Lib.hid (show o = g from by rw [HO.out, decide_eq_false h256]; rfl)
          go_enter Tryd.func26, Tryd.ntmps26
          go_wp2_with (first | ((with_reducible refine HW1.out.mono ?_); rintro e w2 ⟨rfl, rfl⟩) | ((with_reducible refine HW2.out.mono ?_); rintro e w2 ⟨rfl, rfl⟩) | ((with_reducible refine HW3.out.mono ?_); rintro e w2 ⟨rfl, rfl⟩) | ((with_reducible refine HC.out.mono ?_); rintro e w2 ⟨rfl, rfl⟩))
          go_ret
          exact ⟨by rw [HE.out]; rfl, HB.out⟩
end Go.Proofs.YtnbbleajbbgmjaaDoor
