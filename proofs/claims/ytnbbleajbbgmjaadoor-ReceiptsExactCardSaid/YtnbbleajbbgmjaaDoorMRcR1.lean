import Derived.Test.YtnbbleajbbgmjaaDoorMDgR3
import Derived.Test.YtnbbleajbbgmjaaDoorMRcW2
import Derived.Test.YtnbbleajbbgmjaaDoorMRcW6
/- Contracts of the reference's receipts: Valid. -/
namespace Go.Proofs.YtnbbleajbbgmjaaDoor
open Go.RowKit
set_option linter.unusedVariables false

set_option maxRecDepth 100000 in
set_option maxHeartbeats 4000000 in
theorem Rc.rvalid_any (no comp puz : Int) (A : Option Addr) (n c : Nat) (grid : List Int) (w : World) (hr : Rd w w.heap.size 1 A n (grid.map Rc.i)) (hn : n ≤ maxLen) :
    Calls Tryd.prog 29 #[Rc.sv no comp puz A n c] w fun e w' => e = .returned (.bool (!Rc.odd no comp puz grid)) ∧ Below w.heap.size w w' := by
  have hl : grid.length = n := by have := hr.1; simpa using this
  unfold maxLen at hn
  have HR := Lib.hid hr
  have HB := Lib.hid (show Below w.heap.size w (w.alloc (.cells #[Rc.i no, Rc.i comp, Rc.i puz, .slice A n c] 27)) from (Below.refl _ _).alloc (Nat.le_refl _) _)
  clear hr
  by_cases h0 : no < 0
  · have HV := Lib.hid (show Rc.odd no comp puz grid = true from by unfold Rc.odd Rc.inB; simp; omega)
    go_enter Tryd.func29, Tryd.ntmps29
    go_wp2_with fail
    go_ret
    exact ⟨by rw [HV.out]; rfl, HB.out⟩
  have n0 : 0 ≤ no := by omega
  by_cases h1 : 32 ≤ no
  · have HV := Lib.hid (show Rc.odd no comp puz grid = true from by unfold Rc.odd Rc.inB; simp; omega)
    go_enter Tryd.func29, Tryd.ntmps29
    go_wp2_with fail
    go_ret
    exact ⟨by rw [HV.out]; rfl, HB.out⟩
  have n1 : no < 32 := by omega
  by_cases h2 : comp < 0
  · have HV := Lib.hid (show Rc.odd no comp puz grid = true from by unfold Rc.odd Rc.inB; simp; omega)
    go_enter Tryd.func29, Tryd.ntmps29
    go_wp2_with fail
    go_ret
    exact ⟨by rw [HV.out]; rfl, HB.out⟩
  have n2 : 0 ≤ comp := by omega
  by_cases h3 : 8 ≤ comp
  · have HV := Lib.hid (show Rc.odd no comp puz grid = true from by unfold Rc.odd Rc.inB; simp; omega)
    go_enter Tryd.func29, Tryd.ntmps29
    go_wp2_with fail
    go_ret
    exact ⟨by rw [HV.out]; rfl, HB.out⟩
  have n3 : comp < 8 := by omega
  by_cases h4 : puz < 0
  · have HV := Lib.hid (show Rc.odd no comp puz grid = true from by unfold Rc.odd Rc.inB; simp; omega)
    go_enter Tryd.func29, Tryd.ntmps29
    go_wp2_with fail
    go_ret
    exact ⟨by rw [HV.out]; rfl, HB.out⟩
  have n4 : 0 ≤ puz := by omega
  by_cases h5 : 8 ≤ puz
  · have HV := Lib.hid (show Rc.odd no comp puz grid = true from by unfold Rc.odd Rc.inB; simp; omega)
    go_enter Tryd.func29, Tryd.ntmps29
    go_wp2_with fail
    go_ret
    exact ⟨by rw [HV.out]; rfl, HB.out⟩
  have n5 : puz < 8 := by omega
  by_cases h6 : 256 < n
  · have h6' : (256 : Int) < (n : Int) := by omega
    have HV := Lib.hid (show Rc.odd no comp puz grid = true from by unfold Rc.odd Rc.inB; simp; omega)
    go_enter Tryd.func29, Tryd.ntmps29
    go_wp2_with fail
    go_ret
    exact ⟨by rw [HV.out]; rfl, HB.out⟩
  have n6 : n ≤ 256 := by omega
  have h6' : ¬ (256 : Int) < (n : Int) := by omega
  have HOD := Lib.hid (show Rc.odd no comp puz grid = grid.any Rc.noS from by
    unfold Rc.odd
    rw [show Rc.inB no 32 = true from by unfold Rc.inB; simp; omega, show Rc.inB comp 8 = true from by unfold Rc.inB; simp; omega, show Rc.inB puz 8 = true from by unfold Rc.inB; simp; omega, show decide (256 < grid.length) = false from decide_eq_false (by omega)]
    rfl)
  go_enter Tryd.func29, Tryd.ntmps29
  go_wp2_with fail
  obtain ⟨W1, hW1⟩ : ∃ W1, W1 = w.alloc (.cells #[Rc.i no, Rc.i comp, Rc.i puz, .slice A n c] 27) := ⟨_, rfl⟩
  have hX : Has W1 w.heap.size 27 [Rc.i no, Rc.i comp, Rc.i puz, .slice A n c] := by rw [hW1]; exact Has.new w _ _
  have e3 : W1.cell? ⟨w.heap.size, 3, none⟩ = some (.slice A n c) := hX.cell 3
  rw [← hW1] at HB ⊢
  have HR1 := Lib.hid (HR.out.below HB.out (Nat.le_refl _))
  clear hW1 hX
  go_loopw [3] (fun i wr => ∃ k : Nat, k ≤ n ∧ i = .int .i64 k ∧ (grid.take k).any Rc.noS = false ∧ wr = W1) (fun i _ => n - (intOf i).toNat)
  case atStart => exact ⟨0, by omega, rfl, rfl, rfl⟩
  case round =>
    obtain ⟨k, hk, rfl, hany, rfl⟩ := hrel
    have HANY := Lib.hid hany
    clear hany
    by_cases hlt : k < n
    · obtain ⟨b, off, rfl, hb, hcell⟩ := HR1.out.2 (by omega)
      obtain ⟨x, hx⟩ : ∃ x, grid[k]? = some x := ⟨_, List.getElem?_eq_getElem (by omega)⟩
      have ex := hcell k (Rc.i x) (by rw [List.getElem?_map, hx]; rfl)
      have HIN := Lib.hid (show Rc.noS x = true → grid.any Rc.noS = true from fun h => List.any_eq_true.2 ⟨x, List.mem_of_getElem? hx, h⟩)
      have HNX := Lib.hid (show Rc.noS x = false → (grid.take (k + 1)).any Rc.noS = false from fun h => by rw [List.take_add_one, List.any_append, HANY.out, hx]; simp [h])
      clear hcell hx
      by_cases hx0 : x < 0
      · have HV := Lib.hid (HIN.out (by unfold Rc.noS Rc.inB; simp; omega))
        go_wp2_with fail
        go_ret
        exact ⟨by rw [HOD.out, HV.out]; rfl, HB.out⟩
      · by_cases hx1 : 16 ≤ x
        · have HV := Lib.hid (HIN.out (by unfold Rc.noS Rc.inB; simp; omega))
          go_wp2_with fail
          go_ret
          exact ⟨by rw [HOD.out, HV.out]; rfl, HB.out⟩
        · have HV := Lib.hid (HNX.out (by unfold Rc.noS Rc.inB; simp; omega))
          have hx0' : 0 ≤ x := by omega
          have hx1' : x < 16 := by omega
          go_wp2_with fail
          exact ⟨⟨k + 1, by omega, by go_num, HV.out, (by first | rfl | trivial)⟩, by simp [intOf]; omega⟩
    · have HV := Lib.hid (show grid.any Rc.noS = false from by have h := HANY.out; rwa [List.take_of_length_le (by omega)] at h)
      go_wp2_with fail
      go_ret
      exact ⟨by rw [HOD.out, HV.out]; rfl, HB.out⟩
end Go.Proofs.YtnbbleajbbgmjaaDoor
/- Contracts of the reference's receipts: Before, after. -/
namespace Go.Proofs.YtnbbleajbbgmjaaDoor
open Go.RowKit
set_option linter.unusedVariables false

theorem Rc.rbefore_any (a b c d : Int) (w : World) : Calls Tryd.prog 21 #[.agg #[Rc.i a, Rc.i b], .agg #[Rc.i c, Rc.i d]] w fun e w' => e = .returned (.bool (decide (b < c))) ∧ Below w.heap.size w w' := by
  have HB := Lib.hid (below_two w (.cells #[Rc.i a, Rc.i b] 38) (.cells #[Rc.i c, Rc.i d] 38))
  go_enter Tryd.func21, Tryd.ntmps21
  go_wp2_with fail
  go_ret
  exact ⟨rfl, HB.out⟩
/-- are there few receipts, clocks and submissions with short grids? -/
def Rc.bigG (s : Rc.Sb) : Bool := decide (300 < s.grid.length)
def Rc.few (nc ns nl : Nat) (subs : List Rc.Sb) : Bool := !(subs.any Rc.bigG) && (decide (nc ≤ 9) && (decide (ns ≤ 33) && decide (nl ≤ 10)))
set_option maxRecDepth 100000 in
set_option maxHeartbeats 4000000 in
theorem Rc.rfew_any (Ac As Al : Option Addr) (nc cc ns cs nl cl : Nat) (subs : List Rc.Sb) (w : World) (hS : Rc.Subs w w.heap.size As ns subs) (hnc : nc ≤ maxLen) (hns : ns ≤ maxLen) (hnl : nl ≤ maxLen) :
    Calls Tryd.prog 11 #[.slice Ac nc cc, .slice As ns cs, .slice Al nl cl] w fun e w' => e = .returned (.bool (Rc.few nc ns nl subs)) ∧ Below w.heap.size w w' := by
  have HS := Lib.hid hS
  have hl := hS.len
  unfold maxLen at hnc hns hnl
  clear hS
  have HFW := Lib.hid (show Rc.few nc ns nl subs = (!(subs.any Rc.bigG) && (decide (nc ≤ 9) && (decide (ns ≤ 33) && decide (nl ≤ 10)))) from rfl)
  generalize Rc.few nc ns nl subs = fw at HFW ⊢
  go_enter Tryd.func11, Tryd.ntmps11
  go_wp2_with fail
  go_loopw [7] (fun i wr => ∃ k : Nat, k ≤ ns ∧ i = .int .i64 k ∧ (subs.take k).any Rc.bigG = false ∧ wr = w) (fun i _ => ns - (intOf i).toNat)
  case atStart => exact ⟨0, by omega, rfl, rfl, rfl⟩
  case round =>
    obtain ⟨k, hk, rfl, hany, rfl⟩ := hrel
    have HANY := Lib.hid hany
    clear hany
    by_cases hlt : k < ns
    · obtain ⟨s, hs⟩ : ∃ s, subs[k]? = some s := ⟨_, List.getElem?_eq_getElem (by omega)⟩
      obtain ⟨b, off, Ag, cg, rfl, hb, _, _, _, e3, hrg, hmg⟩ := HS.out.get k s hs
      have HIN := Lib.hid (show Rc.bigG s = true → subs.any Rc.bigG = true from fun h => List.any_eq_true.2 ⟨s, List.mem_of_getElem? hs, h⟩)
      have HNX := Lib.hid (show Rc.bigG s = false → (subs.take (k + 1)).any Rc.bigG = false from fun h => by rw [List.take_add_one, List.any_append, HANY.out, hs]; simp [h])
      clear hs hrg
      unfold maxLen at hmg
      by_cases hg : 300 < s.grid.length
      · have HV := Lib.hid (HIN.out (decide_eq_true hg))
        have hg' : (300 : Int) < (s.grid.length : Int) := by omega
        generalize s.grid.length = ng at *
        go_wp2_with fail
        go_ret
        exact ⟨by rw [HFW.out, HV.out]; rfl, Below.refl _ _⟩
      · have HV := Lib.hid (HNX.out (decide_eq_false hg))
        have hg' : ¬ (300 : Int) < (s.grid.length : Int) := by omega
        generalize s.grid.length = ng at *
        go_wp2_with fail
        exact ⟨⟨k + 1, by omega, by go_num, HV.out, (by first | rfl | trivial)⟩, by simp [intOf]; omega⟩
    · have HV := Lib.hid (show subs.any Rc.bigG = false from by have h := HANY.out; rwa [List.take_of_length_le (by omega)] at h)
      rw [HV.out] at HFW
      by_cases h1 : nc ≤ 9
      · by_cases h2 : ns ≤ 33
        · by_cases h3 : nl ≤ 10
          · have HE := Lib.hid (show fw = true from by rw [HFW.out, decide_eq_true h1, decide_eq_true h2, decide_eq_true h3]; rfl)
            have h1' : (nc : Int) ≤ 9 := by omega
            have h2' : (ns : Int) ≤ 33 := by omega
            have h3' : (nl : Int) ≤ 10 := by omega
            go_wp2_with fail
            go_ret
            exact ⟨by rw [HE.out]; rfl, Below.refl _ _⟩
          · have HE := Lib.hid (show fw = false from by rw [HFW.out, decide_eq_true h1, decide_eq_true h2, decide_eq_false h3]; rfl)
            have h1' : (nc : Int) ≤ 9 := by omega
            have h2' : (ns : Int) ≤ 33 := by omega
            have h3' : ¬ (nl : Int) ≤ 10 := by omega
            go_wp2_with fail
            go_ret
            exact ⟨by rw [HE.out]; rfl, Below.refl _ _⟩
        · have HE := Lib.hid (show fw = false from by rw [HFW.out, decide_eq_true h1, decide_eq_false h2]; rfl)
          have h1' : (nc : Int) ≤ 9 := by omega
          have h2' : ¬ (ns : Int) ≤ 33 := by omega
          go_wp2_with fail
          go_ret
          exact ⟨by rw [HE.out]; rfl, Below.refl _ _⟩
      · have HE := Lib.hid (show fw = false from by rw [HFW.out, decide_eq_false h1]; rfl)
        have h1' : ¬ (nc : Int) ≤ 9 := by omega
        go_wp2_with fail
        go_ret
        exact ⟨by rw [HE.out]; rfl, Below.refl _ _⟩
end Go.Proofs.YtnbbleajbbgmjaaDoor
