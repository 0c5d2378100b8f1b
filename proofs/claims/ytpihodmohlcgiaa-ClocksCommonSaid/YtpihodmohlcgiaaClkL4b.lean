/- The law ClocksCommon returns true, its early ways out included: for all clocks, stamps and times. -/
import Derived.Test.YtpihodmohlcgiaaClkL4
namespace Go.Proofs.Ytpihodmohlcgiaa
open Go.RowKit Go.Shelf
set_option linter.unusedVariables false

theorem Clk.law4_no (A A2 : Option Addr) (n c n2 c2 : Nat) (t : Int) (w : World) (hn : n ≤ 9223372036854775807) (hn2 : n2 ≤ 9223372036854775807)
    (h : 8 < n ∨ (n ≤ 8 ∧ n2 < n) ∨ (n ≤ 8 ∧ n ≤ n2 ∧ t < 0) ∨ (n ≤ 8 ∧ n ≤ n2 ∧ 0 ≤ t ∧ 1048576 < t)) :
    Calls Try.prog 6 #[.slice A n c, .slice A2 n2 c2, .int .i64 t] w fun e w' => e = .returned (.bool true) ∧ Below w.heap.size w w' := by
  rcases h with h | ⟨h1, h2⟩ | ⟨h1, h2, h3⟩ | ⟨h1, h2, h3, h4⟩
  · have d1 : decide (8 < (n : Int)) = true := decide_eq_true (by omega)
    go_enter Try.func6, Try.ntmps6
    go_wp2_with fail
    refine (Clk.sane_any _).mono ?_
    rintro e w1 ⟨rfl, hb⟩
    go_wp2_with fail
    go_ret
    exact ⟨rfl, hb⟩
  · have d1 : decide (8 < (n : Int)) = false := decide_eq_false (by omega)
    have d2 : decide (n2 < n) = true := decide_eq_true h2
    go_enter Try.func6, Try.ntmps6
    go_wp2_with fail
    refine (Clk.sane_any _).mono ?_
    rintro e w1 ⟨rfl, hb⟩
    go_wp2_with fail
    go_ret
    exact ⟨rfl, hb⟩
  · have d1 : decide (8 < (n : Int)) = false := decide_eq_false (by omega)
    have d2 : decide (n2 < n) = false := decide_eq_false (by omega)
    have d3 : decide (t < 0) = true := decide_eq_true h3
    go_enter Try.func6, Try.ntmps6
    go_wp2_with fail
    refine (Clk.sane_any _).mono ?_
    rintro e w1 ⟨rfl, hb⟩
    go_wp2_with fail
    go_ret
    exact ⟨rfl, hb⟩
  · have d1 : decide (8 < (n : Int)) = false := decide_eq_false (by omega)
    have d2 : decide (n2 < n) = false := decide_eq_false (by omega)
    have d3 : decide (t < 0) = false := decide_eq_false (by omega)
    have d4 : decide (1048576 < t) = true := decide_eq_true h4
    go_enter Try.func6, Try.ntmps6
    go_wp2_with fail
    refine (Clk.sane_any _).mono ?_
    rintro e w1 ⟨rfl, hb⟩
    go_wp2_with fail
    go_ret
    exact ⟨rfl, hb⟩

theorem Clk.law4 (A A2 : Option Addr) (n c n2 c2 : Nat) (cs : List (Int × Int × Int)) (zs : List Int) (t : Int) (w : World)
    (hA : Rd w w.heap.size 3 A n (Clk.cells3 cs)) (hA2 : Rd w w.heap.size 1 A2 n2 (zs.map (Value.int .i64))) (hn : cs.length = n) (hn2 : zs.length = n2) (hm1 : n ≤ maxLen) (hm : n2 ≤ maxLen) :
    Calls Try.prog 6 #[.slice A n c, .slice A2 n2 c2, .int .i64 t] w fun e w' => e = .returned (.bool true) ∧ Below w.heap.size w w' := by
  by_cases h : 8 < n ∨ (n ≤ 8 ∧ n2 < n) ∨ (n ≤ 8 ∧ n ≤ n2 ∧ t < 0) ∨ (n ≤ 8 ∧ n ≤ n2 ∧ 0 ≤ t ∧ 1048576 < t)
  · exact Clk.law4_no A A2 n c n2 c2 t w (by unfold maxLen at hm1; omega) (by unfold maxLen at hm; omega) h
  · exact Clk.law4_main A A2 n c n2 c2 cs zs t w hA hA2 hn hn2 (by omega) (by omega) hm (by omega) (by omega)

/-- cells of clocks out of cells of structs -/
theorem Clk.cells3_of : ∀ (xss : List (List Value)), (∀ xs ∈ xss, ∃ a b c : Int, xs = [.int .i64 a, .int .i64 b, .int .i64 c]) → ∃ cs : List (Int × Int × Int), cs.length = xss.length ∧ xss.flatten = Clk.cells3 cs
  | [], _ => ⟨[], rfl, rfl⟩
  | xs :: xss, h => by
    obtain ⟨a, b, c, rfl⟩ := h xs (List.mem_cons_self ..)
    obtain ⟨cs, h1, h2⟩ := Clk.cells3_of xss (fun ys hy => h ys (List.mem_cons_of_mem _ hy))
    exact ⟨(a, b, c) :: cs, by simp [h1], by rw [List.flatten_cons, h2]; rfl⟩
end Go.Proofs.Ytpihodmohlcgiaa
