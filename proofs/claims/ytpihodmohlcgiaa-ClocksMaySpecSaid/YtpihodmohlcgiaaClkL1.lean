/- The law ClocksMaySpec returns true: for every clock, time and stamp. -/
import Derived.Deep.RegionHeld3
import Derived.Test.YtpihodmohlcgiaaClkSane
namespace Go.Proofs.Ytpihodmohlcgiaa
open Go.RowKit Go.Shelf
set_option linter.unusedVariables false

theorem Clk.has_clock {w : World} {g : Nat} {s er d : Int} (h : Has w g 23 [.int .i64 s, .int .i64 er, .int .i64 d]) : Has w g 23 [.int .i64 s, .int .i64 er, .int .i64 d] ∧ w.cell? ⟨g, 0, none⟩ = some (.int .i64 s) ∧ w.cell? ⟨g, 1, none⟩ = some (.int .i64 er) ∧ w.cell? ⟨g, 2, none⟩ = some (.int .i64 d) := ⟨h, h.c3⟩

set_option maxRecDepth 100000 in
set_option maxHeartbeats 4000000 in
theorem Clk.law1 (s er d t x : Int) (w : World) :
    Calls Try.prog 3 #[.agg #[.int .i64 s, .int .i64 er, .int .i64 d], .int .i64 t, .int .i64 x] w fun e w' => e = .returned (.bool true) ∧ Below w.heap.size w w' := by
  go_enter Try.func3, Try.ntmps3
  go_wp2_with fail
  refine (Clk.sane_any _).mono ?_
  rintro e w1 ⟨rfl, hb1⟩
  have H1 := (Has.new w 23 [.int .i64 s, .int .i64 er, .int .i64 d]).keep hb1
  obtain ⟨a0, a1, a2⟩ := H1.c3
  have HB1 : Hid (Below w.heap.size w w1) := Lib.hid (((Below.refl _ _).alloc (Nat.le_refl _) _).trans (hb1.mono (by simp)))
  have H1 := Lib.hid H1
  clear hb1
  go_wp2_with fail
  refine (Clk.may_any _ _ _ _ _ _).mono ?_
  rintro e w2 ⟨rfl, hb2⟩
  have H2 := Lib.hid (H1.out.keep hb2)
  have HB2 : Hid (Below w.heap.size w w2) := Lib.hid (HB1.out.trans (hb2.mono HB1.out.size))
  clear H1 a0 a1 a2 hb2 HB1
  obtain ⟨a0, a1, a2⟩ := H2.out.c3
  go_wp2_with fail
  refine (Clk.rmay_any _ _ _ _ _ _).mono ?_
  rintro e w3 ⟨rfl, hb3⟩
  have H3 := H2.out.keep hb3
  have HB3 : Hid (Below w.heap.size w w3) := Lib.hid (HB2.out.trans (hb3.mono HB2.out.size))
  clear H2 a0 a1 a2 hb3 HB2
  obtain ⟨a0, a1, a2⟩ := H3.c3
  have H3 := Lib.hid H3
  have eE : (Clk.chkE s er d == Clk.chkE s er d) = true := by simp
  have eF : (Clk.mayE s er d t x == Clk.mayE s er d t x) = true := by simp
  have eB : (Clk.mayB s er d t x == Clk.mayB s er d t x) = true := by simp
  go_wp2_with fail
  go_region_held3 (fun w' => Has w' w.heap.size 23 [.int .i64 s, .int .i64 er, .int .i64 d] ∧ w'.cell? ⟨w.heap.size, 0, none⟩ = some (.int .i64 s) ∧ w'.cell? ⟨w.heap.size, 1, none⟩ = some (.int .i64 er) ∧ w'.cell? ⟨w.heap.size, 2, none⟩ = some (.int .i64 d))
    (first | exact Clk.has_clock H3.out | exact Clk.has_clock k5 | exact Clk.has_clock k4)
    (first | (go_at_call 13; refine (Clk.check_any _ _ _ _).mono ?_; rintro e w4 ⟨rfl, hb4⟩; have k4 := Has.keep (by assumption) hb4) | (go_at_call 14; refine (Clk.rcheck_any _ _ _ _).mono ?_; rintro e w5 ⟨rfl, hb5⟩; have k5 := Has.keep (by assumption) hb5))
  have HB5 : Hid (Below w.heap.size w w5) := Lib.hid ((HB3.out.drew.trans (hb4.mono (by simpa using HB3.out.size))).trans (hb5.mono (by have := hb4.size; have := HB3.out.size; simp at *; omega)))
  clear hb4 hb5 k4 k5
  go_wp2_with fail
  go_ret
  exact ⟨rfl, HB5.out⟩
end Go.Proofs.Ytpihodmohlcgiaa
