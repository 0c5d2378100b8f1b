/- The law ClocksTimesSpec returns true: for every clock and stamp, and all ranges. -/
import Derived.Test.YtpihodmohlcgiaaClkSane
namespace Go.Proofs.Ytpihodmohlcgiaa
open Go.RowKit Go.Shelf
set_option linter.unusedVariables false

set_option maxRecDepth 100000 in
set_option maxHeartbeats 4000000 in
theorem Clk.law2 (s er d x a b c f : Int) (w : World) :
    Calls Try.prog 4 #[.agg #[.int .i64 s, .int .i64 er, .int .i64 d], .int .i64 x, .agg #[.int .i64 a, .int .i64 b], .agg #[.int .i64 c, .int .i64 f]] w fun e w' => e = .returned (.bool true) ∧ Below w.heap.size w w' := by
  go_enter Try.func4, Try.ntmps4
  go_wp2_with fail
  refine (Clk.sane_any _).mono ?_
  rintro e w1 ⟨rfl, hb⟩
  have S1 := ((((St.start w).new 23 [.int .i64 s, .int .i64 er, .int .i64 d]).new 31 [.int .i64 a, .int .i64 b]).new 31 [.int .i64 c, .int .i64 f]).keep hb
  simp only [World.size_alloc] at S1
  clear hb
  obtain ⟨la, a0, a1, a2⟩ := (S1.nth 2 rfl).r3
  go_wp2_with fail
  refine (Clk.times_any _ _ _ _ _).mono ?_
  rintro e w2 ⟨rfl, hb⟩
  have S2 := S1.keep hb
  clear hb S1 la a0 a1 a2
  obtain ⟨la, a0, a1, a2⟩ := (S2.nth 2 rfl).r3
  go_wp2_with fail
  refine (Clk.rtimes_any _ _ _ _ _).mono ?_
  rintro e w3 ⟨rfl, hb⟩
  have S3 := (S2.new 31 [.int .i64 (Clk.timLo s er d x), .int .i64 (Clk.timHi s er d x)]).keep hb
  clear hb S2 la a0 a1 a2
  obtain ⟨la, a0, a1⟩ := (S3.nth 1 rfl).r2
  obtain ⟨lb, b0, b1⟩ := (S3.nth 2 rfl).r2
  go_wp2_with fail
  refine (Clk.meet_any _ _ _ _ _).mono ?_
  rintro e w4 ⟨rfl, hb⟩
  have S4 := (S3.new 31 [.int .i64 (Clk.timLo s er d x), .int .i64 (Clk.timHi s er d x)]).keep hb
  clear hb S3 la lb a0 a1 b0 b1
  obtain ⟨la, a0, a1⟩ := (S4.nth 2 rfl).r2
  obtain ⟨lb, b0, b1⟩ := (S4.nth 3 rfl).r2
  go_wp2_with fail
  refine (Clk.rmeet_any _ _ _ _ _).mono ?_
  rintro e w5 ⟨rfl, hb⟩
  have S5 := (S4.new 31 [.int .i64 (Clk.meetLo a b c f), .int .i64 (Clk.meetHi a b c f)]).keep hb
  clear hb S4 la lb a0 a1 b0 b1
  obtain ⟨la, a0, a1⟩ := (S5.nth 0 rfl).r2
  obtain ⟨lb, b0, b1⟩ := (S5.nth 1 rfl).r2
  obtain ⟨lc, c0, c1⟩ := (S5.nth 2 rfl).r2
  go_wp2_with fail
  go_ret
  exact ⟨rfl, (S5.new 31 [.int .i64 (Clk.meetLo a b c f), .int .i64 (Clk.meetHi a b c f)]).below⟩
end Go.Proofs.Ytpihodmohlcgiaa
