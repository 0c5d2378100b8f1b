/- The law ClocksMeet returns true: for all ranges and times. -/
import Derived.Test.YtpihodmohlcgiaaClkLaw
namespace Go.Proofs.Ytpihodmohlcgiaa
open Go.RowKit Go.Shelf
set_option linter.unusedVariables false

theorem Clk.meet_comm (a b c f : Int) : Clk.meetOk c f a b = Clk.meetOk a b c f ∧ Clk.meetLo c f a b = Clk.meetLo a b c f ∧ Clk.meetHi c f a b = Clk.meetHi a b c f := by
  have h1 : (if c < a then a else c) = (if a < c then c else a) := by split <;> split <;> omega
  have h2 : (if b < f then b else f) = (if f < b then f else b) := by split <;> split <;> omega
  have h3 : Clk.meetOk c f a b = Clk.meetOk a b c f := by simp only [Clk.meetOk, h1, h2]
  exact ⟨h3, by simp only [Clk.meetLo, h1, h3], by simp only [Clk.meetHi, h2, h3]⟩
/-- Meet is the times in both -/
theorem Clk.meet_in (a b c f t : Int) (h : Clk.meetOk a b c f = true) : Clk.inB (Clk.meetLo a b c f) (Clk.meetHi a b c f) t = (Clk.inB a b t && Clk.inB c f t) ∧ Clk.meetLo a b c f ≤ Clk.meetHi a b c f ∧
    Clk.inB a b (Clk.meetLo a b c f) = true ∧ Clk.inB c f (Clk.meetLo a b c f) = true ∧ Clk.inB a b (Clk.meetHi a b c f) = true ∧ Clk.inB c f (Clk.meetHi a b c f) = true := by
  have h0 : (if a < c then c else a) ≤ (if f < b then f else b) := by simpa [Clk.meetOk] using h
  rw [Clk.meetLo, Clk.meetHi, if_pos h, if_pos h]
  refine ⟨?_, h0, ?_, ?_, ?_, ?_⟩
  · rw [Bool.eq_iff_iff, Bool.and_eq_true, Clk.inB_iff, Clk.inB_iff, Clk.inB_iff]
    split <;> split <;> omega
  all_goals
    rw [Clk.inB_iff]
    revert h0
    split <;> split <;> intro h0 <;> omega
theorem Clk.meet_out (a b c f t : Int) (h : Clk.meetOk a b c f = false) : (Clk.inB a b t && Clk.inB c f t) = false ∧ Clk.meetLo a b c f = 0 ∧ Clk.meetHi a b c f = 0 := by
  have h0 : ¬ (if a < c then c else a) ≤ (if f < b then f else b) := by simpa [Clk.meetOk] using h
  refine ⟨?_, by simp [Clk.meetLo, h], by simp [Clk.meetHi, h]⟩
  rw [← Bool.not_eq_true, Bool.and_eq_true, Clk.inB_iff, Clk.inB_iff]
  revert h0
  split <;> split <;> intro h0 <;> omega

set_option maxHeartbeats 4000000 in
theorem Clk.law7_yes (a b c f t lo hi : Int) (p q : Bool) (w : World) (e1 : Clk.meetLo a b c f = lo) (e2 : Clk.meetHi a b c f = hi) (e3 : Clk.meetOk a b c f = true) (e4 : Clk.meetLo c f a b = lo) (e5 : Clk.meetHi c f a b = hi) (e6 : Clk.meetOk c f a b = true)
    (hle : lo ≤ hi) (h1 : Clk.inB a b t = p) (h2 : Clk.inB c f t = q) (h3 : Clk.inB lo hi t = (p && q)) (h4 : Clk.inB a b lo = true) (h5 : Clk.inB c f lo = true) (h6 : Clk.inB a b hi = true) (h7 : Clk.inB c f hi = true) :
    Calls Try.prog 9 #[.agg #[.int .i64 a, .int .i64 b], .agg #[.int .i64 c, .int .i64 f], .int .i64 t] w fun e w' => e = .returned (.bool true) ∧ Below w.heap.size w w' := by
  have E1 := Lib.hid e1
  have E2 := Lib.hid e2
  have E3 := Lib.hid e3
  have E4 := Lib.hid e4
  have E5 := Lib.hid e5
  have E6 := Lib.hid e6
  have H1 := Lib.hid h1
  have H2 := Lib.hid h2
  have H3 := Lib.hid h3
  have H4 := Lib.hid h4
  have H5 := Lib.hid h5
  have H6 := Lib.hid h6
  have H7 := Lib.hid h7
  clear e1 e2 e3 e4 e5 e6 h1 h2 h3 h4 h5 h6 h7
  cases p with
  | true =>
    cases q with
    | true =>
      have H3' : Hid (Clk.inB lo hi t = true) := H3
      clear H3
      go_enter Try.func9, Try.ntmps9
      go_wp2_with fail
      refine (Clk.sane_any _).mono ?_
      rintro e w1 ⟨rfl, hb⟩
      have S1 := (((St.start w).new 31 [.int .i64 a, .int .i64 b]).new 31 [.int .i64 c, .int .i64 f]).keep hb
      simp only [World.size_alloc] at S1
      clear hb
      obtain ⟨la, a0, a1⟩ := (S1.nth 0 rfl).r2
      obtain ⟨lb, b0, b1⟩ := (S1.nth 1 rfl).r2
      go_wp2_with fail
      refine (Clk.meet_lit E1.out E2.out E3.out _).mono ?_
      rintro e w2 ⟨rfl, hb⟩
      have S2 := S1.keep hb
      clear hb S1 la a0 a1 lb b0 b1
      obtain ⟨la, a0, a1⟩ := (S2.nth 0 rfl).r2
      obtain ⟨lb, b0, b1⟩ := (S2.nth 1 rfl).r2
      go_wp2_with fail
      refine (Clk.meet_lit E4.out E5.out E6.out _).mono ?_
      rintro e w3 ⟨rfl, hb⟩
      have S3 := (S2.new 31 [.int .i64 lo, .int .i64 hi]).keep hb
      clear hb S2 la a0 a1 lb b0 b1
      obtain ⟨la, a0, a1⟩ := (S3.nth 0 rfl).r2
      obtain ⟨lb, b0, b1⟩ := (S3.nth 1 rfl).r2
      obtain ⟨lc, c0, c1⟩ := (S3.nth 2 rfl).r2
      go_wp2_with fail
      refine (Clk.in_lit H1.out _).mono ?_
      rintro e w4 ⟨rfl, hb⟩
      have S4 := (S3.new 31 [.int .i64 lo, .int .i64 hi]).keep hb
      clear hb S3 la a0 a1 lb b0 b1 lc c0 c1
      obtain ⟨la, a0, a1⟩ := (S4.nth 1 rfl).r2
      obtain ⟨lb, b0, b1⟩ := (S4.nth 2 rfl).r2
      obtain ⟨lc, c0, c1⟩ := (S4.nth 3 rfl).r2
      go_wp2_with fail
      refine (Clk.in_lit H2.out _).mono ?_
      rintro e w5 ⟨rfl, hb⟩
      have S5 := S4.keep hb
      clear hb S4 la a0 a1 lb b0 b1 lc c0 c1
      obtain ⟨la, a0, a1⟩ := (S5.nth 1 rfl).r2
      obtain ⟨lb, b0, b1⟩ := (S5.nth 2 rfl).r2
      obtain ⟨lc, c0, c1⟩ := (S5.nth 3 rfl).r2
      go_wp2_with fail
      refine (Clk.in_lit H3'.out _).mono ?_
      rintro e w6 ⟨rfl, hb⟩
      have S6 := S5.keep hb
      clear hb S5 la a0 a1 lb b0 b1 lc c0 c1
      obtain ⟨la, a0, a1⟩ := (S6.nth 1 rfl).r2
      obtain ⟨lb, b0, b1⟩ := (S6.nth 2 rfl).r2
      obtain ⟨lc, c0, c1⟩ := (S6.nth 3 rfl).r2
      go_wp2_with fail
      refine (Clk.in_lit H4.out _).mono ?_
      rintro e w7 ⟨rfl, hb⟩
      have S7 := S6.keep hb
      clear hb S6 la a0 a1 lb b0 b1 lc c0 c1
      obtain ⟨la, a0, a1⟩ := (S7.nth 1 rfl).r2
      obtain ⟨lb, b0, b1⟩ := (S7.nth 2 rfl).r2
      obtain ⟨lc, c0, c1⟩ := (S7.nth 3 rfl).r2
      go_wp2_with fail
      refine (Clk.in_lit H5.out _).mono ?_
      rintro e w8 ⟨rfl, hb⟩
      have S8 := S7.keep hb
      clear hb S7 la a0 a1 lb b0 b1 lc c0 c1
      obtain ⟨la, a0, a1⟩ := (S8.nth 1 rfl).r2
      obtain ⟨lb, b0, b1⟩ := (S8.nth 2 rfl).r2
      obtain ⟨lc, c0, c1⟩ := (S8.nth 3 rfl).r2
      go_wp2_with fail
      refine (Clk.in_lit H6.out _).mono ?_
      rintro e w9 ⟨rfl, hb⟩
      have S9 := S8.keep hb
      clear hb S8 la a0 a1 lb b0 b1 lc c0 c1
      obtain ⟨la, a0, a1⟩ := (S9.nth 1 rfl).r2
      obtain ⟨lb, b0, b1⟩ := (S9.nth 2 rfl).r2
      obtain ⟨lc, c0, c1⟩ := (S9.nth 3 rfl).r2
      go_wp2_with fail
      refine (Clk.in_lit H7.out _).mono ?_
      rintro e w10 ⟨rfl, hb⟩
      have S10 := S9.keep hb
      clear hb S9 la a0 a1 lb b0 b1 lc c0 c1
      obtain ⟨la, a0, a1⟩ := (S10.nth 1 rfl).r2
      obtain ⟨lb, b0, b1⟩ := (S10.nth 2 rfl).r2
      obtain ⟨lc, c0, c1⟩ := (S10.nth 3 rfl).r2
      go_wp2_with fail
      go_ret
      exact ⟨rfl, S10.below⟩
    | false =>
      have H3' : Hid (Clk.inB lo hi t = false) := H3
      clear H3
      go_enter Try.func9, Try.ntmps9
      go_wp2_with fail
      refine (Clk.sane_any _).mono ?_
      rintro e w1 ⟨rfl, hb⟩
      have S1 := (((St.start w).new 31 [.int .i64 a, .int .i64 b]).new 31 [.int .i64 c, .int .i64 f]).keep hb
      simp only [World.size_alloc] at S1
      clear hb
      obtain ⟨la, a0, a1⟩ := (S1.nth 0 rfl).r2
      obtain ⟨lb, b0, b1⟩ := (S1.nth 1 rfl).r2
      go_wp2_with fail
      refine (Clk.meet_lit E1.out E2.out E3.out _).mono ?_
      rintro e w2 ⟨rfl, hb⟩
      have S2 := S1.keep hb
      clear hb S1 la a0 a1 lb b0 b1
      obtain ⟨la, a0, a1⟩ := (S2.nth 0 rfl).r2
      obtain ⟨lb, b0, b1⟩ := (S2.nth 1 rfl).r2
      go_wp2_with fail
      refine (Clk.meet_lit E4.out E5.out E6.out _).mono ?_
      rintro e w3 ⟨rfl, hb⟩
      have S3 := (S2.new 31 [.int .i64 lo, .int .i64 hi]).keep hb
      clear hb S2 la a0 a1 lb b0 b1
      obtain ⟨la, a0, a1⟩ := (S3.nth 0 rfl).r2
      obtain ⟨lb, b0, b1⟩ := (S3.nth 1 rfl).r2
      obtain ⟨lc, c0, c1⟩ := (S3.nth 2 rfl).r2
      go_wp2_with fail
      refine (Clk.in_lit H1.out _).mono ?_
      rintro e w4 ⟨rfl, hb⟩
      have S4 := (S3.new 31 [.int .i64 lo, .int .i64 hi]).keep hb
      clear hb S3 la a0 a1 lb b0 b1 lc c0 c1
      obtain ⟨la, a0, a1⟩ := (S4.nth 1 rfl).r2
      obtain ⟨lb, b0, b1⟩ := (S4.nth 2 rfl).r2
      obtain ⟨lc, c0, c1⟩ := (S4.nth 3 rfl).r2
      go_wp2_with fail
      refine (Clk.in_lit H2.out _).mono ?_
      rintro e w5 ⟨rfl, hb⟩
      have S5 := S4.keep hb
      clear hb S4 la a0 a1 lb b0 b1 lc c0 c1
      obtain ⟨la, a0, a1⟩ := (S5.nth 1 rfl).r2
      obtain ⟨lb, b0, b1⟩ := (S5.nth 2 rfl).r2
      obtain ⟨lc, c0, c1⟩ := (S5.nth 3 rfl).r2
      go_wp2_with fail
      refine (Clk.in_lit H3'.out _).mono ?_
      rintro e w6 ⟨rfl, hb⟩
      have S6 := S5.keep hb
      clear hb S5 la a0 a1 lb b0 b1 lc c0 c1
      obtain ⟨la, a0, a1⟩ := (S6.nth 1 rfl).r2
      obtain ⟨lb, b0, b1⟩ := (S6.nth 2 rfl).r2
      obtain ⟨lc, c0, c1⟩ := (S6.nth 3 rfl).r2
      go_wp2_with fail
      refine (Clk.in_lit H4.out _).mono ?_
      rintro e w7 ⟨rfl, hb⟩
      have S7 := S6.keep hb
      clear hb S6 la a0 a1 lb b0 b1 lc c0 c1
      obtain ⟨la, a0, a1⟩ := (S7.nth 1 rfl).r2
      obtain ⟨lb, b0, b1⟩ := (S7.nth 2 rfl).r2
      obtain ⟨lc, c0, c1⟩ := (S7.nth 3 rfl).r2
      go_wp2_with fail
      refine (Clk.in_lit H5.out _).mono ?_
      rintro e w8 ⟨rfl, hb⟩
      have S8 := S7.keep hb
      clear hb S7 la a0 a1 lb b0 b1 lc c0 c1
      obtain ⟨la, a0, a1⟩ := (S8.nth 1 rfl).r2
      obtain ⟨lb, b0, b1⟩ := (S8.nth 2 rfl).r2
      obtain ⟨lc, c0, c1⟩ := (S8.nth 3 rfl).r2
      go_wp2_with fail
      refine (Clk.in_lit H6.out _).mono ?_
      rintro e w9 ⟨rfl, hb⟩
      have S9 := S8.keep hb
      clear hb S8 la a0 a1 lb b0 b1 lc c0 c1
      obtain ⟨la, a0, a1⟩ := (S9.nth 1 rfl).r2
      obtain ⟨lb, b0, b1⟩ := (S9.nth 2 rfl).r2
      obtain ⟨lc, c0, c1⟩ := (S9.nth 3 rfl).r2
      go_wp2_with fail
      refine (Clk.in_lit H7.out _).mono ?_
      rintro e w10 ⟨rfl, hb⟩
      have S10 := S9.keep hb
      clear hb S9 la a0 a1 lb b0 b1 lc c0 c1
      obtain ⟨la, a0, a1⟩ := (S10.nth 1 rfl).r2
      obtain ⟨lb, b0, b1⟩ := (S10.nth 2 rfl).r2
      obtain ⟨lc, c0, c1⟩ := (S10.nth 3 rfl).r2
      go_wp2_with fail
      go_ret
      exact ⟨rfl, S10.below⟩
  | false =>
    have H3' : Hid (Clk.inB lo hi t = false) := by have := H3.out; rw [Bool.false_and] at this; exact Lib.hid this
    clear H3
    go_enter Try.func9, Try.ntmps9
    go_wp2_with fail
    refine (Clk.sane_any _).mono ?_
    rintro e w1 ⟨rfl, hb⟩
    have S1 := (((St.start w).new 31 [.int .i64 a, .int .i64 b]).new 31 [.int .i64 c, .int .i64 f]).keep hb
    simp only [World.size_alloc] at S1
    clear hb
    obtain ⟨la, a0, a1⟩ := (S1.nth 0 rfl).r2
    obtain ⟨lb, b0, b1⟩ := (S1.nth 1 rfl).r2
    go_wp2_with fail
    refine (Clk.meet_lit E1.out E2.out E3.out _).mono ?_
    rintro e w2 ⟨rfl, hb⟩
    have S2 := S1.keep hb
    clear hb S1 la a0 a1 lb b0 b1
    obtain ⟨la, a0, a1⟩ := (S2.nth 0 rfl).r2
    obtain ⟨lb, b0, b1⟩ := (S2.nth 1 rfl).r2
    go_wp2_with fail
    refine (Clk.meet_lit E4.out E5.out E6.out _).mono ?_
    rintro e w3 ⟨rfl, hb⟩
    have S3 := (S2.new 31 [.int .i64 lo, .int .i64 hi]).keep hb
    clear hb S2 la a0 a1 lb b0 b1
    obtain ⟨la, a0, a1⟩ := (S3.nth 0 rfl).r2
    obtain ⟨lb, b0, b1⟩ := (S3.nth 1 rfl).r2
    obtain ⟨lc, c0, c1⟩ := (S3.nth 2 rfl).r2
    go_wp2_with fail
    refine (Clk.in_lit H1.out _).mono ?_
    rintro e w4 ⟨rfl, hb⟩
    have S4 := (S3.new 31 [.int .i64 lo, .int .i64 hi]).keep hb
    clear hb S3 la a0 a1 lb b0 b1 lc c0 c1
    obtain ⟨la, a0, a1⟩ := (S4.nth 1 rfl).r2
    obtain ⟨lb, b0, b1⟩ := (S4.nth 2 rfl).r2
    obtain ⟨lc, c0, c1⟩ := (S4.nth 3 rfl).r2
    go_wp2_with fail
    refine (Clk.in_lit H3'.out _).mono ?_
    rintro e w5 ⟨rfl, hb⟩
    have S5 := S4.keep hb
    clear hb S4 la a0 a1 lb b0 b1 lc c0 c1
    obtain ⟨la, a0, a1⟩ := (S5.nth 1 rfl).r2
    obtain ⟨lb, b0, b1⟩ := (S5.nth 2 rfl).r2
    obtain ⟨lc, c0, c1⟩ := (S5.nth 3 rfl).r2
    go_wp2_with fail
    refine (Clk.in_lit H4.out _).mono ?_
    rintro e w6 ⟨rfl, hb⟩
    have S6 := S5.keep hb
    clear hb S5 la a0 a1 lb b0 b1 lc c0 c1
    obtain ⟨la, a0, a1⟩ := (S6.nth 1 rfl).r2
    obtain ⟨lb, b0, b1⟩ := (S6.nth 2 rfl).r2
    obtain ⟨lc, c0, c1⟩ := (S6.nth 3 rfl).r2
    go_wp2_with fail
    refine (Clk.in_lit H5.out _).mono ?_
    rintro e w7 ⟨rfl, hb⟩
    have S7 := S6.keep hb
    clear hb S6 la a0 a1 lb b0 b1 lc c0 c1
    obtain ⟨la, a0, a1⟩ := (S7.nth 1 rfl).r2
    obtain ⟨lb, b0, b1⟩ := (S7.nth 2 rfl).r2
    obtain ⟨lc, c0, c1⟩ := (S7.nth 3 rfl).r2
    go_wp2_with fail
    refine (Clk.in_lit H6.out _).mono ?_
    rintro e w8 ⟨rfl, hb⟩
    have S8 := S7.keep hb
    clear hb S7 la a0 a1 lb b0 b1 lc c0 c1
    obtain ⟨la, a0, a1⟩ := (S8.nth 1 rfl).r2
    obtain ⟨lb, b0, b1⟩ := (S8.nth 2 rfl).r2
    obtain ⟨lc, c0, c1⟩ := (S8.nth 3 rfl).r2
    go_wp2_with fail
    refine (Clk.in_lit H7.out _).mono ?_
    rintro e w9 ⟨rfl, hb⟩
    have S9 := S8.keep hb
    clear hb S8 la a0 a1 lb b0 b1 lc c0 c1
    obtain ⟨la, a0, a1⟩ := (S9.nth 1 rfl).r2
    obtain ⟨lb, b0, b1⟩ := (S9.nth 2 rfl).r2
    obtain ⟨lc, c0, c1⟩ := (S9.nth 3 rfl).r2
    go_wp2_with fail
    go_ret
    exact ⟨rfl, S9.below⟩

set_option maxHeartbeats 4000000 in
theorem Clk.law7_no (a b c f t lo hi : Int) (p q : Bool) (w : World) (e1 : Clk.meetLo a b c f = lo) (e2 : Clk.meetHi a b c f = hi) (e3 : Clk.meetOk a b c f = false) (e4 : Clk.meetLo c f a b = lo) (e5 : Clk.meetHi c f a b = hi) (e6 : Clk.meetOk c f a b = false)
    (hlo : lo = 0) (hhi : hi = 0) (h1 : Clk.inB a b t = p) (h2 : Clk.inB c f t = q) (h3 : (p && q) = false) :
    Calls Try.prog 9 #[.agg #[.int .i64 a, .int .i64 b], .agg #[.int .i64 c, .int .i64 f], .int .i64 t] w fun e w' => e = .returned (.bool true) ∧ Below w.heap.size w w' := by
  subst hlo hhi
  have E1 := Lib.hid e1
  have E2 := Lib.hid e2
  have E3 := Lib.hid e3
  have E4 := Lib.hid e4
  have E5 := Lib.hid e5
  have E6 := Lib.hid e6
  have H1 := Lib.hid h1
  have H2 := Lib.hid h2
  clear e1 e2 e3 e4 e5 e6 h1 h2
  cases p with
  | true =>
    cases q with
    | true => cases h3
    | false =>
      clear h3
      go_enter Try.func9, Try.ntmps9
      go_wp2_with fail
      refine (Clk.sane_any _).mono ?_
      rintro e w1 ⟨rfl, hb⟩
      have S1 := (((St.start w).new 31 [.int .i64 a, .int .i64 b]).new 31 [.int .i64 c, .int .i64 f]).keep hb
      simp only [World.size_alloc] at S1
      clear hb
      obtain ⟨la, a0, a1⟩ := (S1.nth 0 rfl).r2
      obtain ⟨lb, b0, b1⟩ := (S1.nth 1 rfl).r2
      go_wp2_with fail
      refine (Clk.meet_lit E1.out E2.out E3.out _).mono ?_
      rintro e w2 ⟨rfl, hb⟩
      have S2 := S1.keep hb
      clear hb S1 la a0 a1 lb b0 b1
      obtain ⟨la, a0, a1⟩ := (S2.nth 0 rfl).r2
      obtain ⟨lb, b0, b1⟩ := (S2.nth 1 rfl).r2
      go_wp2_with fail
      refine (Clk.meet_lit E4.out E5.out E6.out _).mono ?_
      rintro e w3 ⟨rfl, hb⟩
      have S3 := (S2.new 31 [.int .i64 0, .int .i64 0]).keep hb
      clear hb S2 la a0 a1 lb b0 b1
      obtain ⟨la, a0, a1⟩ := (S3.nth 0 rfl).r2
      obtain ⟨lb, b0, b1⟩ := (S3.nth 1 rfl).r2
      obtain ⟨lc, c0, c1⟩ := (S3.nth 2 rfl).r2
      go_wp2_with fail
      refine (Clk.in_lit H1.out _).mono ?_
      rintro e w4 ⟨rfl, hb⟩
      have S4 := (S3.new 31 [.int .i64 0, .int .i64 0]).keep hb
      clear hb S3 la a0 a1 lb b0 b1 lc c0 c1
      obtain ⟨la, a0, a1⟩ := (S4.nth 1 rfl).r2
      obtain ⟨lb, b0, b1⟩ := (S4.nth 2 rfl).r2
      obtain ⟨lc, c0, c1⟩ := (S4.nth 3 rfl).r2
      go_wp2_with fail
      refine (Clk.in_lit H2.out _).mono ?_
      rintro e w5 ⟨rfl, hb⟩
      have S5 := S4.keep hb
      clear hb S4 la a0 a1 lb b0 b1 lc c0 c1
      obtain ⟨la, a0, a1⟩ := (S5.nth 1 rfl).r2
      obtain ⟨lb, b0, b1⟩ := (S5.nth 2 rfl).r2
      obtain ⟨lc, c0, c1⟩ := (S5.nth 3 rfl).r2
      go_wp2_with fail
      go_ret
      exact ⟨rfl, S5.below⟩
  | false =>
    clear h3
    go_enter Try.func9, Try.ntmps9
    go_wp2_with fail
    refine (Clk.sane_any _).mono ?_
    rintro e w1 ⟨rfl, hb⟩
    have S1 := (((St.start w).new 31 [.int .i64 a, .int .i64 b]).new 31 [.int .i64 c, .int .i64 f]).keep hb
    simp only [World.size_alloc] at S1
    clear hb
    obtain ⟨la, a0, a1⟩ := (S1.nth 0 rfl).r2
    obtain ⟨lb, b0, b1⟩ := (S1.nth 1 rfl).r2
    go_wp2_with fail
    refine (Clk.meet_lit E1.out E2.out E3.out _).mono ?_
    rintro e w2 ⟨rfl, hb⟩
    have S2 := S1.keep hb
    clear hb S1 la a0 a1 lb b0 b1
    obtain ⟨la, a0, a1⟩ := (S2.nth 0 rfl).r2
    obtain ⟨lb, b0, b1⟩ := (S2.nth 1 rfl).r2
    go_wp2_with fail
    refine (Clk.meet_lit E4.out E5.out E6.out _).mono ?_
    rintro e w3 ⟨rfl, hb⟩
    have S3 := (S2.new 31 [.int .i64 0, .int .i64 0]).keep hb
    clear hb S2 la a0 a1 lb b0 b1
    obtain ⟨la, a0, a1⟩ := (S3.nth 0 rfl).r2
    obtain ⟨lb, b0, b1⟩ := (S3.nth 1 rfl).r2
    obtain ⟨lc, c0, c1⟩ := (S3.nth 2 rfl).r2
    go_wp2_with fail
    refine (Clk.in_lit H1.out _).mono ?_
    rintro e w4 ⟨rfl, hb⟩
    have S4 := (S3.new 31 [.int .i64 0, .int .i64 0]).keep hb
    clear hb S3 la a0 a1 lb b0 b1 lc c0 c1
    obtain ⟨la, a0, a1⟩ := (S4.nth 1 rfl).r2
    obtain ⟨lb, b0, b1⟩ := (S4.nth 2 rfl).r2
    obtain ⟨lc, c0, c1⟩ := (S4.nth 3 rfl).r2
    go_wp2_with fail
    go_ret
    exact ⟨rfl, S4.below⟩

theorem Clk.law7 (a b c f t : Int) (w : World) :
    Calls Try.prog 9 #[.agg #[.int .i64 a, .int .i64 b], .agg #[.int .i64 c, .int .i64 f], .int .i64 t] w fun e w' => e = .returned (.bool true) ∧ Below w.heap.size w w' := by
  obtain ⟨k1, k2, k3⟩ := Clk.meet_comm a b c f
  cases h : Clk.meetOk a b c f with
  | true =>
    obtain ⟨m1, m2, m3, m4, m5, m6⟩ := Clk.meet_in a b c f t h
    exact Clk.law7_yes a b c f t _ _ _ _ w rfl rfl h k2 k3 (k1.trans h) m2 rfl rfl m1 m3 m4 m5 m6
  | false =>
    obtain ⟨m1, m2, m3⟩ := Clk.meet_out a b c f t h
    exact Clk.law7_no a b c f t _ _ _ _ w rfl rfl h k2 k3 (k1.trans h) m2 m3 rfl rfl m1
end Go.Proofs.Ytpihodmohlcgiaa
