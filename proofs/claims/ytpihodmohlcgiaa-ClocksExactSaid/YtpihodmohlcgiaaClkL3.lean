/- The law ClocksExact returns true: for every clock, time and stamp. -/
import Derived.Test.YtpihodmohlcgiaaClkLaw
namespace Go.Proofs.Ytpihodmohlcgiaa
open Go.RowKit Go.Shelf
set_option linter.unusedVariables false

theorem Clk.law3_no (s er d t x : Int) (mv tv : Int) (w : World) (e1 : Clk.mayB s er d t x = false) (e2 : Clk.mayE s er d t x = mv) (e3 : Clk.timLo s er d x = 0) (e4 : Clk.timHi s er d x = 0) (e5 : Clk.timOk s er d x = false) (e6 : Clk.timE s er d x = tv)
    (m0 : (mv != 0) = true) (h : (tv == mv) = true) :
    Calls Try.prog 5 #[.agg #[.int .i64 s, .int .i64 er, .int .i64 d], .int .i64 t, .int .i64 x] w fun e w' => e = .returned (.bool true) ∧ Below w.heap.size w w' := by
  have E1 := Lib.hid e1
  have E2 := Lib.hid e2
  have E3 := Lib.hid e3
  have E4 := Lib.hid e4
  have E5 := Lib.hid e5
  have E6 := Lib.hid e6
  clear e1 e2 e3 e4 e5 e6
  go_enter Try.func5, Try.ntmps5
  go_wp2_with fail
  refine (Clk.sane_any _).mono ?_
  rintro e w1 ⟨rfl, hb⟩
  have S1 := ((St.start w).new 23 [.int .i64 s, .int .i64 er, .int .i64 d]).keep hb
  clear hb
  obtain ⟨la, a0, a1, a2⟩ := (S1.nth 0 rfl).r3
  go_wp2_with fail
  refine (Clk.may_lit E1.out E2.out _).mono ?_
  rintro e w2 ⟨rfl, hb⟩
  have S2 := S1.keep hb
  clear hb S1 la a0 a1 a2
  obtain ⟨la, a0, a1, a2⟩ := (S2.nth 0 rfl).r3
  go_wp2_with fail
  refine (Clk.tim_lit E3.out E4.out E5.out E6.out _).mono ?_
  rintro e w3 ⟨rfl, hb⟩
  have S3 := S2.keep hb
  clear hb S2 la a0 a1 a2
  go_wp2_with fail
  go_ret
  exact ⟨rfl, (S3.new 31 [.int .i64 0, .int .i64 0]).below⟩

theorem Clk.law3_no2 (s er d t x : Int) (lo hi : Int) (w : World) (e1 : Clk.mayB s er d t x = false) (e2 : Clk.mayE s er d t x = 1) (e3 : Clk.timLo s er d x = lo) (e4 : Clk.timHi s er d x = hi) (e5 : Clk.timOk s er d x = true) (e6 : Clk.timE s er d x = 0) :
    Calls Try.prog 5 #[.agg #[.int .i64 s, .int .i64 er, .int .i64 d], .int .i64 t, .int .i64 x] w fun e w' => e = .returned (.bool true) ∧ Below w.heap.size w w' := by
  have E1 := Lib.hid e1
  have E2 := Lib.hid e2
  have E3 := Lib.hid e3
  have E4 := Lib.hid e4
  have E5 := Lib.hid e5
  have E6 := Lib.hid e6
  clear e1 e2 e3 e4 e5 e6
  go_enter Try.func5, Try.ntmps5
  go_wp2_with fail
  refine (Clk.sane_any _).mono ?_
  rintro e w1 ⟨rfl, hb⟩
  have S1 := ((St.start w).new 23 [.int .i64 s, .int .i64 er, .int .i64 d]).keep hb
  clear hb
  obtain ⟨la, a0, a1, a2⟩ := (S1.nth 0 rfl).r3
  go_wp2_with fail
  refine (Clk.may_lit E1.out E2.out _).mono ?_
  rintro e w2 ⟨rfl, hb⟩
  have S2 := S1.keep hb
  clear hb S1 la a0 a1 a2
  obtain ⟨la, a0, a1, a2⟩ := (S2.nth 0 rfl).r3
  go_wp2_with fail
  refine (Clk.tim_lit E3.out E4.out E5.out E6.out _).mono ?_
  rintro e w3 ⟨rfl, hb⟩
  have S3 := S2.keep hb
  clear hb S2 la a0 a1 a2
  go_wp2_with fail
  go_ret
  exact ⟨rfl, (S3.new 31 [.int .i64 lo, .int .i64 hi]).below⟩

set_option maxHeartbeats 1000000 in
theorem Clk.law3_yes (s er d t x : Int) (lo hi : Int) (b : Bool) (w : World) (e1 : Clk.mayB s er d t x = b) (e2 : Clk.mayE s er d t x = 0) (e3 : Clk.timLo s er d x = lo) (e4 : Clk.timHi s er d x = hi) (e5 : Clk.timOk s er d x = true) (e6 : Clk.timE s er d x = 0)
    (h1 : Clk.inB lo hi t = b) (h2 : Clk.inB lo hi x = true) (h3 : 0 ≤ lo) (h4 : hi ≤ 1048576) :
    Calls Try.prog 5 #[.agg #[.int .i64 s, .int .i64 er, .int .i64 d], .int .i64 t, .int .i64 x] w fun e w' => e = .returned (.bool true) ∧ Below w.heap.size w w' := by
  have E1 := Lib.hid e1
  have E2 := Lib.hid e2
  have E3 := Lib.hid e3
  have E4 := Lib.hid e4
  have E5 := Lib.hid e5
  have E6 := Lib.hid e6
  have H1 := Lib.hid h1
  have H2 := Lib.hid h2
  have hbb : (b == b) = true := by simp
  clear e1 e2 e3 e4 e5 e6 h1 h2
  go_enter Try.func5, Try.ntmps5
  go_wp2_with fail
  refine (Clk.sane_any _).mono ?_
  rintro e w1 ⟨rfl, hb⟩
  have S1 := ((St.start w).new 23 [.int .i64 s, .int .i64 er, .int .i64 d]).keep hb
  clear hb
  obtain ⟨la, a0, a1, a2⟩ := (S1.nth 0 rfl).r3
  go_wp2_with fail
  refine (Clk.may_lit E1.out E2.out _).mono ?_
  rintro e w2 ⟨rfl, hb⟩
  have S2 := S1.keep hb
  clear hb S1 la a0 a1 a2
  obtain ⟨la, a0, a1, a2⟩ := (S2.nth 0 rfl).r3
  go_wp2_with fail
  refine (Clk.tim_lit E3.out E4.out E5.out E6.out _).mono ?_
  rintro e w3 ⟨rfl, hb⟩
  have S3 := S2.keep hb
  clear hb S2 la a0 a1 a2
  go_wp2_with fail
  refine (Clk.in_lit H1.out _).mono ?_
  rintro e w4 ⟨rfl, hb⟩
  have S4 := (S3.new 31 [.int .i64 lo, .int .i64 hi]).keep hb
  clear hb S3
  obtain ⟨la, a0, a1⟩ := (S4.nth 0 rfl).r2
  go_wp2_with fail
  refine (Clk.in_lit H2.out _).mono ?_
  rintro e w5 ⟨rfl, hb⟩
  have S5 := S4.keep hb
  clear hb S4 la a0 a1
  obtain ⟨la, a0, a1⟩ := (S5.nth 0 rfl).r2
  go_wp2_with fail
  go_ret
  exact ⟨rfl, S5.below⟩

theorem Clk.law3 (s er d t x : Int) (w : World) :
    Calls Try.prog 5 #[.agg #[.int .i64 s, .int .i64 er, .int .i64 d], .int .i64 t, .int .i64 x] w fun e w' => e = .returned (.bool true) ∧ Below w.heap.size w w' := by
  cases ho : Clk.okB s er d with
  | false =>
    have h5 : Clk.timOk s er d x = false := by simp [Clk.timOk, ho]
    exact Clk.law3_no s er d t x 490 490 w (by simp [Clk.mayB, ho]) (by simp [Clk.mayE, ho]) (Clk.tim_no s er d x h5).1 (Clk.tim_no s er d x h5).2 h5 (by simp [Clk.timE, ho]) rfl rfl
  | true =>
    cases hx : Clk.tmB x with
    | false =>
      have h5 : Clk.timOk s er d x = false := by simp [Clk.timOk, hx]
      exact Clk.law3_no s er d t x 1 1 w (by simp [Clk.mayB, hx]) (by simp [Clk.mayE, ho, hx]) (Clk.tim_no s er d x h5).1 (Clk.tim_no s er d x h5).2 h5 (by simp [Clk.timE, ho, hx]) rfl rfl
    | true =>
      obtain ⟨h5, h6, hT⟩ := Clk.tim_yes s er d x ho hx
      cases ht : Clk.tmB t with
      | false => exact Clk.law3_no2 s er d t x _ _ w (by simp [Clk.mayB, ht]) (by simp [Clk.mayE, ho, ht]) rfl rfl h5 h6
      | true =>
        obtain ⟨t1, t2, t3, t4, t5⟩ := hT
        have hin : Clk.inB (Clk.timLo s er d x) (Clk.timHi s er d x) t = Clk.shB s er d t x := by
          rw [Clk.tmB_iff] at ht
          rw [Bool.eq_iff_iff, Clk.inB_iff, t5 t ht.1 ht.2]
        exact Clk.law3_yes s er d t x _ _ (Clk.shB s er d t x) w (by simp [Clk.mayB, ho, hx, ht]) (by simp [Clk.mayE, ho, ht, hx]) rfl rfl h5 h6 hin ((Clk.inB_iff _ _ _).2 ⟨t2, t3⟩) t1 t4
end Go.Proofs.Ytpihodmohlcgiaa
