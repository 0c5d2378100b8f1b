/- The law ClocksSteady returns true: for every clock and stamp. -/
import Derived.Test.YtpihodmohlcgiaaClkLaw
namespace Go.Proofs.Ytpihodmohlcgiaa
open Go.RowKit Go.Shelf
set_option linter.unusedVariables false

theorem Clk.law6_no1 (s er d x : Int) (w : World) (h : Clk.okB s er d = false) :
    Calls Try.prog 8 #[.agg #[.int .i64 s, .int .i64 er, .int .i64 d], .int .i64 x] w fun e w' => e = .returned (.bool true) ∧ Below w.heap.size w w' := by
  have H := Lib.hid h
  clear h
  go_enter Try.func8, Try.ntmps8
  go_wp2_with fail
  refine (Clk.sane_any _).mono ?_
  rintro e w1 ⟨rfl, hb⟩
  have S1 := ((St.start w).new 23 [.int .i64 s, .int .i64 er, .int .i64 d]).keep hb
  clear hb
  obtain ⟨la, a0, a1, a2⟩ := (S1.nth 0 rfl).r3
  go_wp2_with fail
  refine (Clk.check_no _ _ _ _ H.out).mono ?_
  rintro e w2 ⟨rfl, hb⟩
  have S2 := S1.keep hb
  clear hb S1 la a0 a1 a2
  go_wp2_with fail
  go_ret
  exact ⟨rfl, S2.below⟩

theorem Clk.law6_no2 (s er d x : Int) (w : World) (h : Clk.okB s er d = true) (hx : x < 0 ∨ 1048576 < x) :
    Calls Try.prog 8 #[.agg #[.int .i64 s, .int .i64 er, .int .i64 d], .int .i64 x] w fun e w' => e = .returned (.bool true) ∧ Below w.heap.size w w' := by
  have H := Lib.hid h
  clear h
  rcases hx with hx | hx
  · go_enter Try.func8, Try.ntmps8
    go_wp2_with fail
    refine (Clk.sane_any _).mono ?_
    rintro e w1 ⟨rfl, hb⟩
    have S1 := ((St.start w).new 23 [.int .i64 s, .int .i64 er, .int .i64 d]).keep hb
    clear hb
    obtain ⟨la, a0, a1, a2⟩ := (S1.nth 0 rfl).r3
    go_wp2_with fail
    refine (Clk.check_ok _ _ _ _ H.out).mono ?_
    rintro e w2 ⟨rfl, hb⟩
    have S2 := S1.keep hb
    clear hb S1 la a0 a1 a2
    go_wp2_with fail
    go_ret
    exact ⟨rfl, S2.below⟩
  · have hx0 : decide (x < 0) = false := decide_eq_false (by omega)
    go_enter Try.func8, Try.ntmps8
    go_wp2_with fail
    refine (Clk.sane_any _).mono ?_
    rintro e w1 ⟨rfl, hb⟩
    have S1 := ((St.start w).new 23 [.int .i64 s, .int .i64 er, .int .i64 d]).keep hb
    clear hb
    obtain ⟨la, a0, a1, a2⟩ := (S1.nth 0 rfl).r3
    go_wp2_with fail
    refine (Clk.check_ok _ _ _ _ H.out).mono ?_
    rintro e w2 ⟨rfl, hb⟩
    have S2 := S1.keep hb
    clear hb S1 la a0 a1 a2
    go_wp2_with fail
    go_ret
    exact ⟨rfl, S2.below⟩

set_option maxHeartbeats 4000000 in
theorem Clk.law6_yes (s er d x lo hi D : Int) (b : Bool) (w : World) (h : Clk.okB s er d = true) (x0 : 0 ≤ x) (x1 : x ≤ 1048576)
    (e1 : Clk.mayB s er d s x = b) (e2 : Clk.mayE s er d s x = 0) (e3 : Clk.timLo s er 0 x = lo) (e4 : Clk.timHi s er 0 x = hi) (e5 : Clk.timOk s er 0 x = true) (e6 : Clk.timE s er 0 x = 0)
    (hD : (if x - s < s - x then s - x else x - s) = D) (hDb : decide (D ≤ er) = b) (hlo : (if 0 < x - er then x - er else 0) = lo) (hhi : (if x + er < 1048576 then x + er else 1048576) = hi) :
    Calls Try.prog 8 #[.agg #[.int .i64 s, .int .i64 er, .int .i64 d], .int .i64 x] w fun e w' => e = .returned (.bool true) ∧ Below w.heap.size w w' := by
  have H := Lib.hid h
  have ho := (Clk.okB_iff s er d).1 h
  obtain ⟨s0, s1, er0, er1, d0, d1⟩ := ho
  have E1 := Lib.hid e1
  have E2 := Lib.hid e2
  have E3 := Lib.hid e3
  have E4 := Lib.hid e4
  have E5 := Lib.hid e5
  have E6 := Lib.hid e6
  clear e1 e2 e3 e4 e5 e6 h
  have hx0 : decide (x < 0) = false := decide_eq_false (by omega)
  have hx1 : decide (1048576 < x) = false := decide_eq_false (by omega)
  have hr0 : decide (er < 0) = false := decide_eq_false (by omega)
  have hr1 : decide (65536 < er) = false := decide_eq_false (by omega)
  have hbb : (b != b) = false := by simp
  go_enter Try.func8, Try.ntmps8
  go_wp2_with fail
  refine (Clk.sane_any _).mono ?_
  rintro e w1 ⟨rfl, hb⟩
  have S1 := ((St.start w).new 23 [.int .i64 s, .int .i64 er, .int .i64 d]).keep hb
  clear hb
  obtain ⟨la, a0, a1, a2⟩ := (S1.nth 0 rfl).r3
  go_wp2_with fail
  refine (Clk.check_ok _ _ _ _ H.out).mono ?_
  rintro e w2 ⟨rfl, hb⟩
  have S2 := S1.keep hb
  clear hb S1 la a0 a1 a2
  obtain ⟨la, a0, a1, a2⟩ := (S2.nth 0 rfl).r3
  go_wp2_with fail
  refine (Clk.may_lit E1.out E2.out _).mono ?_
  rintro e w3 ⟨rfl, hb⟩
  have S3 := S2.keep hb
  clear hb S2 la a0 a1 a2
  obtain ⟨la, a0, a1, a2⟩ := (S3.nth 0 rfl).r3
  have fz := (S3.nth 0 rfl).frozen 2
  go_wp2_with fail
  refine (Clk.tim_lit E3.out E4.out E5.out E6.out _).mono ?_
  rintro e w4 ⟨rfl, hb⟩
  have S4 := (S3.put (Nat.le_refl _) (fun _ hx => by cases hx) 2 (.int .i64 0)).keep hb
  clear hb S3 la a0 a1 a2 fz
  obtain ⟨la, a0, a1, a2⟩ := (show Has w4 w.heap.size 23 [.int .i64 s, .int .i64 er, .int .i64 0] from S4.nth 0 rfl).r3
  have ll : (lo == lo) = true := by simp
  have hh : (hi == hi) = true := by simp
  go_wp2_with fail
  all_goals
    go_ret
    exact ⟨rfl, (S4.new 31 [.int .i64 lo, .int .i64 hi]).below⟩

theorem Clk.law6 (s er d x : Int) (w : World) :
    Calls Try.prog 8 #[.agg #[.int .i64 s, .int .i64 er, .int .i64 d], .int .i64 x] w fun e w' => e = .returned (.bool true) ∧ Below w.heap.size w w' := by
  cases h : Clk.okB s er d with
  | false => exact Clk.law6_no1 s er d x w h
  | true =>
    by_cases hx : x < 0 ∨ 1048576 < x
    · exact Clk.law6_no2 s er d x w h hx
    · have ho := (Clk.okB_iff s er d).1 h
      have hx' : Clk.tmB x = true := (Clk.tmB_iff x).2 (by omega)
      have hs' : Clk.tmB s = true := (Clk.tmB_iff s).2 (by omega)
      have ho0 : Clk.okB s er 0 = true := (Clk.okB_iff s er 0).2 (by omega)
      obtain ⟨t5, t6, hT⟩ := Clk.tim_yes s er 0 x ho0 hx'
      obtain ⟨r1, r2⟩ := Clk.times_steady (by omega) (by omega) (by omega) hT
      refine Clk.law6_yes s er d x _ _ (Clk.apart x s) (Clk.shB s er d s x) w h (by omega) (by omega) (by simp [Clk.mayB, h, hx', hs']) (by simp [Clk.mayE, h, hx', hs']) rfl rfl t5 t6 ?_ ?_ r1.symm r2.symm
      · unfold Clk.apart; split <;> split <;> omega
      · rw [Clk.sh_sync]
end Go.Proofs.Ytpihodmohlcgiaa
