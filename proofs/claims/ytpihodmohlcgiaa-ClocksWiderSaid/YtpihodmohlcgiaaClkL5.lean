/- The law ClocksWider returns true: for every clock, stamp and two bytes. -/
import Derived.Test.YtpihodmohlcgiaaClkLaw
namespace Go.Proofs.Ytpihodmohlcgiaa
open Go.RowKit Go.Shelf
set_option linter.unusedVariables false

set_option maxHeartbeats 4000000 in
theorem Clk.law5_no1 (s er d x p q er1 d1 er2 d2 : Int) (w : World) (p0 : 0 ≤ p) (p1 : p ≤ 255) (q0 : 0 ≤ q) (q1 : q ≤ 255) (g1 : (if er < 0 then 0 else er) = er1) (g2 : (if 65236 < er1 then 65236 else er1) = er2) (g3 : (if d < 0 then 0 else d) = d1) (g4 : (if 900 < d1 then 900 else d1) = d2) (b1 : 0 ≤ er2) (b2 : er2 ≤ 65236) (b3 : 0 ≤ d2) (b4 : d2 ≤ 900) (h : Clk.chkE s er d = 490) :
    Calls Try.prog 7 #[.agg #[.int .i64 s, .int .i64 er, .int .i64 d], .int .i64 x, .int .u8 p, .int .u8 q] w fun e w' => e = .returned (.bool true) ∧ Below w.heap.size w w' := by
  have H := Lib.hid h
  clear h
  go_enter Try.func7, Try.ntmps7
  go_wp2_with fail
  refine (Clk.sane_any _).mono ?_
  rintro e w1 ⟨rfl, hb⟩
  have S1 := ((St.start w).new 23 [.int .i64 s, .int .i64 er, .int .i64 d]).keep hb
  clear hb
  obtain ⟨la, a0, a1, a2⟩ := (S1.nth 0 rfl).r3
  go_wp2_with fail
  refine (Clk.chk_lit H.out _).mono ?_
  rintro e w2 ⟨rfl, hb⟩
  have S2 := (S1.new 23 [.int .i64 s, .int .i64 (er2 + p), .int .i64 (d2 + q % 90)]).keep hb
  clear hb S1 la a0 a1 a2
  obtain ⟨la, a0, a1, a2⟩ := (S2.nth 1 rfl).r3
  obtain ⟨lb, b0, b5, b6⟩ := (S2.nth 0 rfl).r3
  go_wp2_with fail
  go_ret
  exact ⟨rfl, S2.below⟩

set_option maxHeartbeats 4000000 in
theorem Clk.law5_no2 (s er d x p q er1 d1 er2 d2 : Int) (w : World) (p0 : 0 ≤ p) (p1 : p ≤ 255) (q0 : 0 ≤ q) (q1 : q ≤ 255) (g1 : (if er < 0 then 0 else er) = er1) (g2 : (if 65236 < er1 then 65236 else er1) = er2) (g3 : (if d < 0 then 0 else d) = d1) (g4 : (if 900 < d1 then 900 else d1) = d2) (b1 : 0 ≤ er2) (b2 : er2 ≤ 65236) (b3 : 0 ≤ d2) (b4 : d2 ≤ 900) (h : Clk.chkE s er d = 0) (hc : 65236 < er) :
    Calls Try.prog 7 #[.agg #[.int .i64 s, .int .i64 er, .int .i64 d], .int .i64 x, .int .u8 p, .int .u8 q] w fun e w' => e = .returned (.bool true) ∧ Below w.heap.size w w' := by
  have H := Lib.hid h
  have HC := Lib.hid hc
  clear h hc
  go_enter Try.func7, Try.ntmps7
  go_wp2_with fail
  refine (Clk.sane_any _).mono ?_
  rintro e w1 ⟨rfl, hb⟩
  have S1 := ((St.start w).new 23 [.int .i64 s, .int .i64 er, .int .i64 d]).keep hb
  clear hb
  obtain ⟨la, a0, a1, a2⟩ := (S1.nth 0 rfl).r3
  go_wp2_with fail
  refine (Clk.chk_lit H.out _).mono ?_
  rintro e w2 ⟨rfl, hb⟩
  have S2 := (S1.new 23 [.int .i64 s, .int .i64 (er2 + p), .int .i64 (d2 + q % 90)]).keep hb
  clear hb S1 la a0 a1 a2
  obtain ⟨la, a0, a1, a2⟩ := (S2.nth 1 rfl).r3
  obtain ⟨lb, b0, b5, b6⟩ := (S2.nth 0 rfl).r3
  have hc := HC.out
  go_wp2_with fail
  go_ret
  exact ⟨rfl, S2.below⟩

set_option maxHeartbeats 4000000 in
theorem Clk.law5_no3 (s er d x p q er1 d1 er2 d2 : Int) (w : World) (p0 : 0 ≤ p) (p1 : p ≤ 255) (q0 : 0 ≤ q) (q1 : q ≤ 255) (g1 : (if er < 0 then 0 else er) = er1) (g2 : (if 65236 < er1 then 65236 else er1) = er2) (g3 : (if d < 0 then 0 else d) = d1) (g4 : (if 900 < d1 then 900 else d1) = d2) (b1 : 0 ≤ er2) (b2 : er2 ≤ 65236) (b3 : 0 ≤ d2) (b4 : d2 ≤ 900) (h : Clk.chkE s er d = 0) (hc : decide (65236 < er) = false) (hc2 : 900 < d) :
    Calls Try.prog 7 #[.agg #[.int .i64 s, .int .i64 er, .int .i64 d], .int .i64 x, .int .u8 p, .int .u8 q] w fun e w' => e = .returned (.bool true) ∧ Below w.heap.size w w' := by
  have H := Lib.hid h
  have HC := Lib.hid hc2
  clear h hc2
  go_enter Try.func7, Try.ntmps7
  go_wp2_with fail
  refine (Clk.sane_any _).mono ?_
  rintro e w1 ⟨rfl, hb⟩
  have S1 := ((St.start w).new 23 [.int .i64 s, .int .i64 er, .int .i64 d]).keep hb
  clear hb
  obtain ⟨la, a0, a1, a2⟩ := (S1.nth 0 rfl).r3
  go_wp2_with fail
  refine (Clk.chk_lit H.out _).mono ?_
  rintro e w2 ⟨rfl, hb⟩
  have S2 := (S1.new 23 [.int .i64 s, .int .i64 (er2 + p), .int .i64 (d2 + q % 90)]).keep hb
  clear hb S1 la a0 a1 a2
  obtain ⟨la, a0, a1, a2⟩ := (S2.nth 1 rfl).r3
  obtain ⟨lb, b0, b5, b6⟩ := (S2.nth 0 rfl).r3
  have hc2 := HC.out
  go_wp2_with fail
  go_ret
  exact ⟨rfl, S2.below⟩

set_option maxHeartbeats 4000000 in
theorem Clk.law5_yes (s er d x p q er1 d1 er2 d2 : Int) (w : World) (p0 : 0 ≤ p) (p1 : p ≤ 255) (q0 : 0 ≤ q) (q1 : q ≤ 255) (g1 : (if er < 0 then 0 else er) = er1) (g2 : (if 65236 < er1 then 65236 else er1) = er2) (g3 : (if d < 0 then 0 else d) = d1) (g4 : (if 900 < d1 then 900 else d1) = d2) (b1 : 0 ≤ er2) (b2 : er2 ≤ 65236) (b3 : 0 ≤ d2) (b4 : d2 ≤ 900) (h : Clk.chkE s er d = 0) (hc : decide (65236 < er) = false) (hc2 : decide (900 < d) = false) (lo hi lo2 hi2 v : Int) (k : Bool)
    (e3 : Clk.timLo s er d x = lo) (e4 : Clk.timHi s er d x = hi) (e5 : Clk.timOk s er d x = k) (e6 : Clk.timE s er d x = v)
    (f3 : Clk.timLo s (er2 + p) (d2 + q % 90) x = lo2) (f4 : Clk.timHi s (er2 + p) (d2 + q % 90) x = hi2) (f5 : Clk.timOk s (er2 + p) (d2 + q % 90) x = k) (f6 : Clk.timE s (er2 + p) (d2 + q % 90) x = v)
    (hcase : (k = false ∧ v = 1) ∨ (k = true ∧ v = 0 ∧ lo2 ≤ lo ∧ hi ≤ hi2)) :
    Calls Try.prog 7 #[.agg #[.int .i64 s, .int .i64 er, .int .i64 d], .int .i64 x, .int .u8 p, .int .u8 q] w fun e w' => e = .returned (.bool true) ∧ Below w.heap.size w w' := by
  have H := Lib.hid h
  have E3 := Lib.hid e3
  have E4 := Lib.hid e4
  have E5 := Lib.hid e5
  have E6 := Lib.hid e6
  have F3 := Lib.hid f3
  have F4 := Lib.hid f4
  have F5 := Lib.hid f5
  have F6 := Lib.hid f6
  clear h e3 e4 e5 e6 f3 f4 f5 f6
  rcases hcase with ⟨rfl, rfl⟩ | ⟨rfl, rfl, hl, hh⟩
  all_goals
    go_enter Try.func7, Try.ntmps7
    go_wp2_with fail
    refine (Clk.sane_any _).mono ?_
    rintro e w1 ⟨rfl, hb⟩
    have S1 := ((St.start w).new 23 [.int .i64 s, .int .i64 er, .int .i64 d]).keep hb
    clear hb
    obtain ⟨la, a0, a1, a2⟩ := (S1.nth 0 rfl).r3
    go_wp2_with fail
    refine (Clk.chk_lit H.out _).mono ?_
    rintro e w2 ⟨rfl, hb⟩
    have S2 := (S1.new 23 [.int .i64 s, .int .i64 (er2 + p), .int .i64 (d2 + q % 90)]).keep hb
    clear hb S1 la a0 a1 a2
    obtain ⟨la, a0, a1, a2⟩ := (S2.nth 1 rfl).r3
    obtain ⟨lb, b0, b5, b6⟩ := (S2.nth 0 rfl).r3
    go_wp2_with fail
    refine (Clk.tim_lit E3.out E4.out E5.out E6.out _).mono ?_
    rintro e w3 ⟨rfl, hb⟩
    have S3 := S2.keep hb
    clear hb S2 la a0 a1 a2 lb b0 b5 b6
    obtain ⟨lb, b0, b5, b6⟩ := (S3.nth 0 rfl).r3
    go_wp2_with fail
    refine (Clk.tim_lit F3.out F4.out F5.out F6.out _).mono ?_
    rintro e w4 ⟨rfl, hb⟩
    have S4 := (S3.new 31 [.int .i64 lo, .int .i64 hi]).keep hb
    clear hb S3 lb b0 b5 b6
    obtain ⟨la, a0, a1⟩ := (S4.nth 0 rfl).r2
    go_wp2_with fail
    go_ret
    exact ⟨rfl, (S4.new 31 [.int .i64 lo2, .int .i64 hi2]).below⟩

theorem Clk.law5 (s er d x p q : Int) (w : World) (hp : 0 ≤ p ∧ p ≤ 255) (hq : 0 ≤ q ∧ q ≤ 255) :
    Calls Try.prog 7 #[.agg #[.int .i64 s, .int .i64 er, .int .i64 d], .int .i64 x, .int .u8 p, .int .u8 q] w fun e w' => e = .returned (.bool true) ∧ Below w.heap.size w w' := by
  obtain ⟨p0, p1⟩ := hp
  obtain ⟨q0, q1⟩ := hq
  have B1 : 0 ≤ (if 65236 < (if er < 0 then 0 else er) then 65236 else (if er < 0 then 0 else er)) ∧ (if 65236 < (if er < 0 then 0 else er) then 65236 else (if er < 0 then 0 else er)) ≤ 65236 := by split <;> split <;> omega
  have B2 : 0 ≤ (if 900 < (if d < 0 then 0 else d) then 900 else (if d < 0 then 0 else d)) ∧ (if 900 < (if d < 0 then 0 else d) then 900 else (if d < 0 then 0 else d)) ≤ 900 := by split <;> split <;> omega
  cases h : Clk.okB s er d with
  | false => exact Clk.law5_no1 s er d x p q _ _ _ _ w p0 p1 q0 q1 rfl rfl rfl rfl B1.1 B1.2 B2.1 B2.2 (by simp [Clk.chkE, h])
  | true =>
    have hE : Clk.chkE s er d = 0 := by simp [Clk.chkE, h]
    by_cases h1 : 65236 < er
    · exact Clk.law5_no2 s er d x p q _ _ _ _ w p0 p1 q0 q1 rfl rfl rfl rfl B1.1 B1.2 B2.1 B2.2 hE h1
    · by_cases h2 : 900 < d
      · exact Clk.law5_no3 s er d x p q _ _ _ _ w p0 p1 q0 q1 rfl rfl rfl rfl B1.1 B1.2 B2.1 B2.2 hE (decide_eq_false h1) h2
      · have ho := (Clk.okB_iff s er d).1 h
        have g1 : (if er < 0 then 0 else er) = er := if_neg (by omega)
        have g2 : (if 65236 < er then 65236 else er) = er := if_neg h1
        have g3 : (if d < 0 then 0 else d) = d := if_neg (by omega)
        have g4 : (if 900 < d then 900 else d) = d := if_neg h2
        have ho2 : Clk.okB s (er + p) (d + q % 90) = true := (Clk.okB_iff _ _ _).2 (by omega)
        refine Clk.law5_yes s er d x p q er d er d w p0 p1 q0 q1 g1 g2 g3 g4 (by omega) (by omega) (by omega) (by omega) hE (decide_eq_false h1) (decide_eq_false h2) _ _ _ _ _ (Clk.timOk s er d x) rfl rfl rfl rfl rfl rfl ?_ ?_ ?_
        · simp [Clk.timOk, h, ho2]
        · simp [Clk.timE, h, ho2]
        · cases hx : Clk.tmB x with
          | false => exact .inl ⟨by simp [Clk.timOk, hx], by simp [Clk.timE, h, hx]⟩
          | true =>
            obtain ⟨t1, t2, t3⟩ := Clk.tim_yes s er d x h hx
            obtain ⟨u1, u2, u3⟩ := Clk.tim_yes s (er + p) (d + q % 90) x ho2 hx
            exact .inr ⟨t1, t2, Clk.times_wider (by omega) (by omega) t3 u3⟩
end Go.Proofs.Ytpihodmohlcgiaa
