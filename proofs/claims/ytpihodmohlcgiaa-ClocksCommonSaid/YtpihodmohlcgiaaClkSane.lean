/- 'sane' of the statements about clocks returns true. -/
import Derived.Test.YtpihodmohlcgiaaClkR3
namespace Go.Proofs.Ytpihodmohlcgiaa
open Go.RowKit Go.Shelf
set_option linter.unusedVariables false

theorem Clk.may_c1 (w : World) : Calls Try.prog 11 #[.agg #[.int .i64 1000, .int .i64 2, .int .i64 10], .int .i64 1200, .int .i64 1204] w fun e w' => e = .returned (.tuple #[.bool true, .int .i64 0]) ∧ Below w.heap.size w w' :=
  (Clk.may_any 1000 2 10 1200 1204 w).mono fun _ _ ⟨he, hb⟩ => ⟨by rw [he, show Clk.mayB 1000 2 10 1200 1204 = true by decide +kernel, show Clk.mayE 1000 2 10 1200 1204 = 0 by decide +kernel], hb⟩
theorem Clk.may_c2 (w : World) : Calls Try.prog 11 #[.agg #[.int .i64 1000, .int .i64 2, .int .i64 10], .int .i64 1200, .int .i64 1205] w fun e w' => e = .returned (.tuple #[.bool false, .int .i64 0]) ∧ Below w.heap.size w w' :=
  (Clk.may_any 1000 2 10 1200 1205 w).mono fun _ _ ⟨he, hb⟩ => ⟨by rw [he, show Clk.mayB 1000 2 10 1200 1205 = false by decide +kernel, show Clk.mayE 1000 2 10 1200 1205 = 0 by decide +kernel], hb⟩
theorem Clk.tim_c1 (w : World) : Calls Try.prog 15 #[.agg #[.int .i64 1000, .int .i64 2, .int .i64 10], .int .i64 1204] w fun e w' => e = .returned (.tuple #[.agg #[.int .i64 1200, .int .i64 1208], .bool true, .int .i64 0]) ∧ Below w.heap.size w w' :=
  (Clk.times_any 1000 2 10 1204 w).mono fun _ _ ⟨he, hb⟩ => ⟨by rw [he, show Clk.timLo 1000 2 10 1204 = 1200 by decide +kernel, show Clk.timHi 1000 2 10 1204 = 1208 by decide +kernel, show Clk.timOk 1000 2 10 1204 = true by decide +kernel, show Clk.timE 1000 2 10 1204 = 0 by decide +kernel], hb⟩
theorem Clk.tim_c2 (w : World) : Calls Try.prog 15 #[.agg #[.int .i64 0, .int .i64 3, .int .i64 0], .int .i64 1] w fun e w' => e = .returned (.tuple #[.agg #[.int .i64 0, .int .i64 4], .bool true, .int .i64 0]) ∧ Below w.heap.size w w' :=
  (Clk.times_any 0 3 0 1 w).mono fun _ _ ⟨he, hb⟩ => ⟨by rw [he, show Clk.timLo 0 3 0 1 = 0 by decide +kernel, show Clk.timHi 0 3 0 1 = 4 by decide +kernel, show Clk.timOk 0 3 0 1 = true by decide +kernel, show Clk.timE 0 3 0 1 = 0 by decide +kernel], hb⟩
theorem Clk.may_c3 (w : World) : Calls Try.prog 11 #[.agg #[.int .i64 5, .int .i64 0, .int .i64 999], .int .i64 5, .int .i64 5] w fun e w' => e = .returned (.tuple #[.bool true, .int .i64 0]) ∧ Below w.heap.size w w' :=
  (Clk.may_any 5 0 999 5 5 w).mono fun _ _ ⟨he, hb⟩ => ⟨by rw [he, show Clk.mayB 5 0 999 5 5 = true by decide +kernel, show Clk.mayE 5 0 999 5 5 = 0 by decide +kernel], hb⟩
theorem Clk.may_c4 (w : World) : Calls Try.prog 11 #[.agg #[.int .i64 5, .int .i64 0, .int .i64 999], .int .i64 5, .int .i64 6] w fun e w' => e = .returned (.tuple #[.bool false, .int .i64 0]) ∧ Below w.heap.size w w' :=
  (Clk.may_any 5 0 999 5 6 w).mono fun _ _ ⟨he, hb⟩ => ⟨by rw [he, show Clk.mayB 5 0 999 5 6 = false by decide +kernel, show Clk.mayE 5 0 999 5 6 = 0 by decide +kernel], hb⟩
theorem Clk.meet_c1 (w : World) : Calls Try.prog 17 #[.agg #[.int .i64 0, .int .i64 4], .agg #[.int .i64 5, .int .i64 9]] w fun e w' => e = .returned (.tuple #[.agg #[.int .i64 0, .int .i64 0], .bool false]) ∧ Below w.heap.size w w' :=
  (Clk.meet_any 0 4 5 9 w).mono fun _ _ ⟨he, hb⟩ => ⟨by rw [he, show Clk.meetLo 0 4 5 9 = 0 by decide, show Clk.meetHi 0 4 5 9 = 0 by decide, show Clk.meetOk 0 4 5 9 = false by decide], hb⟩

set_option maxRecDepth 100000 in
set_option maxHeartbeats 4000000 in
theorem Clk.sane_any (w : World) : Calls Try.prog 10 #[] w fun e w' => e = .returned (.bool true) ∧ Below w.heap.size w w' := by
  go_enter Try.func10, Try.ntmps10
  go_wp2_with fail
  refine (Clk.may_c1 _).mono ?_
  rintro e w1 ⟨rfl, hb1⟩
  have H1 := (Has.new w 23 [.int .i64 1000, .int .i64 2, .int .i64 10]).keep hb1
  obtain ⟨a0, a1, a2⟩ := H1.c3
  have HB1 : Hid (Below w.heap.size w w1) := Lib.hid (((Below.refl _ _).alloc (Nat.le_refl _) _).trans (hb1.mono (by simp)))
  clear hb1
  go_wp2_with fail
  refine (Clk.may_c2 _).mono ?_
  rintro e w2 ⟨rfl, hb2⟩
  have H2 := H1.keep hb2
  obtain ⟨b0, b1, b2⟩ := H2.c3
  have HB2 : Hid (Below w.heap.size w w2) := Lib.hid (HB1.out.trans (hb2.mono HB1.out.size))
  clear H1 a0 a1 a2 hb2 HB1
  go_wp2_with fail
  refine (Clk.tim_c1 _).mono ?_
  rintro e w3 ⟨rfl, hb3⟩
  have HB3 : Hid (Below w.heap.size w w3) := Lib.hid (HB2.out.trans (hb3.mono HB2.out.size))
  clear H2 b0 b1 b2 hb3 HB2
  go_wp2_with fail
  refine (Clk.tim_c2 _).mono ?_
  rintro e w4 ⟨rfl, hb4⟩
  have H3 := Lib.hid ((Has.new w3 31 [.int .i64 1200, .int .i64 1208]).keep hb4)
  have HB4 : Hid (Below w.heap.size w w4) := Lib.hid ((HB3.out.alloc HB3.out.size _).trans (hb4.mono (by have := HB3.out.size; simp; omega)))
  clear hb4 HB3
  go_wp2_with fail
  refine (Clk.meet_c1 _).mono ?_
  rintro e w5 ⟨rfl, hb5⟩
  have H4 := Lib.hid ((Has.new w4 31 [.int .i64 0, .int .i64 4]).keep hb5)
  have H3' := Lib.hid ((H3.out.alloc (.cells #[.int .i64 0, .int .i64 4] 31)).keep hb5)
  have HB5 : Hid (Below w.heap.size w w5) := Lib.hid ((HB4.out.alloc HB4.out.size _).trans (hb5.mono (by have := HB4.out.size; simp; omega)))
  clear hb5 HB4 H3
  go_wp2_with fail
  refine (Clk.may_c3 _).mono ?_
  rintro e w6 ⟨rfl, hb6⟩
  have H5 := (((Has.new w5 31 [.int .i64 0, .int .i64 0]).alloc (.cells #[.int .i64 5, .int .i64 0, .int .i64 999] 23))).keep hb6
  have H6 := (Has.new (w5.alloc (.cells #[.int .i64 0, .int .i64 0] 31)) 23 [.int .i64 5, .int .i64 0, .int .i64 999]).keep hb6
  rw [World.size_alloc] at H6
  have H4' := (((H4.out.alloc (.cells #[.int .i64 0, .int .i64 0] 31)).alloc (.cells #[.int .i64 5, .int .i64 0, .int .i64 999] 23))).keep hb6
  have H3'' := (((H3'.out.alloc (.cells #[.int .i64 0, .int .i64 0] 31)).alloc (.cells #[.int .i64 5, .int .i64 0, .int .i64 999] 23))).keep hb6
  have HB6 : Hid (Below w.heap.size w w6) := Lib.hid (((HB5.out.alloc HB5.out.size _).alloc (by have := HB5.out.size; simp; omega) _).trans (hb6.mono (by have := HB5.out.size; simp; omega)))
  clear hb6 HB5 H3' H4
  obtain ⟨a0, a1, a2⟩ := H6.c3
  have H5 := Lib.hid H5
  have H6 := Lib.hid H6
  have H4 := Lib.hid H4'
  have H3 := Lib.hid H3''
  clear H4' H3''
  go_wp2_with fail
  refine (Clk.may_c4 _).mono ?_
  rintro e w7 ⟨rfl, hb7⟩
  have G3 := H3.out.keep hb7
  have G4 := H4.out.keep hb7
  have G5 := H5.out.keep hb7
  have G6 := H6.out.keep hb7
  have HB7 : Hid (Below w.heap.size w w7) := Lib.hid (HB6.out.trans (hb7.mono HB6.out.size))
  clear hb7 HB6 H3 H4 H5 H6 a0 a1 a2
  obtain ⟨a0, a1⟩ := G3.c2
  obtain ⟨b0, b1⟩ := G4.c2
  obtain ⟨c0, c1⟩ := G5.c2
  obtain ⟨d0, d1, d2⟩ := G6.c3
  have G6 := Lib.hid G6
  clear G3 G4 G5
  go_wp2_with fail
  refine (Clk.check_no 0 0 1000 _ (by decide)).mono ?_
  rintro e w8 ⟨rfl, hb8⟩
  have HB8 : Hid (Below w.heap.size w w8) := Lib.hid (HB7.out.trans (hb8.mono HB7.out.size))
  obtain ⟨e0, e1, e2⟩ := (G6.out.keep hb8).c3
  clear hb8 HB7 G6 a0 a1 b0 b1 c0 c1 d0 d1 d2
  go_wp2_with fail
  refine (Clk.check_ok 5 0 999 _ (by decide)).mono ?_
  rintro e w9 ⟨rfl, hb9⟩
  have HB9 : Hid (Below w.heap.size w w9) := Lib.hid (HB8.out.trans (hb9.mono HB8.out.size))
  clear hb9 HB8 e0 e1 e2
  go_wp2_with fail
  go_ret
  exact ⟨rfl, HB9.out⟩

end Go.Proofs.Ytpihodmohlcgiaa
