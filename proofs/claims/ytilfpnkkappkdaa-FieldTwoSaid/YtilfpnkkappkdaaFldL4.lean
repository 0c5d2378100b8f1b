/- The law FieldTwo returns true. -/
import Derived.Test.YtilfpnkkappkdaaFldSane
namespace Go.Proofs.Ytilfpnkkappkdaa
open Go.RowKit Go.Shelf
set_option linter.unusedVariables false

theorem Fld.mul_two (a : UInt8) : Fld.mul a 2 = Fld.tw a := by
  have h := Fld.lin_tw.eq a
  rw [show Fld.tw 1 = 2 by decide] at h
  rw [h, Fld.mul_comm]

set_option maxRecDepth 100000 in
set_option maxHeartbeats 4000000 in
theorem Fld.law4h (a b : UInt8) (w : World) (h : 128 ≤ a.toNat) : Calls Try.prog 5 #[B8 a, B8 b] w fun e w' => e = .returned (.bool true) ∧ Below w.heap.size w w' := by
  have ha : a.toNat < 256 := a.toNat_lt
  have hbb : b.toNat < 256 := b.toNat_lt
  have d : decide ((128 : Int) ≤ (a.toNat : Int)) = true := decide_eq_true (by omega)
  have hv : (((Fld.tw a).toNat : Int) == bits BinOp.xor IntKind.u8 (↑a.toNat * 2 % 256) 27) = true := by
    rw [beq_iff_eq, Fld.tw_hi a h, show ((a.toNat : Int) * 2 % 256) = ((a.toNat * 2 % 256 : Nat) : Int) by omega, show (27 : Int) = ((27 : Nat) : Int) from rfl, u8_xor_nat _ _ (by omega) (by omega)]
  have HV := Lib.hid hv
  clear hv
  go_enter Try.func5, Try.ntmps5
  go_wp2_with fail
  refine (Fld.sane_any _).mono ?_
  rintro e w1 ⟨rfl, hb1⟩
  have HB1 := Lib.hid hb1
  clear hb1
  go_wp2_with fail
  go_loopw [6, 7, 8] (fun s x i wr => ∃ k : Nat, k ≤ 8 ∧ i = .int .i64 k ∧ s = B8 (Fld.acc a b k) ∧ x = B8 (Fld.pw a k) ∧ Below w.heap.size w wr) (fun _ _ i _ => 8 - (intOf i).toNat)
  case atStart => exact ⟨0, by omega, rfl, rfl, rfl, HB1.out⟩
  case round =>
    obtain ⟨k, hk, rfl, rfl, rfl, hB⟩ := hrel
    have HB := Lib.hid hB
    have hacc : (Fld.acc a b k).toNat < 256 := (Fld.acc a b k).toNat_lt
    clear hB
    by_cases hlt : k < 8
    · obtain rfl | rfl | rfl | rfl | rfl | rfl | rfl | rfl : k = 0 ∨ k = 1 ∨ k = 2 ∨ k = 3 ∨ k = 4 ∨ k = 5 ∨ k = 6 ∨ k = 7 := by omega
      · have hpw : (Fld.pw a 0).toNat < 256 := (Fld.pw a 0).toNat_lt
        have T : (bits BinOp.and IntKind.u8 (b.toNat : Int) 1 == 1) = b.toNat.testBit 0 := by have := Fld.bit_test b 0 (by omega); simpa using this
        cases ht : b.toNat.testBit 0 with
        | true =>
          have T' := T.trans ht
          have HT := Lib.hid (Fld.acc_yes a b 0 ht)
          clear T ht
          go_wp2_with fail
          refine (Fld.mul_any (Fld.pw a 0) 2 _).mono ?_
          rintro e w3 ⟨rfl, hb3⟩
          rw [Fld.mul_two]
          have HB3 := Lib.hid (HB.out.trans (hb3.mono HB.out.size))
          clear hb3
          go_wp2_with fail
          exact ⟨⟨1, by omega, rfl, HT.out, rfl, HB3.out⟩, by simp [intOf]⟩
        | false =>
          have T' := T.trans ht
          have HT := Lib.hid (Fld.acc_no a b 0 ht)
          clear T ht
          go_wp2_with fail
          refine (Fld.mul_any (Fld.pw a 0) 2 _).mono ?_
          rintro e w3 ⟨rfl, hb3⟩
          rw [Fld.mul_two]
          have HB3 := Lib.hid (HB.out.trans (hb3.mono HB.out.size))
          clear hb3
          go_wp2_with fail
          exact ⟨⟨1, by omega, rfl, HT.out, rfl, HB3.out⟩, by simp [intOf]⟩
      · have hpw : (Fld.pw a 1).toNat < 256 := (Fld.pw a 1).toNat_lt
        have T : (bits BinOp.and IntKind.u8 ((b.toNat : Int) / 2) 1 == 1) = b.toNat.testBit 1 := Fld.bit_test b 1 (by omega)
        cases ht : b.toNat.testBit 1 with
        | true =>
          have T' := T.trans ht
          have HT := Lib.hid (Fld.acc_yes a b 1 ht)
          clear T ht
          go_wp2_with fail
          refine (Fld.mul_any (Fld.pw a 1) 2 _).mono ?_
          rintro e w3 ⟨rfl, hb3⟩
          rw [Fld.mul_two]
          have HB3 := Lib.hid (HB.out.trans (hb3.mono HB.out.size))
          clear hb3
          go_wp2_with fail
          exact ⟨⟨2, by omega, rfl, HT.out, rfl, HB3.out⟩, by simp [intOf]⟩
        | false =>
          have T' := T.trans ht
          have HT := Lib.hid (Fld.acc_no a b 1 ht)
          clear T ht
          go_wp2_with fail
          refine (Fld.mul_any (Fld.pw a 1) 2 _).mono ?_
          rintro e w3 ⟨rfl, hb3⟩
          rw [Fld.mul_two]
          have HB3 := Lib.hid (HB.out.trans (hb3.mono HB.out.size))
          clear hb3
          go_wp2_with fail
          exact ⟨⟨2, by omega, rfl, HT.out, rfl, HB3.out⟩, by simp [intOf]⟩
      · have hpw : (Fld.pw a 2).toNat < 256 := (Fld.pw a 2).toNat_lt
        have T : (bits BinOp.and IntKind.u8 ((b.toNat : Int) / 4) 1 == 1) = b.toNat.testBit 2 := Fld.bit_test b 2 (by omega)
        cases ht : b.toNat.testBit 2 with
        | true =>
          have T' := T.trans ht
          have HT := Lib.hid (Fld.acc_yes a b 2 ht)
          clear T ht
          go_wp2_with fail
          refine (Fld.mul_any (Fld.pw a 2) 2 _).mono ?_
          rintro e w3 ⟨rfl, hb3⟩
          rw [Fld.mul_two]
          have HB3 := Lib.hid (HB.out.trans (hb3.mono HB.out.size))
          clear hb3
          go_wp2_with fail
          exact ⟨⟨3, by omega, rfl, HT.out, rfl, HB3.out⟩, by simp [intOf]⟩
        | false =>
          have T' := T.trans ht
          have HT := Lib.hid (Fld.acc_no a b 2 ht)
          clear T ht
          go_wp2_with fail
          refine (Fld.mul_any (Fld.pw a 2) 2 _).mono ?_
          rintro e w3 ⟨rfl, hb3⟩
          rw [Fld.mul_two]
          have HB3 := Lib.hid (HB.out.trans (hb3.mono HB.out.size))
          clear hb3
          go_wp2_with fail
          exact ⟨⟨3, by omega, rfl, HT.out, rfl, HB3.out⟩, by simp [intOf]⟩
      · have hpw : (Fld.pw a 3).toNat < 256 := (Fld.pw a 3).toNat_lt
        have T : (bits BinOp.and IntKind.u8 ((b.toNat : Int) / 8) 1 == 1) = b.toNat.testBit 3 := Fld.bit_test b 3 (by omega)
        cases ht : b.toNat.testBit 3 with
        | true =>
          have T' := T.trans ht
          have HT := Lib.hid (Fld.acc_yes a b 3 ht)
          clear T ht
          go_wp2_with fail
          refine (Fld.mul_any (Fld.pw a 3) 2 _).mono ?_
          rintro e w3 ⟨rfl, hb3⟩
          rw [Fld.mul_two]
          have HB3 := Lib.hid (HB.out.trans (hb3.mono HB.out.size))
          clear hb3
          go_wp2_with fail
          exact ⟨⟨4, by omega, rfl, HT.out, rfl, HB3.out⟩, by simp [intOf]⟩
        | false =>
          have T' := T.trans ht
          have HT := Lib.hid (Fld.acc_no a b 3 ht)
          clear T ht
          go_wp2_with fail
          refine (Fld.mul_any (Fld.pw a 3) 2 _).mono ?_
          rintro e w3 ⟨rfl, hb3⟩
          rw [Fld.mul_two]
          have HB3 := Lib.hid (HB.out.trans (hb3.mono HB.out.size))
          clear hb3
          go_wp2_with fail
          exact ⟨⟨4, by omega, rfl, HT.out, rfl, HB3.out⟩, by simp [intOf]⟩
      · have hpw : (Fld.pw a 4).toNat < 256 := (Fld.pw a 4).toNat_lt
        have T : (bits BinOp.and IntKind.u8 ((b.toNat : Int) / 16) 1 == 1) = b.toNat.testBit 4 := Fld.bit_test b 4 (by omega)
        cases ht : b.toNat.testBit 4 with
        | true =>
          have T' := T.trans ht
          have HT := Lib.hid (Fld.acc_yes a b 4 ht)
          clear T ht
          go_wp2_with fail
          refine (Fld.mul_any (Fld.pw a 4) 2 _).mono ?_
          rintro e w3 ⟨rfl, hb3⟩
          rw [Fld.mul_two]
          have HB3 := Lib.hid (HB.out.trans (hb3.mono HB.out.size))
          clear hb3
          go_wp2_with fail
          exact ⟨⟨5, by omega, rfl, HT.out, rfl, HB3.out⟩, by simp [intOf]⟩
        | false =>
          have T' := T.trans ht
          have HT := Lib.hid (Fld.acc_no a b 4 ht)
          clear T ht
          go_wp2_with fail
          refine (Fld.mul_any (Fld.pw a 4) 2 _).mono ?_
          rintro e w3 ⟨rfl, hb3⟩
          rw [Fld.mul_two]
          have HB3 := Lib.hid (HB.out.trans (hb3.mono HB.out.size))
          clear hb3
          go_wp2_with fail
          exact ⟨⟨5, by omega, rfl, HT.out, rfl, HB3.out⟩, by simp [intOf]⟩
      · have hpw : (Fld.pw a 5).toNat < 256 := (Fld.pw a 5).toNat_lt
        have T : (bits BinOp.and IntKind.u8 ((b.toNat : Int) / 32) 1 == 1) = b.toNat.testBit 5 := Fld.bit_test b 5 (by omega)
        cases ht : b.toNat.testBit 5 with
        | true =>
          have T' := T.trans ht
          have HT := Lib.hid (Fld.acc_yes a b 5 ht)
          clear T ht
          go_wp2_with fail
          refine (Fld.mul_any (Fld.pw a 5) 2 _).mono ?_
          rintro e w3 ⟨rfl, hb3⟩
          rw [Fld.mul_two]
          have HB3 := Lib.hid (HB.out.trans (hb3.mono HB.out.size))
          clear hb3
          go_wp2_with fail
          exact ⟨⟨6, by omega, rfl, HT.out, rfl, HB3.out⟩, by simp [intOf]⟩
        | false =>
          have T' := T.trans ht
          have HT := Lib.hid (Fld.acc_no a b 5 ht)
          clear T ht
          go_wp2_with fail
          refine (Fld.mul_any (Fld.pw a 5) 2 _).mono ?_
          rintro e w3 ⟨rfl, hb3⟩
          rw [Fld.mul_two]
          have HB3 := Lib.hid (HB.out.trans (hb3.mono HB.out.size))
          clear hb3
          go_wp2_with fail
          exact ⟨⟨6, by omega, rfl, HT.out, rfl, HB3.out⟩, by simp [intOf]⟩
      · have hpw : (Fld.pw a 6).toNat < 256 := (Fld.pw a 6).toNat_lt
        have T : (bits BinOp.and IntKind.u8 ((b.toNat : Int) / 64) 1 == 1) = b.toNat.testBit 6 := Fld.bit_test b 6 (by omega)
        cases ht : b.toNat.testBit 6 with
        | true =>
          have T' := T.trans ht
          have HT := Lib.hid (Fld.acc_yes a b 6 ht)
          clear T ht
          go_wp2_with fail
          refine (Fld.mul_any (Fld.pw a 6) 2 _).mono ?_
          rintro e w3 ⟨rfl, hb3⟩
          rw [Fld.mul_two]
          have HB3 := Lib.hid (HB.out.trans (hb3.mono HB.out.size))
          clear hb3
          go_wp2_with fail
          exact ⟨⟨7, by omega, rfl, HT.out, rfl, HB3.out⟩, by simp [intOf]⟩
        | false =>
          have T' := T.trans ht
          have HT := Lib.hid (Fld.acc_no a b 6 ht)
          clear T ht
          go_wp2_with fail
          refine (Fld.mul_any (Fld.pw a 6) 2 _).mono ?_
          rintro e w3 ⟨rfl, hb3⟩
          rw [Fld.mul_two]
          have HB3 := Lib.hid (HB.out.trans (hb3.mono HB.out.size))
          clear hb3
          go_wp2_with fail
          exact ⟨⟨7, by omega, rfl, HT.out, rfl, HB3.out⟩, by simp [intOf]⟩
      · have hpw : (Fld.pw a 7).toNat < 256 := (Fld.pw a 7).toNat_lt
        have T : (bits BinOp.and IntKind.u8 ((b.toNat : Int) / 128) 1 == 1) = b.toNat.testBit 7 := Fld.bit_test b 7 (by omega)
        cases ht : b.toNat.testBit 7 with
        | true =>
          have T' := T.trans ht
          have HT := Lib.hid (Fld.acc_yes a b 7 ht)
          clear T ht
          go_wp2_with fail
          refine (Fld.mul_any (Fld.pw a 7) 2 _).mono ?_
          rintro e w3 ⟨rfl, hb3⟩
          rw [Fld.mul_two]
          have HB3 := Lib.hid (HB.out.trans (hb3.mono HB.out.size))
          clear hb3
          go_wp2_with fail
          exact ⟨⟨8, by omega, rfl, HT.out, rfl, HB3.out⟩, by simp [intOf]⟩
        | false =>
          have T' := T.trans ht
          have HT := Lib.hid (Fld.acc_no a b 7 ht)
          clear T ht
          go_wp2_with fail
          refine (Fld.mul_any (Fld.pw a 7) 2 _).mono ?_
          rintro e w3 ⟨rfl, hb3⟩
          rw [Fld.mul_two]
          have HB3 := Lib.hid (HB.out.trans (hb3.mono HB.out.size))
          clear hb3
          go_wp2_with fail
          exact ⟨⟨8, by omega, rfl, HT.out, rfl, HB3.out⟩, by simp [intOf]⟩
    · obtain rfl : k = 8 := by omega
      have HM := Lib.hid (show Fld.mul a b = Fld.acc a b 8 from rfl)
      go_wp2_with fail
      refine (Fld.mul_any a 2 _).mono ?_
      rintro e w3 ⟨rfl, hb3⟩
      rw [Fld.mul_two]
      have HB3 := Lib.hid (HB.out.trans (hb3.mono HB.out.size))
      clear hb3
      have hq := HV.out
      go_wp2_with fail
      refine (Fld.mul_any a b _).mono ?_
      rintro e w4 ⟨rfl, hb4⟩
      rw [HM.out]
      have HB4 := Lib.hid (HB3.out.trans (hb4.mono HB3.out.size))
      clear hb4
      go_wp2_with fail
      go_ret
      exact ⟨rfl, HB4.out⟩

set_option maxRecDepth 100000 in
set_option maxHeartbeats 4000000 in
theorem Fld.law4l (a b : UInt8) (w : World) (h : ¬ 128 ≤ a.toNat) : Calls Try.prog 5 #[B8 a, B8 b] w fun e w' => e = .returned (.bool true) ∧ Below w.heap.size w w' := by
  have ha : a.toNat < 256 := a.toNat_lt
  have hbb : b.toNat < 256 := b.toNat_lt
  have d : decide ((128 : Int) ≤ (a.toNat : Int)) = false := decide_eq_false (by omega)
  have hv : (((Fld.tw a).toNat : Int) == ↑a.toNat * 2) = true := by
    rw [beq_iff_eq, Fld.tw_lo a h]
    omega
  have HV := Lib.hid hv
  clear hv
  go_enter Try.func5, Try.ntmps5
  go_wp2_with fail
  refine (Fld.sane_any _).mono ?_
  rintro e w1 ⟨rfl, hb1⟩
  have HB1 := Lib.hid hb1
  clear hb1
  go_wp2_with fail
  go_loopw [6, 7, 8] (fun s x i wr => ∃ k : Nat, k ≤ 8 ∧ i = .int .i64 k ∧ s = B8 (Fld.acc a b k) ∧ x = B8 (Fld.pw a k) ∧ Below w.heap.size w wr) (fun _ _ i _ => 8 - (intOf i).toNat)
  case atStart => exact ⟨0, by omega, rfl, rfl, rfl, HB1.out⟩
  case round =>
    obtain ⟨k, hk, rfl, rfl, rfl, hB⟩ := hrel
    have HB := Lib.hid hB
    have hacc : (Fld.acc a b k).toNat < 256 := (Fld.acc a b k).toNat_lt
    clear hB
    by_cases hlt : k < 8
    · obtain rfl | rfl | rfl | rfl | rfl | rfl | rfl | rfl : k = 0 ∨ k = 1 ∨ k = 2 ∨ k = 3 ∨ k = 4 ∨ k = 5 ∨ k = 6 ∨ k = 7 := by omega
      · have hpw : (Fld.pw a 0).toNat < 256 := (Fld.pw a 0).toNat_lt
        have T : (bits BinOp.and IntKind.u8 (b.toNat : Int) 1 == 1) = b.toNat.testBit 0 := by have := Fld.bit_test b 0 (by omega); simpa using this
        cases ht : b.toNat.testBit 0 with
        | true =>
          have T' := T.trans ht
          have HT := Lib.hid (Fld.acc_yes a b 0 ht)
          clear T ht
          go_wp2_with fail
          refine (Fld.mul_any (Fld.pw a 0) 2 _).mono ?_
          rintro e w3 ⟨rfl, hb3⟩
          rw [Fld.mul_two]
          have HB3 := Lib.hid (HB.out.trans (hb3.mono HB.out.size))
          clear hb3
          go_wp2_with fail
          exact ⟨⟨1, by omega, rfl, HT.out, rfl, HB3.out⟩, by simp [intOf]⟩
        | false =>
          have T' := T.trans ht
          have HT := Lib.hid (Fld.acc_no a b 0 ht)
          clear T ht
          go_wp2_with fail
          refine (Fld.mul_any (Fld.pw a 0) 2 _).mono ?_
          rintro e w3 ⟨rfl, hb3⟩
          rw [Fld.mul_two]
          have HB3 := Lib.hid (HB.out.trans (hb3.mono HB.out.size))
          clear hb3
          go_wp2_with fail
          exact ⟨⟨1, by omega, rfl, HT.out, rfl, HB3.out⟩, by simp [intOf]⟩
      · have hpw : (Fld.pw a 1).toNat < 256 := (Fld.pw a 1).toNat_lt
        have T : (bits BinOp.and IntKind.u8 ((b.toNat : Int) / 2) 1 == 1) = b.toNat.testBit 1 := Fld.bit_test b 1 (by omega)
        cases ht : b.toNat.testBit 1 with
        | true =>
          have T' := T.trans ht
          have HT := Lib.hid (Fld.acc_yes a b 1 ht)
          clear T ht
          go_wp2_with fail
          refine (Fld.mul_any (Fld.pw a 1) 2 _).mono ?_
          rintro e w3 ⟨rfl, hb3⟩
          rw [Fld.mul_two]
          have HB3 := Lib.hid (HB.out.trans (hb3.mono HB.out.size))
          clear hb3
          go_wp2_with fail
          exact ⟨⟨2, by omega, rfl, HT.out, rfl, HB3.out⟩, by simp [intOf]⟩
        | false =>
          have T' := T.trans ht
          have HT := Lib.hid (Fld.acc_no a b 1 ht)
          clear T ht
          go_wp2_with fail
          refine (Fld.mul_any (Fld.pw a 1) 2 _).mono ?_
          rintro e w3 ⟨rfl, hb3⟩
          rw [Fld.mul_two]
          have HB3 := Lib.hid (HB.out.trans (hb3.mono HB.out.size))
          clear hb3
          go_wp2_with fail
          exact ⟨⟨2, by omega, rfl, HT.out, rfl, HB3.out⟩, by simp [intOf]⟩
      · have hpw : (Fld.pw a 2).toNat < 256 := (Fld.pw a 2).toNat_lt
        have T : (bits BinOp.and IntKind.u8 ((b.toNat : Int) / 4) 1 == 1) = b.toNat.testBit 2 := Fld.bit_test b 2 (by omega)
        cases ht : b.toNat.testBit 2 with
        | true =>
          have T' := T.trans ht
          have HT := Lib.hid (Fld.acc_yes a b 2 ht)
          clear T ht
          go_wp2_with fail
          refine (Fld.mul_any (Fld.pw a 2) 2 _).mono ?_
          rintro e w3 ⟨rfl, hb3⟩
          rw [Fld.mul_two]
          have HB3 := Lib.hid (HB.out.trans (hb3.mono HB.out.size))
          clear hb3
          go_wp2_with fail
          exact ⟨⟨3, by omega, rfl, HT.out, rfl, HB3.out⟩, by simp [intOf]⟩
        | false =>
          have T' := T.trans ht
          have HT := Lib.hid (Fld.acc_no a b 2 ht)
          clear T ht
          go_wp2_with fail
          refine (Fld.mul_any (Fld.pw a 2) 2 _).mono ?_
          rintro e w3 ⟨rfl, hb3⟩
          rw [Fld.mul_two]
          have HB3 := Lib.hid (HB.out.trans (hb3.mono HB.out.size))
          clear hb3
          go_wp2_with fail
          exact ⟨⟨3, by omega, rfl, HT.out, rfl, HB3.out⟩, by simp [intOf]⟩
      · have hpw : (Fld.pw a 3).toNat < 256 := (Fld.pw a 3).toNat_lt
        have T : (bits BinOp.and IntKind.u8 ((b.toNat : Int) / 8) 1 == 1) = b.toNat.testBit 3 := Fld.bit_test b 3 (by omega)
        cases ht : b.toNat.testBit 3 with
        | true =>
          have T' := T.trans ht
          have HT := Lib.hid (Fld.acc_yes a b 3 ht)
          clear T ht
          go_wp2_with fail
          refine (Fld.mul_any (Fld.pw a 3) 2 _).mono ?_
          rintro e w3 ⟨rfl, hb3⟩
          rw [Fld.mul_two]
          have HB3 := Lib.hid (HB.out.trans (hb3.mono HB.out.size))
          clear hb3
          go_wp2_with fail
          exact ⟨⟨4, by omega, rfl, HT.out, rfl, HB3.out⟩, by simp [intOf]⟩
        | false =>
          have T' := T.trans ht
          have HT := Lib.hid (Fld.acc_no a b 3 ht)
          clear T ht
          go_wp2_with fail
          refine (Fld.mul_any (Fld.pw a 3) 2 _).mono ?_
          rintro e w3 ⟨rfl, hb3⟩
          rw [Fld.mul_two]
          have HB3 := Lib.hid (HB.out.trans (hb3.mono HB.out.size))
          clear hb3
          go_wp2_with fail
          exact ⟨⟨4, by omega, rfl, HT.out, rfl, HB3.out⟩, by simp [intOf]⟩
      · have hpw : (Fld.pw a 4).toNat < 256 := (Fld.pw a 4).toNat_lt
        have T : (bits BinOp.and IntKind.u8 ((b.toNat : Int) / 16) 1 == 1) = b.toNat.testBit 4 := Fld.bit_test b 4 (by omega)
        cases ht : b.toNat.testBit 4 with
        | true =>
          have T' := T.trans ht
          have HT := Lib.hid (Fld.acc_yes a b 4 ht)
          clear T ht
          go_wp2_with fail
          refine (Fld.mul_any (Fld.pw a 4) 2 _).mono ?_
          rintro e w3 ⟨rfl, hb3⟩
          rw [Fld.mul_two]
          have HB3 := Lib.hid (HB.out.trans (hb3.mono HB.out.size))
          clear hb3
          go_wp2_with fail
          exact ⟨⟨5, by omega, rfl, HT.out, rfl, HB3.out⟩, by simp [intOf]⟩
        | false =>
          have T' := T.trans ht
          have HT := Lib.hid (Fld.acc_no a b 4 ht)
          clear T ht
          go_wp2_with fail
          refine (Fld.mul_any (Fld.pw a 4) 2 _).mono ?_
          rintro e w3 ⟨rfl, hb3⟩
          rw [Fld.mul_two]
          have HB3 := Lib.hid (HB.out.trans (hb3.mono HB.out.size))
          clear hb3
          go_wp2_with fail
          exact ⟨⟨5, by omega, rfl, HT.out, rfl, HB3.out⟩, by simp [intOf]⟩
      · have hpw : (Fld.pw a 5).toNat < 256 := (Fld.pw a 5).toNat_lt
        have T : (bits BinOp.and IntKind.u8 ((b.toNat : Int) / 32) 1 == 1) = b.toNat.testBit 5 := Fld.bit_test b 5 (by omega)
        cases ht : b.toNat.testBit 5 with
        | true =>
          have T' := T.trans ht
          have HT := Lib.hid (Fld.acc_yes a b 5 ht)
          clear T ht
          go_wp2_with fail
          refine (Fld.mul_any (Fld.pw a 5) 2 _).mono ?_
          rintro e w3 ⟨rfl, hb3⟩
          rw [Fld.mul_two]
          have HB3 := Lib.hid (HB.out.trans (hb3.mono HB.out.size))
          clear hb3
          go_wp2_with fail
          exact ⟨⟨6, by omega, rfl, HT.out, rfl, HB3.out⟩, by simp [intOf]⟩
        | false =>
          have T' := T.trans ht
          have HT := Lib.hid (Fld.acc_no a b 5 ht)
          clear T ht
          go_wp2_with fail
          refine (Fld.mul_any (Fld.pw a 5) 2 _).mono ?_
          rintro e w3 ⟨rfl, hb3⟩
          rw [Fld.mul_two]
          have HB3 := Lib.hid (HB.out.trans (hb3.mono HB.out.size))
          clear hb3
          go_wp2_with fail
          exact ⟨⟨6, by omega, rfl, HT.out, rfl, HB3.out⟩, by simp [intOf]⟩
      · have hpw : (Fld.pw a 6).toNat < 256 := (Fld.pw a 6).toNat_lt
        have T : (bits BinOp.and IntKind.u8 ((b.toNat : Int) / 64) 1 == 1) = b.toNat.testBit 6 := Fld.bit_test b 6 (by omega)
        cases ht : b.toNat.testBit 6 with
        | true =>
          have T' := T.trans ht
          have HT := Lib.hid (Fld.acc_yes a b 6 ht)
          clear T ht
          go_wp2_with fail
          refine (Fld.mul_any (Fld.pw a 6) 2 _).mono ?_
          rintro e w3 ⟨rfl, hb3⟩
          rw [Fld.mul_two]
          have HB3 := Lib.hid (HB.out.trans (hb3.mono HB.out.size))
          clear hb3
          go_wp2_with fail
          exact ⟨⟨7, by omega, rfl, HT.out, rfl, HB3.out⟩, by simp [intOf]⟩
        | false =>
          have T' := T.trans ht
          have HT := Lib.hid (Fld.acc_no a b 6 ht)
          clear T ht
          go_wp2_with fail
          refine (Fld.mul_any (Fld.pw a 6) 2 _).mono ?_
          rintro e w3 ⟨rfl, hb3⟩
          rw [Fld.mul_two]
          have HB3 := Lib.hid (HB.out.trans (hb3.mono HB.out.size))
          clear hb3
          go_wp2_with fail
          exact ⟨⟨7, by omega, rfl, HT.out, rfl, HB3.out⟩, by simp [intOf]⟩
      · have hpw : (Fld.pw a 7).toNat < 256 := (Fld.pw a 7).toNat_lt
        have T : (bits BinOp.and IntKind.u8 ((b.toNat : Int) / 128) 1 == 1) = b.toNat.testBit 7 := Fld.bit_test b 7 (by omega)
        cases ht : b.toNat.testBit 7 with
        | true =>
          have T' := T.trans ht
          have HT := Lib.hid (Fld.acc_yes a b 7 ht)
          clear T ht
          go_wp2_with fail
          refine (Fld.mul_any (Fld.pw a 7) 2 _).mono ?_
          rintro e w3 ⟨rfl, hb3⟩
          rw [Fld.mul_two]
          have HB3 := Lib.hid (HB.out.trans (hb3.mono HB.out.size))
          clear hb3
          go_wp2_with fail
          exact ⟨⟨8, by omega, rfl, HT.out, rfl, HB3.out⟩, by simp [intOf]⟩
        | false =>
          have T' := T.trans ht
          have HT := Lib.hid (Fld.acc_no a b 7 ht)
          clear T ht
          go_wp2_with fail
          refine (Fld.mul_any (Fld.pw a 7) 2 _).mono ?_
          rintro e w3 ⟨rfl, hb3⟩
          rw [Fld.mul_two]
          have HB3 := Lib.hid (HB.out.trans (hb3.mono HB.out.size))
          clear hb3
          go_wp2_with fail
          exact ⟨⟨8, by omega, rfl, HT.out, rfl, HB3.out⟩, by simp [intOf]⟩
    · obtain rfl : k = 8 := by omega
      have HM := Lib.hid (show Fld.mul a b = Fld.acc a b 8 from rfl)
      go_wp2_with fail
      refine (Fld.mul_any a 2 _).mono ?_
      rintro e w3 ⟨rfl, hb3⟩
      rw [Fld.mul_two]
      have HB3 := Lib.hid (HB.out.trans (hb3.mono HB.out.size))
      clear hb3
      have hq := HV.out
      go_wp2_with fail
      refine (Fld.mul_any a b _).mono ?_
      rintro e w4 ⟨rfl, hb4⟩
      rw [HM.out]
      have HB4 := Lib.hid (HB3.out.trans (hb4.mono HB3.out.size))
      clear hb4
      go_wp2_with fail
      go_ret
      exact ⟨rfl, HB4.out⟩

theorem Fld.law4 (a b : UInt8) (w : World) : Calls Try.prog 5 #[B8 a, B8 b] w fun e w' => e = .returned (.bool true) ∧ Below w.heap.size w w' := by
  by_cases h : 128 ≤ a.toNat
  · exact Fld.law4h a b w h
  · exact Fld.law4l a b w h
end Go.Proofs.Ytilfpnkkappkdaa
