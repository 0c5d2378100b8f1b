/- Contracts of the reference's Mul and Inv: for all bytes, the same answers as the program's. -/
import Derived.Laws.BitsLemmas
import Derived.Test.YtpijkjpefdlefaaFldW2
namespace Go.Proofs.Ytpijkjpefdlefaa
open Go.RowKit
set_option linter.unusedVariables false

theorem i64_xor_nat' (a b : Nat) (ha : a < 65536) (hb : b < 65536) : bits .xor .i64 (a : Int) (b : Int) = ((a ^^^ b : Nat) : Int) := by
  have hx : a ^^^ b < 2 ^ 16 := Nat.xor_lt_two_pow (by omega) (by omega)
  have h1 : ∀ x : Nat, x < 65536 → (BitVec.ofInt 64 (x : Int)).toNat = x := fun x hx => by
    rw [BitVec.ofInt_natCast, BitVec.toNat_ofNat]; exact Nat.mod_eq_of_lt (by omega)
  show IntKind.i64.wrap ((BitVec.ofInt 64 (a : Int) ^^^ BitVec.ofInt 64 (b : Int)).toNat : Int) = _
  rw [BitVec.toNat_xor, h1 a ha, h1 b hb, IntKind.wrap_i64]
  omega

/-- the reference's p after n rounds of its first loop -/
def Fld.rp (a b : Nat) : Nat → Nat
  | 0 => 0
  | n + 1 => Fld.rp a b n ^^^ (if b.testBit n = true then a <<< n else 0)
/-- one round of its second loop, at i -/
def Fld.red (i p : Nat) : Nat := p ^^^ (if p.testBit i = true then 283 <<< (i - 8) else 0)
/-- the second loop: from 14 on, n rounds -/
def Fld.rq (p : Nat) : Nat → Nat
  | 0 => p
  | n + 1 => Fld.red (14 - n) (Fld.rq p n)

theorem Fld.red_xor (i x y : Nat) : Fld.red i (x ^^^ y) = Fld.red i x ^^^ Fld.red i y := by
  unfold Fld.red
  rw [Nat.testBit_xor]
  have mid : ∀ a b c d : Nat, (a ^^^ b) ^^^ (c ^^^ d) = (a ^^^ c) ^^^ (b ^^^ d) := fun a b c d => by
    rw [Nat.xor_assoc, Nat.xor_assoc]; congr 1; rw [← Nat.xor_assoc, ← Nat.xor_assoc, Nat.xor_comm b c]
  rw [mid x _ y _]
  congr 1
  cases x.testBit i <;> cases y.testBit i <;> simp
theorem Fld.rq_xor (x y n : Nat) : Fld.rq (x ^^^ y) n = Fld.rq x n ^^^ Fld.rq y n := by
  induction n with
  | zero => rfl
  | succ n ih => rw [Fld.rq, ih, Fld.red_xor]; rfl
theorem Fld.rq_zero (n : Nat) : Fld.rq 0 n = 0 := by
  induction n with
  | zero => rfl
  | succ n ih => rw [Fld.rq, ih]; unfold Fld.red; simp
theorem Fld.rq_shift (a : UInt8) (i : Nat) (hi : i < 8) : Fld.rq (a.toNat <<< i) 7 = (Fld.pw a i).toNat := by
  have H : ∀ n : Nat, n < 256 → ∀ k : Nat, k < 8 → Fld.rq (n <<< k) 7 = (Fld.pw (UInt8.ofNat n) k).toNat := by decide +kernel
  have := H a.toNat a.toNat_lt i hi
  rwa [UInt8.ofNat_toNat] at this
theorem Fld.rmul_eq (a b : UInt8) (n : Nat) (hn : n ≤ 8) : Fld.rq (Fld.rp a.toNat b.toNat n) 7 = (Fld.acc a b n).toNat := by
  induction n with
  | zero => exact Fld.rq_zero 7
  | succ n ih =>
    rw [Fld.rp, Fld.rq_xor, ih (by omega), Fld.acc, UInt8.toNat_xor]
    congr 1
    split
    · exact Fld.rq_shift a n (by omega)
    · exact Fld.rq_zero 7
theorem Fld.rp_lt (a b n : Nat) (ha : a < 256) (hn : n ≤ 8) : Fld.rp a b n < 32768 := by
  induction n with
  | zero => show 0 < 32768; omega
  | succ n ih =>
    have h1 := ih (by omega)
    have h2 : (if b.testBit n = true then a <<< n else 0) < 2 ^ 15 := by
      split
      · rw [Nat.shiftLeft_eq]
        have : 2 ^ n ≤ 2 ^ 7 := Nat.pow_le_pow_right (by omega) (by omega)
        have h3 : a * 2 ^ n ≤ 255 * 2 ^ 7 := Nat.mul_le_mul (by omega) this
        omega
      · omega
    have h3 := Nat.xor_lt_two_pow (n := 15) (x := Fld.rp a b n) (by omega) h2
    rw [Fld.rp]
    omega
theorem Fld.rq_lt (p n : Nat) (hp : p < 32768) (hn : n ≤ 7) : Fld.rq p n < 32768 := by
  induction n with
  | zero => exact hp
  | succ n ih =>
    have h1 := ih (by omega)
    rw [Fld.rq, Fld.red]
    have h2 : (if (Fld.rq p n).testBit (14 - n) = true then 283 <<< (14 - n - 8) else 0) < 2 ^ 15 := by
      split
      · rw [Nat.shiftLeft_eq]
        have : 2 ^ (14 - n - 8) ≤ 2 ^ 6 := Nat.pow_le_pow_right (by omega) (by omega)
        have h3 : 283 * 2 ^ (14 - n - 8) ≤ 283 * 2 ^ 6 := Nat.mul_le_mul (by omega) this
        omega
      · omega
    have h3 := Nat.xor_lt_two_pow (n := 15) (x := Fld.rq p n) (by omega) h2
    omega
theorem Fld.rbit (x k : Nat) : (((x : Int) / ((2 ^ k : Nat) : Int) % 2 == 1)) = x.testBit k := by
  rw [Nat.testBit_eq_decide_div_mod_eq, show ((x : Int) / ((2 ^ k : Nat) : Int) % 2) = ((x / 2 ^ k % 2 : Nat) : Int) by omega]
  have h : ∀ y : Nat, (((y : Nat) : Int) == 1) = decide (y = 1) := fun y => by
    rw [Bool.eq_iff_iff, beq_iff_eq, decide_eq_true_eq]
    omega
  exact h _
theorem Fld.rp_yes (a b k : Nat) (ha : a < 256) (hk : k < 8) (h : b.testBit k = true) (m : Int) (hm : m = ((a <<< k : Nat) : Int)) : Value.int .i64 (bits .xor .i64 ((Fld.rp a b k : Nat) : Int) m) = .int .i64 ((Fld.rp a b (k + 1) : Nat) : Int) := by
  have h1 := Fld.rp_lt a b k ha (by omega)
  have h2 : a <<< k < 65536 := by
    rw [Nat.shiftLeft_eq]
    have : 2 ^ k ≤ 2 ^ 7 := Nat.pow_le_pow_right (by omega) (by omega)
    have h3 : a * 2 ^ k ≤ 255 * 2 ^ 7 := Nat.mul_le_mul (by omega) this
    omega
  rw [hm, i64_xor_nat' _ _ (by omega) h2, Fld.rp, if_pos h]
theorem Fld.rp_no (a b k : Nat) (h : b.testBit k = false) : Value.int .i64 ((Fld.rp a b k : Nat) : Int) = .int .i64 ((Fld.rp a b (k + 1) : Nat) : Int) := by
  rw [Fld.rp, if_neg (by rw [h]; decide), Nat.xor_zero]
theorem Fld.rq_yes (p k : Nat) (hp : p < 32768) (hk : k < 7) (h : (Fld.rq p k).testBit (14 - k) = true) (m : Nat) (hm : m = 283 <<< (14 - k - 8)) (hm2 : m < 65536) : Value.int .i64 (bits .xor .i64 ((Fld.rq p k : Nat) : Int) (m : Int)) = .int .i64 ((Fld.rq p (k + 1) : Nat) : Int) := by
  have h1 := Fld.rq_lt p k hp (by omega)
  rw [i64_xor_nat' _ _ (by omega) hm2, Fld.rq, Fld.red, if_pos h, hm]
theorem Fld.rq_no (p k : Nat) (h : (Fld.rq p k).testBit (14 - k) = false) : Value.int .i64 ((Fld.rq p k : Nat) : Int) = .int .i64 ((Fld.rq p (k + 1) : Nat) : Int) := by
  rw [Fld.rq, Fld.red, if_neg (by rw [h]; decide), Nat.xor_zero]

set_option maxRecDepth 100000 in
set_option maxHeartbeats 2000000 in
theorem Fld.rmul_any (a b : UInt8) (w : World) : Calls Try.prog 44 #[B8 a, B8 b] w fun e w' => e = .returned (B8 (Fld.mul a b)) ∧ w = w' := by
  have ha : a.toNat < 256 := a.toNat_lt
  have hb : b.toNat < 256 := b.toNat_lt
  go_enter Try.func44, Try.ntmps44
  go_wp2_with fail
  go_loop [5, 6] (fun c i => ∃ k : Nat, k ≤ 8 ∧ i = .int .i64 k ∧ c = .int .i64 ((Fld.rp a.toNat b.toNat k : Nat) : Int)) (fun _ i => 8 - (intOf i).toNat)
  case atStart => exact ⟨0, by omega, rfl, rfl⟩
  case round =>
    obtain ⟨k, hk, rfl, rfl⟩ := hrel
    have hrp := Fld.rp_lt a.toNat b.toNat k ha hk
    by_cases hlt : k < 8
    · obtain rfl | rfl | rfl | rfl | rfl | rfl | rfl | rfl : k = 0 ∨ k = 1 ∨ k = 2 ∨ k = 3 ∨ k = 4 ∨ k = 5 ∨ k = 6 ∨ k = 7 := by omega
      · have T : ((b.toNat : Int) % 2 == 1) = b.toNat.testBit 0 := by have := Fld.rbit b.toNat 0; simpa using this
        cases ht : b.toNat.testBit 0 with
        | true =>
          have T' := T.trans ht
          have HT2 := Lib.hid ht
          clear T ht
          go_wp2
          exact ⟨⟨1, by omega, rfl, Fld.rp_yes a.toNat b.toNat 0 ha (by omega) HT2.out (a.toNat : Int) (by rw [Nat.shiftLeft_eq]; omega)⟩, by simp [intOf]⟩
        | false =>
          have T' := T.trans ht
          have HT2 := Lib.hid ht
          clear T ht
          go_wp2
          exact ⟨⟨1, by omega, rfl, Fld.rp_no a.toNat b.toNat 0 HT2.out⟩, by simp [intOf]⟩
      · have T : ((b.toNat : Int) / 2 % 2 == 1) = b.toNat.testBit 1 := Fld.rbit b.toNat 1
        cases ht : b.toNat.testBit 1 with
        | true =>
          have T' := T.trans ht
          have HT2 := Lib.hid ht
          clear T ht
          go_wp2
          exact ⟨⟨2, by omega, rfl, Fld.rp_yes a.toNat b.toNat 1 ha (by omega) HT2.out ((a.toNat : Int) * 2) (by rw [Nat.shiftLeft_eq]; omega)⟩, by simp [intOf]⟩
        | false =>
          have T' := T.trans ht
          have HT2 := Lib.hid ht
          clear T ht
          go_wp2
          exact ⟨⟨2, by omega, rfl, Fld.rp_no a.toNat b.toNat 1 HT2.out⟩, by simp [intOf]⟩
      · have T : ((b.toNat : Int) / 4 % 2 == 1) = b.toNat.testBit 2 := Fld.rbit b.toNat 2
        cases ht : b.toNat.testBit 2 with
        | true =>
          have T' := T.trans ht
          have HT2 := Lib.hid ht
          clear T ht
          go_wp2
          exact ⟨⟨3, by omega, rfl, Fld.rp_yes a.toNat b.toNat 2 ha (by omega) HT2.out ((a.toNat : Int) * 4) (by rw [Nat.shiftLeft_eq]; omega)⟩, by simp [intOf]⟩
        | false =>
          have T' := T.trans ht
          have HT2 := Lib.hid ht
          clear T ht
          go_wp2
          exact ⟨⟨3, by omega, rfl, Fld.rp_no a.toNat b.toNat 2 HT2.out⟩, by simp [intOf]⟩
      · have T : ((b.toNat : Int) / 8 % 2 == 1) = b.toNat.testBit 3 := Fld.rbit b.toNat 3
        cases ht : b.toNat.testBit 3 with
        | true =>
          have T' := T.trans ht
          have HT2 := Lib.hid ht
          clear T ht
          go_wp2
          exact ⟨⟨4, by omega, rfl, Fld.rp_yes a.toNat b.toNat 3 ha (by omega) HT2.out ((a.toNat : Int) * 8) (by rw [Nat.shiftLeft_eq]; omega)⟩, by simp [intOf]⟩
        | false =>
          have T' := T.trans ht
          have HT2 := Lib.hid ht
          clear T ht
          go_wp2
          exact ⟨⟨4, by omega, rfl, Fld.rp_no a.toNat b.toNat 3 HT2.out⟩, by simp [intOf]⟩
      · have T : ((b.toNat : Int) / 16 % 2 == 1) = b.toNat.testBit 4 := Fld.rbit b.toNat 4
        cases ht : b.toNat.testBit 4 with
        | true =>
          have T' := T.trans ht
          have HT2 := Lib.hid ht
          clear T ht
          go_wp2
          exact ⟨⟨5, by omega, rfl, Fld.rp_yes a.toNat b.toNat 4 ha (by omega) HT2.out ((a.toNat : Int) * 16) (by rw [Nat.shiftLeft_eq]; omega)⟩, by simp [intOf]⟩
        | false =>
          have T' := T.trans ht
          have HT2 := Lib.hid ht
          clear T ht
          go_wp2
          exact ⟨⟨5, by omega, rfl, Fld.rp_no a.toNat b.toNat 4 HT2.out⟩, by simp [intOf]⟩
      · have T : ((b.toNat : Int) / 32 % 2 == 1) = b.toNat.testBit 5 := Fld.rbit b.toNat 5
        cases ht : b.toNat.testBit 5 with
        | true =>
          have T' := T.trans ht
          have HT2 := Lib.hid ht
          clear T ht
          go_wp2
          exact ⟨⟨6, by omega, rfl, Fld.rp_yes a.toNat b.toNat 5 ha (by omega) HT2.out ((a.toNat : Int) * 32) (by rw [Nat.shiftLeft_eq]; omega)⟩, by simp [intOf]⟩
        | false =>
          have T' := T.trans ht
          have HT2 := Lib.hid ht
          clear T ht
          go_wp2
          exact ⟨⟨6, by omega, rfl, Fld.rp_no a.toNat b.toNat 5 HT2.out⟩, by simp [intOf]⟩
      · have T : ((b.toNat : Int) / 64 % 2 == 1) = b.toNat.testBit 6 := Fld.rbit b.toNat 6
        cases ht : b.toNat.testBit 6 with
        | true =>
          have T' := T.trans ht
          have HT2 := Lib.hid ht
          clear T ht
          go_wp2
          exact ⟨⟨7, by omega, rfl, Fld.rp_yes a.toNat b.toNat 6 ha (by omega) HT2.out ((a.toNat : Int) * 64) (by rw [Nat.shiftLeft_eq]; omega)⟩, by simp [intOf]⟩
        | false =>
          have T' := T.trans ht
          have HT2 := Lib.hid ht
          clear T ht
          go_wp2
          exact ⟨⟨7, by omega, rfl, Fld.rp_no a.toNat b.toNat 6 HT2.out⟩, by simp [intOf]⟩
      · have T : ((b.toNat : Int) / 128 % 2 == 1) = b.toNat.testBit 7 := Fld.rbit b.toNat 7
        cases ht : b.toNat.testBit 7 with
        | true =>
          have T' := T.trans ht
          have HT2 := Lib.hid ht
          clear T ht
          go_wp2
          exact ⟨⟨8, by omega, rfl, Fld.rp_yes a.toNat b.toNat 7 ha (by omega) HT2.out ((a.toNat : Int) * 128) (by rw [Nat.shiftLeft_eq]; omega)⟩, by simp [intOf]⟩
        | false =>
          have T' := T.trans ht
          have HT2 := Lib.hid ht
          clear T ht
          go_wp2
          exact ⟨⟨8, by omega, rfl, Fld.rp_no a.toNat b.toNat 7 HT2.out⟩, by simp [intOf]⟩
    · obtain rfl : k = 8 := by omega
      have HE := Lib.hid (Fld.rmul_eq a b 8 (Nat.le_refl _))
      generalize Fld.rp a.toNat b.toNat 8 = p at *
      go_wp2
      go_loop [5, 7] (fun c i => ∃ m : Nat, m ≤ 7 ∧ i = .int .i64 ((14 - m : Nat) : Int) ∧ c = .int .i64 ((Fld.rq p m : Nat) : Int)) (fun _ i => (intOf i).toNat)
      case atStart => exact ⟨0, by omega, rfl, rfl⟩
      case round =>
        obtain ⟨m, hm, rfl, rfl⟩ := hrel
        have hrq := Fld.rq_lt p m hrp hm
        by_cases hlt2 : m < 7
        · obtain rfl | rfl | rfl | rfl | rfl | rfl | rfl : m = 0 ∨ m = 1 ∨ m = 2 ∨ m = 3 ∨ m = 4 ∨ m = 5 ∨ m = 6 := by omega
          · have T : (((Fld.rq p 0 : Nat) : Int) / 16384 % 2 == 1) = (Fld.rq p 0).testBit 14 := Fld.rbit (Fld.rq p 0) 14
            cases ht : (Fld.rq p 0).testBit 14 with
            | true =>
              have T' := T.trans ht
              have HT2 := Lib.hid ht
              clear T ht
              go_wp2
              exact ⟨⟨1, by omega, rfl, Fld.rq_yes p 0 hrp (by omega) HT2.out 18112 rfl (by omega)⟩, by simp [intOf]⟩
            | false =>
              have T' := T.trans ht
              have HT2 := Lib.hid ht
              clear T ht
              go_wp2
              exact ⟨⟨1, by omega, rfl, Fld.rq_no p 0 HT2.out⟩, by simp [intOf]⟩
          · have T : (((Fld.rq p 1 : Nat) : Int) / 8192 % 2 == 1) = (Fld.rq p 1).testBit 13 := Fld.rbit (Fld.rq p 1) 13
            cases ht : (Fld.rq p 1).testBit 13 with
            | true =>
              have T' := T.trans ht
              have HT2 := Lib.hid ht
              clear T ht
              go_wp2
              exact ⟨⟨2, by omega, rfl, Fld.rq_yes p 1 hrp (by omega) HT2.out 9056 rfl (by omega)⟩, by simp [intOf]⟩
            | false =>
              have T' := T.trans ht
              have HT2 := Lib.hid ht
              clear T ht
              go_wp2
              exact ⟨⟨2, by omega, rfl, Fld.rq_no p 1 HT2.out⟩, by simp [intOf]⟩
          · have T : (((Fld.rq p 2 : Nat) : Int) / 4096 % 2 == 1) = (Fld.rq p 2).testBit 12 := Fld.rbit (Fld.rq p 2) 12
            cases ht : (Fld.rq p 2).testBit 12 with
            | true =>
              have T' := T.trans ht
              have HT2 := Lib.hid ht
              clear T ht
              go_wp2
              exact ⟨⟨3, by omega, rfl, Fld.rq_yes p 2 hrp (by omega) HT2.out 4528 rfl (by omega)⟩, by simp [intOf]⟩
            | false =>
              have T' := T.trans ht
              have HT2 := Lib.hid ht
              clear T ht
              go_wp2
              exact ⟨⟨3, by omega, rfl, Fld.rq_no p 2 HT2.out⟩, by simp [intOf]⟩
          · have T : (((Fld.rq p 3 : Nat) : Int) / 2048 % 2 == 1) = (Fld.rq p 3).testBit 11 := Fld.rbit (Fld.rq p 3) 11
            cases ht : (Fld.rq p 3).testBit 11 with
            | true =>
              have T' := T.trans ht
              have HT2 := Lib.hid ht
              clear T ht
              go_wp2
              exact ⟨⟨4, by omega, rfl, Fld.rq_yes p 3 hrp (by omega) HT2.out 2264 rfl (by omega)⟩, by simp [intOf]⟩
            | false =>
              have T' := T.trans ht
              have HT2 := Lib.hid ht
              clear T ht
              go_wp2
              exact ⟨⟨4, by omega, rfl, Fld.rq_no p 3 HT2.out⟩, by simp [intOf]⟩
          · have T : (((Fld.rq p 4 : Nat) : Int) / 1024 % 2 == 1) = (Fld.rq p 4).testBit 10 := Fld.rbit (Fld.rq p 4) 10
            cases ht : (Fld.rq p 4).testBit 10 with
            | true =>
              have T' := T.trans ht
              have HT2 := Lib.hid ht
              clear T ht
              go_wp2
              exact ⟨⟨5, by omega, rfl, Fld.rq_yes p 4 hrp (by omega) HT2.out 1132 rfl (by omega)⟩, by simp [intOf]⟩
            | false =>
              have T' := T.trans ht
              have HT2 := Lib.hid ht
              clear T ht
              go_wp2
              exact ⟨⟨5, by omega, rfl, Fld.rq_no p 4 HT2.out⟩, by simp [intOf]⟩
          · have T : (((Fld.rq p 5 : Nat) : Int) / 512 % 2 == 1) = (Fld.rq p 5).testBit 9 := Fld.rbit (Fld.rq p 5) 9
            cases ht : (Fld.rq p 5).testBit 9 with
            | true =>
              have T' := T.trans ht
              have HT2 := Lib.hid ht
              clear T ht
              go_wp2
              exact ⟨⟨6, by omega, rfl, Fld.rq_yes p 5 hrp (by omega) HT2.out 566 rfl (by omega)⟩, by simp [intOf]⟩
            | false =>
              have T' := T.trans ht
              have HT2 := Lib.hid ht
              clear T ht
              go_wp2
              exact ⟨⟨6, by omega, rfl, Fld.rq_no p 5 HT2.out⟩, by simp [intOf]⟩
          · have T : (((Fld.rq p 6 : Nat) : Int) / 256 % 2 == 1) = (Fld.rq p 6).testBit 8 := Fld.rbit (Fld.rq p 6) 8
            cases ht : (Fld.rq p 6).testBit 8 with
            | true =>
              have T' := T.trans ht
              have HT2 := Lib.hid ht
              clear T ht
              go_wp2
              exact ⟨⟨7, by omega, rfl, Fld.rq_yes p 6 hrp (by omega) HT2.out 283 rfl (by omega)⟩, by simp [intOf]⟩
            | false =>
              have T' := T.trans ht
              have HT2 := Lib.hid ht
              clear T ht
              go_wp2
              exact ⟨⟨7, by omega, rfl, Fld.rq_no p 6 HT2.out⟩, by simp [intOf]⟩
        · obtain rfl : m = 7 := by omega
          have hac : (Fld.acc a b 8).toNat < 256 := (Fld.acc a b 8).toNat_lt
          rw [HE.out]
          go_wp2
          go_ret
          exact ⟨rfl, rfl⟩

theorem Fld.rmul_n (a q : UInt8) (n : Nat) (hn : n < 256) (hq : Fld.mul a (UInt8.ofNat n) = q) (w : World) : Calls Try.prog 44 #[B8 a, .int .u8 (n : Int)] w fun e w' => e = .returned (B8 q) ∧ w = w' := by
  have h := Fld.rmul_any a (UInt8.ofNat n) w
  rw [show B8 (UInt8.ofNat n) = Value.int .u8 (n : Int) by show Value.int .u8 ((UInt8.ofNat n).toNat : Int) = _; rw [UInt8.toNat_ofNat_of_lt' hn], hq] at h
  exact h

theorem Fld.u8_of (b : UInt8) : UInt8.ofNat b.toNat = b := UInt8.ofNat_toNat

set_option maxRecDepth 100000 in
set_option maxHeartbeats 1000000 in
theorem Fld.rinv_any (a : UInt8) (w : World) : Calls Try.prog 52 #[B8 a] w fun e w' => e = .returned (.tuple #[B8 (Fld.inv a), .int .i64 (Fld.invE a)]) ∧ w = w' := by
  go_enter Try.func52, Try.ntmps52
  go_wp2_with fail
  go_loop [4] (fun i => ∃ k : Nat, 1 ≤ k ∧ k ≤ 256 ∧ i = .int .i64 k ∧ ∀ c : Nat, 1 ≤ c → c < k → Fld.mul a (UInt8.ofNat c) ≠ 1) (fun i => 256 - (intOf i).toNat)
  case atStart => exact ⟨1, by omega, by omega, rfl, fun c h1 h2 => by omega⟩
  case round =>
    obtain ⟨k, hk1, hk2, rfl, hno⟩ := hrel
    have HNO := Lib.hid hno
    clear hno
    by_cases hlt : k < 256
    · obtain ⟨q, hq⟩ : ∃ q, Fld.mul a (UInt8.ofNat k) = q := ⟨_, rfl⟩
      have HQ := Lib.hid hq
      by_cases hm : Fld.mul a (UInt8.ofNat k) = 1
      · have ht : ((q.toNat : Int) == 1) = true := by rw [← hq, hm]; rfl
        have ha : a ≠ 0 := fun e => by rw [e, Fld.mul_zero_l] at hm; exact absurd hm (by decide)
        have HI := Lib.hid (show B8 (Fld.inv a) = .int .u8 (k : Int) by
          rw [← Fld.inv_unique a _ ha hm, B8, UInt8.toNat_ofNat_of_lt' hlt])
        have HE := Lib.hid (show Fld.invE a = 0 by rw [Fld.invE, if_neg ha])
        clear hm ha hq
        go_wp2_with (go_at_call 44; refine (Fld.rmul_n a q k hlt HQ.out _).mono ?_; rintro e w2 ⟨rfl, rfl⟩)
        go_ret2
        exact ⟨by rw [HI.out, HE.out]; rfl, rfl⟩
      · have ht : ((q.toNat : Int) == 1) = false := by
          rw [beq_eq_false_iff_ne]
          intro e
          exact hm (UInt8.toNat_inj.1 (by rw [hq]; show q.toNat = 1; omega))
        have HM := Lib.hid hm
        clear hm hq
        go_wp2_with (go_at_call 44; refine (Fld.rmul_n a q k hlt HQ.out _).mono ?_; rintro e w2 ⟨rfl, rfl⟩)
        go_round
        case rel => exact ⟨k + 1, by omega, by omega, by go_num, fun c h1 h2 => by
          by_cases hc : c = k
          · subst hc; exact HM.out
          · exact HNO.out c h1 (by omega)⟩
        case measure => simp [intOf]; omega
    · obtain rfl : k = 256 := by omega
      have h0 : a = 0 := by
        rcases Decidable.em (a = 0) with h | h
        · exact h
        · exfalso
          have h1 := Fld.mul_inv a h
          have h2 := Fld.inv_ne a h
          have h3 : 1 ≤ (Fld.inv a).toNat := by
            rcases Nat.eq_zero_or_pos (Fld.inv a).toNat with h4 | h4
            · exact absurd (UInt8.toNat_inj.1 (by rw [h4]; rfl)) h2
            · exact h4
          exact HNO.out (Fld.inv a).toNat h3 (Fld.inv a).toNat_lt (by rw [Fld.u8_of]; exact h1)
      have HI := Lib.hid (show B8 (Fld.inv a) = .int .u8 0 by rw [h0]; rfl)
      have HE := Lib.hid (show Fld.invE a = 1 by rw [h0]; rfl)
      clear h0
      go_wp2_with fail
      go_ret2
      exact ⟨by rw [HI.out, HE.out]; rfl, rfl⟩
end Go.Proofs.Ytpijkjpefdlefaa
