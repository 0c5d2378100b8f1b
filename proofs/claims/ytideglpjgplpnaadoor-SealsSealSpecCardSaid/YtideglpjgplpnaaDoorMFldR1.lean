import Derived.Laws.BitsLemmas
import Derived.Test.YtideglpjgplpnaaDoorMFldW1
import Derived.BigQuiet
import Derived.Test.YtideglpjgplpnaaDoorMFldPlain
import Derived.Test.YtideglpjgplpnaaDoorMFldW5
/- Contracts of the reference's Mul and Inv: for all bytes, the same answers as the program's. -/
namespace Go.Proofs.YtideglpjgplpnaaDoor
open Go.RowKit
set_option linter.unusedVariables false

theorem i64_xor_nat' (a b : Nat) (ha : a < 65536) (hb : b < 65536) : bits .xor .i64 (a : Int) (b : Int) = ((a ^^^ b : Nat) : Int) := by
  have hx : a ^^^ b < 2 ^ 16 := Nat.xor_lt_two_pow (by omega) (by omega)
  have h1 : ∀ x : Nat, x < 65536 → (BitVec.ofInt 64 (x : Int)).toNat = x := fun x hx => by
    rw [BitVec.ofInt_natCast, BitVec.toNat_ofNat]; exact Nat.mod_eq_of_lt (by omega)
  show IntKind.i64.wrap ((BitVec.ofInt 64 (a : Int) ^^^ BitVec.ofInt 64 (b : Int)).toNat : Int) = _
  rw [BitVec.toNat_xor, h1 a ha, h1 b hb, IntKind.wrap_i64]
  omega

/-- the reference's p after n rounds of its first loop -/
def Fld.rp (a b : Nat) : Nat → Nat
  | 0 => 0
  | n + 1 => Fld.rp a b n ^^^ (if b.testBit n = true then a <<< n else 0)
/-- one round of its second loop, at i -/
def Fld.red (i p : Nat) : Nat := p ^^^ (if p.testBit i = true then 283 <<< (i - 8) else 0)
/-- the second loop: from 14 on, n rounds -/
def Fld.rq (p : Nat) : Nat → Nat
  | 0 => p
  | n + 1 => Fld.red (14 - n) (Fld.rq p n)

theorem Fld.red_xor (i x y : Nat) : Fld.red i (x ^^^ y) = Fld.red i x ^^^ Fld.red i y := by
  unfold Fld.red
  rw [Nat.testBit_xor]
  have mid : ∀ a b c d : Nat, (a ^^^ b) ^^^ (c ^^^ d) = (a ^^^ c) ^^^ (b ^^^ d) := fun a b c d => by
    rw [Nat.xor_assoc, Nat.xor_assoc]; congr 1; rw [← Nat.xor_assoc, ← Nat.xor_assoc, Nat.xor_comm b c]
  rw [mid x _ y _]
  congr 1
  cases x.testBit i <;> cases y.testBit i <;> simp
theorem Fld.rq_xor (x y n : Nat) : Fld.rq (x ^^^ y) n = Fld.rq x n ^^^ Fld.rq y n := by
  induction n with
  | zero => rfl
  | succ n ih => rw [Fld.rq, ih, Fld.red_xor]; rfl
theorem Fld.rq_zero (n : Nat) : Fld.rq 0 n = 0 := by
  induction n with
  | zero => rfl
  | succ n ih => rw [Fld.rq, ih]; unfold Fld.red; simp
theorem Fld.rq_shift (a : UInt8) (i : Nat) (hi : i < 8) : Fld.rq (a.toNat <<< i) 7 = (Fld.pw a i).toNat := by
  have H : ∀ n : Nat, n < 256 → ∀ k : Nat, k < 8 → Fld.rq (n <<< k) 7 = (Fld.pw (UInt8.ofNat n) k).toNat := by decide +kernel
  have := H a.toNat a.toNat_lt i hi
  rwa [UInt8.ofNat_toNat] at this
theorem Fld.rmul_eq (a b : UInt8) (n : Nat) (hn : n ≤ 8) : Fld.rq (Fld.rp a.toNat b.toNat n) 7 = (Fld.acc a b n).toNat := by
  induction n with
  | zero => exact Fld.rq_zero 7
  | succ n ih =>
    rw [Fld.rp, Fld.rq_xor, ih (by omega), Fld.acc, UInt8.toNat_xor]
    congr 1
    split
    · exact Fld.rq_shift a n (by omega)
    · exact Fld.rq_zero 7
theorem Fld.rp_lt (a b n : Nat) (ha : a < 256) (hn : n ≤ 8) : Fld.rp a b n < 32768 := by
  induction n with
  | zero => show 0 < 32768; omega
  | succ n ih =>
    have h1 := ih (by omega)
    have h2 : (if b.testBit n = true then a <<< n else 0) < 2 ^ 15 := by
      split
      · rw [Nat.shiftLeft_eq]
        have : 2 ^ n ≤ 2 ^ 7 := Nat.pow_le_pow_right (by omega) (by omega)
        have h3 : a * 2 ^ n ≤ 255 * 2 ^ 7 := Nat.mul_le_mul (by omega) this
        omega
      · omega
    have h3 := Nat.xor_lt_two_pow (n := 15) (x := Fld.rp a b n) (by omega) h2
    rw [Fld.rp]
    omega
theorem Fld.rq_lt (p n : Nat) (hp : p < 32768) (hn : n ≤ 7) : Fld.rq p n < 32768 := by
  induction n with
  | zero => exact hp
  | succ n ih =>
    have h1 := ih (by omega)
    rw [Fld.rq, Fld.red]
    have h2 : (if (Fld.rq p n).testBit (14 - n) = true then 283 <<< (14 - n - 8) else 0) < 2 ^ 15 := by
      split
      · rw [Nat.shiftLeft_eq]
        have : 2 ^ (14 - n - 8) ≤ 2 ^ 6 := Nat.pow_le_pow_right (by omega) (by omega)
        have h3 : 283 * 2 ^ (14 - n - 8) ≤ 283 * 2 ^ 6 := Nat.mul_le_mul (by omega) this
        omega
      · omega
    have h3 := Nat.xor_lt_two_pow (n := 15) (x := Fld.rq p n) (by omega) h2
    omega
theorem Fld.rbit (x k : Nat) : (((x : Int) / ((2 ^ k : Nat) : Int) % 2 == 1)) = x.testBit k := by
  rw [Nat.testBit_eq_decide_div_mod_eq, show ((x : Int) / ((2 ^ k : Nat) : Int) % 2) = ((x / 2 ^ k % 2 : Nat) : Int) by omega]
  have h : ∀ y : Nat, (((y : Nat) : Int) == 1) = decide (y = 1) := fun y => by
    rw [Bool.eq_iff_iff, beq_iff_eq, decide_eq_true_eq]
    omega
  exact h _
theorem Fld.rp_yes (a b k : Nat) (ha : a < 256) (hk : k < 8) (h : b.testBit k = true) (m : Int) (hm : m = ((a <<< k : Nat) : Int)) : Value.int .i64 (bits .xor .i64 ((Fld.rp a b k : Nat) : Int) m) = .int .i64 ((Fld.rp a b (k + 1) : Nat) : Int) := by
  have h1 := Fld.rp_lt a b k ha (by omega)
  have h2 : a <<< k < 65536 := by
    rw [Nat.shiftLeft_eq]
    have : 2 ^ k ≤ 2 ^ 7 := Nat.pow_le_pow_right (by omega) (by omega)
    have h3 : a * 2 ^ k ≤ 255 * 2 ^ 7 := Nat.mul_le_mul (by omega) this
    omega
  rw [hm, i64_xor_nat' _ _ (by omega) h2, Fld.rp, if_pos h]
theorem Fld.rp_no (a b k : Nat) (h : b.testBit k = false) : Value.int .i64 ((Fld.rp a b k : Nat) : Int) = .int .i64 ((Fld.rp a b (k + 1) : Nat) : Int) := by
  rw [Fld.rp, if_neg (by rw [h]; decide), Nat.xor_zero]
theorem Fld.rq_yes (p k : Nat) (hp : p < 32768) (hk : k < 7) (h : (Fld.rq p k).testBit (14 - k) = true) (m : Nat) (hm : m = 283 <<< (14 - k - 8)) (hm2 : m < 65536) : Value.int .i64 (bits .xor .i64 ((Fld.rq p k : Nat) : Int) (m : Int)) = .int .i64 ((Fld.rq p (k + 1) : Nat) : Int) := by
  have h1 := Fld.rq_lt p k hp (by omega)
  rw [i64_xor_nat' _ _ (by omega) hm2, Fld.rq, Fld.red, if_pos h, hm]
theorem Fld.rq_no (p k : Nat) (h : (Fld.rq p k).testBit (14 - k) = false) : Value.int .i64 ((Fld.rq p k : Nat) : Int) = .int .i64 ((Fld.rq p (k + 1) : Nat) : Int) := by
  rw [Fld.rq, Fld.red, if_neg (by rw [h]; decide), Nat.xor_zero]

set_option maxRecDepth 100000 in
set_option maxHeartbeats 2000000 in
theorem Fld.rmul_any (a b : UInt8) (w : World) : Calls Tryd.prog 88 #[B8 a, B8 b] w fun e w' => e = .returned (B8 (Fld.mul a b)) ∧ w = w' := by
  have ha : a.toNat < 256 := a.toNat_lt
  have hb : b.toNat < 256 := b.toNat_lt
  go_enter Tryd.func88, Tryd.ntmps88
  go_wp2_with fail
  go_loop [5, 6] (fun c i => ∃ k : Nat, k ≤ 8 ∧ i = .int .i64 k ∧ c = .int .i64 ((Fld.rp a.toNat b.toNat k : Nat) : Int)) (fun _ i => 8 - (intOf i).toNat)
  case atStart => exact ⟨0, by omega, rfl, rfl⟩
  case round =>
    obtain ⟨k, hk, rfl, rfl⟩ := hrel
    have hrp := Fld.rp_lt a.toNat b.toNat k ha hk
    by_cases hlt : k < 8
    · obtain rfl | rfl | rfl | rfl | rfl | rfl | rfl | rfl : k = 0 ∨ k = 1 ∨ k = 2 ∨ k = 3 ∨ k = 4 ∨ k = 5 ∨ k = 6 ∨ k = 7 := by omega
      · have T : ((b.toNat : Int) % 2 == 1) = b.toNat.testBit 0 := by have := Fld.rbit b.toNat 0; simpa using this
        cases ht : b.toNat.testBit 0 with
        | true =>
          have T' := T.trans ht
          have HT2 := Lib.hid ht
          clear T ht
          go_wp2
          exact ⟨⟨1, by omega, rfl, Fld.rp_yes a.toNat b.toNat 0 ha (by omega) HT2.out (a.toNat : Int) (by rw [Nat.shiftLeft_eq]; omega)⟩, by simp [intOf]⟩
        | false =>
          have T' := T.trans ht
          have HT2 := Lib.hid ht
          clear T ht
          go_wp2
          exact ⟨⟨1, by omega, rfl, Fld.rp_no a.toNat b.toNat 0 HT2.out⟩, by simp [intOf]⟩
      · have T : ((b.toNat : Int) / 2 % 2 == 1) = b.toNat.testBit 1 := Fld.rbit b.toNat 1
        cases ht : b.toNat.testBit 1 with
        | true =>
          have T' := T.trans ht
          have HT2 := Lib.hid ht
          clear T ht
          go_wp2
          exact ⟨⟨2, by omega, rfl, Fld.rp_yes a.toNat b.toNat 1 ha (by omega) HT2.out ((a.toNat : Int) * 2) (by rw [Nat.shiftLeft_eq]; omega)⟩, by simp [intOf]⟩
        | false =>
          have T' := T.trans ht
          have HT2 := Lib.hid ht
          clear T ht
          go_wp2
          exact ⟨⟨2, by omega, rfl, Fld.rp_no a.toNat b.toNat 1 HT2.out⟩, by simp [intOf]⟩
      · have T : ((b.toNat : Int) / 4 % 2 == 1) = b.toNat.testBit 2 := Fld.rbit b.toNat 2
        cases ht : b.toNat.testBit 2 with
        | true =>
          have T' := T.trans ht
          have HT2 := Lib.hid ht
          clear T ht
          go_wp2
          exact ⟨⟨3, by omega, rfl, Fld.rp_yes a.toNat b.toNat 2 ha (by omega) HT2.out ((a.toNat : Int) * 4) (by rw [Nat.shiftLeft_eq]; omega)⟩, by simp [intOf]⟩
        | false =>
          have T' := T.trans ht
          have HT2 := Lib.hid ht
          clear T ht
          go_wp2
          exact ⟨⟨3, by omega, rfl, Fld.rp_no a.toNat b.toNat 2 HT2.out⟩, by simp [intOf]⟩
      · have T : ((b.toNat : Int) / 8 % 2 == 1) = b.toNat.testBit 3 := Fld.rbit b.toNat 3
        cases ht : b.toNat.testBit 3 with
        | true =>
          have T' := T.trans ht
          have HT2 := Lib.hid ht
          clear T ht
          go_wp2
          exact ⟨⟨4, by omega, rfl, Fld.rp_yes a.toNat b.toNat 3 ha (by omega) HT2.out ((a.toNat : Int) * 8) (by rw [Nat.shiftLeft_eq]; omega)⟩, by simp [intOf]⟩
        | false =>
          have T' := T.trans ht
          have HT2 := Lib.hid ht
          clear T ht
          go_wp2
          exact ⟨⟨4, by omega, rfl, Fld.rp_no a.toNat b.toNat 3 HT2.out⟩, by simp [intOf]⟩
      · have T : ((b.toNat : Int) / 16 % 2 == 1) = b.toNat.testBit 4 := Fld.rbit b.toNat 4
        cases ht : b.toNat.testBit 4 with
        | true =>
          have T' := T.trans ht
          have HT2 := Lib.hid ht
          clear T ht
          go_wp2
          exact ⟨⟨5, by omega, rfl, Fld.rp_yes a.toNat b.toNat 4 ha (by omega) HT2.out ((a.toNat : Int) * 16) (by rw [Nat.shiftLeft_eq]; omega)⟩, by simp [intOf]⟩
        | false =>
          have T' := T.trans ht
          have HT2 := Lib.hid ht
          clear T ht
          go_wp2
          exact ⟨⟨5, by omega, rfl, Fld.rp_no a.toNat b.toNat 4 HT2.out⟩, by simp [intOf]⟩
      · have T : ((b.toNat : Int) / 32 % 2 == 1) = b.toNat.testBit 5 := Fld.rbit b.toNat 5
        cases ht : b.toNat.testBit 5 with
        | true =>
          have T' := T.trans ht
          have HT2 := Lib.hid ht
          clear T ht
          go_wp2
          exact ⟨⟨6, by omega, rfl, Fld.rp_yes a.toNat b.toNat 5 ha (by omega) HT2.out ((a.toNat : Int) * 32) (by rw [Nat.shiftLeft_eq]; omega)⟩, by simp [intOf]⟩
        | false =>
          have T' := T.trans ht
          have HT2 := Lib.hid ht
          clear T ht
          go_wp2
          exact ⟨⟨6, by omega, rfl, Fld.rp_no a.toNat b.toNat 5 HT2.out⟩, by simp [intOf]⟩
      · have T : ((b.toNat : Int) / 64 % 2 == 1) = b.toNat.testBit 6 := Fld.rbit b.toNat 6
        cases ht : b.toNat.testBit 6 with
        | true =>
          have T' := T.trans ht
          have HT2 := Lib.hid ht
          clear T ht
          go_wp2
          exact ⟨⟨7, by omega, rfl, Fld.rp_yes a.toNat b.toNat 6 ha (by omega) HT2.out ((a.toNat : Int) * 64) (by rw [Nat.shiftLeft_eq]; omega)⟩, by simp [intOf]⟩
        | false =>
          have T' := T.trans ht
          have HT2 := Lib.hid ht
          clear T ht
          go_wp2
          exact ⟨⟨7, by omega, rfl, Fld.rp_no a.toNat b.toNat 6 HT2.out⟩, by simp [intOf]⟩
      · have T : ((b.toNat : Int) / 128 % 2 == 1) = b.toNat.testBit 7 := Fld.rbit b.toNat 7
        cases ht : b.toNat.testBit 7 with
        | true =>
          have T' := T.trans ht
          have HT2 := Lib.hid ht
          clear T ht
          go_wp2
          exact ⟨⟨8, by omega, rfl, Fld.rp_yes a.toNat b.toNat 7 ha (by omega) HT2.out ((a.toNat : Int) * 128) (by rw [Nat.shiftLeft_eq]; omega)⟩, by simp [intOf]⟩
        | false =>
          have T' := T.trans ht
          have HT2 := Lib.hid ht
          clear T ht
          go_wp2
          exact ⟨⟨8, by omega, rfl, Fld.rp_no a.toNat b.toNat 7 HT2.out⟩, by simp [intOf]⟩
    · obtain rfl : k = 8 := by omega
      have HE := Lib.hid (Fld.rmul_eq a b 8 (Nat.le_refl _))
      generalize Fld.rp a.toNat b.toNat 8 = p at *
      go_wp2
      go_loop [5, 7] (fun c i => ∃ m : Nat, m ≤ 7 ∧ i = .int .i64 ((14 - m : Nat) : Int) ∧ c = .int .i64 ((Fld.rq p m : Nat) : Int)) (fun _ i => (intOf i).toNat)
      case atStart => exact ⟨0, by omega, rfl, rfl⟩
      case round =>
        obtain ⟨m, hm, rfl, rfl⟩ := hrel
        have hrq := Fld.rq_lt p m hrp hm
        by_cases hlt2 : m < 7
        · obtain rfl | rfl | rfl | rfl | rfl | rfl | rfl : m = 0 ∨ m = 1 ∨ m = 2 ∨ m = 3 ∨ m = 4 ∨ m = 5 ∨ m = 6 := by omega
          · have T : (((Fld.rq p 0 : Nat) : Int) / 16384 % 2 == 1) = (Fld.rq p 0).testBit 14 := Fld.rbit (Fld.rq p 0) 14
            cases ht : (Fld.rq p 0).testBit 14 with
            | true =>
              have T' := T.trans ht
              have HT2 := Lib.hid ht
              clear T ht
              go_wp2
              exact ⟨⟨1, by omega, rfl, Fld.rq_yes p 0 hrp (by omega) HT2.out 18112 rfl (by omega)⟩, by simp [intOf]⟩
            | false =>
              have T' := T.trans ht
              have HT2 := Lib.hid ht
              clear T ht
              go_wp2
              exact ⟨⟨1, by omega, rfl, Fld.rq_no p 0 HT2.out⟩, by simp [intOf]⟩
          · have T : (((Fld.rq p 1 : Nat) : Int) / 8192 % 2 == 1) = (Fld.rq p 1).testBit 13 := Fld.rbit (Fld.rq p 1) 13
            cases ht : (Fld.rq p 1).testBit 13 with
            | true =>
              have T' := T.trans ht
              have HT2 := Lib.hid ht
              clear T ht
              go_wp2
              exact ⟨⟨2, by omega, rfl, Fld.rq_yes p 1 hrp (by omega) HT2.out 9056 rfl (by omega)⟩, by simp [intOf]⟩
            | false =>
              have T' := T.trans ht
              have HT2 := Lib.hid ht
              clear T ht
              go_wp2
              exact ⟨⟨2, by omega, rfl, Fld.rq_no p 1 HT2.out⟩, by simp [intOf]⟩
          · have T : (((Fld.rq p 2 : Nat) : Int) / 4096 % 2 == 1) = (Fld.rq p 2).testBit 12 := Fld.rbit (Fld.rq p 2) 12
            cases ht : (Fld.rq p 2).testBit 12 with
            | true =>
              have T' := T.trans ht
              have HT2 := Lib.hid ht
              clear T ht
              go_wp2
              exact ⟨⟨3, by omega, rfl, Fld.rq_yes p 2 hrp (by omega) HT2.out 4528 rfl (by omega)⟩, by simp [intOf]⟩
            | false =>
              have T' := T.trans ht
              have HT2 := Lib.hid ht
              clear T ht
              go_wp2
              exact ⟨⟨3, by omega, rfl, Fld.rq_no p 2 HT2.out⟩, by simp [intOf]⟩
          · have T : (((Fld.rq p 3 : Nat) : Int) / 2048 % 2 == 1) = (Fld.rq p 3).testBit 11 := Fld.rbit (Fld.rq p 3) 11
            cases ht : (Fld.rq p 3).testBit 11 with
            | true =>
              have T' := T.trans ht
              have HT2 := Lib.hid ht
              clear T ht
              go_wp2
              exact ⟨⟨4, by omega, rfl, Fld.rq_yes p 3 hrp (by omega) HT2.out 2264 rfl (by omega)⟩, by simp [intOf]⟩
            | false =>
              have T' := T.trans ht
              have HT2 := Lib.hid ht
              clear T ht
              go_wp2
              exact ⟨⟨4, by omega, rfl, Fld.rq_no p 3 HT2.out⟩, by simp [intOf]⟩
          · have T : (((Fld.rq p 4 : Nat) : Int) / 1024 % 2 == 1) = (Fld.rq p 4).testBit 10 := Fld.rbit (Fld.rq p 4) 10
            cases ht : (Fld.rq p 4).testBit 10 with
            | true =>
              have T' := T.trans ht
              have HT2 := Lib.hid ht
              clear T ht
              go_wp2
              exact ⟨⟨5, by omega, rfl, Fld.rq_yes p 4 hrp (by omega) HT2.out 1132 rfl (by omega)⟩, by simp [intOf]⟩
            | false =>
              have T' := T.trans ht
              have HT2 := Lib.hid ht
              clear T ht
              go_wp2
              exact ⟨⟨5, by omega, rfl, Fld.rq_no p 4 HT2.out⟩, by simp [intOf]⟩
          · have T : (((Fld.rq p 5 : Nat) : Int) / 512 % 2 == 1) = (Fld.rq p 5).testBit 9 := Fld.rbit (Fld.rq p 5) 9
            cases ht : (Fld.rq p 5).testBit 9 with
            | true =>
              have T' := T.trans ht
              have HT2 := Lib.hid ht
              clear T ht
              go_wp2
              exact ⟨⟨6, by omega, rfl, Fld.rq_yes p 5 hrp (by omega) HT2.out 566 rfl (by omega)⟩, by simp [intOf]⟩
            | false =>
              have T' := T.trans ht
              have HT2 := Lib.hid ht
              clear T ht
              go_wp2
              exact ⟨⟨6, by omega, rfl, Fld.rq_no p 5 HT2.out⟩, by simp [intOf]⟩
          · have T : (((Fld.rq p 6 : Nat) : Int) / 256 % 2 == 1) = (Fld.rq p 6).testBit 8 := Fld.rbit (Fld.rq p 6) 8
            cases ht : (Fld.rq p 6).testBit 8 with
            | true =>
              have T' := T.trans ht
              have HT2 := Lib.hid ht
              clear T ht
              go_wp2
              exact ⟨⟨7, by omega, rfl, Fld.rq_yes p 6 hrp (by omega) HT2.out 283 rfl (by omega)⟩, by simp [intOf]⟩
            | false =>
              have T' := T.trans ht
              have HT2 := Lib.hid ht
              clear T ht
              go_wp2
              exact ⟨⟨7, by omega, rfl, Fld.rq_no p 6 HT2.out⟩, by simp [intOf]⟩
        · obtain rfl : m = 7 := by omega
          have hac : (Fld.acc a b 8).toNat < 256 := (Fld.acc a b 8).toNat_lt
          rw [HE.out]
          go_wp2
          go_ret
          exact ⟨rfl, rfl⟩

theorem Fld.rmul_n (a q : UInt8) (n : Nat) (hn : n < 256) (hq : Fld.mul a (UInt8.ofNat n) = q) (w : World) : Calls Tryd.prog 88 #[B8 a, .int .u8 (n : Int)] w fun e w' => e = .returned (B8 q) ∧ w = w' := by
  have h := Fld.rmul_any a (UInt8.ofNat n) w
  rw [show B8 (UInt8.ofNat n) = Value.int .u8 (n : Int) by show Value.int .u8 ((UInt8.ofNat n).toNat : Int) = _; rw [UInt8.toNat_ofNat_of_lt' hn], hq] at h
  exact h

theorem Fld.u8_of (b : UInt8) : UInt8.ofNat b.toNat = b := UInt8.ofNat_toNat

set_option maxRecDepth 100000 in
set_option maxHeartbeats 1000000 in
theorem Fld.rinv_any (a : UInt8) (w : World) : Calls Tryd.prog 109 #[B8 a] w fun e w' => e = .returned (.tuple #[B8 (Fld.inv a), .int .i64 (Fld.invE a)]) ∧ w = w' := by
  go_enter Tryd.func109, Tryd.ntmps109
  go_wp2_with fail
  go_loop [4] (fun i => ∃ k : Nat, 1 ≤ k ∧ k ≤ 256 ∧ i = .int .i64 k ∧ ∀ c : Nat, 1 ≤ c → c < k → Fld.mul a (UInt8.ofNat c) ≠ 1) (fun i => 256 - (intOf i).toNat)
  case atStart => exact ⟨1, by omega, by omega, rfl, fun c h1 h2 => by omega⟩
  case round =>
    obtain ⟨k, hk1, hk2, rfl, hno⟩ := hrel
    have HNO := Lib.hid hno
    clear hno
    by_cases hlt : k < 256
    · obtain ⟨q, hq⟩ : ∃ q, Fld.mul a (UInt8.ofNat k) = q := ⟨_, rfl⟩
      have HQ := Lib.hid hq
      by_cases hm : Fld.mul a (UInt8.ofNat k) = 1
      · have ht : ((q.toNat : Int) == 1) = true := by rw [← hq, hm]; rfl
        have ha : a ≠ 0 := fun e => by rw [e, Fld.mul_zero_l] at hm; exact absurd hm (by decide)
        have HI := Lib.hid (show B8 (Fld.inv a) = .int .u8 (k : Int) by
          rw [← Fld.inv_unique a _ ha hm, B8, UInt8.toNat_ofNat_of_lt' hlt])
        have HE := Lib.hid (show Fld.invE a = 0 by rw [Fld.invE, if_neg ha])
        clear hm ha hq
        go_wp2_with (go_at_call 88; refine (Fld.rmul_n a q k hlt HQ.out _).mono ?_; rintro e w2 ⟨rfl, rfl⟩)
        go_ret2
        exact ⟨by rw [HI.out, HE.out]; rfl, rfl⟩
      · have ht : ((q.toNat : Int) == 1) = false := by
          rw [beq_eq_false_iff_ne]
          intro e
          exact hm (UInt8.toNat_inj.1 (by rw [hq]; show q.toNat = 1; omega))
        have HM := Lib.hid hm
        clear hm hq
        go_wp2_with (go_at_call 88; refine (Fld.rmul_n a q k hlt HQ.out _).mono ?_; rintro e w2 ⟨rfl, rfl⟩)
        go_round
        case rel => exact ⟨k + 1, by omega, by omega, by go_num, fun c h1 h2 => by
          by_cases hc : c = k
          · subst hc; exact HM.out
          · exact HNO.out c h1 (by omega)⟩
        case measure => simp [intOf]; omega
    · obtain rfl : k = 256 := by omega
      have h0 : a = 0 := by
        rcases Decidable.em (a = 0) with h | h
        · exact h
        · exfalso
          have h1 := Fld.mul_inv a h
          have h2 := Fld.inv_ne a h
          have h3 : 1 ≤ (Fld.inv a).toNat := by
            rcases Nat.eq_zero_or_pos (Fld.inv a).toNat with h4 | h4
            · exact absurd (UInt8.toNat_inj.1 (by rw [h4]; rfl)) h2
            · exact h4
          exact HNO.out (Fld.inv a).toNat h3 (Fld.inv a).toNat_lt (by rw [Fld.u8_of]; exact h1)
      have HI := Lib.hid (show B8 (Fld.inv a) = .int .u8 0 by rw [h0]; rfl)
      have HE := Lib.hid (show Fld.invE a = 1 by rw [h0]; rfl)
      clear h0
      go_wp2_with fail
      go_ret2
      exact ⟨by rw [HI.out, HE.out]; rfl, rfl⟩
end Go.Proofs.YtideglpjgplpnaaDoor
/- Contracts of the reference's over, Points and Through: for all lists, the same answers as the program's. -/
namespace Go.Proofs.YtideglpjgplpnaaDoor
open Go.RowKit Go.Shelf
set_option linter.unusedVariables false

theorem RdB.byte2 {w : World} {b off n : Nat} {l : List UInt8} (h : RdB w (some ⟨b, off, none⟩) n l) (k : Nat) (hk : k < n) : b < w.heap.size ∧ w.cell? ⟨b, off + k, none⟩ = some (B8 (l.getD k 0)) := by
  obtain ⟨b', off', e, hb, hc⟩ := h.byte k hk
  injection e with e
  injection e with e1 e2
  subst e1 e2
  exact ⟨hb, hc⟩

theorem Fld.rover_any (a b : UInt8) (w : World) : Calls Tryd.prog 91 #[B8 a, B8 b] w fun e w' => e = .returned (B8 (Fld.ovr a b)) ∧ w = w' := by
  have HV := Lib.hid (show Fld.ovr a b = Fld.mul a (Fld.inv b) from rfl)
  go_enter Tryd.func91, Tryd.ntmps91
  go_wp2_with fail
  refine (Fld.rinv_any b _).mono ?_
  rintro e w1 ⟨rfl, rfl⟩
  go_wp2_with fail
  refine (Fld.rmul_any a (Fld.inv b) _).mono ?_
  rintro e w2 ⟨rfl, rfl⟩
  go_wp2_with fail
  go_ret
  exact ⟨by rw [HV.out]; rfl, rfl⟩

/-- the first k places are different ones -/
def Fld.diff (l : List UInt8) (k : Nat) : Prop := ∀ i j, i < k → j < i → l.getD j 0 ≠ l.getD i 0
theorem Fld.diff_nodup {l : List UInt8} (h : Fld.diff l l.length) : l.Nodup := by
  rw [List.Nodup, List.pairwise_iff_getElem]
  intro i j hi hj hij e
  refine h j i hj hij ?_
  rw [List.getD_eq_getElem?_getD, List.getD_eq_getElem?_getD, List.getElem?_eq_getElem hi, List.getElem?_eq_getElem hj]
  exact e

set_option maxRecDepth 100000 in
set_option maxHeartbeats 1000000 in
theorem Fld.rpoints_any (A A2 : Option Addr) (m c m2 c2 : Nat) (l l2 : List UInt8) (w : World) (hm : m ≤ maxLen) (hm2 : m2 ≤ maxLen) (hrd : RdB w A m l) (hrd2 : RdB w A2 m2 l2) :
    Calls Tryd.prog 90 #[.slice A m c, .slice A2 m2 c2] w fun e w' => e = .returned (.bool (Fld.ptsB l l2)) ∧ Below w.heap.size w w' := by
  unfold maxLen at hm hm2
  have HR := Lib.hid hrd
  have HL := Lib.hid hrd.len
  have HL2 := Lib.hid hrd2.len
  clear hrd hrd2
  by_cases hl : m = m2
  · have HY := Lib.hid (show Fld.diff l m → Fld.ptsB l l2 = true from fun h => decide_eq_true ⟨Fld.diff_nodup (by rw [HL.out]; exact h), by rw [HL.out, HL2.out]; exact hl⟩)
    have HX := Lib.hid (show ∀ i j, i < m → j < i → l.getD j 0 = l.getD i 0 → Fld.ptsB l l2 = false from fun i j hi hj e => decide_eq_false fun h => Fld.getD_ne_of_nodup l h.1 i j (by rw [HL.out]; exact hi) hj e)
    have d0 : ((m : Int) != (m2 : Int)) = false := by simp [hl]
    have HB0 := Lib.hid (Below.refl w.heap.size w)
    go_enter Tryd.func90, Tryd.ntmps90
    go_wp2_with fail
    clear d0
    go_loopw [5] (fun i wr => ∃ k : Nat, k ≤ m ∧ i = .int .i64 k ∧ Fld.diff l k ∧ Below w.heap.size w wr) (fun i _ => m - (intOf i).toNat)
    case atStart => exact ⟨0, by omega, rfl, fun i j hi => absurd hi (by omega), HB0.out⟩
    case round =>
      obtain ⟨k, hk, rfl, hD, hB⟩ := hrel
      have HD := Lib.hid hD
      have HB := Lib.hid hB
      clear hD hB HB0
      by_cases hlt : k < m
      · go_wp2_with fail
        go_loopw [6] (fun i wr => ∃ j : Nat, j ≤ k ∧ i = .int .i64 j ∧ (∀ i, i < j → l.getD i 0 ≠ l.getD k 0) ∧ Below w.heap.size w wr) (fun i _ => k - (intOf i).toNat)
        case atStart => exact ⟨0, by omega, rfl, fun i hi => absurd hi (by omega), HB.out⟩
        case round =>
          obtain ⟨j, hj, rfl, hN, hB⟩ := hrel
          have HN := Lib.hid hN
          have HB2 := Lib.hid hB
          clear hN hB HB
          by_cases hlt2 : j < k
          · obtain ⟨b, off, rfl, _⟩ := HR.out.byte k hlt
            obtain ⟨hbw, ec1⟩ := (HR.out.keep HB2.out).byte2 k hlt
            obtain ⟨_, ec2⟩ := (HR.out.keep HB2.out).byte2 j (by omega)
            have i1 : (0 : Int) ≤ (k : Int) := by omega
            have i2 : (k : Int) < (m : Int) := by omega
            have i3 : (0 : Int) ≤ (j : Int) := by omega
            have i4 : (j : Int) < (m : Int) := by omega
            by_cases he : l.getD j 0 = l.getD k 0
            · have HP := Lib.hid (HX.out k j hlt hlt2 he)
              have hq : (((l.getD j 0).toNat : Int) == ((l.getD k 0).toNat : Int)) = true := by rw [he]; simp
              generalize l.getD j 0 = x at ec2 hq
              generalize l.getD k 0 = y at ec1 hq
              clear he
              go_wp2_with fail
              go_quiet (fail)
              go_wp2
              go_ret
              exact ⟨by rw [HP.out]; rfl, below_drewN HB2.out _⟩
            · have HE := Lib.hid he
              have hq : (((l.getD j 0).toNat : Int) == ((l.getD k 0).toNat : Int)) = false := by
                rw [beq_eq_false_iff_ne]
                intro e
                exact he (UInt8.toNat_inj.1 (by omega))
              have HGN := Lib.hid (show ∀ i, i < j + 1 → l.getD i 0 ≠ l.getD k 0 from fun i hi => by
                by_cases hij : i = j
                · subst hij; exact HE.out
                · exact HN.out i (by omega))
              generalize l.getD j 0 = x at ec2 hq
              generalize l.getD k 0 = y at ec1 hq HGN
              clear he HE
              go_wp2_with fail
              go_quiet (fail)
              go_wp2
              go_roundw
              case rel => exact ⟨j + 1, by omega, by go_num, HGN.out, below_drewN HB2.out _⟩
              case measure => simp [intOf]; omega
          · obtain rfl : j = k := by omega
            have HGN := Lib.hid (show Fld.diff l (j + 1) from fun i i2 hi hi2 => by
              by_cases hij : i = j
              · subst hij; exact HN.out i2 hi2
              · exact HD.out i i2 (by omega) hi2)
            go_wp2_with fail
            go_roundw
            case rel => exact ⟨j + 1, by omega, by go_num, HGN.out, HB2.out⟩
            case measure => simp [intOf]; omega
      · obtain rfl : k = m := by omega
        have HP := Lib.hid (HY.out HD.out)
        go_wp2_with fail
        go_ret
        exact ⟨by rw [HP.out]; rfl, HB.out⟩
  · have HP := Lib.hid (show Fld.ptsB l l2 = false from decide_eq_false fun h => hl (by have := h.2; rw [HL.out, HL2.out] at this; exact this))
    have d0 : ((m : Int) != (m2 : Int)) = true := by simp; omega
    clear hl
    have HB0 := Lib.hid (Below.refl w.heap.size w)
    go_enter Tryd.func90, Tryd.ntmps90
    go_wp2_with fail
    go_ret
    exact ⟨by rw [HP.out]; rfl, HB0.out⟩

set_option maxRecDepth 100000 in
set_option maxHeartbeats 1000000 in
theorem Fld.rthrough_any (A A2 : Option Addr) (m c m2 c2 : Nat) (l l2 : List UInt8) (a : UInt8) (w : World) (hm : m ≤ maxLen) (hm2 : m2 ≤ maxLen) (hrd : RdB w A m l) (hrd2 : RdB w A2 m2 l2) :
    Calls Tryd.prog 74 #[.slice A m c, .slice A2 m2 c2, B8 a] w fun e w' => e = .returned (.tuple #[B8 (Fld.thrV l l2 a), .int .i64 (Fld.thrE l l2)]) ∧ Below w.heap.size w w' := by
  cases hp : Fld.ptsB l l2 with
  | false =>
    have HV := Lib.hid (show Fld.thrV l l2 a = 0 by rw [Fld.thrV, hp]; rfl)
    have HE := Lib.hid (show Fld.thrE l l2 = 1 by rw [Fld.thrE, hp]; rfl)
    have HP := Lib.hid hp
    clear hp
    go_enter Tryd.func74, Tryd.ntmps74
    go_wp2_with fail
    refine (Fld.rpoints_any A A2 m c m2 c2 l l2 _ hm hm2 hrd hrd2).mono ?_
    rintro e w1 ⟨rfl, hb⟩
    rw [HP.out]
    have HB := Lib.hid hb
    clear hb
    go_wp2_with fail
    go_ret2
    exact ⟨by rw [HV.out, HE.out]; rfl, HB.out⟩
  | true =>
    have HP := Lib.hid hp
    obtain ⟨hnd, hll⟩ := of_decide_eq_true hp
    obtain rfl : m = m2 := by rw [← hrd.len, ← hrd2.len]; exact hll
    have HE := Lib.hid (show Fld.thrE l l2 = 0 by rw [Fld.thrE, hp]; rfl)
    have HV := Lib.hid (show Fld.thrV l l2 a = Fld.thy l l2 a m by rw [Fld.thrV, if_pos hp, ← Fld.thy_eq l l2 hnd a, hrd.len])
    have HL := Lib.hid hrd.len
    clear hp hnd hll
    go_enter Tryd.func74, Tryd.ntmps74
    go_wp2_with fail
    refine (Fld.rpoints_any A A2 m c m c2 l l2 _ hm hm2 hrd hrd2).mono ?_
    rintro e w1 ⟨rfl, hb⟩
    rw [HP.out]
    have HR := Lib.hid hrd
    have HR2 := Lib.hid hrd2
    have HB := Lib.hid hb
    clear hb hrd hrd2
    unfold maxLen at hm
    clear hm2
    go_wp2_with fail
    go_loopw [8, 9] (fun y i wr => ∃ k : Nat, k ≤ m ∧ i = .int .i64 k ∧ y = B8 (Fld.thy l l2 a k) ∧ Below w.heap.size w wr) (fun _ i _ => m - (intOf i).toNat)
    case atStart => exact ⟨0, by omega, rfl, rfl, HB.out⟩
    case round =>
      obtain ⟨i, hi, rfl, rfl, hB⟩ := hrel
      have HB1 := Lib.hid hB
      clear hB HB
      by_cases hlt : i < m
      · obtain ⟨b, off, rfl, _⟩ := HR.out.byte i hlt
        obtain ⟨b2, off2, rfl, hb2, ec2⟩ := (HR2.out.keep HB1.out).byte i hlt
        have HT0 := Lib.hid (show Fld.thn l l2 a i 0 = l2.getD i 0 from rfl)
        rw [← HT0.out] at ec2
        go_wp2_with fail
        go_loopw [10, 11] (fun n k wr => ∃ j : Nat, j ≤ m ∧ k = .int .i64 j ∧ n = B8 (Fld.thn l l2 a i j) ∧ Below w.heap.size w wr) (fun _ k _ => m - (intOf k).toNat)
        case atStart => exact ⟨0, by omega, rfl, rfl, HB1.out⟩
        case round =>
          obtain ⟨j, hj, rfl, rfl, hB⟩ := hrel
          have HB2 := Lib.hid hB
          clear hB HB1 ec2 hb2
          by_cases hlt2 : j < m
          · by_cases hji : j = i
            · subst hji
              have HN := Lib.hid (show Fld.thn l l2 a j (j + 1) = Fld.thn l l2 a j j by rw [Fld.thn, if_pos rfl])
              have d1 : ((j : Int) != (j : Int)) = false := by simp
              go_wp2_with fail
              go_roundw
              case rel => exact ⟨j + 1, by omega, by go_num, by rw [HN.out], HB2.out⟩
              case measure => simp [intOf]; omega
            · obtain ⟨hbw, ec1⟩ := (HR.out.keep HB2.out).byte2 i hlt
              obtain ⟨_, ec3⟩ := (HR.out.keep HB2.out).byte2 j hlt2
              have d1 : ((j : Int) != (i : Int)) = true := by simp; omega
              have HN := Lib.hid (show Fld.thn l l2 a i (j + 1) = Fld.mul (Fld.thn l l2 a i j) (Fld.ovr (a ^^^ l.getD j 0) (l.getD i 0 ^^^ l.getD j 0)) by rw [Fld.thn, if_neg hji])
              generalize l.getD i 0 = xi at ec1 HN
              generalize l.getD j 0 = xj at ec3 HN
              generalize Fld.thn l l2 a i j = n0 at HN ⊢
              have hx1 := Fld.xor8 a xj
              have hx2 := Fld.xor8 xi xj
              have i1 : (0 : Int) ≤ (i : Int) := by omega
              have i2 : (i : Int) < (m : Int) := by omega
              have i3 : (0 : Int) ≤ (j : Int) := by omega
              have i4 : (j : Int) < (m : Int) := by omega
              go_wp2_with fail
              go_quiet ((first | (go_at_call 91; exact quiet_left (Fld.rover_any (a ^^^ xj) (xi ^^^ xj) _)) | (go_at_call 88; exact quiet_left (Fld.rmul_any n0 (Fld.ovr (a ^^^ xj) (xi ^^^ xj)) _))))
              go_wp2
              go_roundw
              case rel => exact ⟨j + 1, by omega, by go_num, by rw [HN.out], below_drewN HB2.out _⟩
              case measure => simp [intOf]; omega
          · obtain rfl : j = m := by omega
            have HY := Lib.hid (show Fld.thy l l2 a (i + 1) = Fld.thy l l2 a i ^^^ Fld.thn l l2 a i j by rw [Fld.thy, HL.out])
            have hx := Fld.xor8 (Fld.thy l l2 a i) (Fld.thn l l2 a i j)
            generalize Fld.thy l l2 a i = y0 at hx HY ⊢
            generalize Fld.thn l l2 a i j = n0 at hx HY ⊢
            go_wp2_with fail
            go_roundw
            case rel => exact ⟨i + 1, by omega, by go_num, by rw [HY.out, B8, UInt8.toNat_xor], HB2.out⟩
            case measure => simp [intOf]; omega
      · obtain rfl : i = m := by omega
        go_wp2_with fail
        go_ret2
        exact ⟨by rw [HV.out, HE.out]; rfl, HB1.out⟩
end Go.Proofs.YtideglpjgplpnaaDoor
