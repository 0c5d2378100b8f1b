/- Plain mathematics of the field with 256 elements. No condition; no program in sight. -/
namespace Go.Proofs.Ytpijkjpefdlefaa.Fld

/-- the product with 2 -/
def tw (a : UInt8) : UInt8 := if 128 ≤ a.toNat then (a <<< 1) ^^^ 27 else a <<< 1
/-- the product with the power n of 2 -/
def pw (a : UInt8) : Nat → UInt8
  | 0 => a
  | n + 1 => tw (pw a n)
/-- the sum of the products with the powers of 2 that b has below n -/
def acc (a b : UInt8) : Nat → UInt8
  | 0 => 0
  | n + 1 => acc a b n ^^^ (if b.toNat.testBit n = true then pw a n else 0)
def mul (a b : UInt8) : UInt8 := acc a b 8

theorem tw_hi (a : UInt8) (h : 128 ≤ a.toNat) : (tw a).toNat = (a.toNat * 2 % 256) ^^^ 27 := by
  rw [tw, if_pos h, UInt8.toNat_xor, UInt8.toNat_shiftLeft, Nat.shiftLeft_eq]
  rfl
theorem tw_lo (a : UInt8) (h : ¬ 128 ≤ a.toNat) : (tw a).toNat = a.toNat * 2 := by
  rw [tw, if_neg h, UInt8.toNat_shiftLeft, Nat.shiftLeft_eq]
  show a.toNat * 2 % 256 = a.toNat * 2
  omega

/-! ### sums -/
theorem xor_mid (a b c d : UInt8) : (a ^^^ b) ^^^ (c ^^^ d) = (a ^^^ c) ^^^ (b ^^^ d) := by
  rw [UInt8.xor_assoc, UInt8.xor_assoc]
  congr 1
  rw [← UInt8.xor_assoc, ← UInt8.xor_assoc, UInt8.xor_comm b c]
theorem xor_cancel (a b : UInt8) (h : a ^^^ b = 0) : a = b := by
  have h1 : (a ^^^ b) ^^^ b = b := by rw [h, UInt8.zero_xor]
  rw [UInt8.xor_assoc, UInt8.xor_self, UInt8.xor_zero] at h1
  exact h1

/-! ### a linear map that goes with tw is the product with its value at 1 -/
theorem tw_xor (a b : UInt8) : tw (a ^^^ b) = tw a ^^^ tw b := by
  have key : ∀ x : UInt8, tw x = (x <<< 1) ^^^ (if x.toNat.testBit 7 = true then 27 else 0) := fun x => by
    have hx : x.toNat < 256 := x.toNat_lt
    unfold tw
    rw [Nat.testBit_eq_decide_div_mod_eq]
    by_cases h : 128 ≤ x.toNat
    · rw [if_pos h, if_pos (by rw [decide_eq_true_eq]; omega)]
    · rw [if_neg h, if_neg (by rw [decide_eq_true_eq]; omega), UInt8.xor_zero]
  rw [key, key, key, UInt8.toNat_xor, Nat.testBit_xor, xor_mid]
  congr 1
  · apply UInt8.toNat_inj.1
    rw [UInt8.toNat_xor, UInt8.toNat_shiftLeft, UInt8.toNat_shiftLeft, UInt8.toNat_shiftLeft, UInt8.toNat_xor]
    show ((a.toNat ^^^ b.toNat) <<< 1) % 2 ^ 8 = (a.toNat <<< 1 % 2 ^ 8) ^^^ (b.toNat <<< 1 % 2 ^ 8)
    rw [← Nat.xor_mod_two_pow, Nat.shiftLeft_xor_distrib]
  · cases a.toNat.testBit 7 <;> cases b.toNat.testBit 7 <;> decide
theorem tw_zero : tw 0 = 0 := by decide
theorem pw_xor (a b : UInt8) (n : Nat) : pw (a ^^^ b) n = pw a n ^^^ pw b n := by
  induction n with
  | zero => rfl
  | succ n ih => rw [pw, ih, tw_xor]; rfl
theorem pw_zero (n : Nat) : pw 0 n = 0 := by
  induction n with
  | zero => rfl
  | succ n ih => rw [pw, ih, tw_zero]
theorem acc_xor_l (a b c : UInt8) (n : Nat) : acc (a ^^^ b) c n = acc a c n ^^^ acc b c n := by
  induction n with
  | zero => show (0 : UInt8) = 0 ^^^ 0; decide
  | succ n ih =>
    rw [acc, acc, acc, ih, xor_mid, pw_xor]
    congr 1
    split
    · rfl
    · decide
theorem acc_xor_r (a b c : UInt8) (n : Nat) : acc a (b ^^^ c) n = acc a b n ^^^ acc a c n := by
  induction n with
  | zero => show (0 : UInt8) = 0 ^^^ 0; decide
  | succ n ih =>
    rw [acc, acc, acc, ih, xor_mid, UInt8.toNat_xor, Nat.testBit_xor]
    congr 1
    cases b.toNat.testBit n <;> cases c.toNat.testBit n <;> simp
theorem mul_xor_l (a b c : UInt8) : mul (a ^^^ b) c = mul a c ^^^ mul b c := acc_xor_l a b c 8
theorem mul_xor_r (a b c : UInt8) : mul a (b ^^^ c) = mul a b ^^^ mul a c := acc_xor_r a b c 8
theorem mul_zero_l (b : UInt8) : mul 0 b = 0 := by
  have : ∀ n, acc 0 b n = 0 := fun n => by
    induction n with
    | zero => rfl
    | succ n ih => rw [acc, ih, pw_zero]; split <;> decide
  exact this 8
theorem mul_zero_r (a : UInt8) : mul a 0 = 0 := by
  have : ∀ n, acc a 0 n = 0 := fun n => by
    induction n with
    | zero => rfl
    | succ n ih => rw [acc, ih, show (0 : UInt8).toNat = 0 from rfl, Nat.zero_testBit, if_neg (by decide)]; decide
  exact this 8

/-- linear, and goes with tw -/
structure Lin (X : UInt8 → UInt8) : Prop where
  add : ∀ a b, X (a ^^^ b) = X a ^^^ X b
  two : ∀ a, X (tw a) = tw (X a)
theorem Lin.zero {X : UInt8 → UInt8} (h : Lin X) : X 0 = 0 := by
  have h1 := h.add 0 0
  rw [show (0 : UInt8) ^^^ 0 = 0 from rfl, UInt8.xor_self] at h1
  exact h1
theorem Lin.pw {X : UInt8 → UInt8} (h : Lin X) (a : UInt8) (n : Nat) : X (pw a n) = pw (X a) n := by
  induction n with
  | zero => rfl
  | succ n ih => rw [Fld.pw, h.two, ih]; rfl
theorem Lin.acc {X : UInt8 → UInt8} (h : Lin X) (a b : UInt8) (n : Nat) : X (acc a b n) = acc (X a) b n := by
  induction n with
  | zero => exact h.zero
  | succ n ih =>
    rw [Fld.acc, h.add, ih, Fld.acc]
    congr 1
    split
    · exact h.pw a n
    · exact h.zero
theorem lin_id : Lin (fun a => a) := ⟨fun _ _ => rfl, fun _ => rfl⟩
theorem lin_tw : Lin tw := ⟨tw_xor, fun _ => rfl⟩
theorem lin_mul (b : UInt8) : Lin (fun a => mul a b) := ⟨fun a c => mul_xor_l a c b, fun a => (lin_tw.acc a b 8).symm⟩
/-- 1 is the one -/
theorem one_mul (b : UInt8) : mul 1 b = b := by
  have H : ∀ n : Nat, n < 256 → mul 1 (UInt8.ofNat n) = UInt8.ofNat n := by decide +kernel
  have := H b.toNat b.toNat_lt
  rwa [UInt8.ofNat_toNat] at this
theorem Lin.eq {X : UInt8 → UInt8} (h : Lin X) (a : UInt8) : X a = mul (X 1) a := by
  have h1 := h.acc 1 a 8
  rw [show Fld.acc 1 a 8 = a from one_mul a] at h1
  exact h1
theorem mul_comm (a b : UInt8) : mul a b = mul b a := by
  have h := (lin_mul b).eq a
  rw [one_mul] at h
  exact h
theorem mul_one (a : UInt8) : mul a 1 = a := by rw [mul_comm, one_mul]
theorem mul_assoc (a b c : UInt8) : mul (mul a b) c = mul a (mul b c) := by
  have hX : Lin (fun x => mul (mul x b) c) := ⟨fun x y => by rw [mul_xor_l, mul_xor_l], fun x => by
    show mul (mul (tw x) b) c = tw (mul (mul x b) c)
    rw [(lin_mul b).two x, (lin_mul c).two]⟩
  have h := hX.eq a
  rw [one_mul] at h
  rw [h, mul_comm]

/-! ### inverses -/
/-- the two variables of Inv after n rounds -/
def invS (a : UInt8) : Nat → UInt8 × UInt8
  | 0 => (a, 1)
  | n + 1 => (mul (invS a n).1 (invS a n).1, mul (invS a n).2 (mul (invS a n).1 (invS a n).1))
def inv (a : UInt8) : UInt8 := if a = 0 then 0 else (invS a 7).2
def invE (a : UInt8) : Int := if a = 0 then 1 else 0
theorem mul_inv (a : UInt8) (h : a ≠ 0) : mul a (inv a) = 1 := by
  have H : ∀ n : Nat, n < 256 → UInt8.ofNat n ≠ 0 → mul (UInt8.ofNat n) (inv (UInt8.ofNat n)) = 1 := by decide +kernel
  have := H a.toNat a.toNat_lt
  rw [UInt8.ofNat_toNat] at this
  exact this h
theorem inv_ne (a : UInt8) (h : a ≠ 0) : inv a ≠ 0 := fun e => by
  have := mul_inv a h
  rw [e, mul_zero_r] at this
  exact absurd this (by decide)
theorem mul_eq_zero (a b : UInt8) (h : mul a b = 0) : a = 0 ∨ b = 0 := by
  by_cases ha : a = 0
  · exact .inl ha
  · refine .inr ?_
    have h1 : mul (inv a) (mul a b) = b := by rw [← mul_assoc, mul_comm (inv a) a, mul_inv a ha, one_mul]
    rw [h, mul_zero_r] at h1
    exact h1.symm
theorem inv_unique (a b : UInt8) (ha : a ≠ 0) (h : mul a b = 1) : b = inv a := by
  have h1 : mul (inv a) (mul a b) = b := by rw [← mul_assoc, mul_comm (inv a) a, mul_inv a ha, one_mul]
  rw [h, mul_one] at h1
  exact h1.symm
theorem inv_inv (a : UInt8) (h : a ≠ 0) : inv (inv a) = a :=
  (inv_unique (inv a) a (inv_ne a h) (by rw [mul_comm, mul_inv a h])).symm

/-- the power k -/
def pwr (a : UInt8) : Nat → UInt8
  | 0 => 1
  | k + 1 => mul (pwr a k) a
/-- the sum of the first k terms of a polynomial's value -/
def evs (l : List UInt8) (a : UInt8) : Nat → UInt8
  | 0 => 0
  | k + 1 => evs l a k ^^^ mul (l.getD k 0) (pwr a k)

end Go.Proofs.Ytpijkjpefdlefaa.Fld
