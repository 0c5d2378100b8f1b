/- Plain decoding: numbers, lengths, values; it is the inverse of encoding. No condition; no program in sight. -/
import Derived.Test.YtnhodcjbmloeeaaCdT2
namespace Go.Proofs.Ytnhodcjbmloeeaa
open Go.RowKit
set_option linter.unusedVariables false

/-- a number's digits from place i on, so many at most -/
def Cd.dnF : Nat → Nat → Nat → List UInt8 → Option (Nat × List UInt8)
  | 0, _, _, _ => none
  | _ + 1, _, _, [] => none
  | f + 1, i, a, c :: r =>
    if (i = 0 ∨ c.toNat ≠ 0) ∧ (i < 9 ∨ c.toNat ≤ 1) then
      (if c.toNat < 128 then some (a + c.toNat % 128 * 128 ^ i, r) else Cd.dnF f (i + 1) (a + c.toNat % 128 * 128 ^ i) r)
    else none
/-- a number -/
def Cd.dn (b : List UInt8) : Option (Nat × List UInt8) := Cd.dnF 10 0 0 b
/-- a length -/
def Cd.dl (b : List UInt8) : Option (Nat × List UInt8) :=
  match Cd.dn b with
  | none => none
  | some (n, r) => if n ≤ r.length then some (n, r) else none
/-- so many values -/
def Cd.dvs (f : List UInt8 → Option (Cd.T × List UInt8)) : Nat → List UInt8 → Option (List Cd.T × List UInt8)
  | 0, b => some ([], b)
  | n + 1, b =>
    match f b with
    | none => none
    | some (t, r) =>
      match Cd.dvs f n r with
      | none => none
      | some (l, r) => some (t :: l, r)
/-- a value, with so many more lists at most around each other -/
def Cd.dv : Nat → List UInt8 → Option (Cd.T × List UInt8)
  | 0, b =>
    match b with
    | [] => none
    | c :: r =>
      if c.toNat = 1 then (match Cd.dn r with | none => none | some (u, r) => some (.mk 1 (Cd.sgn u) [] [], r))
      else if c.toNat = 2 then (match Cd.dl r with | none => none | some (n, r) => some (.mk 2 0 (r.take n) [], r.drop n))
      else none
  | g + 1, b =>
    match b with
    | [] => none
    | c :: r =>
      if c.toNat = 1 then (match Cd.dn r with | none => none | some (u, r) => some (.mk 1 (Cd.sgn u) [] [], r))
      else if c.toNat = 2 then (match Cd.dl r with | none => none | some (n, r) => some (.mk 2 0 (r.take n) [], r.drop n))
      else if c.toNat = 3 then (match Cd.dl r with | none => none | some (n, r) => match Cd.dvs (Cd.dv g) n r with | none => none | some (l, r) => some (.mk 3 0 [] l, r))
      else none
mutual
/-- numbers of 64 bits, lengths of 63 -/
def Cd.T.rng : Cd.T → Prop
  | .mk k n s l => (-9223372036854775808 ≤ n ∧ n ≤ 9223372036854775807) ∧ s.length ≤ maxLen ∧ l.length ≤ maxLen ∧ Cd.T.rngs l
def Cd.T.rngs : List Cd.T → Prop
  | [] => True
  | x :: l => x.rng ∧ Cd.T.rngs l
end
theorem Cd.pow9 : (128 : Nat) ^ 9 = 9223372036854775808 := by decide
theorem Cd.dnF_num : ∀ (f i a u : Nat) (r : List UInt8), i + f = 10 → (0 < i → 0 < u) → u * 128 ^ i < 18446744073709551616 → u < 18446744073709551616 → Cd.dnF f i a (Cd.num u ++ r) = some (a + u * 128 ^ i, r)
  | 0, i, a, u, r, hi, hz, hb, hu => by
    obtain rfl : i = 10 := by omega
    have h := hz (by omega)
    have : (128 : Nat) ^ 10 = 1180591620717411303424 := by decide
    rw [this] at hb
    omega
  | f + 1, i, a, u, r, hi, hz, hb, hu => by
    by_cases hlt : u < 128
    · rw [Cd.num_lo u hlt]
      have e : (UInt8.ofNat u).toNat = u := by rw [UInt8.toNat_ofNat']; omega
      show (if _ then _ else _) = _
      rw [e, if_pos ⟨by omega, by
        by_cases h9 : i < 9
        · exact .inl h9
        · obtain rfl : i = 9 := by omega
          rw [Cd.pow9] at hb
          exact .inr (by omega)⟩, if_pos hlt, Nat.mod_eq_of_lt hlt]
      rfl
    · rw [Cd.num_hi u hlt hu]
      have e : (UInt8.ofNat (u % 128 + 128)).toNat = u % 128 + 128 := by rw [UInt8.toNat_ofNat']; omega
      have h9 : i < 9 := by
        by_cases h9 : i < 9
        · exact h9
        · have h10 : 128 ^ 9 ≤ 128 ^ i := Nat.pow_le_pow_right (by omega) (by omega)
          have h11 : 128 * 128 ^ i ≤ u * 128 ^ i := Nat.mul_le_mul_right _ (by omega)
          rw [Cd.pow9] at h10
          omega
      show (if _ then _ else _) = _
      rw [e, if_pos ⟨.inr (by omega), .inl h9⟩, if_neg (by omega)]
      have hm : u / 128 * 128 ^ (i + 1) + u % 128 * 128 ^ i = u * 128 ^ i := by
        rw [Nat.pow_succ, Nat.mul_comm (128 ^ i) 128, ← Nat.mul_assoc, ← Nat.add_mul]
        congr 1
        omega
      rw [show (u % 128 + 128) % 128 = u % 128 by omega]
      have ih := Cd.dnF_num f (i + 1) (a + u % 128 * 128 ^ i) (u / 128) r (by omega) (by omega) (by omega) (by omega)
      refine ih.trans ?_
      rw [show a + u % 128 * 128 ^ i + u / 128 * 128 ^ (i + 1) = a + u * 128 ^ i by omega]
theorem Cd.dn_num (u : Nat) (r : List UInt8) (hu : u < 18446744073709551616) : Cd.dn (Cd.num u ++ r) = some (u, r) := by
  have h := Cd.dnF_num 10 0 0 u r (by omega) (by omega) (by simpa using hu) hu
  rw [Cd.dn, h]
  simp
theorem Cd.dnF_some : ∀ (f i a : Nat) (b : List UInt8) (v : Nat) (r : List UInt8), i + f = 10 → Cd.dnF f i a b = some (v, r) → ∃ u, v = a + u * 128 ^ i ∧ b = Cd.num u ++ r ∧ (0 < i → 0 < u) ∧ u * 128 ^ i < 18446744073709551616
  | 0, i, a, b, v, r, hi, h => by cases h
  | f + 1, i, a, [], v, r, hi, h => by cases h
  | f + 1, i, a, c :: b, v, r, hi, h => by
    have h : (if (i = 0 ∨ c.toNat ≠ 0) ∧ (i < 9 ∨ c.toNat ≤ 1) then (if c.toNat < 128 then some (a + c.toNat % 128 * 128 ^ i, b) else Cd.dnF f (i + 1) (a + c.toNat % 128 * 128 ^ i) b) else none) = some (v, r) := h
    have hc := c.toNat_lt
    split at h
    · rename_i hcond
      have hp9 : 128 ^ i ≤ 128 ^ 9 := Nat.pow_le_pow_right (by omega) (by omega)
      split at h
      · rename_i hlt
        injection h with h
        injection h with h1 h2
        subst h1 h2
        refine ⟨c.toNat, by rw [Nat.mod_eq_of_lt hlt], ?_, by omega, ?_⟩
        · rw [Cd.num_lo _ hlt, UInt8.ofNat_toNat]
          rfl
        · by_cases h9 : i < 9
          · have h8 : 128 ^ i ≤ 128 ^ 8 := Nat.pow_le_pow_right (by omega) (by omega)
            have e8 : (128 : Nat) ^ 8 = 72057594037927936 := by decide
            have h7 : c.toNat * 128 ^ i ≤ 127 * 128 ^ i := Nat.mul_le_mul_right _ (by omega)
            omega
          · have h7 : c.toNat * 128 ^ i ≤ 1 * 128 ^ i := Nat.mul_le_mul_right _ (by omega)
            rw [Cd.pow9] at hp9
            omega
      · rename_i hge
        obtain ⟨u, rfl, rfl, hu0, hub⟩ := Cd.dnF_some f (i + 1) _ b v r (by omega) h
        have hu0 := hu0 (by omega)
        have hp : 1 ≤ 128 ^ i := Nat.one_le_pow _ _ (by omega)
        have hm : (c.toNat % 128 + 128 * u) * 128 ^ i = c.toNat % 128 * 128 ^ i + u * 128 ^ (i + 1) := by
          rw [Nat.add_mul, Nat.pow_succ, Nat.mul_comm (128 ^ i) 128, ← Nat.mul_assoc, Nat.mul_comm 128 u]
        have hlast : c.toNat % 128 * 128 ^ i + u * 128 ^ (i + 1) < 18446744073709551616 := by
          have e1 : u * 128 ^ (i + 1) = u * 128 * 128 ^ i := by rw [Nat.pow_succ, Nat.mul_comm (128 ^ i) 128, Nat.mul_assoc]
          by_cases h8 : i ≤ 8
          · -- the whole lies below 2^64, which is a multiple of 128^(i+1)
            obtain ⟨q, hq⟩ : ∃ q, 18446744073709551616 = q * 128 ^ (i + 1) := by
              refine ⟨2 * 128 ^ (8 - i), ?_⟩
              rw [Nat.mul_assoc, ← Nat.pow_add, show 8 - i + (i + 1) = 9 by omega, Cd.pow9]
            have hpp : 0 < 128 ^ (i + 1) := Nat.pow_pos (by omega)
            have huq : u < q := by
              rw [hq] at hub
              exact Nat.lt_of_mul_lt_mul_right hub
            have h1 : (u + 1) * 128 ^ (i + 1) ≤ q * 128 ^ (i + 1) := Nat.mul_le_mul_right _ huq
            have h2 : c.toNat % 128 * 128 ^ i < 128 ^ (i + 1) := by
              rw [Nat.pow_succ, Nat.mul_comm (128 ^ i) 128]
              exact Nat.mul_lt_mul_of_pos_right (by omega) hp
            rw [Nat.add_mul, Nat.one_mul] at h1
            omega
          · exfalso
            have : c.toNat ≤ 1 := by omega
            omega
        refine ⟨c.toNat % 128 + 128 * u, by rw [hm]; omega, ?_, by omega, by rw [hm]; exact hlast⟩
        have hge2 : ¬ (c.toNat % 128 + 128 * u < 128) := by omega
        have h64 : c.toNat % 128 + 128 * u < 18446744073709551616 := by
          have h5 : (c.toNat % 128 + 128 * u) * 1 ≤ (c.toNat % 128 + 128 * u) * 128 ^ i := Nat.mul_le_mul_left _ hp
          rw [hm] at h5
          omega
        rw [Cd.num_hi _ hge2 h64, show (c.toNat % 128 + 128 * u) % 128 + 128 = c.toNat by omega, show (c.toNat % 128 + 128 * u) / 128 = u by omega, UInt8.ofNat_toNat]
        rfl
    · cases h
theorem Cd.dn_some {b : List UInt8} {u : Nat} {r : List UInt8} (h : Cd.dn b = some (u, r)) : b = Cd.num u ++ r ∧ u < 18446744073709551616 := by
  obtain ⟨v, e, hb, _, hv⟩ := Cd.dnF_some 10 0 0 b u r (by omega) h
  simp at e hv
  subst e
  exact ⟨hb, hv⟩
theorem Cd.dl_some {b : List UInt8} {n : Nat} {r : List UInt8} (h : Cd.dl b = some (n, r)) : b = Cd.num n ++ r ∧ n ≤ r.length ∧ n < 18446744073709551616 := by
  unfold Cd.dl at h
  cases hd : Cd.dn b with
  | none => rw [hd] at h; cases h
  | some p =>
    obtain ⟨m, s⟩ := p
    rw [hd] at h
    have h : (if m ≤ s.length then some (m, s) else none) = some (n, r) := h
    split at h
    · injection h with h
      injection h with h1 h2
      subst h1 h2
      exact ⟨(Cd.dn_some hd).1, ‹_›, (Cd.dn_some hd).2⟩
    · cases h
theorem Cd.dl_num (n : Nat) (r : List UInt8) (hn : n ≤ r.length) (hu : n < 18446744073709551616) : Cd.dl (Cd.num n ++ r) = some (n, r) := by
  unfold Cd.dl
  rw [Cd.dn_num n r hu]
  exact if_pos hn
end Go.Proofs.Ytnhodcjbmloeeaa
