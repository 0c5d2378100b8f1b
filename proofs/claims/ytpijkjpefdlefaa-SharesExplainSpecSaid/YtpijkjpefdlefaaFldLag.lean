/- Plain mathematics of the reference's interpolation (Lagrange's form): it is the polynomial through the points. No condition; no program in sight. -/
import Derived.Test.YtpijkjpefdlefaaFldStep
namespace Go.Proofs.Ytpijkjpefdlefaa.Fld

/-- a quotient -/
def ovr (a b : UInt8) : UInt8 := mul a (inv b)
/-- the reference's n after k rounds -/
def thn (xs ys : List UInt8) (t : UInt8) (i : Nat) : Nat → UInt8
  | 0 => ys.getD i 0
  | k + 1 => if k = i then thn xs ys t i k else mul (thn xs ys t i k) (ovr (t ^^^ xs.getD k 0) (xs.getD i 0 ^^^ xs.getD k 0))
/-- its y after i rounds -/
def thy (xs ys : List UInt8) (t : UInt8) : Nat → UInt8
  | 0 => 0
  | i + 1 => thy xs ys t i ^^^ thn xs ys t i xs.length
/-- the product of a polynomial and the one with the coefficients a and b -/
def tim (l : List UInt8) (a b : UInt8) : List UInt8 := List.zipWith (· ^^^ ·) (l.map (mul a) ++ [0]) (0 :: l.map (mul b))
/-- the reference's one after k rounds -/
def one (xs ys : List UInt8) (i : Nat) : Nat → List UInt8
  | 0 => [ys.getD i 0]
  | k + 1 => if k = i then one xs ys i k else tim (one xs ys i k) (mul (ovr 1 (xs.getD i 0 ^^^ xs.getD k 0)) (xs.getD k 0)) (ovr 1 (xs.getD i 0 ^^^ xs.getD k 0))
/-- its l after i rounds -/
def lag (xs ys : List UInt8) : Nat → List UInt8
  | 0 => List.replicate xs.length 0
  | i + 1 => List.zipWith (· ^^^ ·) (lag xs ys i) (one xs ys i xs.length)

theorem tim_len (l : List UInt8) (a b : UInt8) : (tim l a b).length = l.length + 1 := by simp [tim]
theorem ev_cons0 (l : List UInt8) (t : UInt8) : ev (0 :: l) t = mul t (ev l t) := by rw [ev, UInt8.zero_xor]
theorem ev_tim (l : List UInt8) (a b t : UInt8) : ev (tim l a b) t = mul (a ^^^ mul t b) (ev l t) := by
  rw [tim, ev_zip _ _ _ (by simp), ev_snoc0, ev_map, ev_cons0, ev_map, mul_xor_l, mul_assoc]
theorem one_len (xs ys : List UInt8) (i : Nat) : ∀ k, (one xs ys i k).length = if k ≤ i then k + 1 else k
  | 0 => by simp [one]
  | k + 1 => by
    have ih := one_len xs ys i k
    unfold one
    by_cases h : k = i
    · rw [if_pos h, ih, if_pos (by omega), if_neg (by omega)]
    · rw [if_neg h, tim_len, ih]
      by_cases h2 : k ≤ i
      · rw [if_pos h2, if_pos (by omega)]
      · rw [if_neg h2, if_neg (by omega)]
theorem one_len_all (xs ys : List UInt8) (i : Nat) (hi : i < xs.length) : (one xs ys i xs.length).length = xs.length := by rw [one_len, if_neg (by omega)]
theorem lag_len (xs ys : List UInt8) : ∀ i, i ≤ xs.length → (lag xs ys i).length = xs.length
  | 0, _ => by simp [lag]
  | i + 1, h => by rw [lag, List.length_zipWith, lag_len xs ys i (by omega), one_len_all xs ys i (by omega), Nat.min_self]
theorem ev_one (xs ys : List UInt8) (t : UInt8) (i : Nat) : ∀ k, ev (one xs ys i k) t = thn xs ys t i k
  | 0 => by show ys.getD i 0 ^^^ mul t 0 = ys.getD i 0; rw [mul_zero_r, UInt8.xor_zero]
  | k + 1 => by
    have ih := ev_one xs ys t i k
    unfold one thn
    by_cases h : k = i
    · rw [if_pos h, if_pos h, ih]
    · rw [if_neg h, if_neg h, ev_tim, ih, mul_comm _ (thn xs ys t i k)]
      congr 1
      rw [ovr, one_mul, ovr, mul_comm (inv _) (xs.getD k 0), ← mul_xor_l, UInt8.xor_comm]
theorem ev_rep (n : Nat) (t : UInt8) : ev (List.replicate n 0) t = 0 := by
  induction n with
  | zero => rfl
  | succ n ih => rw [List.replicate_succ, ev_cons0, ih, mul_zero_r]
theorem ev_lag (xs ys : List UInt8) (t : UInt8) : ∀ i, i ≤ xs.length → ev (lag xs ys i) t = thy xs ys t i
  | 0, _ => ev_rep _ _
  | i + 1, h => by rw [lag, ev_zip _ _ _ (by rw [lag_len xs ys i (by omega), one_len_all xs ys i (by omega)]), ev_lag xs ys t i (by omega), ev_one]; rfl
theorem thn_other (xs ys : List UInt8) (i j : Nat) (hij : j ≠ i) : ∀ k, j < k → thn xs ys (xs.getD j 0) i k = 0
  | 0, h => absurd h (by omega)
  | k + 1, h => by
    unfold thn
    by_cases hk : k = j
    · subst hk
      rw [if_neg hij, UInt8.xor_self, ovr, mul_zero_l, mul_zero_r]
    · have ih := thn_other xs ys i j hij k (by omega)
      rw [ih, mul_zero_l, ite_self]
theorem thn_same (xs ys : List UInt8) (hn : xs.Nodup) (i : Nat) (hi : i < xs.length) : ∀ k, k ≤ xs.length → thn xs ys (xs.getD i 0) i k = ys.getD i 0
  | 0, _ => rfl
  | k + 1, h => by
    have ih := thn_same xs ys hn i hi k (by omega)
    unfold thn
    by_cases hk : k = i
    · rw [if_pos hk, ih]
    · have hne : xs.getD i 0 ^^^ xs.getD k 0 ≠ 0 := by
        apply xor_ne
        rcases Nat.lt_or_gt_of_ne hk with h2 | h2
        · exact (getD_ne_of_nodup xs hn i k hi h2).symm
        · exact getD_ne_of_nodup xs hn k i (by omega) h2
      rw [if_neg hk, ih, ovr, mul_inv _ hne, mul_one]
theorem thy_at (xs ys : List UInt8) (hn : xs.Nodup) (j : Nat) (hj : j < xs.length) : ∀ i, i ≤ xs.length → thy xs ys (xs.getD j 0) i = if j < i then ys.getD j 0 else 0
  | 0, _ => by rw [if_neg (by omega)]; rfl
  | i + 1, h => by
    rw [thy, thy_at xs ys hn j hj i (by omega)]
    by_cases h1 : j = i
    · subst h1
      rw [if_neg (by omega), if_pos (by omega), thn_same xs ys hn j hj _ (Nat.le_refl _), UInt8.zero_xor]
    · rw [thn_other xs ys i j h1 _ hj, UInt8.xor_zero]
      by_cases h2 : j < i
      · rw [if_pos h2, if_pos (by omega)]
      · rw [if_neg h2, if_neg (by omega)]
/-- the reference's coefficients are the program's -/
theorem lag_eq (xs ys : List UInt8) (hn : xs.Nodup) : lag xs ys xs.length = coefs xs ys := by
  have h1 := coefs_unique xs ys (lag xs ys xs.length) hn (by rw [lag_len xs ys _ (Nat.le_refl _)]; exact Nat.le_refl _) (fun j hj => by
    rw [ev_lag xs ys _ _ (Nat.le_refl _), thy_at xs ys hn j hj _ (Nat.le_refl _), if_pos hj])
  rw [lag_len xs ys _ (Nat.le_refl _), Nat.sub_self, List.replicate_zero, List.append_nil] at h1
  exact h1.symm
/-- the reference's value is the program's -/
theorem thy_eq (xs ys : List UInt8) (hn : xs.Nodup) (t : UInt8) : thy xs ys t xs.length = ev (coefs xs ys) t := by
  rw [← lag_eq xs ys hn, ev_lag xs ys t _ (Nat.le_refl _)]
end Go.Proofs.Ytpijkjpefdlefaa.Fld
