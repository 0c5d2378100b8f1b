import Derived.Test.YtideglpjgplpnaaDoorMFldPlain
/- Plain facts on the lists that the reference's times and Coefficients write element by element. No condition; no program in sight. -/
namespace Go.Proofs.YtideglpjgplpnaaDoor.Fld

theorem tim_getD (l : List UInt8) (a b : UInt8) (j : Nat) : (tim l a b).getD j 0 = mul a (l.getD j 0) ^^^ (if j = 0 then 0 else mul b (l.getD (j - 1) 0)) := by
  rw [tim, getD_zip _ (by decide) _ _ (by simp), getD_snoc0, getD_map, getD_cons0, getD_map]
/-- the list after k rounds -/
def timp (l : List UInt8) (a b : UInt8) (k : Nat) : List UInt8 := (List.range (l.length + 1)).map fun j => (tim (l.take k) a b).getD j 0
theorem timp_len (l : List UInt8) (a b : UInt8) (k : Nat) : (timp l a b k).length = l.length + 1 := by simp [timp]
theorem timp_getD (l : List UInt8) (a b : UInt8) (k j : Nat) : (timp l a b k).getD j 0 = (tim (l.take k) a b).getD j 0 := by
  by_cases h : j < l.length + 1
  · rw [timp, List.getD_eq_getElem?_getD, List.getElem?_map, List.getElem?_range h]
    rfl
  · rw [getD_long _ _ (by rw [timp_len]; omega), getD_long _ _ (by rw [tim_len]; simp; omega)]
theorem timp_val (l : List UInt8) (a b : UInt8) (k j : Nat) : (timp l a b k).getD j 0 = mul a (if j < k then l.getD j 0 else 0) ^^^ (if j = 0 then 0 else mul b (if j - 1 < k then l.getD (j - 1) 0 else 0)) := by
  rw [timp_getD, tim_getD, getD_take, getD_take]
theorem timp_zero (l : List UInt8) (a b : UInt8) : timp l a b 0 = List.replicate (l.length + 1) 0 := by
  refine ext_getD (by simp [timp_len]) fun j => ?_
  have e : (List.replicate (l.length + 1) (0 : UInt8)).getD j 0 = 0 := by
    rw [List.getD_eq_getElem?_getD, List.getElem?_replicate]
    split <;> rfl
  rw [timp_val, e, if_neg (Nat.not_lt_zero _), if_neg (Nat.not_lt_zero _), mul_zero_r, mul_zero_r, ite_self, xor_00]
theorem timp_all (l : List UInt8) (a b : UInt8) : timp l a b l.length = tim l a b := by
  refine ext_getD (by simp [timp_len, tim_len]) fun j => ?_
  rw [timp_getD, List.take_length]
theorem timp_next (l : List UInt8) (a b : UInt8) (k : Nat) : (timp l a b k).getD (k + 1) 0 = 0 := by
  rw [timp_val, if_neg (by omega), if_neg (by omega), if_neg (by omega), mul_zero_r, mul_zero_r, xor_00]
theorem timp_set (l : List UInt8) (a b : UInt8) (k : Nat) (hk : k < l.length) :
    ((timp l a b k).set k ((timp l a b k).getD k 0 ^^^ mul (l.getD k 0) a)).set (k + 1) ((timp l a b k).getD (k + 1) 0 ^^^ mul (l.getD k 0) b) = timp l a b (k + 1) := by
  refine ext_getD (by simp [timp_len]) fun j => ?_
  rw [getD_set _ _ _ _ (by rw [List.length_set, timp_len]; omega), getD_set _ _ _ _ (by rw [timp_len]; omega), timp_next l a b k, timp_val l a b (k + 1)]
  by_cases h1 : j = k + 1
  · subst h1
    rw [if_pos rfl, if_neg (by omega), if_neg (by omega), if_pos (by omega), mul_zero_r, Nat.add_sub_cancel, mul_comm b]
  · rw [if_neg h1]
    by_cases h2 : j = k
    · subst h2
      rw [if_pos rfl, timp_val, if_neg (Nat.lt_irrefl j), if_pos (Nat.lt_succ_self j), mul_zero_r, UInt8.zero_xor, UInt8.xor_comm, mul_comm a]
      by_cases h0 : j = 0
      · rw [if_pos h0, if_pos h0]
      · rw [if_neg h0, if_neg h0, if_pos (show j - 1 < j by omega), if_pos (show j - 1 < j + 1 by omega)]
    · rw [if_neg h2, timp_val]
      have e1 : (j < k) = (j < k + 1) := propext ⟨fun _ => by omega, fun _ => by omega⟩
      by_cases h0 : j = 0
      · rw [if_pos h0, if_pos h0]
        simp only [e1]
      · have e2 : (j - 1 < k) = (j - 1 < k + 1) := propext ⟨fun _ => by omega, fun _ => by omega⟩
        rw [if_neg h0, if_neg h0]
        simp only [e1, e2]
/-- the list while the i-th polynomial is being added -/
def lagp (xs ys : List UInt8) (i j : Nat) : List UInt8 := part (lag xs ys (i + 1)) (lag xs ys i) j
theorem lagp_zero (xs ys : List UInt8) (i : Nat) : lagp xs ys i 0 = lag xs ys i := part_zero _ _
theorem lagp_all (xs ys : List UInt8) (i : Nat) (hi : i < xs.length) : lagp xs ys i xs.length = lag xs ys (i + 1) := by
  have h := part_all (lag xs ys (i + 1)) (lag xs ys i) (by rw [lag_len xs ys _ (by omega), lag_len xs ys _ (by omega)])
  rw [lag_len xs ys i (by omega)] at h
  exact h
theorem lagp_len (xs ys : List UInt8) (i j : Nat) (hi : i < xs.length) : (lagp xs ys i j).length = xs.length := by
  rw [lagp, part_len _ _ _ (by rw [lag_len xs ys _ (by omega), lag_len xs ys _ (by omega)]), lag_len xs ys i (by omega)]
theorem lagp_set (xs ys : List UInt8) (i j : Nat) (hi : i < xs.length) (hj : j < xs.length) : (lagp xs ys i j).set j ((lagp xs ys i j).getD j 0 ^^^ (one xs ys i xs.length).getD j 0) = lagp xs ys i (j + 1) := by
  have hl : (lag xs ys (i + 1)).length = (lag xs ys i).length := by rw [lag_len xs ys _ (by omega), lag_len xs ys _ (by omega)]
  have h := part_set (lag xs ys (i + 1)) (lag xs ys i) j hl (by rw [lag_len xs ys i (by omega)]; exact hj)
  have e : (lagp xs ys i j).getD j 0 = (lag xs ys i).getD j 0 := by
    rw [lagp, part_getD _ _ _ _ hl (by rw [lag_len xs ys i (by omega)]; omega), if_neg (Nat.lt_irrefl _)]
  have e2 : (lag xs ys (i + 1)).getD j 0 = (lag xs ys i).getD j 0 ^^^ (one xs ys i xs.length).getD j 0 := by
    rw [lag, getD_zip _ (by decide) _ _ (by rw [lag_len xs ys i (by omega), one_len_all xs ys i hi])]
  rw [e, ← e2]
  exact h
end Go.Proofs.YtideglpjgplpnaaDoor.Fld
