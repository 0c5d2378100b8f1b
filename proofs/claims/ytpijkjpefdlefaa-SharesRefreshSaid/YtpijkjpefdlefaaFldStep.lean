/- Plain facts on the lists that field.Coefficients writes element by element. No condition; no program in sight. -/
import Derived.Test.YtpijkjpefdlefaaFldPoly
namespace Go.Proofs.Ytpijkjpefdlefaa.Fld

theorem ext_getD {a b : List UInt8} (hl : a.length = b.length) (h : ∀ j, a.getD j 0 = b.getD j 0) : a = b := by
  apply List.ext_getElem hl
  intro i h1 h2
  have := h i
  rw [List.getD_eq_getElem?_getD, List.getD_eq_getElem?_getD, List.getElem?_eq_getElem h1, List.getElem?_eq_getElem h2] at this
  exact this
theorem getD_set (a : List UInt8) (i j : Nat) (v : UInt8) (hi : i < a.length) : (a.set i v).getD j 0 = if j = i then v else a.getD j 0 := by
  rw [List.getD_eq_getElem?_getD, List.getD_eq_getElem?_getD, List.getElem?_set]
  by_cases h : j = i
  · subst h; simp [hi]
  · rw [if_neg h, if_neg (fun e => h e.symm)]
theorem getD_take (a : List UInt8) (k j : Nat) : (a.take k).getD j 0 = if j < k then a.getD j 0 else 0 := by
  rw [List.getD_eq_getElem?_getD, List.getD_eq_getElem?_getD, List.getElem?_take]
  by_cases h : j < k <;> simp [h]
theorem getD_long (a : List UInt8) (j : Nat) (h : a.length ≤ j) : a.getD j 0 = 0 := by
  rw [List.getD_eq_getElem?_getD, List.getElem?_eq_none h]
  rfl
theorem getD_zip (f : UInt8 → UInt8 → UInt8) (h0 : f 0 0 = 0) (a b : List UInt8) (hl : a.length = b.length) (j : Nat) : (List.zipWith f a b).getD j 0 = f (a.getD j 0) (b.getD j 0) := by
  by_cases h : j < a.length
  · rw [List.getD_eq_getElem?_getD, List.getD_eq_getElem?_getD, List.getD_eq_getElem?_getD, List.getElem?_zipWith, List.getElem?_eq_getElem h, List.getElem?_eq_getElem (by omega)]
    rfl
  · rw [getD_long _ _ (by simp; omega), getD_long a j (by omega), getD_long b j (by omega), h0]
theorem getD_map (x : UInt8) (a : List UInt8) (j : Nat) : (a.map (mul x)).getD j 0 = mul x (a.getD j 0) := by
  rw [List.getD_eq_getElem?_getD, List.getD_eq_getElem?_getD, List.getElem?_map]
  cases a[j]? with
  | none => exact (mul_zero_r x).symm
  | some v => rfl
theorem getD_snoc0 (a : List UInt8) (j : Nat) : (a ++ [0]).getD j 0 = a.getD j 0 := by
  rw [List.getD_eq_getElem?_getD, List.getD_eq_getElem?_getD, List.getElem?_append]
  by_cases h : j < a.length
  · rw [if_pos h]
  · rw [if_neg h, List.getElem?_eq_none (l := a) (by omega)]
    cases hj : j - a.length with
    | zero => rfl
    | succ n => rfl
theorem getD_cons0 (a : List UInt8) (j : Nat) : ((0 : UInt8) :: a).getD j 0 = if j = 0 then 0 else a.getD (j - 1) 0 := by
  cases j with
  | zero => rfl
  | succ n => rfl

/-! ### the sum with a multiple -/
/-- the first j elements of a, then those of b -/
def part (a b : List UInt8) (j : Nat) : List UInt8 := a.take j ++ b.drop j
theorem part_zero (a b : List UInt8) : part a b 0 = b := by simp [part]
theorem part_all (a b : List UInt8) (hl : a.length = b.length) : part a b b.length = a := by simp [part, ← hl]
theorem part_len (a b : List UInt8) (j : Nat) (hl : a.length = b.length) : (part a b j).length = b.length := by simp [part]; omega
theorem part_getD (a b : List UInt8) (j i : Nat) (hl : a.length = b.length) (hj : j ≤ b.length) : (part a b j).getD i 0 = if i < j then a.getD i 0 else b.getD i 0 := by
  rw [part, List.getD_eq_getElem?_getD, List.getD_eq_getElem?_getD, List.getD_eq_getElem?_getD, List.getElem?_append]
  have e : (a.take j).length = j := by simp; omega
  rw [e]
  by_cases h : i < j
  · rw [if_pos h, if_pos h, List.getElem?_take, if_pos h]
  · rw [if_neg h, if_neg h, List.getElem?_drop, show j + (i - j) = i by omega]
theorem part_set (a b : List UInt8) (j : Nat) (hl : a.length = b.length) (hj : j < b.length) : (part a b j).set j (a.getD j 0) = part a b (j + 1) := by
  refine ext_getD (by rw [List.length_set, part_len _ _ _ hl, part_len _ _ _ hl]) fun i => ?_
  rw [getD_set _ _ _ _ (by rw [part_len _ _ _ hl]; exact hj), part_getD _ _ _ _ hl (by omega), part_getD _ _ _ _ hl (by omega)]
  by_cases h : i = j
  · subst h; rw [if_pos rfl, if_pos (by omega)]
  · rw [if_neg h]
    by_cases h2 : i < j
    · rw [if_pos h2, if_pos (by omega)]
    · rw [if_neg h2, if_neg (by omega)]
/-- the list while the multiple is being added -/
def lpart (c : UInt8) (l z : List UInt8) (j : Nat) : List UInt8 := part (lnew c l z) (l ++ [0]) j
theorem lnew_len (c : UInt8) (l z : List UInt8) (h : z.length = l.length + 1) : (lnew c l z).length = l.length + 1 := by simp [lnew, h]
theorem lnew_getD (c : UInt8) (l z : List UInt8) (h : z.length = l.length + 1) (j : Nat) : (lnew c l z).getD j 0 = l.getD j 0 ^^^ mul c (z.getD j 0) := by
  rw [lnew, getD_zip _ (by decide) _ _ (by simp [h]), getD_snoc0, getD_map]
theorem lpart_zero (c : UInt8) (l z : List UInt8) : lpart c l z 0 = l ++ [0] := part_zero _ _
theorem lpart_all (c : UInt8) (l z : List UInt8) (h : z.length = l.length + 1) : lpart c l z (l.length + 1) = lnew c l z := by
  have := part_all (lnew c l z) (l ++ [0]) (by rw [lnew_len _ _ _ h]; simp)
  rw [List.length_append] at this
  exact this
theorem lpart_len (c : UInt8) (l z : List UInt8) (h : z.length = l.length + 1) (j : Nat) : (lpart c l z j).length = l.length + 1 := by
  rw [lpart, part_len _ _ _ (by rw [lnew_len _ _ _ h]; simp)]; simp
theorem lpart_getD (c : UInt8) (l z : List UInt8) (h : z.length = l.length + 1) (j : Nat) (hj : j < l.length + 1) : (lpart c l z j).getD j 0 = l.getD j 0 := by
  rw [lpart, part_getD _ _ _ _ (by rw [lnew_len _ _ _ h]; simp) (by simp; omega), if_neg (by omega), getD_snoc0]
theorem lpart_set (c : UInt8) (l z : List UInt8) (h : z.length = l.length + 1) (j : Nat) (hj : j < l.length + 1) : (lpart c l z j).set j (l.getD j 0 ^^^ mul c (z.getD j 0)) = lpart c l z (j + 1) := by
  have := part_set (lnew c l z) (l ++ [0]) j (by rw [lnew_len _ _ _ h]; simp) (by simp; omega)
  rw [lnew_getD _ _ _ h] at this
  exact this

/-! ### the product with (t + x) -/
theorem nxt_getD (x : UInt8) (z : List UInt8) (j : Nat) : (nxt x z).getD j 0 = mul x (z.getD j 0) ^^^ (if j = 0 then 0 else z.getD (j - 1) 0) := by
  rw [nxt, getD_zip _ (by decide) _ _ (by simp), getD_snoc0, getD_map, getD_cons0]
/-- the list after k rounds -/
def nxtp (x : UInt8) (z : List UInt8) (k : Nat) : List UInt8 := (List.range (z.length + 1)).map fun j => (nxt x (z.take k)).getD j 0
theorem nxtp_len (x : UInt8) (z : List UInt8) (k : Nat) : (nxtp x z k).length = z.length + 1 := by simp [nxtp]
theorem nxtp_getD (x : UInt8) (z : List UInt8) (k j : Nat) : (nxtp x z k).getD j 0 = (nxt x (z.take k)).getD j 0 := by
  by_cases h : j < z.length + 1
  · rw [nxtp, List.getD_eq_getElem?_getD, List.getElem?_map, List.getElem?_range h]
    rfl
  · rw [getD_long _ _ (by rw [nxtp_len]; omega), getD_long _ _ (by rw [nxt_len]; simp; omega)]
theorem nxtp_val (x : UInt8) (z : List UInt8) (k j : Nat) : (nxtp x z k).getD j 0 = mul x (if j < k then z.getD j 0 else 0) ^^^ (if j = 0 then 0 else if j - 1 < k then z.getD (j - 1) 0 else 0) := by
  rw [nxtp_getD, nxt_getD, getD_take, getD_take]
theorem xor_00 : (0 : UInt8) ^^^ 0 = 0 := by decide
theorem nxtp_zero (x : UInt8) (z : List UInt8) : nxtp x z 0 = List.replicate (z.length + 1) 0 := by
  refine ext_getD (by simp [nxtp_len]) fun j => ?_
  have e : (List.replicate (z.length + 1) (0 : UInt8)).getD j 0 = 0 := by
    rw [List.getD_eq_getElem?_getD, List.getElem?_replicate]
    split <;> rfl
  rw [nxtp_val, e, if_neg (Nat.not_lt_zero _), if_neg (Nat.not_lt_zero _), mul_zero_r, ite_self, xor_00]
theorem nxtp_all (x : UInt8) (z : List UInt8) : nxtp x z z.length = nxt x z := by
  refine ext_getD (by simp [nxtp_len, nxt_len]) fun j => ?_
  rw [nxtp_getD, List.take_length]
theorem nxtp_next (x : UInt8) (z : List UInt8) (k : Nat) : (nxtp x z k).getD (k + 1) 0 = 0 := by
  rw [nxtp_val, if_neg (by omega), if_neg (by omega), if_neg (by omega), mul_zero_r, xor_00]
theorem nxtp_set (x : UInt8) (z : List UInt8) (k : Nat) (hk : k < z.length) :
    ((nxtp x z k).set k ((nxtp x z k).getD k 0 ^^^ mul (z.getD k 0) x)).set (k + 1) ((nxtp x z k).getD (k + 1) 0 ^^^ z.getD k 0) = nxtp x z (k + 1) := by
  refine ext_getD (by simp [nxtp_len]) fun j => ?_
  rw [getD_set _ _ _ _ (by rw [List.length_set, nxtp_len]; omega), getD_set _ _ _ _ (by rw [nxtp_len]; omega), nxtp_next x z k, nxtp_val x z (k + 1)]
  by_cases h1 : j = k + 1
  · subst h1
    rw [if_pos rfl, if_neg (by omega), if_neg (by omega), if_pos (by omega), mul_zero_r, Nat.add_sub_cancel]
  · rw [if_neg h1]
    by_cases h2 : j = k
    · subst h2
      rw [if_pos rfl, nxtp_val, if_neg (Nat.lt_irrefl j), if_pos (Nat.lt_succ_self j), mul_zero_r, UInt8.zero_xor, UInt8.xor_comm, mul_comm]
      by_cases h0 : j = 0
      · rw [if_pos h0, if_pos h0]
      · rw [if_neg h0, if_neg h0, if_pos (show j - 1 < j by omega), if_pos (show j - 1 < j + 1 by omega)]
    · rw [if_neg h2, nxtp_val]
      have e1 : (j < k) = (j < k + 1) := propext ⟨fun _ => by omega, fun _ => by omega⟩
      by_cases h0 : j = 0
      · rw [if_pos h0, if_pos h0]
        simp only [e1]
      · have e2 : (j - 1 < k) = (j - 1 < k + 1) := propext ⟨fun _ => by omega, fun _ => by omega⟩
        rw [if_neg h0, if_neg h0]
        simp only [e1, e2]
end Go.Proofs.Ytpijkjpefdlefaa.Fld
