/- The words of a block as one list, found one after the other; the cells that hold them. No program in sight. -/
import Derived.Test.YtnbbleajbbgmjaaDoorDgP
namespace Go.Proofs.YtnbbleajbbgmjaaDoor
open Go
set_option linter.unusedVariables false

/-- all 64 words of a block -/
def Dg.W (b : List UInt8) : List UInt32 := Dg.words b 48
theorem Dg.W_len (b : List UInt8) : (Dg.W b).length = 64 := Dg.words_len b 48
theorem Dg.words_more (b : List UInt8) (n m : Nat) : ∃ r, Dg.words b (n + m) = Dg.words b n ++ r := by
  induction m with
  | zero => exact ⟨[], by simp⟩
  | succ m ih =>
    obtain ⟨r, hr⟩ := ih
    exact ⟨r ++ [Dg.next (Dg.words b (n + m)) (16 + (n + m))], by rw [← List.append_assoc, ← hr]; rfl⟩
theorem Dg.words_get (b : List UInt8) {n m i : Nat} (hm : m ≤ n) (hi : i < 16 + m) : (Dg.words b n)[i]! = (Dg.words b m)[i]! := by
  obtain ⟨r, hr⟩ := Dg.words_more b m (n - m)
  rw [show m + (n - m) = n by omega] at hr
  have hl := Dg.words_len b m
  rw [hr, getElem!_def, getElem!_def, List.getElem?_append_left (by omega)]
theorem Dg.W_lo (b : List UInt8) (i : Nat) (hi : i < 16) : (Dg.W b)[i]! = Dg.word b i := by
  rw [Dg.W, Dg.words_get b (Nat.zero_le 48) (by omega), Dg.words, getElem!_def]
  simp [hi]
theorem Dg.W_next (b : List UInt8) (t : Nat) (h : 16 ≤ t) (ht : t < 64) : (Dg.W b)[t]! = Dg.next (Dg.W b) t := by
  obtain ⟨n, rfl⟩ : ∃ n, t = 16 + n := ⟨t - 16, by omega⟩
  have h1 : (Dg.W b)[16 + n]! = Dg.next (Dg.words b n) (16 + n) := by
    rw [Dg.W, Dg.words_get b (show n + 1 ≤ 48 by omega) (by omega)]
    show (Dg.words b n ++ [_])[16 + n]! = _
    rw [getElem!_def, List.getElem?_append_right (by rw [Dg.words_len]; omega), Dg.words_len]
    simp
  have h2 : ∀ i, i < 16 + n → (Dg.W b)[i]! = (Dg.words b n)[i]! := fun i hi => Dg.words_get b (by omega) hi
  rw [h1]
  unfold Dg.next
  rw [h2 _ (by omega), h2 _ (by omega), h2 _ (by omega), h2 _ (by omega)]

/-- the cells of the words under way -/
def Dg.wc (l : List UInt32) (t : Nat) : List Value := (List.range 64).map fun j => if j < t then Dg.v (l[j]!) else .int .u32 0
theorem Dg.wc_set (l : List UInt32) (t : Nat) (h : t < 64) : (Dg.wc l t).set t (Dg.v l[t]!) = Dg.wc l (t + 1) := by
  apply List.ext_getElem?
  intro j
  unfold Dg.wc
  rw [List.getElem?_set]
  by_cases hj : t = j
  · subst hj
    simp [h]
  · rw [if_neg hj]
    by_cases h64 : j < 64
    · simp only [List.getElem?_map, List.getElem?_range h64, Option.map_some]
      by_cases h1 : j < t
      · rw [if_pos h1, if_pos (by omega)]
      · rw [if_neg h1, if_neg (by omega)]
    · rw [List.getElem?_eq_none (by simp; omega), List.getElem?_eq_none (by simp; omega)]
theorem Dg.wc_get (l : List UInt32) (t j : Nat) (h : j < t) (hj : j < 64) : (Dg.wc l t)[j]? = some (Dg.v l[j]!) := by
  unfold Dg.wc
  simp [hj, h]
theorem Dg.wc_some (l : List UInt32) (t j : Nat) (hj : j < 64) : ∃ v, (Dg.wc l t)[j]? = some v := ⟨_, List.getElem?_eq_getElem (by simp [Dg.wc]; exact hj)⟩
theorem Dg.wc_zero (l : List UInt32) : Dg.wc l 0 = List.replicate 64 (.int .u32 0) := rfl
theorem Dg.wc_all (l : List UInt32) (h : l.length = 64) : Dg.wc l 64 = l.map Dg.v := by
  apply List.ext_getElem?
  intro j
  by_cases hj : j < 64
  · rw [Dg.wc_get l 64 j hj hj, List.getElem?_map, List.getElem?_eq_getElem (by omega), getElem!_def, List.getElem?_eq_getElem (by omega)]
    rfl
  · rw [List.getElem?_eq_none (by simp [Dg.wc]; omega), List.getElem?_eq_none (by simp; omega)]
/-- the cells of a state -/
def Dg.sc (s : Dg.S) : List Value := [Dg.v s.a, Dg.v s.b, Dg.v s.c, Dg.v s.d, Dg.v s.e, Dg.v s.f, Dg.v s.g, Dg.v s.h]

/-- the first k of four bytes as a number -/
def Dg.acc (l : List UInt8) : Nat → UInt32
  | 0 => 0
  | k + 1 => (Dg.acc l k <<< UInt32.ofNat 8) ||| (l.getD k 0).toUInt32
theorem Dg.shl_or (a b n : UInt32) : (a ||| b) <<< n = (a <<< n) ||| (b <<< n) := by
  apply UInt32.toBitVec_inj.1
  simp only [UInt32.toBitVec_shiftLeft, UInt32.toBitVec_or]
  rw [BitVec.shiftLeft_eq', BitVec.shiftLeft_eq', BitVec.shiftLeft_eq', BitVec.shiftLeft_or_distrib]
theorem Dg.acc_word (l : List UInt8) : Dg.acc l 4 = Dg.word l 0 := by
  have h8 : ∀ x : UInt32, (x <<< 8) <<< 8 = x <<< 16 := fun x => by
    apply UInt32.toBitVec_inj.1
    simp only [UInt32.toBitVec_shiftLeft]
    show (x.toBitVec <<< (8 : Nat)) <<< (8 : Nat) = x.toBitVec <<< (16 : Nat)
    rw [← BitVec.shiftLeft_add]
  have h24 : ∀ x : UInt32, (x <<< 16) <<< 8 = x <<< 24 := fun x => by
    apply UInt32.toBitVec_inj.1
    simp only [UInt32.toBitVec_shiftLeft]
    show (x.toBitVec <<< (16 : Nat)) <<< (8 : Nat) = x.toBitVec <<< (24 : Nat)
    rw [← BitVec.shiftLeft_add]
  have hg : ∀ i, l.getD i 0 = l[i]! := fun i => by
    rw [List.getD_eq_getElem?_getD, getElem!_def]
    cases l[i]? <;> rfl
  have e8 : UInt32.ofNat 8 = 8 := rfl
  simp only [Dg.acc, Dg.word, e8, hg, Dg.shl_or, h8, h24]
  simp
/-- four bytes further on -/
theorem Dg.word_drop (l : List UInt8) (t : Nat) : Dg.word (l.drop (4 * t)) 0 = Dg.word l t := by
  have h : ∀ i, (l.drop (4 * t))[i]! = l[4 * t + i]! := fun i => by rw [getElem!_def, getElem!_def, List.getElem?_drop]
  unfold Dg.word
  simp only [h]
  rfl
end Go.Proofs.YtnbbleajbbgmjaaDoor
