import Derived.Laws.BitsLemmas
import Derived.Laws.Entries
import Derived.Laws.CopyOwn
/- Words of 32 bits: the model's operations on them; the two spellings of the digest's functions. -/
namespace Go.Proofs.YtideglpjgplpnaaDoor
open Go
set_option linter.unusedVariables false

/-- a word as the model has it -/
def Dg.v (x : UInt32) : Value := .int .u32 (x.toNat : Int)
theorem Dg.lt (x : UInt32) : x.toNat < 2 ^ 32 := x.toNat_lt
theorem Dg.wraps (n : Int) (h0 : 0 ≤ n) (h1 : n < 2 ^ 32) : IntKind.u32.wrap n = n := by rw [IntKind.wrap_u32]; omega
theorem Dg.and (x y : UInt32) : bits .and .u32 (x.toNat : Int) (y.toNat : Int) = ((x &&& y).toNat : Int) := by
  rw [(bits_nat .u32 32 (by decide) Dg.wraps x.toNat y.toNat (Dg.lt x) (Dg.lt y)).1, UInt32.toNat_and]
theorem Dg.or (x y : UInt32) : bits .or .u32 (x.toNat : Int) (y.toNat : Int) = ((x ||| y).toNat : Int) := by
  rw [(bits_nat .u32 32 (by decide) Dg.wraps x.toNat y.toNat (Dg.lt x) (Dg.lt y)).2, UInt32.toNat_or]
theorem Dg.xor (x y : UInt32) : bits .xor .u32 (x.toNat : Int) (y.toNat : Int) = ((x ^^^ y).toNat : Int) := by
  have hx : x.toNat % 2 ^ IntKind.u32.bits = x.toNat := Nat.mod_eq_of_lt (Dg.lt x)
  have hy : y.toNat % 2 ^ IntKind.u32.bits = y.toNat := Nat.mod_eq_of_lt (Dg.lt y)
  have hp : x.toNat ^^^ y.toNat < 2 ^ 32 := Nat.xor_lt_two_pow (Dg.lt x) (Dg.lt y)
  simp only [bits, BitVec.ofInt_natCast, BitVec.toNat_xor, BitVec.toNat_ofNat, hx, hy]
  rw [UInt32.toNat_xor]
  exact Dg.wraps _ (Int.natCast_nonneg _) (by exact_mod_cast hp)
theorem Dg.add (x y : UInt32) : IntKind.u32.wrap ((x.toNat : Int) + (y.toNat : Int)) = ((x + y).toNat : Int) := by
  rw [IntKind.wrap_u32, UInt32.toNat_add]
  omega

theorem Dg.shl (x : UInt32) (n : Nat) (hn : n < 32) : IntKind.u32.wrap ((x.toNat : Int) * 2 ^ n) = ((x <<< UInt32.ofNat n).toNat : Int) := by
  have h1 : (UInt32.ofNat n).toNat = n := by rw [UInt32.toNat_ofNat']; omega
  have h2 : (x.toNat : Int) * 2 ^ n = ((x.toNat * 2 ^ n : Nat) : Int) := by rw [Int.natCast_mul, Int.natCast_pow]; rfl
  rw [IntKind.wrap_u32, UInt32.toNat_shiftLeft, h1, Nat.mod_eq_of_lt hn, Nat.shiftLeft_eq, h2]
  generalize x.toNat * 2 ^ n = m
  omega
theorem Dg.shr (x : UInt32) (n : Nat) (hn : n < 32) : (x.toNat : Int) / 2 ^ n = ((x >>> UInt32.ofNat n).toNat : Int) := by
  have h1 : (UInt32.ofNat n).toNat = n := by rw [UInt32.toNat_ofNat']; omega
  rw [UInt32.toNat_shiftRight, h1, Nat.mod_eq_of_lt hn, Nat.shiftRight_eq_div_pow]
  norm_cast
theorem Dg.not (x : UInt32) : IntKind.u32.wrap (-(x.toNat : Int) - 1) = ((~~~x).toNat : Int) := by
  have := x.toNat_lt
  rw [IntKind.wrap_u32, UInt32.toNat_not, UInt32.size]
  omega
/-- a byte of a number -/
theorem Dg.byte (n k : Nat) : IntKind.u8.wrap ((n : Int) / 2 ^ (8 * k)) = ((UInt8.ofNat (n / 256 ^ k % 256)).toNat : Int) := by
  have h1 : (2 : Int) ^ (8 * k) = ((256 ^ k : Nat) : Int) := by rw [Int.pow_mul, Int.natCast_pow]; rfl
  rw [IntKind.wrap_u8, UInt8.toNat_ofNat', h1]
  have h2 : (n : Int) / ((256 ^ k : Nat) : Int) = ((n / 256 ^ k : Nat) : Int) := rfl
  rw [h2]
  generalize n / 256 ^ k = m
  omega

/-- choice and majority, spelled twice -/
theorem Dg.ch (e f g : UInt32) : g ^^^ (e &&& (f ^^^ g)) = (e &&& f) ^^^ ((~~~e) &&& g) := by
  apply UInt32.toBitVec_inj.1
  apply BitVec.eq_of_getLsbD_eq
  intro i hi
  simp only [UInt32.toBitVec_xor, UInt32.toBitVec_and, UInt32.toBitVec_not, BitVec.getLsbD_xor, BitVec.getLsbD_and, BitVec.getLsbD_not, hi]
  cases e.toBitVec.getLsbD i <;> cases f.toBitVec.getLsbD i <;> cases g.toBitVec.getLsbD i <;> rfl
theorem Dg.maj (a b c : UInt32) : (a &&& b) ||| (c &&& (a ||| b)) = (a &&& b) ^^^ (a &&& c) ^^^ (b &&& c) := by
  apply UInt32.toBitVec_inj.1
  apply BitVec.eq_of_getLsbD_eq
  intro i hi
  simp only [UInt32.toBitVec_xor, UInt32.toBitVec_and, UInt32.toBitVec_or, BitVec.getLsbD_xor, BitVec.getLsbD_and, BitVec.getLsbD_or]
  cases a.toBitVec.getLsbD i <;> cases b.toBitVec.getLsbD i <;> cases c.toBitVec.getLsbD i <;> rfl

/-- a word turned to the right -/
def Dg.ror (v : UInt32) (n : UInt32) : UInt32 := (v >>> n) ||| (v <<< (32 - n))
/-- a turn to the left by what is left of 32 -/
theorem Dg.rol (x : UInt32) (n : Nat) (h0 : 0 < n) (hn : n < 32) : bits .or .u32 (IntKind.u32.wrap ((x.toNat : Int) * 2 ^ (32 - n))) ((x.toNat : Int) / 2 ^ n) = ((Dg.ror x (UInt32.ofNat n)).toNat : Int) := by
  have h1 : (32 : UInt32) - UInt32.ofNat n = UInt32.ofNat (32 - n) := by
    apply UInt32.toNat_inj.1
    rw [UInt32.toNat_sub_of_le, UInt32.toNat_ofNat', UInt32.toNat_ofNat']
    · show 32 - n % 2 ^ 32 = (32 - n) % 2 ^ 32
      omega
    · rw [UInt32.le_iff_toNat_le, UInt32.toNat_ofNat']
      show n % 2 ^ 32 ≤ 32
      omega
  rw [Dg.shl x (32 - n) (by omega), Dg.shr x n hn, Dg.or, Dg.ror, h1, UInt32.or_comm]
/-- four bytes as a word -/
def Dg.word (b : List UInt8) (i : Nat) : UInt32 := ((b[4 * i]!).toUInt32 <<< 24) ||| ((b[4 * i + 1]!).toUInt32 <<< 16) ||| ((b[4 * i + 2]!).toUInt32 <<< 8) ||| (b[4 * i + 3]!).toUInt32
/-- the words of a block: one more -/
def Dg.next (w : List UInt32) (t : Nat) : UInt32 :=
  let x := w[t - 15]!
  let y := w[t - 2]!
  w[t - 16]! + (Dg.ror x 7 ^^^ Dg.ror x 18 ^^^ (x >>> 3)) + w[t - 7]! + (Dg.ror y 17 ^^^ Dg.ror y 19 ^^^ (y >>> 10))
/-- the first so many words of a block -/
def Dg.words (b : List UInt8) : Nat → List UInt32
  | 0 => (List.range 16).map (Dg.word b)
  | n + 1 => Dg.words b n ++ [Dg.next (Dg.words b n) (16 + n)]
theorem Dg.words_len (b : List UInt8) (n : Nat) : (Dg.words b n).length = 16 + n := by
  induction n with
  | zero => simp [Dg.words]
  | succ n ih => simp [Dg.words, ih]; omega
/-- the state: eight words -/
structure Dg.S where
  (a b c d e f g h : UInt32)
/-- one round -/
def Dg.step (k w : UInt32) (s : Dg.S) : Dg.S :=
  let p := s.h + (Dg.ror s.e 6 ^^^ Dg.ror s.e 11 ^^^ Dg.ror s.e 25) + ((s.e &&& s.f) ^^^ ((~~~s.e) &&& s.g)) + k + w
  let q := (Dg.ror s.a 2 ^^^ Dg.ror s.a 13 ^^^ Dg.ror s.a 22) + ((s.a &&& s.b) ^^^ (s.a &&& s.c) ^^^ (s.b &&& s.c))
  ⟨p + q, s.a, s.b, s.c, s.d + p, s.e, s.f, s.g⟩
/-- the first n rounds of a block's words under the numbers K -/
def Dg.rounds (K w : List UInt32) (s : Dg.S) : Nat → Dg.S
  | 0 => s
  | n + 1 => Dg.step K[n]! w[n]! (Dg.rounds K w s n)
def Dg.plus (s t : Dg.S) : Dg.S := ⟨s.a + t.a, s.b + t.b, s.c + t.c, s.d + t.d, s.e + t.e, s.f + t.f, s.g + t.g, s.h + t.h⟩
/-- a block is absorbed -/
def Dg.absorb (K : List UInt32) (s : Dg.S) (b : List UInt8) : Dg.S := Dg.plus s (Dg.rounds K (Dg.words b 48) s 64)
/-- so many blocks -/
def Dg.blocks (K : List UInt32) (s : Dg.S) (b : List UInt8) : Nat → Dg.S
  | 0 => s
  | n + 1 => Dg.absorb K (Dg.blocks K s b n) ((b.drop (64 * n)).take 64)
/-- eight bytes, the most significant one first -/
def Dg.put8 (n : Nat) : List UInt8 := (List.range 8).map fun i => UInt8.ofNat (n / 256 ^ (7 - i) % 256)
def Dg.put4 (x : UInt32) : List UInt8 := (List.range 4).map fun i => UInt8.ofNat (x.toNat / 256 ^ (3 - i) % 256)
/-- how many zero bytes stand behind the end mark -/
def Dg.zeros (n : Nat) : Nat := (119 - n % 64) % 64
def Dg.padded (b : List UInt8) : List UInt8 := b ++ [0x80] ++ List.replicate (Dg.zeros b.length) 0 ++ Dg.put8 (8 * b.length)
theorem Dg.padded_len (b : List UInt8) : (Dg.padded b).length % 64 = 0 := by
  unfold Dg.padded Dg.zeros Dg.put8
  simp only [List.length_append, List.length_replicate, List.length_cons, List.length_nil, List.length_map, List.length_range]
  omega
def Dg.bytes (s : Dg.S) : List UInt8 := Dg.put4 s.a ++ Dg.put4 s.b ++ Dg.put4 s.c ++ Dg.put4 s.d ++ Dg.put4 s.e ++ Dg.put4 s.f ++ Dg.put4 s.g ++ Dg.put4 s.h
/-- the digest of bytes under the numbers K from the state I -/
def Dg.sum (K : List UInt32) (I : Dg.S) (b : List UInt8) : List UInt8 := Dg.bytes (Dg.blocks K I (Dg.padded b) ((Dg.padded b).length / 64))
def Dg.tagged (K : List UInt32) (I : Dg.S) (tag b : List UInt8) : List UInt8 := Dg.sum K I (Dg.sum K I tag ++ b)
theorem Dg.sum_len (K : List UInt32) (I : Dg.S) (b : List UInt8) : (Dg.sum K I b).length = 32 := by
  simp [Dg.sum, Dg.bytes, Dg.put4]
/-- the blocks of a longer list begin alike -/
theorem Dg.blocks_more (K : List UInt32) (s : Dg.S) (b c : List UInt8) (n : Nat) (h : 64 * n ≤ b.length) : Dg.blocks K s (b ++ c) n = Dg.blocks K s b n := by
  induction n with
  | zero => rfl
  | succ n ih =>
    rw [Dg.blocks, Dg.blocks, ih (by omega), List.drop_append_of_le_length (by omega), List.take_append_of_le_length (by rw [List.length_drop]; omega)]
/-- blocks of a list, then blocks of what follows -/
theorem Dg.blocks_append (K : List UInt32) (s : Dg.S) (a e : List UInt8) (m j : Nat) (h : a.length = 64 * m) : Dg.blocks K s (a ++ e) (m + j) = Dg.blocks K (Dg.blocks K s a m) e j := by
  induction j with
  | zero => exact Dg.blocks_more K s a e m (by omega)
  | succ j ih =>
    show Dg.absorb K (Dg.blocks K s (a ++ e) (m + j)) (((a ++ e).drop (64 * (m + j))).take 64) = Dg.absorb K (Dg.blocks K (Dg.blocks K s a m) e j) ((e.drop (64 * j)).take 64)
    rw [ih]
    have h1 : (a ++ e).drop (64 * (m + j)) = e.drop (64 * j) := by
      rw [List.drop_append, List.drop_eq_nil_of_le (by omega), List.nil_append, h, show 64 * (m + j) - 64 * m = 64 * j by omega]
    rw [h1]
/-- what follows the full blocks of a list -/
def Dg.tail (b : List UInt8) : List UInt8 := b.drop (64 * (b.length / 64)) ++ [0x80] ++ List.replicate (Dg.zeros b.length) 0 ++ Dg.put8 (8 * b.length)
theorem Dg.tail_len (b : List UInt8) : (Dg.tail b).length = if b.length % 64 > 55 then 128 else 64 := by
  unfold Dg.tail Dg.zeros Dg.put8
  simp only [List.length_append, List.length_replicate, List.length_cons, List.length_nil, List.length_map, List.length_range, List.length_drop]
  split <;> omega
theorem Dg.sum_tail (K : List UInt32) (I : Dg.S) (b : List UInt8) : Dg.sum K I b = Dg.bytes (Dg.blocks K (Dg.blocks K I b (b.length / 64)) (Dg.tail b) ((Dg.tail b).length / 64)) := by
  have hb : b.take (64 * (b.length / 64)) ++ b.drop (64 * (b.length / 64)) = b := List.take_append_drop _ _
  have hl : (b.take (64 * (b.length / 64))).length = 64 * (b.length / 64) := by rw [List.length_take]; omega
  have hp : Dg.padded b = b.take (64 * (b.length / 64)) ++ Dg.tail b := by
    unfold Dg.padded Dg.tail
    rw [← List.append_assoc, ← List.append_assoc, ← List.append_assoc, hb]
  have hn : (Dg.padded b).length / 64 = b.length / 64 + (Dg.tail b).length / 64 := by
    rw [hp, List.length_append, hl]
    omega
  have hx : Dg.blocks K I b (b.length / 64) = Dg.blocks K I (b.take (64 * (b.length / 64))) (b.length / 64) := by
    have h := Dg.blocks_more K I (b.take (64 * (b.length / 64))) (b.drop (64 * (b.length / 64))) (b.length / 64) (by omega)
    rw [hb] at h
    exact h
  unfold Dg.sum
  rw [hn, hx, hp, Dg.blocks_append K I _ _ _ _ hl]
end Go.Proofs.YtideglpjgplpnaaDoor
/- The words of a block as one list, found one after the other; the cells that hold them. No program in sight. -/
namespace Go.Proofs.YtideglpjgplpnaaDoor
open Go
set_option linter.unusedVariables false

/-- all 64 words of a block -/
def Dg.W (b : List UInt8) : List UInt32 := Dg.words b 48
theorem Dg.W_len (b : List UInt8) : (Dg.W b).length = 64 := Dg.words_len b 48
theorem Dg.words_more (b : List UInt8) (n m : Nat) : ∃ r, Dg.words b (n + m) = Dg.words b n ++ r := by
  induction m with
  | zero => exact ⟨[], by simp⟩
  | succ m ih =>
    obtain ⟨r, hr⟩ := ih
    exact ⟨r ++ [Dg.next (Dg.words b (n + m)) (16 + (n + m))], by rw [← List.append_assoc, ← hr]; rfl⟩
theorem Dg.words_get (b : List UInt8) {n m i : Nat} (hm : m ≤ n) (hi : i < 16 + m) : (Dg.words b n)[i]! = (Dg.words b m)[i]! := by
  obtain ⟨r, hr⟩ := Dg.words_more b m (n - m)
  rw [show m + (n - m) = n by omega] at hr
  have hl := Dg.words_len b m
  rw [hr, getElem!_def, getElem!_def, List.getElem?_append_left (by omega)]
theorem Dg.W_lo (b : List UInt8) (i : Nat) (hi : i < 16) : (Dg.W b)[i]! = Dg.word b i := by
  rw [Dg.W, Dg.words_get b (Nat.zero_le 48) (by omega), Dg.words, getElem!_def]
  simp [hi]
theorem Dg.W_next (b : List UInt8) (t : Nat) (h : 16 ≤ t) (ht : t < 64) : (Dg.W b)[t]! = Dg.next (Dg.W b) t := by
  obtain ⟨n, rfl⟩ : ∃ n, t = 16 + n := ⟨t - 16, by omega⟩
  have h1 : (Dg.W b)[16 + n]! = Dg.next (Dg.words b n) (16 + n) := by
    rw [Dg.W, Dg.words_get b (show n + 1 ≤ 48 by omega) (by omega)]
    show (Dg.words b n ++ [_])[16 + n]! = _
    rw [getElem!_def, List.getElem?_append_right (by rw [Dg.words_len]; omega), Dg.words_len]
    simp
  have h2 : ∀ i, i < 16 + n → (Dg.W b)[i]! = (Dg.words b n)[i]! := fun i hi => Dg.words_get b (by omega) hi
  rw [h1]
  unfold Dg.next
  rw [h2 _ (by omega), h2 _ (by omega), h2 _ (by omega), h2 _ (by omega)]

/-- the cells of the words under way -/
def Dg.wc (l : List UInt32) (t : Nat) : List Value := (List.range 64).map fun j => if j < t then Dg.v (l[j]!) else .int .u32 0
theorem Dg.wc_set (l : List UInt32) (t : Nat) (h : t < 64) : (Dg.wc l t).set t (Dg.v l[t]!) = Dg.wc l (t + 1) := by
  apply List.ext_getElem?
  intro j
  unfold Dg.wc
  rw [List.getElem?_set]
  by_cases hj : t = j
  · subst hj
    simp [h]
  · rw [if_neg hj]
    by_cases h64 : j < 64
    · simp only [List.getElem?_map, List.getElem?_range h64, Option.map_some]
      by_cases h1 : j < t
      · rw [if_pos h1, if_pos (by omega)]
      · rw [if_neg h1, if_neg (by omega)]
    · rw [List.getElem?_eq_none (by simp; omega), List.getElem?_eq_none (by simp; omega)]
theorem Dg.wc_get (l : List UInt32) (t j : Nat) (h : j < t) (hj : j < 64) : (Dg.wc l t)[j]? = some (Dg.v l[j]!) := by
  unfold Dg.wc
  simp [hj, h]
theorem Dg.wc_some (l : List UInt32) (t j : Nat) (hj : j < 64) : ∃ v, (Dg.wc l t)[j]? = some v := ⟨_, List.getElem?_eq_getElem (by simp [Dg.wc]; exact hj)⟩
theorem Dg.wc_zero (l : List UInt32) : Dg.wc l 0 = List.replicate 64 (.int .u32 0) := rfl
theorem Dg.wc_all (l : List UInt32) (h : l.length = 64) : Dg.wc l 64 = l.map Dg.v := by
  apply List.ext_getElem?
  intro j
  by_cases hj : j < 64
  · rw [Dg.wc_get l 64 j hj hj, List.getElem?_map, List.getElem?_eq_getElem (by omega), getElem!_def, List.getElem?_eq_getElem (by omega)]
    rfl
  · rw [List.getElem?_eq_none (by simp [Dg.wc]; omega), List.getElem?_eq_none (by simp; omega)]
/-- the cells of a state -/
def Dg.sc (s : Dg.S) : List Value := [Dg.v s.a, Dg.v s.b, Dg.v s.c, Dg.v s.d, Dg.v s.e, Dg.v s.f, Dg.v s.g, Dg.v s.h]

/-- the first k of four bytes as a number -/
def Dg.acc (l : List UInt8) : Nat → UInt32
  | 0 => 0
  | k + 1 => (Dg.acc l k <<< UInt32.ofNat 8) ||| (l.getD k 0).toUInt32
theorem Dg.shl_or (a b n : UInt32) : (a ||| b) <<< n = (a <<< n) ||| (b <<< n) := by
  apply UInt32.toBitVec_inj.1
  simp only [UInt32.toBitVec_shiftLeft, UInt32.toBitVec_or]
  rw [BitVec.shiftLeft_eq', BitVec.shiftLeft_eq', BitVec.shiftLeft_eq', BitVec.shiftLeft_or_distrib]
theorem Dg.acc_word (l : List UInt8) : Dg.acc l 4 = Dg.word l 0 := by
  have h8 : ∀ x : UInt32, (x <<< 8) <<< 8 = x <<< 16 := fun x => by
    apply UInt32.toBitVec_inj.1
    simp only [UInt32.toBitVec_shiftLeft]
    show (x.toBitVec <<< (8 : Nat)) <<< (8 : Nat) = x.toBitVec <<< (16 : Nat)
    rw [← BitVec.shiftLeft_add]
  have h24 : ∀ x : UInt32, (x <<< 16) <<< 8 = x <<< 24 := fun x => by
    apply UInt32.toBitVec_inj.1
    simp only [UInt32.toBitVec_shiftLeft]
    show (x.toBitVec <<< (16 : Nat)) <<< (8 : Nat) = x.toBitVec <<< (24 : Nat)
    rw [← BitVec.shiftLeft_add]
  have hg : ∀ i, l.getD i 0 = l[i]! := fun i => by
    rw [List.getD_eq_getElem?_getD, getElem!_def]
    cases l[i]? <;> rfl
  have e8 : UInt32.ofNat 8 = 8 := rfl
  simp only [Dg.acc, Dg.word, e8, hg, Dg.shl_or, h8, h24]
  simp
/-- four bytes further on -/
theorem Dg.word_drop (l : List UInt8) (t : Nat) : Dg.word (l.drop (4 * t)) 0 = Dg.word l t := by
  have h : ∀ i, (l.drop (4 * t))[i]! = l[4 * t + i]! := fun i => by rw [getElem!_def, getElem!_def, List.getElem?_drop]
  unfold Dg.word
  simp only [h]
  rfl
end Go.Proofs.YtideglpjgplpnaaDoor
/- Bytes of a number laid into cells, from the last on. No program in sight. -/
namespace Go.Proofs.YtideglpjgplpnaaDoor
open Go
set_option linter.unusedVariables false

abbrev Dg.b8 (a : UInt8) : Value := .int .u8 (a.toNat : Int)
/-- byte k of a number -/
def Dg.by (N k : Nat) : UInt8 := UInt8.ofNat (N / 256 ^ k % 256)
/-- the last k of the n cells from off on hold the number's last bytes -/
def Dg.putc (cs : List Value) (off n N k : Nat) : List Value := cs.mapIdx fun j c => if off + n - k ≤ j ∧ j < off + n then Dg.b8 (Dg.by N (off + n - 1 - j)) else c
theorem Dg.putc_len (cs : List Value) (off n N k : Nat) : (Dg.putc cs off n N k).length = cs.length := by simp [Dg.putc]
theorem Dg.putc_zero (cs : List Value) (off n N : Nat) : Dg.putc cs off n N 0 = cs := by
  apply List.ext_getElem?
  intro j
  unfold Dg.putc
  rw [List.getElem?_mapIdx]
  cases cs[j]? with
  | none => rfl
  | some c => rw [Option.map_some, if_neg (by omega)]
theorem Dg.putc_set (cs : List Value) (off n N k : Nat) (hk : k < n) (hf : off + n ≤ cs.length) : (Dg.putc cs off n N k).set (off + (n - 1 - k)) (Dg.b8 (Dg.by N k)) = Dg.putc cs off n N (k + 1) := by
  apply List.ext_getElem?
  intro j
  rw [List.getElem?_set, Dg.putc_len]
  by_cases hj : off + (n - 1 - k) = j
  · subst hj
    rw [if_pos rfl, if_pos (by omega)]
    unfold Dg.putc
    rw [List.getElem?_mapIdx, List.getElem?_eq_getElem (by omega), Option.map_some, if_pos (by omega), show off + n - 1 - (off + (n - 1 - k)) = k by omega]
  · rw [if_neg hj]
    unfold Dg.putc
    rw [List.getElem?_mapIdx, List.getElem?_mapIdx]
    cases cs[j]? with
    | none => rfl
    | some c =>
      rw [Option.map_some, Option.map_some]
      by_cases h1 : off + n - k ≤ j ∧ j < off + n
      · rw [if_pos h1, if_pos (by omega)]
      · rw [if_neg h1, if_neg (by omega)]
/-- a number's n last bytes -/
def Dg.putn (N n : Nat) : List UInt8 := (List.range n).map fun i => Dg.by N (n - 1 - i)
theorem Dg.putn_len (N n : Nat) : (Dg.putn N n).length = n := by simp [Dg.putn]
theorem Dg.putc_all (cs : List Value) (off n N : Nat) (hf : off + n ≤ cs.length) : Dg.putc cs off n N n = cs.take off ++ ((Dg.putn N n).map Dg.b8 ++ cs.drop (off + n)) := by
  have hl : (cs.take off).length = off := by rw [List.length_take]; omega
  have hl2 : ((Dg.putn N n).map Dg.b8).length = n := by rw [List.length_map, Dg.putn_len]
  apply List.ext_getElem?
  intro j
  unfold Dg.putc
  rw [List.getElem?_mapIdx]
  by_cases h1 : j < off
  · rw [List.getElem?_append_left (by omega), List.getElem?_take_of_lt h1]
    cases cs[j]? with
    | none => rfl
    | some c => rw [Option.map_some, if_neg (by omega)]
  · rw [List.getElem?_append_right (by omega), hl]
    by_cases h2 : j < off + n
    · rw [List.getElem?_append_left (by omega), List.getElem?_eq_getElem (show j < cs.length by omega), Option.map_some, if_pos (by omega)]
      unfold Dg.putn
      rw [List.map_map, List.getElem?_map, List.getElem?_range (by omega), Option.map_some]
      show some (Dg.b8 (Dg.by N (off + n - 1 - j))) = some (Dg.b8 (Dg.by N (n - 1 - (j - off))))
      rw [show off + n - 1 - j = n - 1 - (j - off) by omega]
    · rw [List.getElem?_append_right (by omega), hl2, List.getElem?_drop, show off + n + (j - off - n) = j by omega]
      cases cs[j]? with
      | none => rfl
      | some c => rw [Option.map_some, if_neg (by omega)]
theorem Dg.putc_get (cs : List Value) (off n N k j : Nat) (hj : j < cs.length) : ∃ v, (Dg.putc cs off n N k)[j]? = some v := ⟨_, List.getElem?_eq_getElem (by rw [Dg.putc_len]; exact hj)⟩
end Go.Proofs.YtideglpjgplpnaaDoor
/- The end of the bytes that are hashed: how the code lays it; the digest's bytes out of the state. No program in sight. -/
namespace Go.Proofs.YtideglpjgplpnaaDoor
open Go
set_option linter.unusedVariables false

/-- what stands behind the full blocks, with its mark, in 128 bytes -/
def Dg.e1 (R : List UInt8) : List UInt8 := R ++ [0x80] ++ List.replicate (127 - R.length) 0
theorem Dg.e1_len (R : List UInt8) (h : R.length < 64) : (Dg.e1 R).length = 128 := by simp [Dg.e1]; omega
theorem Dg.e1_cells (R : List UInt8) (h : R.length < 64) : (splice (List.replicate 128 (Value.int .u8 0)) 0 (R.map Dg.b8)).set R.length (.int .u8 128) = (Dg.e1 R).map Dg.b8 := by
  have h1 : splice (List.replicate 128 (Value.int .u8 0)) 0 (R.map Dg.b8) = R.map Dg.b8 ++ (Value.int .u8 0 :: List.replicate (127 - R.length) (.int .u8 0)) := by
    unfold splice
    rw [List.take_zero, List.nil_append, List.length_map, Nat.zero_add, List.drop_replicate, show 128 - R.length = (127 - R.length) + 1 by omega, List.replicate_succ]
  rw [h1, List.set_append_right _ _ (by rw [List.length_map]; omega), List.length_map, Nat.sub_self, List.set_cons_zero]
  unfold Dg.e1
  rw [List.map_append, List.map_append, List.map_replicate, List.append_assoc]
  rfl
/-- with the number of bits laid in, its first L bytes are the end of what is hashed -/
theorem Dg.end_cells (l : List UInt8) (R : List UInt8) (hR : R = l.drop (64 * (l.length / 64))) (L : Nat) (hL : L = (Dg.tail l).length) :
    ∃ X, Dg.putc ((Dg.e1 R).map Dg.b8) (L - 8) 8 (8 * l.length) 8 = (Dg.tail l ++ X).map Dg.b8 ∧ X.length = 128 - L ∧ (L = 64 ∨ L = 128) := by
  have hl := Dg.tail_len l
  have hRl : R.length = l.length % 64 := by rw [hR, List.length_drop]; omega
  have hL2 : L = 64 ∨ L = 128 := by rw [hL, hl]; split <;> simp
  have he := Dg.e1_len R (by omega)
  have hz : Dg.zeros l.length = L - 9 - R.length := by
    unfold Dg.zeros
    rw [hL, hl, hRl]
    split <;> omega
  have hfit : R.length + 9 ≤ L := by rw [hL, hl, hRl]; split <;> omega
  refine ⟨(Dg.e1 R).drop L, ?_, by rw [List.length_drop, he], hL2⟩
  rw [Dg.putc_all _ _ _ _ (by rw [List.length_map, he]; omega), ← List.map_take, ← List.map_drop, show L - 8 + 8 = L by omega, ← List.map_append, ← List.map_append]
  congr 1
  rw [← List.append_assoc]
  congr 1
  unfold Dg.tail
  rw [← hR, hz]
  have ht : (Dg.e1 R).take (L - 8) = R ++ [0x80] ++ List.replicate (L - 9 - R.length) 0 := by
    unfold Dg.e1
    rw [List.take_append, List.take_of_length_le (by simp; omega), List.take_replicate]
    congr 2
    simp
    omega
  rw [ht]
  rfl

/-- the digest's cells when k words are laid in -/
def Dg.dc (s : Dg.S) (k : Nat) : List Value := ((Dg.bytes s).take (4 * k)).map Dg.b8 ++ List.replicate (32 - 4 * k) (.int .u8 0)
theorem Dg.bytes_len (s : Dg.S) : (Dg.bytes s).length = 32 := by simp [Dg.bytes, Dg.put4]
theorem Dg.dc_len (s : Dg.S) (k : Nat) (h : k ≤ 8) : (Dg.dc s k).length = 32 := by simp [Dg.dc, Dg.bytes_len]; omega
theorem Dg.dc_put (s : Dg.S) (k : Nat) (h : k < 8) (v : UInt32) (hv : v = [s.a, s.b, s.c, s.d, s.e, s.f, s.g, s.h][k]'h) : Dg.putc (Dg.dc s k) (4 * k) 4 v.toNat 4 = Dg.dc s (k + 1) := by
  rw [Dg.putc_all _ _ _ _ (by rw [Dg.dc_len s k (by omega)]; omega)]
  subst hv
  match k, h with
  | 0, _ => rfl
  | 1, _ => rfl
  | 2, _ => rfl
  | 3, _ => rfl
  | 4, _ => rfl
  | 5, _ => rfl
  | 6, _ => rfl
  | 7, _ => rfl
theorem Dg.dc_all (s : Dg.S) : Dg.dc s 8 = (Dg.bytes s).map Dg.b8 := by
  unfold Dg.dc
  rw [List.take_of_length_le (by rw [Dg.bytes_len]; omega)]
  simp
end Go.Proofs.YtideglpjgplpnaaDoor
