/- Words of 32 bits: the model's operations on them; the two spellings of the digest's functions. -/
import Derived.Laws.BitsLemmas
import Derived.Laws.Entries
namespace Go.Proofs.YtnbbleajbbgmjaaDoor
open Go
set_option linter.unusedVariables false

/-- a word as the model has it -/
def Dg.v (x : UInt32) : Value := .int .u32 (x.toNat : Int)
theorem Dg.lt (x : UInt32) : x.toNat < 2 ^ 32 := x.toNat_lt
theorem Dg.wraps (n : Int) (h0 : 0 ≤ n) (h1 : n < 2 ^ 32) : IntKind.u32.wrap n = n := by rw [IntKind.wrap_u32]; omega
theorem Dg.and (x y : UInt32) : bits .and .u32 (x.toNat : Int) (y.toNat : Int) = ((x &&& y).toNat : Int) := by
  rw [(bits_nat .u32 32 (by decide) Dg.wraps x.toNat y.toNat (Dg.lt x) (Dg.lt y)).1, UInt32.toNat_and]
theorem Dg.or (x y : UInt32) : bits .or .u32 (x.toNat : Int) (y.toNat : Int) = ((x ||| y).toNat : Int) := by
  rw [(bits_nat .u32 32 (by decide) Dg.wraps x.toNat y.toNat (Dg.lt x) (Dg.lt y)).2, UInt32.toNat_or]
theorem Dg.xor (x y : UInt32) : bits .xor .u32 (x.toNat : Int) (y.toNat : Int) = ((x ^^^ y).toNat : Int) := by
  have hx : x.toNat % 2 ^ IntKind.u32.bits = x.toNat := Nat.mod_eq_of_lt (Dg.lt x)
  have hy : y.toNat % 2 ^ IntKind.u32.bits = y.toNat := Nat.mod_eq_of_lt (Dg.lt y)
  have hp : x.toNat ^^^ y.toNat < 2 ^ 32 := Nat.xor_lt_two_pow (Dg.lt x) (Dg.lt y)
  simp only [bits, BitVec.ofInt_natCast, BitVec.toNat_xor, BitVec.toNat_ofNat, hx, hy]
  rw [UInt32.toNat_xor]
  exact Dg.wraps _ (Int.natCast_nonneg _) (by exact_mod_cast hp)
theorem Dg.add (x y : UInt32) : IntKind.u32.wrap ((x.toNat : Int) + (y.toNat : Int)) = ((x + y).toNat : Int) := by
  rw [IntKind.wrap_u32, UInt32.toNat_add]
  omega

theorem Dg.shl (x : UInt32) (n : Nat) (hn : n < 32) : IntKind.u32.wrap ((x.toNat : Int) * 2 ^ n) = ((x <<< UInt32.ofNat n).toNat : Int) := by
  have h1 : (UInt32.ofNat n).toNat = n := by rw [UInt32.toNat_ofNat']; omega
  have h2 : (x.toNat : Int) * 2 ^ n = ((x.toNat * 2 ^ n : Nat) : Int) := by rw [Int.natCast_mul, Int.natCast_pow]; rfl
  rw [IntKind.wrap_u32, UInt32.toNat_shiftLeft, h1, Nat.mod_eq_of_lt hn, Nat.shiftLeft_eq, h2]
  generalize x.toNat * 2 ^ n = m
  omega
theorem Dg.shr (x : UInt32) (n : Nat) (hn : n < 32) : (x.toNat : Int) / 2 ^ n = ((x >>> UInt32.ofNat n).toNat : Int) := by
  have h1 : (UInt32.ofNat n).toNat = n := by rw [UInt32.toNat_ofNat']; omega
  rw [UInt32.toNat_shiftRight, h1, Nat.mod_eq_of_lt hn, Nat.shiftRight_eq_div_pow]
  norm_cast
theorem Dg.not (x : UInt32) : IntKind.u32.wrap (-(x.toNat : Int) - 1) = ((~~~x).toNat : Int) := by
  have := x.toNat_lt
  rw [IntKind.wrap_u32, UInt32.toNat_not, UInt32.size]
  omega
/-- a byte of a number -/
theorem Dg.byte (n k : Nat) : IntKind.u8.wrap ((n : Int) / 2 ^ (8 * k)) = ((UInt8.ofNat (n / 256 ^ k % 256)).toNat : Int) := by
  have h1 : (2 : Int) ^ (8 * k) = ((256 ^ k : Nat) : Int) := by rw [Int.pow_mul, Int.natCast_pow]; rfl
  rw [IntKind.wrap_u8, UInt8.toNat_ofNat', h1]
  have h2 : (n : Int) / ((256 ^ k : Nat) : Int) = ((n / 256 ^ k : Nat) : Int) := rfl
  rw [h2]
  generalize n / 256 ^ k = m
  omega

/-- choice and majority, spelled twice -/
theorem Dg.ch (e f g : UInt32) : g ^^^ (e &&& (f ^^^ g)) = (e &&& f) ^^^ ((~~~e) &&& g) := by
  apply UInt32.toBitVec_inj.1
  apply BitVec.eq_of_getLsbD_eq
  intro i hi
  simp only [UInt32.toBitVec_xor, UInt32.toBitVec_and, UInt32.toBitVec_not, BitVec.getLsbD_xor, BitVec.getLsbD_and, BitVec.getLsbD_not, hi]
  cases e.toBitVec.getLsbD i <;> cases f.toBitVec.getLsbD i <;> cases g.toBitVec.getLsbD i <;> rfl
theorem Dg.maj (a b c : UInt32) : (a &&& b) ||| (c &&& (a ||| b)) = (a &&& b) ^^^ (a &&& c) ^^^ (b &&& c) := by
  apply UInt32.toBitVec_inj.1
  apply BitVec.eq_of_getLsbD_eq
  intro i hi
  simp only [UInt32.toBitVec_xor, UInt32.toBitVec_and, UInt32.toBitVec_or, BitVec.getLsbD_xor, BitVec.getLsbD_and, BitVec.getLsbD_or]
  cases a.toBitVec.getLsbD i <;> cases b.toBitVec.getLsbD i <;> cases c.toBitVec.getLsbD i <;> rfl

/-- a word turned to the right -/
def Dg.ror (v : UInt32) (n : UInt32) : UInt32 := (v >>> n) ||| (v <<< (32 - n))
/-- a turn to the left by what is left of 32 -/
theorem Dg.rol (x : UInt32) (n : Nat) (h0 : 0 < n) (hn : n < 32) : bits .or .u32 (IntKind.u32.wrap ((x.toNat : Int) * 2 ^ (32 - n))) ((x.toNat : Int) / 2 ^ n) = ((Dg.ror x (UInt32.ofNat n)).toNat : Int) := by
  have h1 : (32 : UInt32) - UInt32.ofNat n = UInt32.ofNat (32 - n) := by
    apply UInt32.toNat_inj.1
    rw [UInt32.toNat_sub_of_le, UInt32.toNat_ofNat', UInt32.toNat_ofNat']
    · show 32 - n % 2 ^ 32 = (32 - n) % 2 ^ 32
      omega
    · rw [UInt32.le_iff_toNat_le, UInt32.toNat_ofNat']
      show n % 2 ^ 32 ≤ 32
      omega
  rw [Dg.shl x (32 - n) (by omega), Dg.shr x n hn, Dg.or, Dg.ror, h1, UInt32.or_comm]
/-- four bytes as a word -/
def Dg.word (b : List UInt8) (i : Nat) : UInt32 := ((b[4 * i]!).toUInt32 <<< 24) ||| ((b[4 * i + 1]!).toUInt32 <<< 16) ||| ((b[4 * i + 2]!).toUInt32 <<< 8) ||| (b[4 * i + 3]!).toUInt32
/-- the words of a block: one more -/
def Dg.next (w : List UInt32) (t : Nat) : UInt32 :=
  let x := w[t - 15]!
  let y := w[t - 2]!
  w[t - 16]! + (Dg.ror x 7 ^^^ Dg.ror x 18 ^^^ (x >>> 3)) + w[t - 7]! + (Dg.ror y 17 ^^^ Dg.ror y 19 ^^^ (y >>> 10))
/-- the first so many words of a block -/
def Dg.words (b : List UInt8) : Nat → List UInt32
  | 0 => (List.range 16).map (Dg.word b)
  | n + 1 => Dg.words b n ++ [Dg.next (Dg.words b n) (16 + n)]
theorem Dg.words_len (b : List UInt8) (n : Nat) : (Dg.words b n).length = 16 + n := by
  induction n with
  | zero => simp [Dg.words]
  | succ n ih => simp [Dg.words, ih]; omega
/-- the state: eight words -/
structure Dg.S where
  (a b c d e f g h : UInt32)
/-- one round -/
def Dg.step (k w : UInt32) (s : Dg.S) : Dg.S :=
  let p := s.h + (Dg.ror s.e 6 ^^^ Dg.ror s.e 11 ^^^ Dg.ror s.e 25) + ((s.e &&& s.f) ^^^ ((~~~s.e) &&& s.g)) + k + w
  let q := (Dg.ror s.a 2 ^^^ Dg.ror s.a 13 ^^^ Dg.ror s.a 22) + ((s.a &&& s.b) ^^^ (s.a &&& s.c) ^^^ (s.b &&& s.c))
  ⟨p + q, s.a, s.b, s.c, s.d + p, s.e, s.f, s.g⟩
/-- the first n rounds of a block's words under the numbers K -/
def Dg.rounds (K w : List UInt32) (s : Dg.S) : Nat → Dg.S
  | 0 => s
  | n + 1 => Dg.step K[n]! w[n]! (Dg.rounds K w s n)
def Dg.plus (s t : Dg.S) : Dg.S := ⟨s.a + t.a, s.b + t.b, s.c + t.c, s.d + t.d, s.e + t.e, s.f + t.f, s.g + t.g, s.h + t.h⟩
/-- a block is absorbed -/
def Dg.absorb (K : List UInt32) (s : Dg.S) (b : List UInt8) : Dg.S := Dg.plus s (Dg.rounds K (Dg.words b 48) s 64)
/-- so many blocks -/
def Dg.blocks (K : List UInt32) (s : Dg.S) (b : List UInt8) : Nat → Dg.S
  | 0 => s
  | n + 1 => Dg.absorb K (Dg.blocks K s b n) ((b.drop (64 * n)).take 64)
/-- eight bytes, the most significant one first -/
def Dg.put8 (n : Nat) : List UInt8 := (List.range 8).map fun i => UInt8.ofNat (n / 256 ^ (7 - i) % 256)
def Dg.put4 (x : UInt32) : List UInt8 := (List.range 4).map fun i => UInt8.ofNat (x.toNat / 256 ^ (3 - i) % 256)
/-- how many zero bytes stand behind the end mark -/
def Dg.zeros (n : Nat) : Nat := (119 - n % 64) % 64
def Dg.padded (b : List UInt8) : List UInt8 := b ++ [0x80] ++ List.replicate (Dg.zeros b.length) 0 ++ Dg.put8 (8 * b.length)
theorem Dg.padded_len (b : List UInt8) : (Dg.padded b).length % 64 = 0 := by
  unfold Dg.padded Dg.zeros Dg.put8
  simp only [List.length_append, List.length_replicate, List.length_cons, List.length_nil, List.length_map, List.length_range]
  omega
def Dg.bytes (s : Dg.S) : List UInt8 := Dg.put4 s.a ++ Dg.put4 s.b ++ Dg.put4 s.c ++ Dg.put4 s.d ++ Dg.put4 s.e ++ Dg.put4 s.f ++ Dg.put4 s.g ++ Dg.put4 s.h
/-- the digest of bytes under the numbers K from the state I -/
def Dg.sum (K : List UInt32) (I : Dg.S) (b : List UInt8) : List UInt8 := Dg.bytes (Dg.blocks K I (Dg.padded b) ((Dg.padded b).length / 64))
def Dg.tagged (K : List UInt32) (I : Dg.S) (tag b : List UInt8) : List UInt8 := Dg.sum K I (Dg.sum K I tag ++ b)
theorem Dg.sum_len (K : List UInt32) (I : Dg.S) (b : List UInt8) : (Dg.sum K I b).length = 32 := by
  simp [Dg.sum, Dg.bytes, Dg.put4]
/-- the blocks of a longer list begin alike -/
theorem Dg.blocks_more (K : List UInt32) (s : Dg.S) (b c : List UInt8) (n : Nat) (h : 64 * n ≤ b.length) : Dg.blocks K s (b ++ c) n = Dg.blocks K s b n := by
  induction n with
  | zero => rfl
  | succ n ih =>
    rw [Dg.blocks, Dg.blocks, ih (by omega), List.drop_append_of_le_length (by omega), List.take_append_of_le_length (by rw [List.length_drop]; omega)]
/-- blocks of a list, then blocks of what follows -/
theorem Dg.blocks_append (K : List UInt32) (s : Dg.S) (a e : List UInt8) (m j : Nat) (h : a.length = 64 * m) : Dg.blocks K s (a ++ e) (m + j) = Dg.blocks K (Dg.blocks K s a m) e j := by
  induction j with
  | zero => exact Dg.blocks_more K s a e m (by omega)
  | succ j ih =>
    show Dg.absorb K (Dg.blocks K s (a ++ e) (m + j)) (((a ++ e).drop (64 * (m + j))).take 64) = Dg.absorb K (Dg.blocks K (Dg.blocks K s a m) e j) ((e.drop (64 * j)).take 64)
    rw [ih]
    have h1 : (a ++ e).drop (64 * (m + j)) = e.drop (64 * j) := by
      rw [List.drop_append, List.drop_eq_nil_of_le (by omega), List.nil_append, h, show 64 * (m + j) - 64 * m = 64 * j by omega]
    rw [h1]
/-- what follows the full blocks of a list -/
def Dg.tail (b : List UInt8) : List UInt8 := b.drop (64 * (b.length / 64)) ++ [0x80] ++ List.replicate (Dg.zeros b.length) 0 ++ Dg.put8 (8 * b.length)
theorem Dg.tail_len (b : List UInt8) : (Dg.tail b).length = if b.length % 64 > 55 then 128 else 64 := by
  unfold Dg.tail Dg.zeros Dg.put8
  simp only [List.length_append, List.length_replicate, List.length_cons, List.length_nil, List.length_map, List.length_range, List.length_drop]
  split <;> omega
theorem Dg.sum_tail (K : List UInt32) (I : Dg.S) (b : List UInt8) : Dg.sum K I b = Dg.bytes (Dg.blocks K (Dg.blocks K I b (b.length / 64)) (Dg.tail b) ((Dg.tail b).length / 64)) := by
  have hb : b.take (64 * (b.length / 64)) ++ b.drop (64 * (b.length / 64)) = b := List.take_append_drop _ _
  have hl : (b.take (64 * (b.length / 64))).length = 64 * (b.length / 64) := by rw [List.length_take]; omega
  have hp : Dg.padded b = b.take (64 * (b.length / 64)) ++ Dg.tail b := by
    unfold Dg.padded Dg.tail
    rw [← List.append_assoc, ← List.append_assoc, ← List.append_assoc, hb]
  have hn : (Dg.padded b).length / 64 = b.length / 64 + (Dg.tail b).length / 64 := by
    rw [hp, List.length_append, hl]
    omega
  have hx : Dg.blocks K I b (b.length / 64) = Dg.blocks K I (b.take (64 * (b.length / 64))) (b.length / 64) := by
    have h := Dg.blocks_more K I (b.take (64 * (b.length / 64))) (b.drop (64 * (b.length / 64))) (b.length / 64) (by omega)
    rw [hb] at h
    exact h
  unfold Dg.sum
  rw [hn, hx, hp, Dg.blocks_append K I _ _ _ _ hl]
end Go.Proofs.YtnbbleajbbgmjaaDoor
