/- The end of the bytes that are hashed: how the code lays it; the digest's bytes out of the state. No program in sight. -/
import Derived.Test.YtnbbleajbbgmjaaDoorDgP3
import Derived.Laws.CopyOwn
namespace Go.Proofs.YtnbbleajbbgmjaaDoor
open Go
set_option linter.unusedVariables false

/-- what stands behind the full blocks, with its mark, in 128 bytes -/
def Dg.e1 (R : List UInt8) : List UInt8 := R ++ [0x80] ++ List.replicate (127 - R.length) 0
theorem Dg.e1_len (R : List UInt8) (h : R.length < 64) : (Dg.e1 R).length = 128 := by simp [Dg.e1]; omega
theorem Dg.e1_cells (R : List UInt8) (h : R.length < 64) : (splice (List.replicate 128 (Value.int .u8 0)) 0 (R.map Dg.b8)).set R.length (.int .u8 128) = (Dg.e1 R).map Dg.b8 := by
  have h1 : splice (List.replicate 128 (Value.int .u8 0)) 0 (R.map Dg.b8) = R.map Dg.b8 ++ (Value.int .u8 0 :: List.replicate (127 - R.length) (.int .u8 0)) := by
    unfold splice
    rw [List.take_zero, List.nil_append, List.length_map, Nat.zero_add, List.drop_replicate, show 128 - R.length = (127 - R.length) + 1 by omega, List.replicate_succ]
  rw [h1, List.set_append_right _ _ (by rw [List.length_map]; omega), List.length_map, Nat.sub_self, List.set_cons_zero]
  unfold Dg.e1
  rw [List.map_append, List.map_append, List.map_replicate, List.append_assoc]
  rfl
/-- with the number of bits laid in, its first L bytes are the end of what is hashed -/
theorem Dg.end_cells (l : List UInt8) (R : List UInt8) (hR : R = l.drop (64 * (l.length / 64))) (L : Nat) (hL : L = (Dg.tail l).length) :
    ∃ X, Dg.putc ((Dg.e1 R).map Dg.b8) (L - 8) 8 (8 * l.length) 8 = (Dg.tail l ++ X).map Dg.b8 ∧ X.length = 128 - L ∧ (L = 64 ∨ L = 128) := by
  have hl := Dg.tail_len l
  have hRl : R.length = l.length % 64 := by rw [hR, List.length_drop]; omega
  have hL2 : L = 64 ∨ L = 128 := by rw [hL, hl]; split <;> simp
  have he := Dg.e1_len R (by omega)
  have hz : Dg.zeros l.length = L - 9 - R.length := by
    unfold Dg.zeros
    rw [hL, hl, hRl]
    split <;> omega
  have hfit : R.length + 9 ≤ L := by rw [hL, hl, hRl]; split <;> omega
  refine ⟨(Dg.e1 R).drop L, ?_, by rw [List.length_drop, he], hL2⟩
  rw [Dg.putc_all _ _ _ _ (by rw [List.length_map, he]; omega), ← List.map_take, ← List.map_drop, show L - 8 + 8 = L by omega, ← List.map_append, ← List.map_append]
  congr 1
  rw [← List.append_assoc]
  congr 1
  unfold Dg.tail
  rw [← hR, hz]
  have ht : (Dg.e1 R).take (L - 8) = R ++ [0x80] ++ List.replicate (L - 9 - R.length) 0 := by
    unfold Dg.e1
    rw [List.take_append, List.take_of_length_le (by simp; omega), List.take_replicate]
    congr 2
    simp
    omega
  rw [ht]
  rfl

/-- the digest's cells when k words are laid in -/
def Dg.dc (s : Dg.S) (k : Nat) : List Value := ((Dg.bytes s).take (4 * k)).map Dg.b8 ++ List.replicate (32 - 4 * k) (.int .u8 0)
theorem Dg.bytes_len (s : Dg.S) : (Dg.bytes s).length = 32 := by simp [Dg.bytes, Dg.put4]
theorem Dg.dc_len (s : Dg.S) (k : Nat) (h : k ≤ 8) : (Dg.dc s k).length = 32 := by simp [Dg.dc, Dg.bytes_len]; omega
theorem Dg.dc_put (s : Dg.S) (k : Nat) (h : k < 8) (v : UInt32) (hv : v = [s.a, s.b, s.c, s.d, s.e, s.f, s.g, s.h][k]'h) : Dg.putc (Dg.dc s k) (4 * k) 4 v.toNat 4 = Dg.dc s (k + 1) := by
  rw [Dg.putc_all _ _ _ _ (by rw [Dg.dc_len s k (by omega)]; omega)]
  subst hv
  match k, h with
  | 0, _ => rfl
  | 1, _ => rfl
  | 2, _ => rfl
  | 3, _ => rfl
  | 4, _ => rfl
  | 5, _ => rfl
  | 6, _ => rfl
  | 7, _ => rfl
theorem Dg.dc_all (s : Dg.S) : Dg.dc s 8 = (Dg.bytes s).map Dg.b8 := by
  unfold Dg.dc
  rw [List.take_of_length_le (by rw [Dg.bytes_len]; omega)]
  simp
end Go.Proofs.YtnbbleajbbgmjaaDoor
