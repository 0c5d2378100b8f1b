/- Bytes of a number laid into cells, from the last on. No program in sight. -/
import Derived.Test.YtnbbleajbbgmjaaDoorDgP2
namespace Go.Proofs.YtnbbleajbbgmjaaDoor
open Go
set_option linter.unusedVariables false

abbrev Dg.b8 (a : UInt8) : Value := .int .u8 (a.toNat : Int)
/-- byte k of a number -/
def Dg.by (N k : Nat) : UInt8 := UInt8.ofNat (N / 256 ^ k % 256)
/-- the last k of the n cells from off on hold the number's last bytes -/
def Dg.putc (cs : List Value) (off n N k : Nat) : List Value := cs.mapIdx fun j c => if off + n - k ≤ j ∧ j < off + n then Dg.b8 (Dg.by N (off + n - 1 - j)) else c
theorem Dg.putc_len (cs : List Value) (off n N k : Nat) : (Dg.putc cs off n N k).length = cs.length := by simp [Dg.putc]
theorem Dg.putc_zero (cs : List Value) (off n N : Nat) : Dg.putc cs off n N 0 = cs := by
  apply List.ext_getElem?
  intro j
  unfold Dg.putc
  rw [List.getElem?_mapIdx]
  cases cs[j]? with
  | none => rfl
  | some c => rw [Option.map_some, if_neg (by omega)]
theorem Dg.putc_set (cs : List Value) (off n N k : Nat) (hk : k < n) (hf : off + n ≤ cs.length) : (Dg.putc cs off n N k).set (off + (n - 1 - k)) (Dg.b8 (Dg.by N k)) = Dg.putc cs off n N (k + 1) := by
  apply List.ext_getElem?
  intro j
  rw [List.getElem?_set, Dg.putc_len]
  by_cases hj : off + (n - 1 - k) = j
  · subst hj
    rw [if_pos rfl, if_pos (by omega)]
    unfold Dg.putc
    rw [List.getElem?_mapIdx, List.getElem?_eq_getElem (by omega), Option.map_some, if_pos (by omega), show off + n - 1 - (off + (n - 1 - k)) = k by omega]
  · rw [if_neg hj]
    unfold Dg.putc
    rw [List.getElem?_mapIdx, List.getElem?_mapIdx]
    cases cs[j]? with
    | none => rfl
    | some c =>
      rw [Option.map_some, Option.map_some]
      by_cases h1 : off + n - k ≤ j ∧ j < off + n
      · rw [if_pos h1, if_pos (by omega)]
      · rw [if_neg h1, if_neg (by omega)]
/-- a number's n last bytes -/
def Dg.putn (N n : Nat) : List UInt8 := (List.range n).map fun i => Dg.by N (n - 1 - i)
theorem Dg.putn_len (N n : Nat) : (Dg.putn N n).length = n := by simp [Dg.putn]
theorem Dg.putc_all (cs : List Value) (off n N : Nat) (hf : off + n ≤ cs.length) : Dg.putc cs off n N n = cs.take off ++ ((Dg.putn N n).map Dg.b8 ++ cs.drop (off + n)) := by
  have hl : (cs.take off).length = off := by rw [List.length_take]; omega
  have hl2 : ((Dg.putn N n).map Dg.b8).length = n := by rw [List.length_map, Dg.putn_len]
  apply List.ext_getElem?
  intro j
  unfold Dg.putc
  rw [List.getElem?_mapIdx]
  by_cases h1 : j < off
  · rw [List.getElem?_append_left (by omega), List.getElem?_take_of_lt h1]
    cases cs[j]? with
    | none => rfl
    | some c => rw [Option.map_some, if_neg (by omega)]
  · rw [List.getElem?_append_right (by omega), hl]
    by_cases h2 : j < off + n
    · rw [List.getElem?_append_left (by omega), List.getElem?_eq_getElem (show j < cs.length by omega), Option.map_some, if_pos (by omega)]
      unfold Dg.putn
      rw [List.map_map, List.getElem?_map, List.getElem?_range (by omega), Option.map_some]
      show some (Dg.b8 (Dg.by N (off + n - 1 - j))) = some (Dg.b8 (Dg.by N (n - 1 - (j - off))))
      rw [show off + n - 1 - j = n - 1 - (j - off) by omega]
    · rw [List.getElem?_append_right (by omega), hl2, List.getElem?_drop, show off + n + (j - off - n) = j by omega]
      cases cs[j]? with
      | none => rfl
      | some c => rw [Option.map_some, if_neg (by omega)]
theorem Dg.putc_get (cs : List Value) (off n N k j : Nat) (hj : j < cs.length) : ∃ v, (Dg.putc cs off n N k)[j]? = some v := ⟨_, List.getElem?_eq_getElem (by rw [Dg.putc_len]; exact hj)⟩
end Go.Proofs.YtnbbleajbbgmjaaDoor
