/- Encodings are equal exactly if the values are, and none is the beginning of another one; an encoding of a list. No condition; no program in sight. -/
import Derived.Test.YtnhodcjbmloeeaaCdF
namespace Go.Proofs.Ytnhodcjbmloeeaa
open Go.RowKit
set_option linter.unusedVariables false

/-- none of two different values' encodings is the beginning of the other one -/
theorem Cd.enc_apart {t u : Cd.T} (ht : Cd.chkE t = 0) (hu : Cd.chkE u = 0) (rt : t.rng) (ru : u.rng) {x y : List UInt8} (h : t.enc ++ x = u.enc ++ y) : t = u := by
  have key : ∀ {v : Cd.T}, Cd.chkE v = 0 → v.rng → ∀ z, Cd.dv 16 (v.enc ++ z) = some (v, z) := by
    intro v hv rv z
    unfold Cd.chkE at hv
    cases hf : v.fd with
    | none => rw [hf] at hv; cases hv
    | some d =>
      rw [hf] at hv
      have hv : (if 16 < d then (2 : Int) else 0) = 0 := hv
      have hd : d ≤ 16 := by
        by_cases h : 16 < d
        · rw [if_pos h] at hv; cases hv
        · omega
      exact Cd.dv_enc v 16 d z hf hd rv
  have h1 := key ht rt x
  rw [h, key hu ru y] at h1
  injection h1 with h1
  injection h1 with h2
  exact h2.symm
theorem Cd.enc_takes {t u : Cd.T} (ht : Cd.chkE t = 0) (hu : Cd.chkE u = 0) (rt : t.rng) (ru : u.rng) (h : t ≠ u) :
    (Cd.out t).take (min (Cd.out t).length (Cd.out u).length) ≠ (Cd.out u).take (min (Cd.out t).length (Cd.out u).length) := by
  have ot : Cd.out t = t.enc := by unfold Cd.out; rw [if_pos ht]
  have ou : Cd.out u = u.enc := by unfold Cd.out; rw [if_pos hu]
  rw [ot, ou]
  intro e
  apply h
  rcases Nat.le_total t.enc.length u.enc.length with hl | hl
  · rw [Nat.min_eq_left hl, List.take_length] at e
    refine Cd.enc_apart ht hu rt ru (x := u.enc.drop t.enc.length) (y := []) ?_
    rw [List.append_nil]
    exact (congrArg (· ++ u.enc.drop t.enc.length) e).trans (List.take_append_drop _ _)
  · rw [Nat.min_eq_right hl, List.take_length] at e
    refine Cd.enc_apart ht hu rt ru (x := []) (y := t.enc.drop u.enc.length) ?_
    rw [List.append_nil]
    exact ((congrArg (· ++ t.enc.drop u.enc.length) e).symm.trans (List.take_append_drop _ _)).symm
end Go.Proofs.Ytnhodcjbmloeeaa
