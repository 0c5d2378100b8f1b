/- Contract of the iterator clocks.halves: it yields 2^20, 2^19, .., 1. -/
import Derived.RangeFuncNested
import Derived.RangeFuncBound
import Derived.RangeFuncCalls
import Derived.RangeFuncLeaves
import Derived.Shelf.Abstract
import Derived.Shelf.RegionOpen
import Derived.OwnWalkIn
import Derived.TacticsInMore
import Derived.LoopNIn
import Derived.LoopIn
import Derived.Test.YtnbbleajbbgmjaaDoorClkW2
namespace Go.Proofs.YtnbbleajbbgmjaaDoor
open Go.RowKit Go.Shelf
attribute [local go_sem] Oper.semAt_some
set_option linter.unusedVariables false

/-- a distance that halves can yield -/
abbrev Clk.Dist := { x : Int // 0 < x ∧ x ≤ 1048576 }
/-- the head of halvesN m, or 0 -/
def Clk.hd : Nat → Int
  | 0 => 0
  | m + 1 => 2 ^ m
theorem Clk.hd_half (m : Nat) : Clk.hd (m + 1) / 2 = Clk.hd m := by
  cases m with
  | zero => rfl
  | succ m => show (2 : Int) ^ (m + 1) / 2 = 2 ^ m; rw [Int.pow_succ]; omega
theorem Clk.hd_pos (m : Nat) : 0 < Clk.hd (m + 1) := Int.pow_pos (by omega)
theorem Clk.hd_le (m : Nat) (h : m ≤ 21) : Clk.hd m ≤ 1048576 := by
  have H : ∀ k : Nat, k ≤ 21 → Clk.hd k ≤ 1048576 := by decide
  exact H m h
theorem Clk.halves_len (m : Nat) : (Clk.halvesN m).length = m := by
  induction m with
  | zero => rfl
  | succ m ih => simp [Clk.halvesN, ih]

set_option maxHeartbeats 1000000 in
theorem Clk.halves_stops (n : Nat) (hn : 1 ≤ n) (Kp : World → World → Prop) (w : World) :
    SeqStopsK Fence.wide n Tryd.prog 68 #[] (fun v : Clk.Dist => #[.int .i64 v.1]) Kp (fun xs => xs.map (·.1) = Clk.halvesN 21) (fun _ => True) 21 w := fun l J Jx W _ _ _ hY h0 => by
  refine callsIn_of_wp Tryd.func68 rfl trivial ?_ rfl
  simp only [Tryd.ntmps68, List.size_toArray, List.length_cons, List.length_nil, Nat.reduceAdd, Nat.reduceSub, Array.replicate_succ, Array.replicate_zero, List.push_toArray, List.append_toArray, List.nil_append, List.cons_append]
  gi_wp2
  gi_loopw [2] (fun p wr => ∃ (pre : List Clk.Dist) (m : Nat), m ≤ 21 ∧ p = .int .i64 (Clk.hd m) ∧ pre.map (·.1) ++ Clk.halvesN m = Clk.halvesN 21 ∧ J pre wr)
    (fun p wr => (intOf p).toNat)
  case atStart =>
    exact ⟨[], 21, Nat.le_refl _, rfl, rfl, h0⟩
  case round =>
    obtain ⟨pre, m, hm, rfl, hx, hJs⟩ := hrel
    cases m with
    | zero =>
      have HX := Lib.hid hx
      clear hx
      have e0 : Clk.hd 0 = 0 := rfl
      rw [e0]
      gi_wp2
      go_end0
      exact ⟨⟨_, rfl⟩, .inl ⟨pre, by simpa [Clk.halvesN] using HX.out, hJs⟩⟩
    | succ m =>
      have hp := Clk.hd_pos m
      have hle := Clk.hd_le (m + 1) hm
      have hh := Clk.hd_half m
      have hlt : pre.length < 21 := by
        have := congrArg List.length hx
        simp [Clk.halves_len] at this
        omega
      obtain ⟨fn, tmps, assign, body, hy, hR⟩ := hY pre ⟨Clk.hd (m + 1), hp, hle⟩ wr hJs hlt
      dsimp only at hy
      have HX := Lib.hid (show (pre ++ [(⟨Clk.hd (m + 1), hp, hle⟩ : Clk.Dist)]).map (·.1) ++ Clk.halvesN m = Clk.halvesN 21 by rw [← hx]; simp [Clk.halvesN, Clk.hd])
      have HH := Lib.hid hh
      clear hx hh
      have hdec : Hid ((Clk.hd m).toNat < (Clk.hd (m + 1)).toNat) := by
        have := HH.out
        show (Clk.hd m).toNat < (Clk.hd (m + 1)).toNat
        omega
      gi_wp2
      refine hR.mono ?_
      rintro e W3 (⟨rfl, hJ3, hk3⟩ | ⟨rfl, hJx3⟩)
      · gi_wp2
        rw [HH.out]
        go_roundw
        case rel => exact ⟨_, m, by omega, rfl, HX.out, hJ3⟩
        case measure => exact hdec.out
      · gi_wp2
        refine bodyPost_ret (results_none rfl _ _ _) rfl ?_
        exact ⟨⟨_, rfl⟩, .inr ⟨_, trivial, hJx3⟩⟩

end Go.Proofs.YtnbbleajbbgmjaaDoor
