/- Contract of the endless iterator field.powers: round k yields the power k, while a counter in memory bounds the rounds. -/
import Derived.RangeFuncBound
import Derived.RangeFuncLeaves
import Derived.Shelf.Abstract
import Derived.Shelf.RegionOpen
import Derived.OwnWalkIn
import Derived.TacticsInMore
import Derived.LoopNIn
import Derived.LoopIn
import Derived.Test.YtpijkjpefdlefaaRange
import Derived.Test.YtpijkjpefdlefaaFldW2
namespace Go.Proofs.Ytpijkjpefdlefaa
open Go.RowKit Go.Shelf
attribute [local go_sem] Oper.semAt_some
set_option linter.unusedVariables false

/-- the number in a cell, for a measure -/
def cellNat (w : World) (b i : Nat) : Nat := match w.cell? ⟨b, i, none⟩ with | some (.int _ n) => n.toNat | _ => 0

theorem Fld.powers_any (a : UInt8) (w : World) : Calls Try.prog 42 #[B8 a] w fun e w' => e = .returned (.func (.func 50) #[] #[.pointer (some ⟨w.heap.size, 0, none⟩)]) ∧ w.alloc (.cells #[B8 a] 5) = w' := by
  have hmf : ∀ (fn : Fn) (first cap : Array Value) (w : World), (Instr.makeFunc fn first cap).run Try.prog w = .ok (.func fn first cap) w := fun _ _ _ _ => rfl
  go_enter Try.func42, Try.ntmps42
  go_wp2
  go_ret
  exact ⟨rfl, rfl⟩

set_option maxHeartbeats 1000000 in
theorem Fld.powers_in (n : Nat) (hn : 2 ≤ n) (a : UInt8) (ba bi len l : Nat) (J : Nat → World → Prop) (Jx : World → Prop) (W : World)
    (hJ : ∀ k W, J k W → W.cell? ⟨ba, 0, none⟩ = some (B8 a) ∧ W.cell? ⟨bi, 0, none⟩ = some (.int .i64 (k : Int)) ∧ k ≤ len)
    (hJB : ∀ k W W', J k W → Below W.heap.size W W' → J k W')
    (hY : ∀ k W, J k W → YieldAt Fence.wide (n - 1) Try.prog l #[B8 (Fld.pwr a k)] W fun e W' => (e = .returned (.bool true) ∧ J (k + 1) W') ∨ (e = .returned (.bool false) ∧ Jx W'))
    (h0 : J 0 W) :
    CallsIn Fence.wide n Try.prog 50 #[.func (.yield l) #[] #[], .pointer (some ⟨ba, 0, none⟩)] W fun e W' => (∃ v, e = .returned v) ∧ Jx W' := by
  have h1 : 1 ≤ n := by omega
  have h2 : 1 ≤ n - 1 := by omega
  have hfn : ∀ f, Fence.wide.fn f := fun _ => trivial
  refine callsIn_of_wp Try.func50 rfl trivial ?_ rfl
  simp only [Try.ntmps50, List.size_toArray, List.length_cons, List.length_nil, Nat.reduceAdd, Nat.reduceSub, Array.replicate_succ, Array.replicate_zero, List.push_toArray, List.append_toArray, List.nil_append, List.cons_append]
  gi_wp2
  gi_loopw [3] (fun p wr => ∃ k : Nat, p = B8 (Fld.pwr a k) ∧ J k wr) (fun _ wr => len + 1 - cellNat wr bi 0)
  case atStart => exact ⟨0, rfl, h0⟩
  case round =>
    obtain ⟨k, rfl, hj⟩ := hrel
    obtain ⟨ca, ci, hk⟩ := hJ k wr hj
    have m0 := Lib.hid (show cellNat wr bi 0 = k by unfold cellNat; rw [ci]; simp)
    obtain ⟨fn, tmps, assign, body, hy, hR⟩ := hY k wr hj
    have HJ := Lib.hid hJ
    have HY := Lib.hid hY
    have HB := Lib.hid hJB
    clear hJ hY hJB ca ci
    gi_wp2
    refine hR.mono ?_
    rintro e W3 (⟨rfl, hJ3⟩ | ⟨rfl, hx3⟩)
    · obtain ⟨ca3, ci3, hk3⟩ := HJ.out (k + 1) W3 hJ3
      gi_wp2_with (gi_at_call 43; refine (callsIn_wide.2 (Fld.mul_any (Fld.pwr a k) a _)).mono ?_; rintro e W4 ⟨rfl, hb4⟩)
      have HJ4 := Lib.hid (HB.out (k + 1) W3 W4 hJ3 hb4)
      have m4 := Lib.hid (show cellNat W4 bi 0 = k + 1 by have := (HJ.out (k + 1) W4 HJ4.out).2.1; unfold cellNat; rw [this]; simp)
      go_roundw
      case rel => exact ⟨k + 1, rfl, HJ4.out⟩
      case measure => rw [m0.out, m4.out]; omega
    · gi_wp2
      go_end0
      exact ⟨⟨_, rfl⟩, hx3⟩
end Go.Proofs.Ytpijkjpefdlefaa
