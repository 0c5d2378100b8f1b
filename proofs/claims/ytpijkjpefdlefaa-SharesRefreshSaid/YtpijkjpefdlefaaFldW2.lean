/- Contract of field.Inv: for every byte. -/
import Derived.Test.YtpijkjpefdlefaaFldW1
namespace Go.Proofs.Ytpijkjpefdlefaa
open Go.RowKit
set_option linter.unusedVariables false

theorem Fld.inv_zero (w : World) : Calls Try.prog 48 #[B8 0] w fun e w' => e = .returned (.tuple #[B8 0, .int .i64 1]) ∧ Below w.heap.size w w' := by
  have h0 : (((0 : UInt8).toNat : Int) == 0) = true := rfl
  go_enter Try.func48, Try.ntmps48
  go_wp2_with fail
  go_ret2
  exact ⟨rfl, Below.refl _ _⟩

set_option maxHeartbeats 1000000 in
theorem Fld.inv_else (a : UInt8) (w : World) (h : a ≠ 0) : Calls Try.prog 48 #[B8 a] w fun e w' => e = .returned (.tuple #[B8 (Fld.inv a), .int .i64 0]) ∧ Below w.heap.size w w' := by
  have h0 : ((a.toNat : Int) == 0) = false := by
    rw [beq_eq_false_iff_ne]
    intro e
    exact h (UInt8.toNat_inj.1 (by show a.toNat = 0; omega))
  have HI := Lib.hid (show Fld.inv a = (Fld.invS a 7).2 by rw [Fld.inv, if_neg h])
  clear h
  go_enter Try.func48, Try.ntmps48
  go_wp2_with fail
  clear h0
  go_loopw [0, 2, 6] (fun x y i wr => ∃ k : Nat, k ≤ 7 ∧ i = .int .i64 k ∧ x = B8 (Fld.invS a k).1 ∧ y = B8 (Fld.invS a k).2 ∧ Below w.heap.size w wr) (fun _ _ i _ => 7 - (intOf i).toNat)
  case atStart => exact ⟨0, by omega, rfl, rfl, rfl, Below.refl _ _⟩
  case round =>
    obtain ⟨k, hk, rfl, rfl, rfl, hB⟩ := hrel
    have HB := Lib.hid hB
    clear hB
    by_cases hlt : k < 7
    · go_wp2_with fail
      refine (Fld.mul_any _ _ _).mono ?_
      rintro e w1 ⟨rfl, hb1⟩
      have HB1 := Lib.hid (HB.out.trans (hb1.mono HB.out.size))
      clear hb1
      go_wp2_with fail
      refine (Fld.mul_any _ _ _).mono ?_
      rintro e w2 ⟨rfl, hb2⟩
      have HB2 := Lib.hid (HB1.out.trans (hb2.mono HB1.out.size))
      clear hb2
      go_wp2_with fail
      go_roundw
      case rel => exact ⟨k + 1, by omega, by go_num, rfl, rfl, HB2.out⟩
      case measure => simp [intOf]; omega
    · obtain rfl : k = 7 := by omega
      go_wp2_with fail
      go_ret2
      exact ⟨by rw [HI.out]; rfl, HB.out⟩
theorem Fld.inv_any (a : UInt8) (w : World) : Calls Try.prog 48 #[B8 a] w fun e w' => e = .returned (.tuple #[B8 (Fld.inv a), .int .i64 (Fld.invE a)]) ∧ Below w.heap.size w w' := by
  by_cases h : a = 0
  · subst h; exact Fld.inv_zero w
  · exact (Fld.inv_else a w h).mono fun _ _ ⟨he, hb⟩ => ⟨by rw [he, Fld.invE, if_neg h], hb⟩
end Go.Proofs.Ytpijkjpefdlefaa
