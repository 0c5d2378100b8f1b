/- Contracts of codec.unsigned and codec.signed: an integer as a number without sign. -/
import Derived.Laws.BitsAllLaws
import Derived.Laws.Bits64
import Derived.Laws.DeepNot64
import Derived.Test.YtnbbleajbbgmjaaDoorApp
import Derived.Test.YtnbbleajbbgmjaaDoorProg
namespace Go.Proofs.YtnbbleajbbgmjaaDoor
open Go.RowKit
set_option linter.unusedVariables false

/-- the unsigned form of an integer -/
def Cd.uns (n : Int) : Nat := if 0 ≤ n then 2 * n.toNat else 2 * (-(n + 1)).toNat + 1
/-- the integer with an unsigned form -/
def Cd.sgn (u : Nat) : Int := if u % 2 = 0 then ((u / 2 : Nat) : Int) else -((u / 2 : Nat) : Int) - 1

theorem Cd.uns_lt (n : Int) (hn : -9223372036854775808 ≤ n ∧ n ≤ 9223372036854775807) : Cd.uns n < 18446744073709551616 := by
  unfold Cd.uns
  split <;> omega
theorem Cd.sgn_uns (n : Int) : Cd.sgn (Cd.uns n) = n := by
  unfold Cd.sgn Cd.uns
  by_cases h : 0 ≤ n
  · rw [if_pos h, if_pos (by omega)]; omega
  · rw [if_neg h, if_neg (by omega)]; omega
theorem Cd.uns_sgn (u : Nat) : Cd.uns (Cd.sgn u) = u := by
  unfold Cd.sgn Cd.uns
  by_cases h : u % 2 = 0
  · rw [if_pos h, if_pos (by omega)]; omega
  · rw [if_neg h, if_neg (by omega)]; omega
theorem Cd.sgn_in (u : Nat) (hu : u < 18446744073709551616) : -9223372036854775808 ≤ Cd.sgn u ∧ Cd.sgn u ≤ 9223372036854775807 := by
  unfold Cd.sgn
  split <;> omega
theorem Cd.xor_ones (x : Nat) (hx : x < 18446744073709551616) : x ^^^ 18446744073709551615 = 18446744073709551615 - x := by
  have h : (BitVec.ofNat 64 x ^^^ BitVec.allOnes 64) = ~~~(BitVec.ofNat 64 x) := BitVec.xor_allOnes
  have h2 := congrArg BitVec.toNat h
  rw [BitVec.toNat_xor, BitVec.toNat_not, BitVec.toNat_allOnes, BitVec.toNat_ofNat, Nat.mod_eq_of_lt (by omega)] at h2
  exact h2
theorem Cd.u64_wrap (n : Int) : IntKind.u64.wrap n = n % 18446744073709551616 := by
  simp [IntKind.wrap, IntKind.signed, IntKind.bits]

theorem Cd.unsigned_any (n : Int) (w : World) (hn : -9223372036854775808 ≤ n ∧ n ≤ 9223372036854775807) :
    Calls Tryd.prog 73 #[.int .i64 n] w fun e w' => e = .returned (.int .u64 (Cd.uns n)) ∧ w = w' := by
  have HE := Lib.hid (show bits .xor .u64 (IntKind.u64.wrap (IntKind.u64.wrap n * 2)) (IntKind.u64.wrap (n / 9223372036854775808)) = ((Cd.uns n : Nat) : Int) by
    rw [Cd.u64_wrap, Cd.u64_wrap, Cd.u64_wrap]
    unfold Cd.uns
    by_cases h : 0 ≤ n
    · rw [if_pos h, show (n % 18446744073709551616 * 2 % 18446744073709551616) = ((2 * n.toNat : Nat) : Int) by omega, show (n / 9223372036854775808 % 18446744073709551616) = ((0 : Nat) : Int) by omega, u64_xor_nat _ _ (by omega) (by omega), Nat.xor_zero]
    · rw [if_neg h, show (n % 18446744073709551616 * 2 % 18446744073709551616) = ((18446744073709551615 - (2 * (-(n + 1)).toNat + 1) : Nat) : Int) by omega, show (n / 9223372036854775808 % 18446744073709551616) = ((18446744073709551615 : Nat) : Int) by omega, u64_xor_nat _ _ (by omega) (by omega), Cd.xor_ones _ (by omega)]
      omega)
  go_enter Tryd.func73, Tryd.ntmps73
  go_wp2_with fail
  go_ret
  exact ⟨by rw [← HE.out]; rfl, rfl⟩

theorem Cd.i64_xor_ones (a : Nat) (ha : a < 9223372036854775808) : bits .xor .i64 (a : Int) (-1) = -1 - (a : Int) := by
  rw [← i64_not a ha]
  show IntKind.i64.wrap ((BitVec.ofInt 64 (a : Int) ^^^ BitVec.ofInt 64 (-1)).toNat : Int) = IntKind.i64.wrap ((BitVec.ofInt 64 (-1) ^^^ BitVec.ofInt 64 (a : Int)).toNat : Int)
  rw [BitVec.xor_comm]
theorem Cd.i64_xor_zero (a : Nat) (ha : a < 9223372036854775808) : bits .xor .i64 (a : Int) 0 = (a : Int) := by
  show IntKind.i64.wrap ((BitVec.ofInt 64 (a : Int) ^^^ BitVec.ofInt 64 (0 : Int)).toNat : Int) = _
  rw [show BitVec.ofInt 64 (0 : Int) = 0#64 from rfl, BitVec.xor_zero, BitVec.ofInt_natCast, BitVec.toNat_ofNat, Nat.mod_eq_of_lt (by omega)]
  exact IntWalk.i64_in _ (by omega)

end Go.Proofs.YtnbbleajbbgmjaaDoor
