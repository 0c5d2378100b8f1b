/- Contracts of package digest: turns of words. -/
import Derived.Test.YtnbbleajbbgmjaaDoorUtil
import Derived.Test.YtnbbleajbbgmjaaDoorDgP
import Derived.Test.YtnbbleajbbgmjaaDoorProg
import Derived.Laws.BitsAllLaws
import Derived.Laws.Bits64
namespace Go.Proofs.YtnbbleajbbgmjaaDoor
open Go.RowKit
set_option linter.unusedVariables false

theorem Dg.cnt (n : Nat) (h0 : 0 < n) (hn : n < 32) : bits .and .u64 (IntKind.u64.wrap (-(n : Int))) 31 = ((32 - n : Nat) : Int) := by
  have hw : IntKind.u64.wrap (-(n : Int)) = 18446744073709551616 - (n : Int) := by
    simp [IntKind.wrap, IntKind.bits, IntKind.signed]
    omega
  have hk : ∀ m : Int, 0 ≤ m → m < 2 ^ 64 → IntKind.u64.wrap m = m := fun m h1 h2 => by
    simp [IntKind.wrap, IntKind.bits, IntKind.signed]
    omega
  have hm : bits .and .u64 (18446744073709551616 - (n : Int)) 31 = (18446744073709551616 - (n : Int)) % 32 := bits_mask .u64 64 (by decide) hk 5 (by decide) _ (by omega) (by omega)
  rw [hw, hm]
  omega
set_option maxHeartbeats 1000000 in
theorem Dg.rotl_any (w : World) (x : UInt32) (n : Nat) (h0 : 0 < n) (hn : n < 32) :
    Calls Tryd.prog 86 #[.int .u32 (x.toNat : Int), .int .i64 (-(n : Int))] w fun e w' => e = .returned (.int .u32 ((Dg.ror x (UInt32.ofNat n)).toNat : Int)) ∧ w' = w := by
  have HR := Lib.hid (Dg.rol x n h0 hn)
  have hc := Dg.cnt n h0 hn
  have hs : IntKind.u64.wrap (32 - ((32 - n : Nat) : Int)) = (n : Int) := by
    simp [IntKind.wrap, IntKind.bits, IntKind.signed]
    omega
  go_enter Tryd.func86, Tryd.ntmps86
  go_wp2_with fail
  rw [IntKind.wrap_u32] at HR
  rw [HR.out]
  go_ret
  exact ⟨rfl, rfl⟩

set_option maxHeartbeats 1000000 in
theorem Dg.rotated_any (w : World) (x : UInt32) (a b c : Nat) (ha : 0 < a ∧ a < 32) (hb : 0 < b ∧ b < 32) (hc : 0 < c ∧ c < 32) :
    Calls Tryd.prog 87 #[.int .u32 (x.toNat : Int), .int .i64 (a : Int), .int .i64 (b : Int), .int .i64 (c : Int)] w fun e w' => e = .returned (.int .u32 ((Dg.ror x (UInt32.ofNat a) ^^^ Dg.ror x (UInt32.ofNat b) ^^^ Dg.ror x (UInt32.ofNat c)).toNat : Int)) ∧ w' = w := by
  have HA := Lib.hid (Dg.rotl_any w x a ha.1 ha.2)
  have HB := Lib.hid (Dg.rotl_any w x b hb.1 hb.2)
  have HC := Lib.hid (Dg.rotl_any w x c hc.1 hc.2)
  have n1 : IntKind.i64.wrap (-(a : Int)) = -(a : Int) := IntWalk.i64_in _ (by omega)
  have n2 : IntKind.i64.wrap (-(b : Int)) = -(b : Int) := IntWalk.i64_in _ (by omega)
  have n3 : IntKind.i64.wrap (-(c : Int)) = -(c : Int) := IntWalk.i64_in _ (by omega)
  have HX := Lib.hid (Dg.xor (Dg.ror x (UInt32.ofNat a)) (Dg.ror x (UInt32.ofNat b)))
  have HY := Lib.hid (Dg.xor (Dg.ror x (UInt32.ofNat a) ^^^ Dg.ror x (UInt32.ofNat b)) (Dg.ror x (UInt32.ofNat c)))
  go_enter Tryd.func87, Tryd.ntmps87
  go_wp2_with fail
  ((with_reducible refine HA.out.mono ?_); rintro e w1 ⟨rfl, rfl⟩)
  go_wp2_with fail
  ((with_reducible refine HB.out.mono ?_); rintro e w2 ⟨rfl, rfl⟩)
  go_wp2_with fail
  ((with_reducible refine HC.out.mono ?_); rintro e w3 ⟨rfl, rfl⟩)
  go_wp2_with fail
  rw [HX.out, HY.out]
  go_ret
  exact ⟨rfl, rfl⟩
end Go.Proofs.YtnbbleajbbgmjaaDoor
