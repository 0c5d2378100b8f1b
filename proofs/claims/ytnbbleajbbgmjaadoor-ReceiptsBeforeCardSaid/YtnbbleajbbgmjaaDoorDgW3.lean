/- Contracts of package digest: a number put into bytes. -/
import Derived.Test.YtnbbleajbbgmjaaDoorDgW2
import Derived.Test.YtnbbleajbbgmjaaDoorDgP3
import Derived.Test.YtnbbleajbbgmjaaDoorApp
namespace Go.Proofs.YtnbbleajbbgmjaaDoor
open Go.RowKit
set_option linter.unusedVariables false

/-- what a call leaves that writes into one block alone -/
theorem grown_setCell {w w' : World} {g : Nat} (h : w.grownBy w' (some g)) (i : Nat) (u : Value) : w.grownBy (w'.setCell ⟨g, i, none⟩ u) (some g) :=
  ⟨h.os, h.tape, h.output, by simpa using h.size, fun k hk hne => (Below.heap_setCell w' ⟨g, i, none⟩ u k (fun e => hne (by subst e; rfl))).trans (h.block k hk hne)⟩

set_option maxHeartbeats 2000000 in
theorem Dg.put_any (w : World) (g off n c : Nat) (t : TypeId) (cs : List Value) (N : Nat) (hh : Has w g t cs) (hf : off + n ≤ cs.length) (hn : n ≤ 8) (hN : N < 18446744073709551616) :
    Calls Tryd.prog 77 #[.slice (some ⟨g, off, none⟩) n c, .int .u64 (N : Int)] w fun e w' => (∃ v, e = .returned v) ∧ w.grownBy w' (some g) ∧ Has w' g t (Dg.putc cs off n N n) := by
  have HS := Lib.hid (fun k hk => Dg.putc_set cs off n N k hk hf)
  have HZ := Lib.hid (Dg.putc_zero cs off n N)
  have HG := Lib.hid (fun k j hj => Dg.putc_get cs off n N k j hj)
  have HH := Lib.hid hh
  clear hh
  go_enter Tryd.func77, Tryd.ntmps77
  go_wp2_with fail
  go_loopw [7] (fun i wr => ∃ k : Nat, k ≤ n ∧ i = .int .i64 k ∧ w.grownBy wr (some g) ∧ Has wr g t (Dg.putc cs off n N k)) (fun i _ => n - (intOf i).toNat)
  case atStart => exact ⟨0, by omega, rfl, grown_refl _ _, by rw [HZ.out]; exact HH.out⟩
  case round =>
    obtain ⟨k, hk, rfl, hG, hT⟩ := hrel
    by_cases hlt : k < n
    · obtain ⟨v, hv⟩ := HG.out k (off + (n - 1 - k)) (by omega)
      have cc := (hT.cell (off + (n - 1 - k))).trans hv
      have fz := hT.frozen (off + (n - 1 - k))
      have HT := Lib.hid ((hT.set (off + (n - 1 - k)) (Dg.b8 (Dg.by N k))))
      have HG2 := Lib.hid (grown_setCell hG (off + (n - 1 - k)) (Dg.b8 (Dg.by N k)))
      clear hT hG hv HG
      go_wp2_with fail
      have e : (N : Int) / 2 ^ (8 * k) % 256 = ((Dg.by N k).toNat : Int) := by
        rw [← IntKind.wrap_u8]
        exact Dg.byte N k
      rw [e]
      exact ⟨⟨k + 1, by omega, rfl, HG2.out, by rw [← HS.out k hlt]; exact HT.out⟩, by simp [intOf]; omega⟩
    · obtain rfl : k = n := by omega
      have HT := Lib.hid hT
      have HG2 := Lib.hid hG
      clear hT hG
      go_wp2_with fail
      go_end0
      exact ⟨⟨_, rfl⟩, HG2.out, HT.out⟩
end Go.Proofs.YtnbbleajbbgmjaaDoor
