/- Contracts of package digest: a word out of four bytes. -/
import Derived.Test.YtnbbleajbbgmjaaDoorDgW1
import Derived.Test.YtnbbleajbbgmjaaDoorDgP2
import Derived.Test.YtnbbleajbbgmjaaDoorByt
namespace Go.Proofs.YtnbbleajbbgmjaaDoor
open Go.RowKit
set_option linter.unusedVariables false

theorem Dg.acc_step (l : List UInt8) (k : Nat) : bits .or .u32 (IntKind.u32.wrap (((Dg.acc l k).toNat : Int) * 2 ^ 8)) ((l.getD k 0).toNat : Int) = ((Dg.acc l (k + 1)).toNat : Int) := by
  rw [Dg.shl _ 8 (by omega)]
  have h : ((l.getD k 0).toNat : Int) = (((l.getD k 0).toUInt32).toNat : Int) := by rw [UInt8.toNat_toUInt32]
  rw [h, Dg.or]
  rfl
set_option maxHeartbeats 1000000 in
theorem Dg.word_any (w : World) (A : Option Addr) (n c : Nat) (l : List UInt8) (hr : RdB w A n l) (h4 : 4 ≤ n) (hnc : n ≤ c) (hc : c ≤ maxLen) :
    Calls Tryd.prog 85 #[.slice A n c] w fun e w' => e = .returned (.int .u32 ((Dg.word l 0).toNat : Int)) ∧ w' = w := by
  unfold maxLen at hc
  obtain ⟨b, off, rfl, hb, hcell⟩ := hr.2 (by omega)
  have hl := hr.len
  have hbyte : ∀ k, k < 4 → w.cell? ⟨b, off + k, none⟩ = some (.int .u8 ((l.getD k 0).toNat : Int)) := fun k hk =>
    hcell k _ (by rw [List.getElem?_map, List.getElem?_eq_getElem (by omega)]; simp [List.getElem?_eq_getElem (show k < l.length by omega)])
  clear hcell hr
  have HW := Lib.hid (Dg.acc_word l)
  have HA := Lib.hid (Dg.acc_step l)
  go_enter Tryd.func85, Tryd.ntmps85
  go_wp2_with fail
  go_loop [2, 8] (fun c i => ∃ k : Nat, k ≤ 4 ∧ i = .int .i64 k ∧ c = .int .u32 ((Dg.acc l k).toNat : Int)) (fun _ i => 4 - (intOf i).toNat)
  case atStart => exact ⟨0, by omega, rfl, rfl⟩
  case round =>
    obtain ⟨k, hk, rfl, rfl⟩ := hrel
    have ha : (Dg.acc l k).toNat < 4294967296 := (Dg.acc l k).toNat_lt
    by_cases hlt : k < 4
    · have hx := hbyte k hlt
      have hq : (l.getD k 0).toNat < 256 := (l.getD k 0).toNat_lt
      have HS := Lib.hid (HA.out k)
      generalize l.getD k 0 = q at hx hq HS
      clear hbyte
      go_wp2_with fail
      refine ⟨⟨k + 1, by omega, by go_num, ?_⟩, by simp [intOf]; omega⟩
      have h := HS.out
      rw [IntKind.wrap_u32] at h
      rw [← h]
      rfl
    · obtain rfl : k = 4 := by omega
      rw [HW.out] at *
      go_wp2_with fail
      go_ret
      exact ⟨rfl, rfl⟩
end Go.Proofs.YtnbbleajbbgmjaaDoor
