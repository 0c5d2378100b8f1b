import Derived.Test.YtideglpjgplpnaaDoorMUtil
import Derived.Test.YtideglpjgplpnaaDoorMDgP
import Derived.Test.YtideglpjgplpnaaDoorProg
import Derived.Laws.BitsAllLaws
import Derived.Laws.Bits64
/- Contracts of package digest: turns of words. -/
namespace Go.Proofs.YtideglpjgplpnaaDoor
open Go.RowKit
set_option linter.unusedVariables false

theorem Dg.cnt (n : Nat) (h0 : 0 < n) (hn : n < 32) : bits .and .u64 (IntKind.u64.wrap (-(n : Int))) 31 = ((32 - n : Nat) : Int) := by
  have hw : IntKind.u64.wrap (-(n : Int)) = 18446744073709551616 - (n : Int) := by
    simp [IntKind.wrap, IntKind.bits, IntKind.signed]
    omega
  have hk : ∀ m : Int, 0 ≤ m → m < 2 ^ 64 → IntKind.u64.wrap m = m := fun m h1 h2 => by
    simp [IntKind.wrap, IntKind.bits, IntKind.signed]
    omega
  have hm : bits .and .u64 (18446744073709551616 - (n : Int)) 31 = (18446744073709551616 - (n : Int)) % 32 := bits_mask .u64 64 (by decide) hk 5 (by decide) _ (by omega) (by omega)
  rw [hw, hm]
  omega
set_option maxHeartbeats 1000000 in
theorem Dg.rotl_any (w : World) (x : UInt32) (n : Nat) (h0 : 0 < n) (hn : n < 32) :
    Calls Tryd.prog 84 #[.int .u32 (x.toNat : Int), .int .i64 (-(n : Int))] w fun e w' => e = .returned (.int .u32 ((Dg.ror x (UInt32.ofNat n)).toNat : Int)) ∧ w' = w := by
  have HR := Lib.hid (Dg.rol x n h0 hn)
  have hc := Dg.cnt n h0 hn
  have hs : IntKind.u64.wrap (32 - ((32 - n : Nat) : Int)) = (n : Int) := by
    simp [IntKind.wrap, IntKind.bits, IntKind.signed]
    omega
  go_enter Tryd.func84, Tryd.ntmps84
  go_wp2_with fail
  rw [IntKind.wrap_u32] at HR
  rw [HR.out]
  go_ret
  exact ⟨rfl, rfl⟩

set_option maxHeartbeats 1000000 in
theorem Dg.rotated_any (w : World) (x : UInt32) (a b c : Nat) (ha : 0 < a ∧ a < 32) (hb : 0 < b ∧ b < 32) (hc : 0 < c ∧ c < 32) :
    Calls Tryd.prog 85 #[.int .u32 (x.toNat : Int), .int .i64 (a : Int), .int .i64 (b : Int), .int .i64 (c : Int)] w fun e w' => e = .returned (.int .u32 ((Dg.ror x (UInt32.ofNat a) ^^^ Dg.ror x (UInt32.ofNat b) ^^^ Dg.ror x (UInt32.ofNat c)).toNat : Int)) ∧ w' = w := by
  have HA := Lib.hid (Dg.rotl_any w x a ha.1 ha.2)
  have HB := Lib.hid (Dg.rotl_any w x b hb.1 hb.2)
  have HC := Lib.hid (Dg.rotl_any w x c hc.1 hc.2)
  have n1 : IntKind.i64.wrap (-(a : Int)) = -(a : Int) := IntWalk.i64_in _ (by omega)
  have n2 : IntKind.i64.wrap (-(b : Int)) = -(b : Int) := IntWalk.i64_in _ (by omega)
  have n3 : IntKind.i64.wrap (-(c : Int)) = -(c : Int) := IntWalk.i64_in _ (by omega)
  have HX := Lib.hid (Dg.xor (Dg.ror x (UInt32.ofNat a)) (Dg.ror x (UInt32.ofNat b)))
  have HY := Lib.hid (Dg.xor (Dg.ror x (UInt32.ofNat a) ^^^ Dg.ror x (UInt32.ofNat b)) (Dg.ror x (UInt32.ofNat c)))
  go_enter Tryd.func85, Tryd.ntmps85
  go_wp2_with fail
  ((with_reducible refine HA.out.mono ?_); rintro e w1 ⟨rfl, rfl⟩)
  go_wp2_with fail
  ((with_reducible refine HB.out.mono ?_); rintro e w2 ⟨rfl, rfl⟩)
  go_wp2_with fail
  ((with_reducible refine HC.out.mono ?_); rintro e w3 ⟨rfl, rfl⟩)
  go_wp2_with fail
  rw [HX.out, HY.out]
  go_ret
  exact ⟨rfl, rfl⟩
end Go.Proofs.YtideglpjgplpnaaDoor
/- Contracts of package digest: a word out of four bytes. -/
namespace Go.Proofs.YtideglpjgplpnaaDoor
open Go.RowKit
set_option linter.unusedVariables false

theorem Dg.acc_step (l : List UInt8) (k : Nat) : bits .or .u32 (IntKind.u32.wrap (((Dg.acc l k).toNat : Int) * 2 ^ 8)) ((l.getD k 0).toNat : Int) = ((Dg.acc l (k + 1)).toNat : Int) := by
  rw [Dg.shl _ 8 (by omega)]
  have h : ((l.getD k 0).toNat : Int) = (((l.getD k 0).toUInt32).toNat : Int) := by rw [UInt8.toNat_toUInt32]
  rw [h, Dg.or]
  rfl
set_option maxHeartbeats 1000000 in
theorem Dg.word_any (w : World) (A : Option Addr) (n c : Nat) (l : List UInt8) (hr : RdB w A n l) (h4 : 4 ≤ n) (hnc : n ≤ c) (hc : c ≤ maxLen) :
    Calls Tryd.prog 83 #[.slice A n c] w fun e w' => e = .returned (.int .u32 ((Dg.word l 0).toNat : Int)) ∧ w' = w := by
  unfold maxLen at hc
  obtain ⟨b, off, rfl, hb, hcell⟩ := hr.2 (by omega)
  have hl := hr.len
  have hbyte : ∀ k, k < 4 → w.cell? ⟨b, off + k, none⟩ = some (.int .u8 ((l.getD k 0).toNat : Int)) := fun k hk =>
    hcell k _ (by rw [List.getElem?_map, List.getElem?_eq_getElem (by omega)]; simp [List.getElem?_eq_getElem (show k < l.length by omega)])
  clear hcell hr
  have HW := Lib.hid (Dg.acc_word l)
  have HA := Lib.hid (Dg.acc_step l)
  go_enter Tryd.func83, Tryd.ntmps83
  go_wp2_with fail
  go_loop [2, 8] (fun c i => ∃ k : Nat, k ≤ 4 ∧ i = .int .i64 k ∧ c = .int .u32 ((Dg.acc l k).toNat : Int)) (fun _ i => 4 - (intOf i).toNat)
  case atStart => exact ⟨0, by omega, rfl, rfl⟩
  case round =>
    obtain ⟨k, hk, rfl, rfl⟩ := hrel
    have ha : (Dg.acc l k).toNat < 4294967296 := (Dg.acc l k).toNat_lt
    by_cases hlt : k < 4
    · have hx := hbyte k hlt
      have hq : (l.getD k 0).toNat < 256 := (l.getD k 0).toNat_lt
      have HS := Lib.hid (HA.out k)
      generalize l.getD k 0 = q at hx hq HS
      clear hbyte
      go_wp2_with fail
      refine ⟨⟨k + 1, by omega, by go_num, ?_⟩, by simp [intOf]; omega⟩
      have h := HS.out
      rw [IntKind.wrap_u32] at h
      rw [← h]
      rfl
    · obtain rfl : k = 4 := by omega
      rw [HW.out] at *
      go_wp2_with fail
      go_ret
      exact ⟨rfl, rfl⟩
end Go.Proofs.YtideglpjgplpnaaDoor
/- Contracts of package digest: a number put into bytes. -/
namespace Go.Proofs.YtideglpjgplpnaaDoor
open Go.RowKit
set_option linter.unusedVariables false

/-- what a call leaves that writes into one block alone -/
theorem grown_setCell {w w' : World} {g : Nat} (h : w.grownBy w' (some g)) (i : Nat) (u : Value) : w.grownBy (w'.setCell ⟨g, i, none⟩ u) (some g) :=
  ⟨h.os, h.tape, h.output, by simpa using h.size, fun k hk hne => (Below.heap_setCell w' ⟨g, i, none⟩ u k (fun e => hne (by subst e; rfl))).trans (h.block k hk hne)⟩

set_option maxHeartbeats 2000000 in
theorem Dg.put_any (w : World) (g off n c : Nat) (t : TypeId) (cs : List Value) (N : Nat) (hh : Has w g t cs) (hf : off + n ≤ cs.length) (hn : n ≤ 8) (hN : N < 18446744073709551616) :
    Calls Tryd.prog 64 #[.slice (some ⟨g, off, none⟩) n c, .int .u64 (N : Int)] w fun e w' => (∃ v, e = .returned v) ∧ w.grownBy w' (some g) ∧ Has w' g t (Dg.putc cs off n N n) := by
  have HS := Lib.hid (fun k hk => Dg.putc_set cs off n N k hk hf)
  have HZ := Lib.hid (Dg.putc_zero cs off n N)
  have HG := Lib.hid (fun k j hj => Dg.putc_get cs off n N k j hj)
  have HH := Lib.hid hh
  clear hh
  go_enter Tryd.func64, Tryd.ntmps64
  go_wp2_with fail
  go_loopw [7] (fun i wr => ∃ k : Nat, k ≤ n ∧ i = .int .i64 k ∧ w.grownBy wr (some g) ∧ Has wr g t (Dg.putc cs off n N k)) (fun i _ => n - (intOf i).toNat)
  case atStart => exact ⟨0, by omega, rfl, grown_refl _ _, by rw [HZ.out]; exact HH.out⟩
  case round =>
    obtain ⟨k, hk, rfl, hG, hT⟩ := hrel
    by_cases hlt : k < n
    · obtain ⟨v, hv⟩ := HG.out k (off + (n - 1 - k)) (by omega)
      have cc := (hT.cell (off + (n - 1 - k))).trans hv
      have fz := hT.frozen (off + (n - 1 - k))
      have HT := Lib.hid ((hT.set (off + (n - 1 - k)) (Dg.b8 (Dg.by N k))))
      have HG2 := Lib.hid (grown_setCell hG (off + (n - 1 - k)) (Dg.b8 (Dg.by N k)))
      clear hT hG hv HG
      go_wp2_with fail
      have e : (N : Int) / 2 ^ (8 * k) % 256 = ((Dg.by N k).toNat : Int) := by
        rw [← IntKind.wrap_u8]
        exact Dg.byte N k
      rw [e]
      exact ⟨⟨k + 1, by omega, rfl, HG2.out, by rw [← HS.out k hlt]; exact HT.out⟩, by simp [intOf]; omega⟩
    · obtain rfl : k = n := by omega
      have HT := Lib.hid hT
      have HG2 := Lib.hid hG
      clear hT hG
      go_wp2_with fail
      go_end0
      exact ⟨⟨_, rfl⟩, HG2.out, HT.out⟩
end Go.Proofs.YtideglpjgplpnaaDoor
