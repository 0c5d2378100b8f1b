import Derived.Laws.BitsAllLaws
import Derived.Laws.Bits64
import Derived.Test.YtideglpjgplpnaaDoorMUtil
import Derived.Test.YtideglpjgplpnaaDoorMFldPlain
import Derived.Test.YtideglpjgplpnaaDoorProg
import Derived.RangeFuncBound
import Derived.RangeFuncLeaves
import Derived.Shelf.Abstract
import Derived.Shelf.RegionOpen
import Derived.OwnWalkIn
import Derived.TacticsInMore
import Derived.LoopNIn
import Derived.LoopIn
/- Contracts of field.twice and field.Mul: for all bytes. -/
namespace Go.Proofs.YtideglpjgplpnaaDoor
open Go.RowKit
set_option linter.unusedVariables false

/-- a byte as a value -/
abbrev B8 (a : UInt8) : Value := .int .u8 (a.toNat : Int)

theorem Fld.tw_any (a : UInt8) (w : World) : Calls Tryd.prog 108 #[B8 a] w fun e w' => e = .returned (B8 (Fld.tw a)) ∧ w = w' := by
  have ha : a.toNat < 256 := a.toNat_lt
  by_cases h : 128 ≤ a.toNat
  · have d : decide ((128 : Int) ≤ (a.toNat : Int)) = true := decide_eq_true (by omega)
    have E := Lib.hid (Fld.tw_hi a h)
    go_enter Tryd.func108, Tryd.ntmps108
    go_wp2
    go_ret
    refine ⟨?_, rfl⟩
    show Ending.returned (Value.int .u8 (bits BinOp.xor IntKind.u8 (↑a.toNat * 2 % 256) 27)) = .returned (.int .u8 ((Fld.tw a).toNat : Int))
    rw [E.out, show ((a.toNat : Int) * 2 % 256) = ((a.toNat * 2 % 256 : Nat) : Int) by omega, show (27 : Int) = ((27 : Nat) : Int) from rfl, u8_xor_nat _ _ (by omega) (by omega)]
  · have d : decide ((128 : Int) ≤ (a.toNat : Int)) = false := decide_eq_false (by omega)
    have E := Lib.hid (Fld.tw_lo a h)
    go_enter Tryd.func108, Tryd.ntmps108
    go_wp2
    go_ret
    refine ⟨?_, rfl⟩
    show Ending.returned (Value.int .u8 (↑a.toNat * 2)) = .returned (.int .u8 ((Fld.tw a).toNat : Int))
    rw [E.out]
    simp

/-- the table of Mul after k rounds -/
def Fld.tab (a : UInt8) (k : Nat) : List Value := (List.range 8).map fun j => if j < k then B8 (Fld.pw a j) else .int .u8 0
theorem Fld.tab_set (a : UInt8) (k : Nat) (h : k < 8) : (Fld.tab a k).set k (B8 (Fld.pw a k)) = Fld.tab a (k + 1) := by
  match k, h with
  | 0, _ => rfl
  | 1, _ => rfl
  | 2, _ => rfl
  | 3, _ => rfl
  | 4, _ => rfl
  | 5, _ => rfl
  | 6, _ => rfl
  | 7, _ => rfl
theorem Fld.tab_cell (a : UInt8) (k : Nat) (h : k < 8) : ∃ v, (Fld.tab a k)[k]? = some v := ⟨_, List.getElem?_eq_getElem (by simp [Fld.tab]; exact h)⟩

theorem Fld.bit_test (b : UInt8) (k : Nat) (hk : k < 8) : (bits BinOp.and IntKind.u8 ((b.toNat : Int) / ((2 ^ k : Nat) : Int)) 1 == 1) = b.toNat.testBit k := by
  have hb : b.toNat < 256 := b.toNat_lt
  have h0 : b.toNat / 2 ^ k < 256 := Nat.lt_of_le_of_lt (Nat.div_le_self _ _) hb
  rw [show ((b.toNat : Int) / ((2 ^ k : Nat) : Int)) = ((b.toNat / 2 ^ k : Nat) : Int) by rw [Int.natCast_ediv], show (1 : Int) = ((1 : Nat) : Int) from rfl, u8_and_nat _ _ h0 (by omega), nat_mask1, Nat.testBit_eq_decide_div_mod_eq]
  have h : ∀ y : Nat, (((y : Nat) : Int) == ((1 : Nat) : Int)) = decide (y = 1) := fun y => by
    rw [Bool.eq_iff_iff, beq_iff_eq, decide_eq_true_eq]
    omega
  exact h _
theorem Fld.acc_yes (a b : UInt8) (k : Nat) (h : b.toNat.testBit k = true) : Value.int .u8 (bits .xor .u8 ((Fld.acc a b k).toNat : Int) ((Fld.pw a k).toNat : Int)) = B8 (Fld.acc a b (k + 1)) := by
  rw [u8_xor_nat _ _ (Fld.acc a b k).toNat_lt (Fld.pw a k).toNat_lt, Fld.acc, if_pos h, B8, UInt8.toNat_xor]
theorem Fld.acc_no (a b : UInt8) (k : Nat) (h : b.toNat.testBit k = false) : B8 (Fld.acc a b k) = B8 (Fld.acc a b (k + 1)) := by
  rw [Fld.acc, if_neg (by rw [h]; decide), UInt8.xor_zero]
theorem Fld.index0 (x0 x1 x2 x3 x4 x5 x6 x7 : Value) (w : World) : (Instr.index 138 (.agg #[x0, x1, x2, x3, x4, x5, x6, x7]) (.int .i64 0)).run Tryd.prog w = .ok x0 w := by kernel_rfl
theorem Fld.index1 (x0 x1 x2 x3 x4 x5 x6 x7 : Value) (w : World) : (Instr.index 138 (.agg #[x0, x1, x2, x3, x4, x5, x6, x7]) (.int .i64 1)).run Tryd.prog w = .ok x1 w := by kernel_rfl
theorem Fld.index2 (x0 x1 x2 x3 x4 x5 x6 x7 : Value) (w : World) : (Instr.index 138 (.agg #[x0, x1, x2, x3, x4, x5, x6, x7]) (.int .i64 2)).run Tryd.prog w = .ok x2 w := by kernel_rfl
theorem Fld.index3 (x0 x1 x2 x3 x4 x5 x6 x7 : Value) (w : World) : (Instr.index 138 (.agg #[x0, x1, x2, x3, x4, x5, x6, x7]) (.int .i64 3)).run Tryd.prog w = .ok x3 w := by kernel_rfl
theorem Fld.index4 (x0 x1 x2 x3 x4 x5 x6 x7 : Value) (w : World) : (Instr.index 138 (.agg #[x0, x1, x2, x3, x4, x5, x6, x7]) (.int .i64 4)).run Tryd.prog w = .ok x4 w := by kernel_rfl
theorem Fld.index5 (x0 x1 x2 x3 x4 x5 x6 x7 : Value) (w : World) : (Instr.index 138 (.agg #[x0, x1, x2, x3, x4, x5, x6, x7]) (.int .i64 5)).run Tryd.prog w = .ok x5 w := by kernel_rfl
theorem Fld.index6 (x0 x1 x2 x3 x4 x5 x6 x7 : Value) (w : World) : (Instr.index 138 (.agg #[x0, x1, x2, x3, x4, x5, x6, x7]) (.int .i64 6)).run Tryd.prog w = .ok x6 w := by kernel_rfl
theorem Fld.index7 (x0 x1 x2 x3 x4 x5 x6 x7 : Value) (w : World) : (Instr.index 138 (.agg #[x0, x1, x2, x3, x4, x5, x6, x7]) (.int .i64 7)).run Tryd.prog w = .ok x7 w := by kernel_rfl

set_option maxRecDepth 100000 in
set_option maxHeartbeats 2000000 in
theorem Fld.mul_any (a b : UInt8) (w : World) : Calls Tryd.prog 87 #[B8 a, B8 b] w fun e w' => e = .returned (B8 (Fld.mul a b)) ∧ Below w.heap.size w w' := by
  have ha : a.toNat < 256 := a.toNat_lt
  have hb : b.toNat < 256 := b.toNat_lt
  go_enter Tryd.func87, Tryd.ntmps87
  go_wp2_with fail
  go_loopw [0, 9] (fun x i wr => ∃ k : Nat, k ≤ 8 ∧ i = .int .i64 k ∧ x = B8 (Fld.pw a k) ∧ Has wr w.heap.size 138 (Fld.tab a k) ∧ Below w.heap.size w wr) (fun _ i _ => 8 - (intOf i).toNat)
  case atStart => exact ⟨0, by omega, rfl, rfl, Has.new _ _ _, (Below.refl _ _).alloc (Nat.le_refl _) _⟩
  case round =>
    obtain ⟨k, hk, rfl, rfl, hT, hB⟩ := hrel
    by_cases hlt : k < 8
    · obtain ⟨v, hv⟩ := Fld.tab_cell a k hlt
      have c := (hT.cell k).trans hv
      have fz := hT.frozen k
      have HT := Lib.hid (hT.set k (B8 (Fld.pw a k)))
      have HB := Lib.hid hB
      clear hT hB hv
      go_wp2_with (go_at_call 108; refine (Fld.tw_any _ _).mono ?_; rintro e w2 ⟨rfl, rfl⟩)
      go_roundw
      case rel => exact ⟨k + 1, by omega, by go_num, rfl, by rw [← Fld.tab_set a k hlt]; exact HT.out, HB.out.setCell (Nat.le_refl _) _⟩
      case measure => simp [intOf]; omega
    · obtain rfl : k = 8 := by omega
      have HT := Lib.hid hT
      have HB := Lib.hid hB
      clear hB
      have hcell : ∀ i, i < 8 → wr.cell? ⟨w.heap.size, i, none⟩ = some (B8 (Fld.pw a i)) := fun i hi => by
        rw [hT.cell i]
        simp [Fld.tab, hi]
      have c0 := hcell 0 (by omega)
      have c1 := hcell 1 (by omega)
      have c2 := hcell 2 (by omega)
      have c3 := hcell 3 (by omega)
      have c4 := hcell 4 (by omega)
      have c5 := hcell 5 (by omega)
      have c6 := hcell 6 (by omega)
      have c7 := hcell 7 (by omega)
      clear hT hcell
      go_wp2_with fail
      have i0 := Fld.index0
      have i1 := Fld.index1
      have i2 := Fld.index2
      have i3 := Fld.index3
      have i4 := Fld.index4
      have i5 := Fld.index5
      have i6 := Fld.index6
      have i7 := Fld.index7
      clear c0 c1 c2 c3 c4 c5 c6 c7
      go_loop [4, 19] (fun c i => ∃ k : Nat, k ≤ 8 ∧ i = .int .i64 k ∧ c = B8 (Fld.acc a b k)) (fun _ i => 8 - (intOf i).toNat)
      case atStart => exact ⟨0, by omega, rfl, rfl⟩
      case round =>
        obtain ⟨k, hk2, rfl, rfl⟩ := hrel
        have hacc : (Fld.acc a b k).toNat < 256 := (Fld.acc a b k).toNat_lt
        by_cases hlt2 : k < 8
        · obtain rfl | rfl | rfl | rfl | rfl | rfl | rfl | rfl : k = 0 ∨ k = 1 ∨ k = 2 ∨ k = 3 ∨ k = 4 ∨ k = 5 ∨ k = 6 ∨ k = 7 := by omega
          · have hpw : (Fld.pw a 0).toNat < 256 := (Fld.pw a 0).toNat_lt
            have T : (bits BinOp.and IntKind.u8 (b.toNat : Int) 1 == 1) = b.toNat.testBit 0 := by have := Fld.bit_test b 0 (by omega); simpa using this
            cases ht : b.toNat.testBit 0 with
            | true =>
              have T' := T.trans ht
              have HT2 := Lib.hid ht
              clear T ht
              go_wp2
              exact ⟨⟨1, by omega, rfl, Fld.acc_yes a b 0 HT2.out⟩, by simp [intOf]⟩
            | false =>
              have T' := T.trans ht
              have HT2 := Lib.hid ht
              clear T ht
              go_wp2
              exact ⟨⟨1, by omega, rfl, Fld.acc_no a b 0 HT2.out⟩, by simp [intOf]⟩
          · have hpw : (Fld.pw a 1).toNat < 256 := (Fld.pw a 1).toNat_lt
            have T : (bits BinOp.and IntKind.u8 ((b.toNat : Int) / 2) 1 == 1) = b.toNat.testBit 1 := Fld.bit_test b 1 (by omega)
            cases ht : b.toNat.testBit 1 with
            | true =>
              have T' := T.trans ht
              have HT2 := Lib.hid ht
              clear T ht
              go_wp2
              exact ⟨⟨2, by omega, rfl, Fld.acc_yes a b 1 HT2.out⟩, by simp [intOf]⟩
            | false =>
              have T' := T.trans ht
              have HT2 := Lib.hid ht
              clear T ht
              go_wp2
              exact ⟨⟨2, by omega, rfl, Fld.acc_no a b 1 HT2.out⟩, by simp [intOf]⟩
          · have hpw : (Fld.pw a 2).toNat < 256 := (Fld.pw a 2).toNat_lt
            have T : (bits BinOp.and IntKind.u8 ((b.toNat : Int) / 4) 1 == 1) = b.toNat.testBit 2 := Fld.bit_test b 2 (by omega)
            cases ht : b.toNat.testBit 2 with
            | true =>
              have T' := T.trans ht
              have HT2 := Lib.hid ht
              clear T ht
              go_wp2
              exact ⟨⟨3, by omega, rfl, Fld.acc_yes a b 2 HT2.out⟩, by simp [intOf]⟩
            | false =>
              have T' := T.trans ht
              have HT2 := Lib.hid ht
              clear T ht
              go_wp2
              exact ⟨⟨3, by omega, rfl, Fld.acc_no a b 2 HT2.out⟩, by simp [intOf]⟩
          · have hpw : (Fld.pw a 3).toNat < 256 := (Fld.pw a 3).toNat_lt
            have T : (bits BinOp.and IntKind.u8 ((b.toNat : Int) / 8) 1 == 1) = b.toNat.testBit 3 := Fld.bit_test b 3 (by omega)
            cases ht : b.toNat.testBit 3 with
            | true =>
              have T' := T.trans ht
              have HT2 := Lib.hid ht
              clear T ht
              go_wp2
              exact ⟨⟨4, by omega, rfl, Fld.acc_yes a b 3 HT2.out⟩, by simp [intOf]⟩
            | false =>
              have T' := T.trans ht
              have HT2 := Lib.hid ht
              clear T ht
              go_wp2
              exact ⟨⟨4, by omega, rfl, Fld.acc_no a b 3 HT2.out⟩, by simp [intOf]⟩
          · have hpw : (Fld.pw a 4).toNat < 256 := (Fld.pw a 4).toNat_lt
            have T : (bits BinOp.and IntKind.u8 ((b.toNat : Int) / 16) 1 == 1) = b.toNat.testBit 4 := Fld.bit_test b 4 (by omega)
            cases ht : b.toNat.testBit 4 with
            | true =>
              have T' := T.trans ht
              have HT2 := Lib.hid ht
              clear T ht
              go_wp2
              exact ⟨⟨5, by omega, rfl, Fld.acc_yes a b 4 HT2.out⟩, by simp [intOf]⟩
            | false =>
              have T' := T.trans ht
              have HT2 := Lib.hid ht
              clear T ht
              go_wp2
              exact ⟨⟨5, by omega, rfl, Fld.acc_no a b 4 HT2.out⟩, by simp [intOf]⟩
          · have hpw : (Fld.pw a 5).toNat < 256 := (Fld.pw a 5).toNat_lt
            have T : (bits BinOp.and IntKind.u8 ((b.toNat : Int) / 32) 1 == 1) = b.toNat.testBit 5 := Fld.bit_test b 5 (by omega)
            cases ht : b.toNat.testBit 5 with
            | true =>
              have T' := T.trans ht
              have HT2 := Lib.hid ht
              clear T ht
              go_wp2
              exact ⟨⟨6, by omega, rfl, Fld.acc_yes a b 5 HT2.out⟩, by simp [intOf]⟩
            | false =>
              have T' := T.trans ht
              have HT2 := Lib.hid ht
              clear T ht
              go_wp2
              exact ⟨⟨6, by omega, rfl, Fld.acc_no a b 5 HT2.out⟩, by simp [intOf]⟩
          · have hpw : (Fld.pw a 6).toNat < 256 := (Fld.pw a 6).toNat_lt
            have T : (bits BinOp.and IntKind.u8 ((b.toNat : Int) / 64) 1 == 1) = b.toNat.testBit 6 := Fld.bit_test b 6 (by omega)
            cases ht : b.toNat.testBit 6 with
            | true =>
              have T' := T.trans ht
              have HT2 := Lib.hid ht
              clear T ht
              go_wp2
              exact ⟨⟨7, by omega, rfl, Fld.acc_yes a b 6 HT2.out⟩, by simp [intOf]⟩
            | false =>
              have T' := T.trans ht
              have HT2 := Lib.hid ht
              clear T ht
              go_wp2
              exact ⟨⟨7, by omega, rfl, Fld.acc_no a b 6 HT2.out⟩, by simp [intOf]⟩
          · have hpw : (Fld.pw a 7).toNat < 256 := (Fld.pw a 7).toNat_lt
            have T : (bits BinOp.and IntKind.u8 ((b.toNat : Int) / 128) 1 == 1) = b.toNat.testBit 7 := Fld.bit_test b 7 (by omega)
            cases ht : b.toNat.testBit 7 with
            | true =>
              have T' := T.trans ht
              have HT2 := Lib.hid ht
              clear T ht
              go_wp2
              exact ⟨⟨8, by omega, rfl, Fld.acc_yes a b 7 HT2.out⟩, by simp [intOf]⟩
            | false =>
              have T' := T.trans ht
              have HT2 := Lib.hid ht
              clear T ht
              go_wp2
              exact ⟨⟨8, by omega, rfl, Fld.acc_no a b 7 HT2.out⟩, by simp [intOf]⟩
        · obtain rfl : k = 8 := by omega
          go_wp2
          go_ret
          exact ⟨rfl, HB.out⟩
end Go.Proofs.YtideglpjgplpnaaDoor
/- Contract of field.Inv: for every byte. -/
namespace Go.Proofs.YtideglpjgplpnaaDoor
open Go.RowKit
set_option linter.unusedVariables false

theorem Fld.inv_zero (w : World) : Calls Tryd.prog 93 #[B8 0] w fun e w' => e = .returned (.tuple #[B8 0, .int .i64 1]) ∧ Below w.heap.size w w' := by
  have h0 : (((0 : UInt8).toNat : Int) == 0) = true := rfl
  go_enter Tryd.func93, Tryd.ntmps93
  go_wp2_with fail
  go_ret2
  exact ⟨rfl, Below.refl _ _⟩

set_option maxHeartbeats 1000000 in
theorem Fld.inv_else (a : UInt8) (w : World) (h : a ≠ 0) : Calls Tryd.prog 93 #[B8 a] w fun e w' => e = .returned (.tuple #[B8 (Fld.inv a), .int .i64 0]) ∧ Below w.heap.size w w' := by
  have h0 : ((a.toNat : Int) == 0) = false := by
    rw [beq_eq_false_iff_ne]
    intro e
    exact h (UInt8.toNat_inj.1 (by show a.toNat = 0; omega))
  have HI := Lib.hid (show Fld.inv a = (Fld.invS a 7).2 by rw [Fld.inv, if_neg h])
  clear h
  go_enter Tryd.func93, Tryd.ntmps93
  go_wp2_with fail
  clear h0
  go_loopw [0, 2, 6] (fun x y i wr => ∃ k : Nat, k ≤ 7 ∧ i = .int .i64 k ∧ x = B8 (Fld.invS a k).1 ∧ y = B8 (Fld.invS a k).2 ∧ Below w.heap.size w wr) (fun _ _ i _ => 7 - (intOf i).toNat)
  case atStart => exact ⟨0, by omega, rfl, rfl, rfl, Below.refl _ _⟩
  case round =>
    obtain ⟨k, hk, rfl, rfl, rfl, hB⟩ := hrel
    have HB := Lib.hid hB
    clear hB
    by_cases hlt : k < 7
    · go_wp2_with fail
      refine (Fld.mul_any _ _ _).mono ?_
      rintro e w1 ⟨rfl, hb1⟩
      have HB1 := Lib.hid (HB.out.trans (hb1.mono HB.out.size))
      clear hb1
      go_wp2_with fail
      refine (Fld.mul_any _ _ _).mono ?_
      rintro e w2 ⟨rfl, hb2⟩
      have HB2 := Lib.hid (HB1.out.trans (hb2.mono HB1.out.size))
      clear hb2
      go_wp2_with fail
      go_roundw
      case rel => exact ⟨k + 1, by omega, by go_num, rfl, rfl, HB2.out⟩
      case measure => simp [intOf]; omega
    · obtain rfl : k = 7 := by omega
      go_wp2_with fail
      go_ret2
      exact ⟨by rw [HI.out]; rfl, HB.out⟩
theorem Fld.inv_any (a : UInt8) (w : World) : Calls Tryd.prog 93 #[B8 a] w fun e w' => e = .returned (.tuple #[B8 (Fld.inv a), .int .i64 (Fld.invE a)]) ∧ Below w.heap.size w w' := by
  by_cases h : a = 0
  · subst h; exact Fld.inv_zero w
  · exact (Fld.inv_else a w h).mono fun _ _ ⟨he, hb⟩ => ⟨by rw [he, Fld.invE, if_neg h], hb⟩
end Go.Proofs.YtideglpjgplpnaaDoor
/- Contract of the endless iterator field.powers: round k yields the power k, while a counter in memory bounds the rounds. -/
namespace Go.Proofs.YtideglpjgplpnaaDoor
open Go.RowKit Go.Shelf
attribute [local go_sem] Oper.semAt_some
set_option linter.unusedVariables false

/-- the number in a cell, for a measure -/
def cellNat (w : World) (b i : Nat) : Nat := match w.cell? ⟨b, i, none⟩ with | some (.int _ n) => n.toNat | _ => 0

theorem Fld.powers_any (a : UInt8) (w : World) : Calls Tryd.prog 86 #[B8 a] w fun e w' => e = .returned (.func (.func 107) #[] #[.pointer (some ⟨w.heap.size, 0, none⟩)]) ∧ w.alloc (.cells #[B8 a] 5) = w' := by
  have hmf : ∀ (fn : Fn) (first cap : Array Value) (w : World), (Instr.makeFunc fn first cap).run Tryd.prog w = .ok (.func fn first cap) w := fun _ _ _ _ => rfl
  go_enter Tryd.func86, Tryd.ntmps86
  go_wp2
  go_ret
  exact ⟨rfl, rfl⟩

set_option maxHeartbeats 1000000 in
theorem Fld.powers_in (n : Nat) (hn : 2 ≤ n) (a : UInt8) (ba bi len l : Nat) (J : Nat → World → Prop) (Jx : World → Prop) (W : World)
    (hJ : ∀ k W, J k W → W.cell? ⟨ba, 0, none⟩ = some (B8 a) ∧ W.cell? ⟨bi, 0, none⟩ = some (.int .i64 (k : Int)) ∧ k ≤ len)
    (hJB : ∀ k W W', J k W → Below W.heap.size W W' → J k W')
    (hY : ∀ k W, J k W → YieldAt Fence.wide (n - 1) Tryd.prog l #[B8 (Fld.pwr a k)] W fun e W' => (e = .returned (.bool true) ∧ J (k + 1) W') ∨ (e = .returned (.bool false) ∧ Jx W'))
    (h0 : J 0 W) :
    CallsIn Fence.wide n Tryd.prog 107 #[.func (.yield l) #[] #[], .pointer (some ⟨ba, 0, none⟩)] W fun e W' => (∃ v, e = .returned v) ∧ Jx W' := by
  have h1 : 1 ≤ n := by omega
  have h2 : 1 ≤ n - 1 := by omega
  have hfn : ∀ f, Fence.wide.fn f := fun _ => trivial
  refine callsIn_of_wp Tryd.func107 rfl trivial ?_ rfl
  simp only [Tryd.ntmps107, List.size_toArray, List.length_cons, List.length_nil, Nat.reduceAdd, Nat.reduceSub, Array.replicate_succ, Array.replicate_zero, List.push_toArray, List.append_toArray, List.nil_append, List.cons_append]
  gi_wp2
  gi_loopw [3] (fun p wr => ∃ k : Nat, p = B8 (Fld.pwr a k) ∧ J k wr) (fun _ wr => len + 1 - cellNat wr bi 0)
  case atStart => exact ⟨0, rfl, h0⟩
  case round =>
    obtain ⟨k, rfl, hj⟩ := hrel
    obtain ⟨ca, ci, hk⟩ := hJ k wr hj
    have m0 := Lib.hid (show cellNat wr bi 0 = k by unfold cellNat; rw [ci]; simp)
    obtain ⟨fn, tmps, assign, body, hy, hR⟩ := hY k wr hj
    have HJ := Lib.hid hJ
    have HY := Lib.hid hY
    have HB := Lib.hid hJB
    clear hJ hY hJB ca ci
    gi_wp2
    refine hR.mono ?_
    rintro e W3 (⟨rfl, hJ3⟩ | ⟨rfl, hx3⟩)
    · obtain ⟨ca3, ci3, hk3⟩ := HJ.out (k + 1) W3 hJ3
      gi_wp2_with (gi_at_call 87; refine (callsIn_wide.2 (Fld.mul_any (Fld.pwr a k) a _)).mono ?_; rintro e W4 ⟨rfl, hb4⟩)
      have HJ4 := Lib.hid (HB.out (k + 1) W3 W4 hJ3 hb4)
      have m4 := Lib.hid (show cellNat W4 bi 0 = k + 1 by have := (HJ.out (k + 1) W4 HJ4.out).2.1; unfold cellNat; rw [this]; simp)
      go_roundw
      case rel => exact ⟨k + 1, rfl, HJ4.out⟩
      case measure => rw [m0.out, m4.out]; omega
    · gi_wp2
      go_end0
      exact ⟨⟨_, rfl⟩, hx3⟩
end Go.Proofs.YtideglpjgplpnaaDoor
