/- The law FieldAxioms returns true. -/
import Derived.Test.YtilfpnkkappkdaaFldSane
namespace Go.Proofs.Ytilfpnkkappkdaa
open Go.RowKit Go.Shelf
set_option linter.unusedVariables false

theorem Fld.beq0 (a : UInt8) (h : a = 0) : ((a.toNat : Int) == 0) = true := by subst h; rfl
theorem Fld.bne0 (a : UInt8) (h : a ≠ 0) : ((a.toNat : Int) == 0) = false := by
  rw [beq_eq_false_iff_ne]
  intro e
  exact h (UInt8.toNat_inj.1 (by show a.toNat = 0; omega))
theorem Fld.mulb (a b : UInt8) (h : a ≠ 0) : (((Fld.mul a b).toNat : Int) == 0) = ((b.toNat : Int) == 0) := by
  by_cases hb : b = 0
  · subst hb
    rw [Fld.mul_zero_r]
  · rw [Fld.bne0 b hb, Fld.bne0]
    intro e
    rcases Fld.mul_eq_zero a b e with e | e
    · exact h e
    · exact hb e

set_option maxRecDepth 100000 in
set_option maxHeartbeats 4000000 in
theorem Fld.law3z (b c : UInt8) (w : World) : Calls Try.prog 4 #[B8 0, B8 b, B8 c] w fun e w' => e = .returned (.bool true) ∧ Below w.heap.size w w' := by
  have hA := Fld.beq0 0 rfl
  go_enter Try.func4, Try.ntmps4
  have HB0 := Lib.hid (Below.refl w.heap.size w)
  obtain ⟨a, ha⟩ : ∃ a : UInt8, 0 = a := ⟨_, rfl⟩
  rw [ha] at hA ⊢
  have HA := Lib.hid ha
  clear ha
  have hI := Lib.hid (show Fld.inv a = 0 by rw [← HA.out]; decide +kernel)
  have hE := Lib.hid (show Fld.invE a = 1 by rw [← HA.out]; decide +kernel)
  have hM := Lib.hid (show Fld.mul a b = 0 by rw [← HA.out]; exact Fld.mul_zero_l b)
  go_wp2_with fail
  refine (Fld.sane_any _).mono ?_
  rintro e w1 ⟨rfl, hb1⟩
  have HB1 := Lib.hid (HB0.out.trans (hb1.mono HB0.out.size))
  clear hb1 HB0
  go_wp2_with fail
  refine (Fld.inv_any a _).mono ?_
  rintro e w2 ⟨rfl, hb2⟩
  have HB2 := Lib.hid (HB1.out.trans (hb2.mono HB1.out.size))
  clear hb2 HB1
  go_wp2_with fail
  refine (Fld.mul_any a b _).mono ?_
  rintro e w3 ⟨rfl, hb3⟩
  have HB3 := Lib.hid (HB2.out.trans (hb3.mono HB2.out.size))
  clear hb3 HB2
  go_wp2_with fail
  refine (Fld.mul_any b a _).mono ?_
  rintro e w4 ⟨rfl, hb4⟩
  have HB4 := Lib.hid (HB3.out.trans (hb4.mono HB3.out.size))
  clear hb4 HB3
  rw [Fld.mul_comm b a]
  go_wp2_with fail
  refine (Fld.mul_any b c _).mono ?_
  rintro e w5 ⟨rfl, hb5⟩
  have HB5 := Lib.hid (HB4.out.trans (hb5.mono HB4.out.size))
  clear hb5 HB4
  go_wp2_with fail
  refine (Fld.mul_any a (Fld.mul b c) _).mono ?_
  rintro e w6 ⟨rfl, hb6⟩
  have HB6 := Lib.hid (HB5.out.trans (hb6.mono HB5.out.size))
  clear hb6 HB5
  go_wp2_with fail
  refine (Fld.mul_any a b _).mono ?_
  rintro e w7 ⟨rfl, hb7⟩
  have HB7 := Lib.hid (HB6.out.trans (hb7.mono HB6.out.size))
  clear hb7 HB6
  go_wp2_with fail
  refine (Fld.mul_any (Fld.mul a b) c _).mono ?_
  rintro e w8 ⟨rfl, hb8⟩
  have HB8 := Lib.hid (HB7.out.trans (hb8.mono HB7.out.size))
  clear hb8 HB7
  rw [Fld.mul_assoc a b c]
  have hx := Fld.xor8 b c
  go_wp2_with fail
  refine (Fld.mul_any a (b ^^^ c) _).mono ?_
  rintro e w9 ⟨rfl, hb9⟩
  have HB9 := Lib.hid (HB8.out.trans (hb9.mono HB8.out.size))
  clear hb9 HB8
  clear hx
  rw [Fld.mul_xor_r a b c]
  go_wp2_with fail
  refine (Fld.mul_any a b _).mono ?_
  rintro e w10 ⟨rfl, hb10⟩
  have HB10 := Lib.hid (HB9.out.trans (hb10.mono HB9.out.size))
  clear hb10 HB9
  go_wp2_with fail
  refine (Fld.mul_any a c _).mono ?_
  rintro e w11 ⟨rfl, hb11⟩
  have HB11 := Lib.hid (HB10.out.trans (hb11.mono HB10.out.size))
  clear hb11 HB10
  have hx := Fld.xor8 (Fld.mul a b) (Fld.mul a c)
  go_wp2_with fail
  refine (Fld.mul_any a 1 _).mono ?_
  rintro e w12 ⟨rfl, hb12⟩
  have HB12 := Lib.hid (HB11.out.trans (hb12.mono HB11.out.size))
  clear hb12 HB11
  clear hx
  rw [Fld.mul_one]
  go_wp2_with fail
  refine (Fld.mul_any a b _).mono ?_
  rintro e w13 ⟨rfl, hb13⟩
  have HB13 := Lib.hid (HB12.out.trans (hb13.mono HB12.out.size))
  clear hb13 HB12
  rw [hM.out]
  rw [hI.out, hE.out]
  go_wp2_with fail
  go_ret
  exact ⟨rfl, HB13.out⟩

set_option maxRecDepth 100000 in
set_option maxHeartbeats 4000000 in
theorem Fld.law3n (a b c : UInt8) (w : World) (h : a ≠ 0) : Calls Try.prog 4 #[B8 a, B8 b, B8 c] w fun e w' => e = .returned (.bool true) ∧ Below w.heap.size w w' := by
  have hA := Fld.bne0 a h
  have hE := Lib.hid (show Fld.invE a = 0 by rw [Fld.invE, if_neg h])
  have hF := Lib.hid (show Fld.invE (Fld.inv a) = 0 by rw [Fld.invE, if_neg (Fld.inv_ne a h)])
  have hII := Lib.hid (Fld.inv_inv a h)
  have hMI := Lib.hid (Fld.mul_inv a h)
  have hM := Fld.mulb a b h
  clear h
  go_enter Try.func4, Try.ntmps4
  have HB0 := Lib.hid (Below.refl w.heap.size w)
  go_wp2_with fail
  refine (Fld.sane_any _).mono ?_
  rintro e w1 ⟨rfl, hb1⟩
  have HB1 := Lib.hid (HB0.out.trans (hb1.mono HB0.out.size))
  clear hb1 HB0
  go_wp2_with fail
  refine (Fld.inv_any a _).mono ?_
  rintro e w2 ⟨rfl, hb2⟩
  rw [hE.out]
  have HB2 := Lib.hid (HB1.out.trans (hb2.mono HB1.out.size))
  clear hb2 HB1
  go_wp2_with fail
  refine (Fld.mul_any a b _).mono ?_
  rintro e w3 ⟨rfl, hb3⟩
  have HB3 := Lib.hid (HB2.out.trans (hb3.mono HB2.out.size))
  clear hb3 HB2
  go_wp2_with fail
  refine (Fld.mul_any b a _).mono ?_
  rintro e w4 ⟨rfl, hb4⟩
  have HB4 := Lib.hid (HB3.out.trans (hb4.mono HB3.out.size))
  clear hb4 HB3
  rw [Fld.mul_comm b a]
  go_wp2_with fail
  refine (Fld.mul_any b c _).mono ?_
  rintro e w5 ⟨rfl, hb5⟩
  have HB5 := Lib.hid (HB4.out.trans (hb5.mono HB4.out.size))
  clear hb5 HB4
  go_wp2_with fail
  refine (Fld.mul_any a (Fld.mul b c) _).mono ?_
  rintro e w6 ⟨rfl, hb6⟩
  have HB6 := Lib.hid (HB5.out.trans (hb6.mono HB5.out.size))
  clear hb6 HB5
  go_wp2_with fail
  refine (Fld.mul_any a b _).mono ?_
  rintro e w7 ⟨rfl, hb7⟩
  have HB7 := Lib.hid (HB6.out.trans (hb7.mono HB6.out.size))
  clear hb7 HB6
  go_wp2_with fail
  refine (Fld.mul_any (Fld.mul a b) c _).mono ?_
  rintro e w8 ⟨rfl, hb8⟩
  have HB8 := Lib.hid (HB7.out.trans (hb8.mono HB7.out.size))
  clear hb8 HB7
  rw [Fld.mul_assoc a b c]
  have hx := Fld.xor8 b c
  go_wp2_with fail
  refine (Fld.mul_any a (b ^^^ c) _).mono ?_
  rintro e w9 ⟨rfl, hb9⟩
  have HB9 := Lib.hid (HB8.out.trans (hb9.mono HB8.out.size))
  clear hb9 HB8
  clear hx
  rw [Fld.mul_xor_r a b c]
  go_wp2_with fail
  refine (Fld.mul_any a b _).mono ?_
  rintro e w10 ⟨rfl, hb10⟩
  have HB10 := Lib.hid (HB9.out.trans (hb10.mono HB9.out.size))
  clear hb10 HB9
  go_wp2_with fail
  refine (Fld.mul_any a c _).mono ?_
  rintro e w11 ⟨rfl, hb11⟩
  have HB11 := Lib.hid (HB10.out.trans (hb11.mono HB10.out.size))
  clear hb11 HB10
  have hx := Fld.xor8 (Fld.mul a b) (Fld.mul a c)
  go_wp2_with fail
  refine (Fld.mul_any a 1 _).mono ?_
  rintro e w12 ⟨rfl, hb12⟩
  have HB12 := Lib.hid (HB11.out.trans (hb12.mono HB11.out.size))
  clear hb12 HB11
  clear hx
  rw [Fld.mul_one]
  go_wp2_with fail
  refine (Fld.mul_any a b _).mono ?_
  rintro e w13 ⟨rfl, hb13⟩
  have HB13 := Lib.hid (HB12.out.trans (hb13.mono HB12.out.size))
  clear hb13 HB12
  go_wp2_with fail
  refine (Fld.inv_any (Fld.inv a) _).mono ?_
  rintro e w14 ⟨rfl, hb14⟩
  have HB14 := Lib.hid (HB13.out.trans (hb14.mono HB13.out.size))
  clear hb14 HB13
  rw [hF.out, hII.out]
  go_wp2_with fail
  refine (Fld.mul_any a (Fld.inv a) _).mono ?_
  rintro e w15 ⟨rfl, hb15⟩
  have HB15 := Lib.hid (HB14.out.trans (hb15.mono HB14.out.size))
  clear hb15 HB14
  rw [hMI.out]
  go_wp2_with fail
  go_ret
  exact ⟨rfl, HB15.out⟩
theorem Fld.law3 (a b c : UInt8) (w : World) : Calls Try.prog 4 #[B8 a, B8 b, B8 c] w fun e w' => e = .returned (.bool true) ∧ Below w.heap.size w w' := by
  by_cases h : a = 0
  · subst h; exact Fld.law3z b c w
  · exact Fld.law3n a b c w h
end Go.Proofs.Ytilfpnkkappkdaa
