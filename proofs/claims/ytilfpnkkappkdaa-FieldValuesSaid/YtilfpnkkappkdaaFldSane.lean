/- 'sane' of the statements about the field returns true. -/
import Derived.Test.YtilfpnkkappkdaaFldW7
namespace Go.Proofs.Ytilfpnkkappkdaa
open Go.RowKit Go.Shelf
set_option linter.unusedVariables false

theorem Fld.s1 (w : World) : Calls Try.prog 9 #[.int .u8 2] w fun e w' => e = .returned (.tuple #[.int .u8 141, .int .i64 0]) ∧ Below w.heap.size w w' :=
  (Fld.inv_any 2 w).mono fun _ _ ⟨he, hb⟩ => ⟨by rw [he, show Fld.inv 2 = 141 by decide +kernel, show Fld.invE 2 = 0 by decide +kernel]; rfl, hb⟩
theorem Fld.s2 (w : World) : Calls Try.prog 9 #[.int .u8 0] w fun e w' => e = .returned (.tuple #[.int .u8 0, .int .i64 1]) ∧ Below w.heap.size w w' :=
  (Fld.inv_any 0 w).mono fun _ _ ⟨he, hb⟩ => ⟨by rw [he, show Fld.inv 0 = 0 by decide +kernel, show Fld.invE 0 = 1 by decide +kernel]; rfl, hb⟩
theorem Fld.s8 (w : World) : Calls Try.prog 11 #[.int .u8 2, .int .u8 128] w fun e w' => e = .returned (.int .u8 27) ∧ Below w.heap.size w w' :=
  (Fld.mul_any 2 128 w).mono fun _ _ ⟨he, hb⟩ => ⟨by rw [he, show Fld.mul 2 128 = 27 by decide +kernel]; rfl, hb⟩
theorem Fld.s9 (w : World) : Calls Try.prog 11 #[.int .u8 83, .int .u8 202] w fun e w' => e = .returned (.int .u8 1) ∧ Below w.heap.size w w' :=
  (Fld.mul_any 83 202 w).mono fun _ _ ⟨he, hb⟩ => ⟨by rw [he, show Fld.mul 83 202 = 1 by decide +kernel]; rfl, hb⟩
theorem Fld.s10 (w : World) : Calls Try.prog 15 #[.slice none 0 0, .int .u8 7] w fun e w' => e = .returned (.int .u8 0) ∧ Below w.heap.size w w' :=
  (Fld.eval_ev none 0 0 [] 7 w rfl (by decide) Rd.none_).mono fun _ _ ⟨he, hb⟩ => ⟨by rw [he]; rfl, hb⟩
theorem below_a2 {w w' : World} {o1 o2 : Obj} (hb : Below ((w.alloc o1).alloc o2).heap.size ((w.alloc o1).alloc o2) w') : Below w.heap.size w w' :=
  (((Below.refl _ _).alloc (Nat.le_refl _) _).alloc (by simp) _).trans (hb.mono (by simp; omega))
theorem below_a1 {w w' : World} {o1 : Obj} (hb : Below (w.alloc o1).heap.size (w.alloc o1) w') : Below w.heap.size w w' :=
  ((Below.refl _ _).alloc (Nat.le_refl _) _).trans (hb.mono (by simp))
theorem Fld.rd2a (w : World) (a b : UInt8) (o : Obj) : RdB ((w.alloc (.cells #[B8 a, B8 b] 5)).alloc o) (some ⟨w.heap.size, 0, none⟩) 2 [a, b] := (RdB.new w 5 [a, b]).alloc o
theorem Fld.rd2b (w : World) (a b : UInt8) (o : Obj) : RdB ((w.alloc o).alloc (.cells #[B8 a, B8 b] 5)) (some ⟨w.heap.size + 1, 0, none⟩) 2 [a, b] := by
  have h := RdB.new (w.alloc o) 5 [a, b]
  rw [World.size_alloc] at h
  exact h
/-- the third call's answer -/
def Fld.S3 (w : World) (e : Ending) (w' : World) : Prop := ∃ A c, e = .returned (.tuple #[.slice A 2 c, .int .i64 0]) ∧ RdB w' A 2 [5, 0] ∧ Below w.heap.size w w'
theorem Fld.s3 (w : World) : Calls Try.prog 13 #[.slice (some ⟨w.heap.size, 0, none⟩) 2 2, .slice (some ⟨w.heap.size + 1, 0, none⟩) 2 2] ((w.alloc (.cells #[.int .u8 1, .int .u8 2] 5)).alloc (.cells #[.int .u8 5, .int .u8 5] 5)) (Fld.S3 w) := by
  refine (Fld.coef_yes _ _ 2 2 2 2 [1, 2] [5, 5] _ rfl rfl (by decide) (by decide) (Fld.rd2a w 1 2 _) (Fld.rd2b w 5 5 _) (by decide)).mono ?_
  rintro e w' ⟨v, rfl, hown, hb⟩
  obtain ⟨A3, c3, rfl⟩ := own_form hown
  refine ⟨A3, c3, rfl, ?_, below_a2 hb⟩
  have := RdB.of_own hown
  rwa [show Fld.coefs [1, 2] [5, 5] = [5, 0] by decide +kernel] at this
theorem Fld.s4 (w : World) : Calls Try.prog 14 #[.slice (some ⟨w.heap.size, 0, none⟩) 2 2, .slice (some ⟨w.heap.size + 1, 0, none⟩) 2 2, .int .u8 77] ((w.alloc (.cells #[.int .u8 1, .int .u8 2] 5)).alloc (.cells #[.int .u8 5, .int .u8 5] 5)) fun e w' => e = .returned (.tuple #[.int .u8 5, .int .i64 0]) ∧ Below w.heap.size w w' :=
  (Fld.through_any _ _ 2 2 2 2 [1, 2] [5, 5] 77 _ (by decide) (by decide) (Fld.rd2a w 1 2 _) (Fld.rd2b w 5 5 _)).mono fun _ _ ⟨he, hb⟩ => ⟨by rw [he, show Fld.thrV [1, 2] [5, 5] 77 = 5 by decide +kernel, show Fld.thrE [1, 2] [5, 5] = 0 by decide +kernel]; rfl, below_a2 hb⟩
theorem Fld.s5 (w : World) : Calls Try.prog 14 #[.slice none 0 0, .slice none 0 0, .int .u8 7] w fun e w' => e = .returned (.tuple #[.int .u8 0, .int .i64 0]) ∧ Below w.heap.size w w' :=
  (Fld.through_any _ _ 0 0 0 0 [] [] 7 _ (by decide) (by decide) RdB.none_ RdB.none_).mono fun _ _ ⟨he, hb⟩ => ⟨by rw [he, show Fld.thrV [] [] 7 = 0 by decide +kernel, show Fld.thrE [] [] = 0 by decide +kernel]; rfl, hb⟩
theorem Fld.s6 (w : World) : Calls Try.prog 14 #[.slice (some ⟨w.heap.size, 0, none⟩) 2 2, .slice (some ⟨w.heap.size + 1, 0, none⟩) 2 2, .int .u8 7] ((w.alloc (.cells #[.int .u8 1, .int .u8 1] 5)).alloc (.cells #[.int .u8 5, .int .u8 5] 5)) fun e w' => e = .returned (.tuple #[.int .u8 0, .int .i64 1]) ∧ Below w.heap.size w w' :=
  (Fld.through_any _ _ 2 2 2 2 [1, 1] [5, 5] 7 _ (by decide) (by decide) (Fld.rd2a w 1 1 _) (Fld.rd2b w 5 5 _)).mono fun _ _ ⟨he, hb⟩ => ⟨by rw [he, show Fld.thrV [1, 1] [5, 5] 7 = 0 by decide +kernel, show Fld.thrE [1, 1] [5, 5] = 1 by decide +kernel]; rfl, below_a2 hb⟩
theorem Fld.s7 (w : World) : Calls Try.prog 13 #[.slice (some ⟨w.heap.size, 0, none⟩) 1 1, .slice none 0 0] (w.alloc (.cells #[.int .u8 1] 5)) fun e w' => e = .returned (.tuple #[.slice none 0 0, .int .i64 1]) ∧ Below w.heap.size w w' :=
  (Fld.coef_no _ _ 1 1 0 0 [1] [] _ rfl rfl (by decide) (by decide) (RdB.new w 5 [1]) (by decide)).mono fun _ _ ⟨he, hb⟩ => ⟨he, below_a1 hb⟩
theorem Fld.s11 (w : World) : Calls Try.prog 15 #[.slice (some ⟨w.heap.size, 0, none⟩) 3 3, .int .u8 0] (w.alloc (.cells #[.int .u8 3, .int .u8 9, .int .u8 200] 5)) fun e w' => e = .returned (.int .u8 3) ∧ Below w.heap.size w w' :=
  (Fld.eval_ev _ 3 3 [3, 9, 200] 0 _ rfl (by decide) (RdB.new w 5 [3, 9, 200])).mono fun _ _ ⟨he, hb⟩ => ⟨by rw [he, show Fld.ev [3, 9, 200] 0 = 3 by decide +kernel]; rfl, below_a1 hb⟩
theorem Fld.str50 (w : World) : (convert 30 9 (.slice (some ⟨w.heap.size, 0, none⟩) 2 2)).run Try.prog (w.alloc (.cells #[.int .u8 5, .int .u8 0] 5)) = .ok (.string ⟨#[5, 0]⟩) (w.alloc (.cells #[.int .u8 5, .int .u8 0] 5)) :=
  (RdB.new w 5 [5, 0]).str Try.underlying30 Try.underlying5 Try.underlying9 2

set_option maxRecDepth 100000 in
set_option maxHeartbeats 4000000 in
theorem Fld.sane_any (w : World) : Calls Try.prog 8 #[] w fun e w' => e = .returned (.bool true) ∧ Below w.heap.size w w' := by
  go_enter Try.func8, Try.ntmps8
  go_wp2_with fail
  refine (Fld.s1 _).mono ?_
  rintro e w1 ⟨rfl, hb1⟩
  have HB1 := Lib.hid hb1
  clear hb1
  go_wp2_with fail
  refine (Fld.s2 _).mono ?_
  rintro e w2 ⟨rfl, hb2⟩
  have HB2 := Lib.hid (HB1.out.trans (hb2.mono HB1.out.size))
  clear hb2 HB1
  go_wp2_with fail
  refine (Fld.s3 w2).mono ?_
  rintro e w3 ⟨A, c, rfl, hR3, hb3⟩
  have HB3 := Lib.hid (HB2.out.trans (hb3.mono HB2.out.size))
  have HR3 := Lib.hid hR3
  clear hb3 HB2 hR3
  go_wp2_with fail
  refine (Fld.s4 w3).mono ?_
  rintro e w4 ⟨rfl, hb4⟩
  have HB4 := Lib.hid (HB3.out.trans (hb4.mono HB3.out.size))
  have HR4 := Lib.hid (HR3.out.keep hb4)
  clear hb4 HB3 HR3
  go_wp2_with fail
  refine (Fld.s5 w4).mono ?_
  rintro e w5 ⟨rfl, hb5⟩
  have HB5 := Lib.hid (HB4.out.trans (hb5.mono HB4.out.size))
  have HR5 := Lib.hid (HR4.out.keep hb5)
  clear hb5 HB4 HR4
  go_wp2_with fail
  refine (Fld.s6 w5).mono ?_
  rintro e w6 ⟨rfl, hb6⟩
  have HB6 := Lib.hid (HB5.out.trans (hb6.mono HB5.out.size))
  have HR6 := Lib.hid (HR5.out.keep hb6)
  clear hb6 HB5 HR5
  go_wp2_with fail
  refine (Fld.s7 w6).mono ?_
  rintro e w7 ⟨rfl, hb7⟩
  have HB7 := Lib.hid (HB6.out.trans (hb7.mono HB6.out.size))
  have HR7 := Lib.hid (HR6.out.keep hb7)
  clear hb7 HB6 HR6
  go_wp2_with fail
  refine (Fld.s8 w7).mono ?_
  rintro e w8 ⟨rfl, hb8⟩
  have HB8 := Lib.hid (HB7.out.trans (hb8.mono HB7.out.size))
  have HR8 := Lib.hid (HR7.out.keep hb8)
  clear hb8 HB7 HR7
  go_wp2_with fail
  refine (Fld.s9 w8).mono ?_
  rintro e w9 ⟨rfl, hb9⟩
  have HB9 := Lib.hid (HB8.out.trans (hb9.mono HB8.out.size))
  have hc1 := (HR8.out.keep hb9).str (P := Try.prog) Try.underlying30 Try.underlying5 Try.underlying9 c
  have hc2 := Fld.str50 w9
  clear hb9 HB8 HR8
  go_wp2_with fail
  clear hc1 hc2
  refine (Fld.s10 _).mono ?_
  rintro e w10 ⟨rfl, hb10⟩
  have HB10 := Lib.hid (HB9.out.trans ((below_a1 hb10).mono HB9.out.size))
  clear hb10 HB9
  go_wp2_with fail
  refine (Fld.s11 w10).mono ?_
  rintro e w11 ⟨rfl, hb11⟩
  have HB11 := Lib.hid (HB10.out.trans (hb11.mono HB10.out.size))
  clear hb11 HB10
  go_wp2_with fail
  go_ret
  exact ⟨rfl, HB11.out⟩
end Go.Proofs.Ytilfpnkkappkdaa
