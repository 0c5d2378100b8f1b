/- 'sane' of the statements about shares returns true. -/
import Derived.Test.YtpijkjpefdlefaaShS1
namespace Go.Proofs.Ytpijkjpefdlefaa
open Go.RowKit Go.Shelf
set_option linter.unusedVariables false

theorem Shr.s9 (W : World) (g : Nat) (A B : Option Addr) (ca cb : Nat) (h : Has W g 41 [.int .i64 0, .int .i64 1, .int .i64 2, .int .i64 3, .slice A 1 ca, .int .i64 1, .int .i64 2, .int .i64 2, .int .i64 3, .slice B 1 cb]) (ha : RdB W A 1 [6]) (hb : RdB W B 1 [3]) (na : A = none → ca = 0) (nb : B = none → cb = 0) :
    Calls Try.prog 17 #[.slice (some ⟨g, 0, none⟩) 2 2] W fun e w' => e = .returned (.tuple #[.slice none 0 0, .int .i64 61]) ∧ Below W.heap.size W w' := by
  have hr : Shr.Rds W (some ⟨g, 0, none⟩) 2 [⟨⟨0, 1, 2, 3, [6]⟩, A, ca⟩, ⟨⟨1, 2, 2, 3, [3]⟩, B, cb⟩] := by
    refine ⟨⟨rfl, fun _ => ⟨g, 0, rfl, h.lt, fun j u hu => by rw [Nat.zero_add, h.cell j]; exact hu⟩⟩, rfl, fun x hx => ?_⟩
    simp only [List.mem_cons, List.not_mem_nil, or_false] at hx
    rcases hx with rfl | rfl
    · exact ⟨ha, show 1 ≤ maxLen by decide, na⟩
    · exact ⟨hb, show 1 ≤ maxLen by decide, nb⟩
  exact (Shr.join_no _ 2 2 _ W hr (by decide) (by show Shr.joinE [⟨0, 1, 2, 3, [6]⟩, ⟨1, 2, 2, 3, [3]⟩] ≠ 0; rw [Shr.K0_eq.1]; decide)).mono fun _ _ ⟨he, hb⟩ => ⟨by rw [he]; exact congrArg (fun z => Ending.returned (.tuple #[.slice none 0 0, .int .i64 z])) Shr.K0_eq.1, hb⟩

set_option maxRecDepth 100000 in
set_option maxHeartbeats 4000000 in
theorem Shr.sane_any (w : World) : Calls Try.prog 10 #[] w fun e w' => e = .returned (.bool true) ∧ Below w.heap.size w w' := by
  go_enter Try.func10, Try.ntmps10
  go_wp2_with fail
  refine (Shr.s1 _).mono ?_
  rintro e w1 ⟨rfl, hb1⟩
  have HB1 := Lib.hid hb1
  clear hb1
  go_wp2_with fail
  refine (Shr.s2 w1 _ _ _ _).mono ?_
  rintro e w2 ⟨rfl, hb2⟩
  have HB2 := Lib.hid (HB1.out.trans (hb2.mono HB1.out.size))
  clear hb2 HB1
  go_wp2_with fail
  refine (Shr.s3 w2).mono ?_
  rintro e w3 ⟨AL, cL, rfl, hL3, _, _, hb3⟩
  have HB3 := Lib.hid (HB2.out.trans (hb3.mono HB2.out.size))
  have HL3 := Lib.hid hL3
  clear hb3 HB2 hL3
  go_wp2_with fail
  refine (Shr.s4 w3).mono ?_
  rintro e w4 ⟨AM, cM, rfl, hM4, hcM, hcMm, hb4⟩
  have HB4 := Lib.hid (HB3.out.trans (hb4.mono HB3.out.size))
  have HL4 := Lib.hid (HL3.out.keep hb4)
  obtain ⟨b, off, rfl⟩ := hM4.addr (by decide)
  have HM4 := Lib.hid hM4
  clear hb4 HB3 HL3 hM4
  have hcm1 : ¬ cM = 1 := by omega
  have HCM := Lib.hid hcMm
  unfold maxLen at hcMm
  go_wp2_with fail
  refine (Shr.s5 w4 b off (cM - 1) (by omega) (by unfold maxLen; omega) HM4.out).mono ?_
  rintro e w5 ⟨AS, cS, rfl, hS5, hb5⟩
  have HB5 := Lib.hid (HB4.out.trans (hb5.mono HB4.out.size))
  have HL5 := Lib.hid (HL4.out.keep hb5)
  have HM5 := Lib.hid (HM4.out.keep hb5)
  have HS5 := Lib.hid hS5
  clear hb5 HB4 HL4 HM4 hS5
  go_wp2_with fail
  refine (Shr.s6 w5 (some ⟨b, off, none⟩) cM _ _ HM5.out).mono ?_
  rintro e w6 ⟨rfl, hb6⟩
  have HB6 := Lib.hid (HB5.out.trans (hb6.mono HB5.out.size))
  have HL6 := Lib.hid (HL5.out.keep hb6)
  have HM6 := Lib.hid (HM5.out.keep hb6)
  have HS6 := Lib.hid (HS5.out.keep hb6)
  clear hb6 HB5 HL5 HM5 HS5
  go_wp2_with fail
  refine (Shr.s7 w6 (some ⟨b, off, none⟩) cM HM6.out).mono ?_
  rintro e w7 ⟨AX, cX, rfl, hX7, _, _, hb7⟩
  have HB7 := Lib.hid (HB6.out.trans (hb7.mono HB6.out.size))
  have HL7 := Lib.hid (HL6.out.keep hb7)
  have HM7 := Lib.hid (HM6.out.keep hb7)
  have HS7 := Lib.hid (HS6.out.keep hb7)
  obtain ⟨bx, offx, rfl⟩ := hX7.addr (by decide)
  obtain ⟨bl, offl, rfl⟩ := HL7.out.addr (by decide)
  have HX7 := Lib.hid hX7
  clear hb7 HB6 HL6 HM6 HS6 hX7
  go_wp2_with fail
  refine (Shr.s8 w7 b off cM HM7.out).mono ?_
  rintro e w8 ⟨AC, cC, rfl, hC8, hb8⟩
  have HB8 := Lib.hid (HB7.out.trans (hb8.mono HB7.out.size))
  have HL8 := Lib.hid (HL7.out.keep hb8)
  have HM8 := Lib.hid (HM7.out.keep hb8)
  have HS8 := Lib.hid (HS7.out.keep hb8)
  have HX8 := Lib.hid (HX7.out.keep hb8)
  have HC8 := Lib.hid hC8
  clear hb8 HB7 HL7 HM7 HS7 HX7 hC8
  obtain ⟨Am0, cm0, zm, m00, m01, m02, m03, m04, rm0, nm0⟩ := HM8.out.at 0 (by decide)
  obtain ⟨Ax1, cx1, zx, x10, x11, x12, x13, x14, rx1, nx1⟩ := HX8.out.at 1 (by decide)
  simp only [Nat.zero_mul, Nat.one_mul, Nat.add_zero] at m00 m01 m02 m03 m04 x10 x11 x12 x13 x14
  replace m00 : w8.cell? ⟨b, off, none⟩ = some (.int .i64 0) := m00
  replace m01 : w8.cell? ⟨b, off + 1, none⟩ = some (.int .i64 1) := m01
  replace m02 : w8.cell? ⟨b, off + 2, none⟩ = some (.int .i64 2) := m02
  replace m03 : w8.cell? ⟨b, off + 3, none⟩ = some (.int .i64 3) := m03
  replace m04 : w8.cell? ⟨b, off + 4, none⟩ = some (.slice Am0 1 cm0) := m04
  replace x10 : w8.cell? ⟨bx, offx + 5, none⟩ = some (.int .i64 1) := x10
  replace x11 : w8.cell? ⟨bx, offx + 5 + 1, none⟩ = some (.int .i64 2) := x11
  replace x12 : w8.cell? ⟨bx, offx + 5 + 2, none⟩ = some (.int .i64 2) := x12
  replace x13 : w8.cell? ⟨bx, offx + 5 + 3, none⟩ = some (.int .i64 3) := x13
  replace x14 : w8.cell? ⟨bx, offx + 5 + 4, none⟩ = some (.slice Ax1 1 cx1) := x14
  have HRM0 := Lib.hid (show RdB w8 Am0 1 [6] from rm0)
  have HRX1 := Lib.hid (show RdB w8 Ax1 1 [3] from rx1)
  have HNM0 := Lib.hid nm0
  have HNX1 := Lib.hid nx1
  have HZM := Lib.hid zm
  have HZX := Lib.hid zx
  clear rm0 rx1 nm0 nx1
  go_wp2_with fail
  have hpre := ((Below.refl w8.heap.size w8).alloc (Nat.le_refl _) (.cells #[.int .i64 0, .int .i64 1, .int .i64 2, .int .i64 3, .slice Am0 1 cm0, .int .i64 1, .int .i64 2, .int .i64 2, .int .i64 3, .slice Ax1 1 cx1] 41)).drew
  have HPRE := Lib.hid hpre
  have HH8 := Lib.hid (Has.new w8 41 [.int .i64 0, .int .i64 1, .int .i64 2, .int .i64 3, .slice Am0 1 cm0, .int .i64 1, .int .i64 2, .int .i64 2, .int .i64 3, .slice Ax1 1 cx1]).drew
  clear hpre
  go_region_held3 (fun w' => w'.cell? ⟨b, off, none⟩ = some (.int .i64 0) ∧ w'.cell? ⟨b, off + 1, none⟩ = some (.int .i64 1) ∧ w'.cell? ⟨b, off + 2, none⟩ = some (.int .i64 2) ∧ w'.cell? ⟨b, off + 3, none⟩ = some (.int .i64 3) ∧ w'.cell? ⟨b, off + 4, none⟩ = some (.slice Am0 1 cm0) ∧
      w'.cell? ⟨bx, offx + 5, none⟩ = some (.int .i64 1) ∧ w'.cell? ⟨bx, offx + 5 + 1, none⟩ = some (.int .i64 2) ∧ w'.cell? ⟨bx, offx + 5 + 2, none⟩ = some (.int .i64 2) ∧ w'.cell? ⟨bx, offx + 5 + 3, none⟩ = some (.int .i64 3) ∧ w'.cell? ⟨bx, offx + 5 + 4, none⟩ = some (.slice Ax1 1 cx1))
    (first
      | exact ⟨m00, m01, m02, m03, m04, x10, x11, x12, x13, x14⟩
      | exact ⟨hBw2 hbW m00 zm, hBw2 hbW m01 zm, hBw2 hbW m02 zm, hBw2 hbW m03 zm, hBw2 hbW m04 zm, hBw2 hbW x10 zx, hBw2 hbW x11 zx, hBw2 hbW x12 zx, hBw2 hbW x13 zx, hBw2 hbW x14 zx⟩
      | exact ⟨hBw2 HPRE.out m00 zm, hBw2 HPRE.out m01 zm, hBw2 HPRE.out m02 zm, hBw2 HPRE.out m03 zm, hBw2 HPRE.out m04 zm, hBw2 HPRE.out x10 zx, hBw2 HPRE.out x11 zx, hBw2 HPRE.out x12 zx, hBw2 HPRE.out x13 zx, hBw2 HPRE.out x14 zx⟩)
    (first | (go_at_call 17; refine (Shr.s9 _ w8.heap.size Am0 Ax1 cm0 cx1 HH8.out (HRM0.out.keep HPRE.out) (HRX1.out.keep HPRE.out) HNM0.out HNX1.out).mono ?_; rintro e w9 ⟨rfl, hb9⟩; have hbW : Below w8.heap.size w8 w9 := HPRE.out.trans (hb9.mono (by simp))))
  have HB9 := Lib.hid (HB8.out.trans (hbW.mono HB8.out.size))
  have HL9 := Lib.hid (HL8.out.keep hbW)
  have HM9 := Lib.hid (HM8.out.keep hbW)
  have HX9 := Lib.hid (HX8.out.keep hbW)
  have HS9 := Lib.hid (HS8.out.keep hbW)
  have HC9 := Lib.hid (HC8.out.keep hbW)
  have yM := (HRM0.out.keep hbW).str (P := Try.prog) Try.underlying23 Try.underlying5 Try.underlying9 cm0
  clear hb9 hbW m00 m01 m02 m03 m04 x10 x11 x12 x13 x14 zm zx
  obtain ⟨Ap, cp, zp, p0, p1, p2, p3, p4, rp, np⟩ := HL9.out.at 1 (by decide)
  replace p0 : w9.cell? ⟨bl, offl + 5, none⟩ = some (.int .i64 4) := p0
  replace p1 : w9.cell? ⟨bl, offl + 5 + 1, none⟩ = some (.int .i64 2) := p1
  replace p4 : w9.cell? ⟨bl, offl + 5 + 4, none⟩ = some (.slice Ap 1 cp) := p4
  have yp : (convert 23 9 (.slice Ap 1 cp)).run Try.prog w9 = .ok (.string ⟨#[7]⟩) w9 := RdB.str rp Try.underlying23 Try.underlying5 Try.underlying9 cp
  clear p2 p3 rp np
  obtain ⟨Aq, cq, zq, q0, q1, q2, q3, q4, rq, nq⟩ := HM9.out.at 0 (by decide)
  replace q4 : w9.cell? ⟨b, off + 4, none⟩ = some (.slice Aq 1 cq) := q4
  have yq : (convert 23 9 (.slice Aq 1 cq)).run Try.prog w9 = .ok (.string ⟨#[6]⟩) w9 := RdB.str rq Try.underlying23 Try.underlying5 Try.underlying9 cq
  clear q0 q1 q2 q3 rq nq
  obtain ⟨Ar, cr, zr, r0, r1, r2, r3, r4, rr, nr⟩ := HM9.out.at 1 (by decide)
  replace r4 : w9.cell? ⟨b, off + 5 + 4, none⟩ = some (.slice Ar 1 cr) := r4
  have yr : (convert 23 9 (.slice Ar 1 cr)).run Try.prog w9 = .ok (.string ⟨#[3]⟩) w9 := RdB.str rr Try.underlying23 Try.underlying5 Try.underlying9 cr
  clear r0 r1 r2 r3 rr nr
  obtain ⟨As, cs, zs, s0, s1, s2, s3, s4, rs, ns⟩ := HM9.out.at 2 (by decide)
  replace s4 : w9.cell? ⟨b, off + 10 + 4, none⟩ = some (.slice As 1 cs) := s4
  have ys : (convert 23 9 (.slice As 1 cs)).run Try.prog w9 = .ok (.string ⟨#[0]⟩) w9 := RdB.str rs Try.underlying23 Try.underlying5 Try.underlying9 cs
  clear s0 s1 s2 s3 rs ns
  obtain ⟨At, ct, zt, t0, t1, t2, t3, t4, rt, nt⟩ := HX9.out.at 2 (by decide)
  replace t0 : w9.cell? ⟨bx, offx + 10, none⟩ = some (.int .i64 1) := t0
  replace t4 : w9.cell? ⟨bx, offx + 10 + 4, none⟩ = some (.slice At 1 ct) := t4
  have yt : (convert 23 9 (.slice At 1 ct)).run Try.prog w9 = .ok (.string ⟨#[0]⟩) w9 := RdB.str rt Try.underlying23 Try.underlying5 Try.underlying9 ct
  clear t1 t2 t3 rt nt
  have yS : (convert 23 9 (.slice AS 1 cS)).run Try.prog w9 = .ok (.string ⟨#[5]⟩) w9 := HS9.out.str Try.underlying23 Try.underlying5 Try.underlying9 cS
  have yC : (convert 23 9 (.slice AC 1 cC)).run Try.prog w9 = .ok (.string ⟨#[15]⟩) w9 := HC9.out.str Try.underlying23 Try.underlying5 Try.underlying9 cC
  go_wp2_with fail
  go_ret
  exact ⟨rfl, HB9.out⟩
end Go.Proofs.Ytpijkjpefdlefaa
