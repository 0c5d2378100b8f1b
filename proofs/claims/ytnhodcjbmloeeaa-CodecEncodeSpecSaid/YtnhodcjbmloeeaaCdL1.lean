/- The law CodecEncodeSpec returns true. -/
import Derived.Test.YtnhodcjbmloeeaaCdG
namespace Go.Proofs.Ytnhodcjbmloeeaa
open Go.RowKit Go.Shelf
set_option linter.unusedVariables false

set_option maxRecDepth 100000 in
set_option maxHeartbeats 8000000 in
theorem Cd.law1 (a : Cd.T) (cs : List Value) (w : World) (hca : Cd.CellB w w.heap.size a cs) :
    Calls Try.prog 3 #[.agg cs.toArray] w fun e w' => e = .returned (.bool true) ∧ Below w.heap.size w w' := by
  obtain ⟨A, c, rfl⟩ := hca.spell
  obtain ⟨w0, hw0⟩ : ∃ w0, w0 = w.alloc (.cells #[.int .i64 a.k, .int .i64 a.n, .string ⟨a.s.toArray⟩, .slice A a.l.length c] 24) := ⟨_, rfl⟩
  have X0 := Lib.hid (show Cd.P1 w w0 w.heap.size a A c by rw [hw0]; exact ⟨(Below.refl _ _).alloc (Nat.le_refl _) _, Cd.Bx.new hca⟩)
  have HW0 := Lib.hid hw0
  clear hw0 hca
  go_enter Try.func3, Try.ntmps3
  go_upto_region 1 with fail
  rw [← HW0.out]
  go_wp2_with fail
  ((with_reducible refine (Cd.sane_any _).mono ?_); rintro e w1 ⟨rfl, hb1⟩)
  have X1 := Lib.hid (X0.out.keep hb1)
  clear hb1
  obtain ⟨z0, c0, c1, c2, c3⟩ := X1.out.bx.facts
  have HF := Lib.hid (Cd.few1 X1.out.bx)
  go_wp2_with fail
  ((with_reducible refine HF.out.mono ?_); rintro e w2 ⟨v, rfl, hq, hb2⟩)
  have X2 := Lib.hid (X1.out.keep hb2)
  have HQ := Lib.hid hq
  clear hb2 hq z0 c0 c1 c2 c3
  cases v with
  | false =>
    go_wp2_with fail
    go_ret
    exact ⟨rfl, X2.out.below⟩
  | true =>
    have HA := Lib.hid (show a.hgt ≤ 1000000 by have := (HQ.out rfl).1; omega)
    have HL := Lib.hid (show a.enc.length ≤ 90000000 by have := (HQ.out rfl).2; omega)
    obtain ⟨z0, c0, c1, c2, c3⟩ := X2.out.bx.facts
    have HE := Lib.hid (Cd.encode_any a _ w2 HA.out X2.out.bx.cell HL.out)
    go_wp2_with fail
    ((with_reducible refine HE.out.mono ?_); rintro e w3 ⟨v3, rfl, hb3, ho3⟩)
    obtain ⟨A3, d3, rfl⟩ := own_slice ho3
    have HO3 := Lib.hid (RdB.of_own ho3)
    have X3 := Lib.hid (X2.out.keep hb3)
    clear hb3 ho3 z0 c0 c1 c2 c3
    obtain ⟨z0, c0, c1, c2, c3⟩ := X3.out.bx.facts
    have HE := Lib.hid (Cd.rencode2_any a _ w3 HA.out X3.out.bx.cell HL.out)
    go_wp2_with fail
    ((with_reducible refine HE.out.mono ?_); rintro e w4 ⟨v4, rfl, hb4, ho4⟩)
    obtain ⟨A4, d4, rfl⟩ := own_slice ho4
    have HO4 := Lib.hid (RdB.of_own ho4)
    have HP4 := Lib.hid (HO3.out.keep hb4)
    have X4 := Lib.hid (X3.out.keep hb4)
    clear hb4 ho4 z0 c0 c1 c2 c3
    obtain ⟨z0, c0, c1, c2, c3⟩ := X4.out.bx.facts
    have HS := Lib.hid (Cd.size_any a _ w4 HA.out X4.out.bx.cell HL.out)
    go_wp2_with fail
    ((with_reducible refine HS.out.mono ?_); rintro e w5 ⟨rfl, hb5⟩)
    have HO5 := Lib.hid (HO4.out.keep hb5)
    have HP5 := Lib.hid (HP4.out.keep hb5)
    have X5 := Lib.hid (X4.out.keep hb5)
    clear hb5 z0 c0 c1 c2 c3
    obtain ⟨z0, c0, c1, c2, c3⟩ := X5.out.bx.facts
    have HS := Lib.hid (Cd.rsize_any a _ w5 HA.out X5.out.bx.cell HL.out)
    go_wp2_with fail
    ((with_reducible refine HS.out.mono ?_); rintro e w6 ⟨rfl, hb6⟩)
    have HO6 := Lib.hid (HO5.out.keep hb6)
    have HP6 := Lib.hid (HP5.out.keep hb6)
    have X6 := Lib.hid (X5.out.keep hb6)
    clear hb6 z0 c0 c1 c2 c3
    obtain ⟨z0, _⟩ := X6.out.bx.facts
    have hcc : (Cd.chkE a == Cd.chkE a) = true := by simp
    generalize hch : Cd.chkE a = ch at *
    have HCH := Lib.hid hch
    clear hch
    have s0 : Cd.P3 w w6.drew w.heap.size a A c A3 A4 (Cd.out a) := Cd.P3.drew ⟨X6.out, HP6.out, HO6.out⟩
    generalize Cd.out a = oa at *
    have e2 : ((oa.length : Int) == (oa.length : Int)) = true := by simp
    go_wp2_with fail
    go_region_held3 (fun w' => w'.cell? ⟨w.heap.size, 0, none⟩ = some (.int .i64 a.k) ∧ w'.cell? ⟨w.heap.size, 1, none⟩ = some (.int .i64 a.n) ∧ w'.cell? ⟨w.heap.size, 2, none⟩ = some (.string ⟨a.s.toArray⟩) ∧ w'.cell? ⟨w.heap.size, 3, none⟩ = some (.slice A a.l.length c) ∧
        (convert 27 9 (.slice A3 oa.length d3)).run Try.prog w' = .ok (.string ⟨oa.toArray⟩) w' ∧ (convert 27 9 (.slice A4 oa.length d4)).run Try.prog w' = .ok (.string ⟨oa.toArray⟩) w' ∧ Cd.P3 w w' w.heap.size a A c A3 A4 oa)
      (first | exact Cd.P3.cells d3 d4 (by assumption))
      (first
        | (go_at_call 17; (with_reducible refine (Cd.rcheck_3 HA.out HCH.out (by assumption)).mono ?_); rintro e w7 ⟨rfl, s7⟩)
        | (go_at_call 16; (with_reducible refine (Cd.check_3 HA.out HCH.out (by assumption)).mono ?_); rintro e w7 ⟨rfl, s7⟩))
    all_goals (
      have HX := Lib.hid s7.p1.below
      clear s7 s0
      go_wp2_with fail
      go_ret
      exact ⟨rfl, HX.out⟩)
end Go.Proofs.Ytnhodcjbmloeeaa
