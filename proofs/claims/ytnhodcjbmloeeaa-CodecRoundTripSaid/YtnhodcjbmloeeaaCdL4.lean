/- The law CodecRoundTrip returns true. -/
import Derived.Test.YtnhodcjbmloeeaaCdG
namespace Go.Proofs.Ytnhodcjbmloeeaa
open Go.RowKit Go.Shelf
set_option linter.unusedVariables false

/-- a value that is decoded behind a value that is kept -/
theorem Cd.dec_small {b : List UInt8} {t : Cd.T} (h : Cd.dec b = some t) (hb : b.length ≤ 90000000) : t.hgt ≤ 1000000 ∧ t.enc.length ≤ 90000000 := by
  obtain ⟨_, _, h3, h4⟩ := Cd.dec_some h
  exact ⟨by omega, by rw [h3]; exact hb⟩

set_option maxRecDepth 100000 in
set_option maxHeartbeats 8000000 in
/-- from 'x, f := codec.Decode(raw)' on: whatever world it is in -/
theorem Cd.law4 (a : Cd.T) (cs : List Value) (Ar : Option Addr) (nr cr : Nat) (raw : List UInt8) (w : World) (hca : Cd.CellB w w.heap.size a cs) (hr : RdB w Ar nr raw) (hnc : nr ≤ cr) (hcm : cr ≤ maxLen) :
    Calls Try.prog 6 #[.agg cs.toArray, .slice Ar nr cr] w fun e w' => e = .returned (.bool true) ∧ Below w.heap.size w w' := by
  obtain rfl : raw.length = nr := hr.len
  obtain ⟨A, c, rfl⟩ := hca.spell
  have HRG := Lib.hid hca.rng
  obtain ⟨w0, hw0⟩ : ∃ w0, w0 = w.alloc (.cells #[.int .i64 a.k, .int .i64 a.n, .string ⟨a.s.toArray⟩, .slice A a.l.length c] 24) := ⟨_, rfl⟩
  have X0 := Lib.hid (show Cd.P1 w w0 w.heap.size a A c by rw [hw0]; exact ⟨(Below.refl _ _).alloc (Nat.le_refl _) _, Cd.Bx.new hca⟩)
  have R0 := Lib.hid (show RdB w0 Ar raw.length raw by rw [hw0]; exact hr.alloc _)
  have HW0 := Lib.hid hw0
  have HNC := Lib.hid hnc
  have HCM := Lib.hid hcm
  have hrm : raw.length ≤ 9223372036854775807 := by unfold maxLen at hcm; omega
  clear hw0 hca hr hnc hcm
  go_enter Try.func6, Try.ntmps6
  go_upto_region 1 with fail
  rw [← HW0.out]
  go_wp2_with fail
  ((with_reducible refine (Cd.sane_any _).mono ?_); rintro e w1 ⟨rfl, hb1⟩)
  have X1 := Lib.hid (X0.out.keep hb1)
  have R1 := Lib.hid (R0.out.keep hb1)
  clear hb1
  obtain ⟨z0, c0, c1, c2, c3⟩ := X1.out.bx.facts
  have HF := Lib.hid (Cd.few1 X1.out.bx)
  go_wp2_with fail
  ((with_reducible refine HF.out.mono ?_); rintro e w2 ⟨v, rfl, hq, hb2⟩)
  have X2 := Lib.hid (X1.out.keep hb2)
  have R2 := Lib.hid (R1.out.keep hb2)
  have HQ := Lib.hid hq
  clear hb2 hq z0 c0 c1 c2 c3
  cases v with
  | false =>
    go_wp2_with fail
    go_ret
    exact ⟨rfl, X2.out.below⟩
  | true =>
  by_cases hbig : 2000 < raw.length
  · have hd : decide ((2000 : Int) < (raw.length : Int)) = true := decide_eq_true (by omega)
    go_wp2_with fail
    go_ret
    exact ⟨rfl, X2.out.below⟩
  have hd : decide ((2000 : Int) < (raw.length : Int)) = false := decide_eq_false (by omega)
  have HA := Lib.hid (show a.hgt ≤ 1000000 by have := (HQ.out rfl).1; omega)
  have HL := Lib.hid (show a.enc.length ≤ 90000000 by have := (HQ.out rfl).2; omega)
  have HSR := Lib.hid (show raw.length ≤ 2000 by omega)
  clear hbig
  obtain ⟨z0, c0, c1, c2, c3⟩ := X2.out.bx.facts
  have HE := Lib.hid (Cd.encode_any a _ w2 HA.out X2.out.bx.cell HL.out)
  go_wp2_with fail
  ((with_reducible refine HE.out.mono ?_); rintro e w3 ⟨v3, rfl, hb3, ho3⟩)
  obtain ⟨A3, d3, rfl⟩ := own_slice ho3
  have HO3 := Lib.hid (RdB.of_own ho3)
  have HC3 := Lib.hid (own_caps ho3)
  have X3 := Lib.hid (X2.out.keep hb3)
  have R3 := Lib.hid (R2.out.keep hb3)
  clear hb3 ho3 z0 c0 c1 c2 c3 hd
  obtain ⟨z0, c0, c1, c2, c3⟩ := X3.out.bx.facts
  have HK := Lib.hid (Cd.check_any a _ w3 HA.out (X3.out.bx.cell.cell (Nat.le_refl _)))
  go_wp2_with fail
  ((with_reducible refine HK.out.mono ?_); rintro e w4 ⟨rfl, hb4⟩)
  have HO4 := Lib.hid (HO3.out.keep hb4)
  have X4 := Lib.hid (X3.out.keep hb4)
  have R4 := Lib.hid (R3.out.keep hb4)
  clear hb4 z0 c0 c1 c2 c3
  have hkk : (Cd.chkE a != Cd.chkE a) = false := by simp
  obtain ⟨z0, _⟩ := X4.out.bx.facts
  go_upto_if 34 with fail
  go_cut [7, 8] from 34 to 53 (fun v7 v8 wx => Cd.P1 w wx w.heap.size a A c ∧ RdB wx Ar raw.length raw)
  case first =>
    by_cases hka : Cd.chkE a = 0
    · have HKA := Lib.hid hka
      have HLO := Lib.hid (show (Cd.out a).length ≤ 1000000000 by
        have h := HL.out
        unfold Cd.out
        rw [if_pos hka]
        omega)
      have HD := Lib.hid (Cd.decode_any w4 A3 d3 (Cd.out a) HO4.out HC3.out.1 HC3.out.2 HLO.out)
      have HDE := Lib.hid (Cd.dec_enc hka HRG.out)
      have heq : (Cd.chkE a == 0) = true := by simpa using hka
      clear hka hkk
      go_wp2_with fail
      ((with_reducible refine HD.out.mono ?_); rintro e w5 ⟨cs5, rfl, hb5, hx5⟩)
      rw [HDE.out] at hx5 ⊢
      obtain ⟨A5, c5, rfl⟩ : ∃ A5 c5, cs5 = [.int .i64 a.k, .int .i64 a.n, .string ⟨a.s.toArray⟩, .slice A5 a.l.length c5] := hx5.spell
      have X5 := Lib.hid (X4.out.keep hb5)
      have R5 := Lib.hid (R4.out.keep hb5)
      have HX5 := Lib.hid (show Cd.CellB w5 w5.heap.size a [.int .i64 a.k, .int .i64 a.n, .string ⟨a.s.toArray⟩, .slice A5 a.l.length c5] from hx5)
      clear hb5 hx5
      go_upto_region 10 with fail
      obtain ⟨w6, hw6⟩ : ∃ w6, w6 = w5.alloc (.cells #[.int .i64 a.k, .int .i64 a.n, .string ⟨a.s.toArray⟩, .slice A5 a.l.length c5] 24) := ⟨_, rfl⟩
      have HP6 := Lib.hid (show Cd.P2 w w6 w.heap.size a A c w5.heap.size a A5 c5 by
        rw [hw6]
        exact ⟨X5.out.below.alloc X5.out.below.size _, X5.out.bx.keep ((Below.refl _ _).alloc (Nat.le_refl _) _), Cd.Bx.new HX5.out⟩)
      have R6 := Lib.hid (show RdB w6 Ar raw.length raw by rw [hw6]; exact R5.out.alloc _)
      try rw [← hw6]
      clear hw6
      obtain ⟨z0, c0, c1, c2, c3⟩ := HP6.out.bx.facts
      obtain ⟨z0', c0', c1', c2', c3'⟩ := HP6.out.bx'.facts
      have HS := Lib.hid (Cd.same_any 1000000 a a _ _ w6 HA.out (HP6.out.bx.cell.cell (Nat.le_refl _)) (HP6.out.bx'.cell.cell (Nat.le_refl _)))
      rw [Cd.T.sm_yes] at HS
      go_wp2_with fail
      ((with_reducible refine HS.out.mono ?_); rintro e w7 ⟨rfl, hb7⟩)
      have HP7 := Lib.hid (HP6.out.keep hb7)
      have R7 := Lib.hid (R6.out.keep hb7)
      clear hb7 z0 c0 c1 c2 c3 z0' c0' c1' c2' c3'
      obtain ⟨z0, c0, c1, c2, c3⟩ := HP7.out.bx.facts
      obtain ⟨z0', c0', c1', c2', c3'⟩ := HP7.out.bx'.facts
      have HS := Lib.hid (Cd.rsame_any 1000000 a a _ _ w7 HA.out (HP7.out.bx.cell.cell (Nat.le_refl _)) (HP7.out.bx'.cell.cell (Nat.le_refl _)))
      rw [Cd.T.sm_yes] at HS
      go_wp2_with fail
      ((with_reducible refine HS.out.mono ?_); rintro e w8 ⟨rfl, hb8⟩)
      have HP8 := Lib.hid (HP7.out.keep hb8)
      have R8 := Lib.hid (R7.out.keep hb8)
      clear hb8 z0 c0 c1 c2 c3 z0' c0' c1' c2' c3'
      go_wp2_with fail
      go_meet
      exact ⟨⟨HP8.out.below, HP8.out.bx⟩, R8.out⟩
    · have hne : (Cd.chkE a == 0) = false := by simpa using hka
      clear hka
      go_wp2_with fail
      go_meet
      exact ⟨X4.out, R4.out⟩
  case rest =>
    obtain ⟨hx9, hr9⟩ := hcut
    have X9 := Lib.hid hx9
    have R9 := Lib.hid hr9
    clear hx9 hr9 hkk z0
    have HD := Lib.hid (Cd.decode_any wc Ar cr raw R9.out HNC.out HCM.out (by have := HSR.out; omega))
    go_wp2_with fail
    ((with_reducible refine HD.out.mono ?_); rintro e w5 ⟨cs5, rfl, hb5, hx5⟩)
    cases hdr : Cd.dec raw with
    | none =>
      rw [hdr] at hx5
      obtain ⟨A5, c5, rfl⟩ : ∃ A5 c5, cs5 = [.int .i64 0, .int .i64 0, .string ⟨#[]⟩, .slice A5 0 c5] := hx5.spell
      have X10 := Lib.hid (X9.out.keep hb5)
      have HX5 := Lib.hid (show Cd.CellB w5 w5.heap.size (.mk 0 0 [] []) [.int .i64 0, .int .i64 0, .string ⟨#[]⟩, .slice A5 0 c5] from hx5)
      clear hb5 hx5 hdr
      go_upto_region 13 with fail
      obtain ⟨w6, hw6⟩ : ∃ w6, w6 = w5.alloc (.cells #[.int .i64 0, .int .i64 0, .string ⟨#[]⟩, .slice A5 0 c5] 24) := ⟨_, rfl⟩
      have X6 := Lib.hid (show Cd.P1 w w6 w5.heap.size (.mk 0 0 [] []) A5 c5 by
        rw [hw6]
        exact ⟨X10.out.below.alloc X10.out.below.size _, Cd.Bx.new HX5.out⟩)
      try rw [← hw6]
      clear hw6
      have z0 := X6.out.bx.has.lt
      have c0 : w6.cell? ⟨w5.heap.size, 0, none⟩ = some (.int .i64 0) := X6.out.bx.has.cell 0
      have c1 : w6.cell? ⟨w5.heap.size, 1, none⟩ = some (.int .i64 0) := X6.out.bx.has.cell 1
      have c2 : w6.cell? ⟨w5.heap.size, 2, none⟩ = some (.string ⟨#[]⟩) := X6.out.bx.has.cell 2
      have c3 : w6.cell? ⟨w5.heap.size, 3, none⟩ = some (.slice A5 0 c5) := X6.out.bx.has.cell 3
      have HS := Lib.hid (show Calls Try.prog 21 #[.agg #[.int .i64 0, .int .i64 0, .string ⟨#[]⟩, .slice A5 0 c5], .agg #[.int .i64 0, .int .i64 0, .string ⟨#[]⟩, .slice none 0 0]] w6 (Cd.RetS w6 ((Cd.T.mk 0 0 [] []).sm (.mk 0 0 [] []))) from
        Cd.same_any 1000000 (.mk 0 0 [] []) (.mk 0 0 [] []) _ [.int .i64 0, .int .i64 0, .string ⟨([] : List UInt8).toArray⟩, .slice none ([] : List Cd.T).length 0] w6 (by simp [Cd.T.hgt, Cd.T.hgts]) (X6.out.bx.cell.cell (Nat.le_refl _)) ((Cd.cell_none w6 0).cell (Nat.zero_le _)))
      rw [Cd.T.sm_yes] at HS
      go_wp2_with fail
      ((with_reducible refine HS.out.mono ?_); rintro e w7 ⟨rfl, hb7⟩)
      have X7 := Lib.hid (X6.out.below.trans (hb7.mono X6.out.below.size))
      clear hb7 z0 c0 c1 c2 c3
      go_wp2_with fail
      go_ret
      exact ⟨rfl, X7.out⟩
    | some t =>
      rw [hdr] at hx5
      obtain ⟨A5, c5, rfl⟩ : ∃ A5 c5, cs5 = [.int .i64 t.k, .int .i64 t.n, .string ⟨t.s.toArray⟩, .slice A5 t.l.length c5] := hx5.spell
      have X10 := Lib.hid (X9.out.keep hb5)
      have R10 := Lib.hid (R9.out.keep hb5)
      have HX5 := Lib.hid (show Cd.CellB w5 w5.heap.size t [.int .i64 t.k, .int .i64 t.n, .string ⟨t.s.toArray⟩, .slice A5 t.l.length c5] from hx5)
      have HDS := Lib.hid (Cd.dec_some hdr)
      have HSM := Lib.hid (Cd.dec_small hdr (by have := HSR.out; omega))
      clear hb5 hx5 hdr
      go_upto_region 13 with fail
      obtain ⟨w6, hw6⟩ : ∃ w6, w6 = w5.alloc (.cells #[.int .i64 t.k, .int .i64 t.n, .string ⟨t.s.toArray⟩, .slice A5 t.l.length c5] 24) := ⟨_, rfl⟩
      have X6 := Lib.hid (show Cd.P1 w w6 w5.heap.size t A5 c5 by
        rw [hw6]
        exact ⟨X10.out.below.alloc X10.out.below.size _, Cd.Bx.new HX5.out⟩)
      have R6 := Lib.hid (show RdB w6 Ar raw.length raw by rw [hw6]; exact R10.out.alloc _)
      try rw [← hw6]
      clear hw6
      obtain ⟨z0, c0, c1, c2, c3⟩ := X6.out.bx.facts
      have HE := Lib.hid (Cd.encode_any t _ w6 HSM.out.1 X6.out.bx.cell HSM.out.2)
      go_wp2_with fail
      ((with_reducible refine HE.out.mono ?_); rintro e w7 ⟨v7, rfl, hb7, ho7⟩)
      rw [HDS.out.1]
      rw [HDS.out.2.1] at ho7
      obtain ⟨A7, d7, rfl⟩ := own_slice ho7
      have HO7 := Lib.hid (RdB.of_own ho7)
      have R7 := Lib.hid (R6.out.keep hb7)
      have X7 := Lib.hid (X6.out.keep hb7)
      clear hb7 ho7 z0 c0 c1 c2 c3
      obtain ⟨z0, c0, c1, c2, c3⟩ := X7.out.bx.facts
      have y7 : ∀ c, (convert 27 9 (.slice A7 raw.length c)).run Try.prog w7 = .ok (.string ⟨raw.toArray⟩) w7 := fun c => HO7.out.str (P := Try.prog) Try.underlying27 Try.underlying5 Try.underlying9 c
      have yr : ∀ c, (convert 27 9 (.slice Ar raw.length c)).run Try.prog w7 = .ok (.string ⟨raw.toArray⟩) w7 := fun c => R7.out.str (P := Try.prog) Try.underlying27 Try.underlying5 Try.underlying9 c
      have HK := Lib.hid (Cd.check_p HSM.out.1 HDS.out.1 X7.out)
      go_wp2_with fail
      ((with_reducible refine HK.out.mono ?_); rintro e w8 ⟨rfl, s8⟩)
      have X8 := Lib.hid s8.below
      clear s8 z0 c0 c1 c2 c3 y7 yr
      go_wp2_with fail
      go_ret
      exact ⟨rfl, X8.out⟩
end Go.Proofs.Ytnhodcjbmloeeaa
