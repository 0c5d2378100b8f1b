/- The law CodecDifferent returns true. -/
import Derived.Test.YtnhodcjbmloeeaaCdG
import Derived.Test.YtnhodcjbmloeeaaCdP3
namespace Go.Proofs.Ytnhodcjbmloeeaa
open Go.RowKit Go.Shelf
set_option linter.unusedVariables false

set_option maxRecDepth 100000 in
set_option maxHeartbeats 8000000 in
theorem Cd.law5 (a b : Cd.T) (cs ds : List Value) (w : World) (hca : Cd.CellB w w.heap.size a cs) (hcb : Cd.CellB w w.heap.size b ds) :
    Calls Try.prog 7 #[.agg cs.toArray, .agg ds.toArray] w fun e w' => e = .returned (.bool true) ∧ Below w.heap.size w w' := by
  obtain ⟨A, c, rfl⟩ := hca.spell
  obtain ⟨A', c', rfl⟩ := hcb.spell
  have HRA := Lib.hid hca.rng
  have HRB := Lib.hid hcb.rng
  obtain ⟨w0, hw0⟩ : ∃ w0, w0 = (w.alloc (.cells #[.int .i64 a.k, .int .i64 a.n, .string ⟨a.s.toArray⟩, .slice A a.l.length c] 24)).alloc (.cells #[.int .i64 b.k, .int .i64 b.n, .string ⟨b.s.toArray⟩, .slice A' b.l.length c'] 24) := ⟨_, rfl⟩
  have X0 := Lib.hid (show Cd.P2 w w0 w.heap.size a A c (w.heap.size + 1) b A' c' by
    rw [hw0]
    refine ⟨below_two _ _ _, (Cd.Bx.new hca).keep ((Below.refl _ _).alloc (Nat.le_refl _) _), ?_⟩
    have h := Cd.Bx.new (w := w.alloc (.cells #[.int .i64 a.k, .int .i64 a.n, .string ⟨a.s.toArray⟩, .slice A a.l.length c] 24)) ((hcb.keep ((Below.refl _ _).alloc (Nat.le_refl _) _)).more (by simp))
    rw [World.size_alloc] at h
    exact h)
  have HW0 := Lib.hid hw0
  clear hw0 hca hcb
  go_enter Try.func7, Try.ntmps7
  go_upto_region 1 with fail
  rw [← HW0.out]
  go_wp2_with fail
  ((with_reducible refine (Cd.sane_any _).mono ?_); rintro e w1 ⟨rfl, hb1⟩)
  have X1 := Lib.hid (X0.out.keep hb1)
  clear hb1
  obtain ⟨z0, c0, c1, c2, c3⟩ := X1.out.bx.facts
  obtain ⟨z0', c0', c1', c2', c3'⟩ := X1.out.bx'.facts
  have HF := Lib.hid (Cd.few2 X1.out.bx X1.out.bx')
  go_wp2_with fail
  ((with_reducible refine HF.out.mono ?_); rintro e w2 ⟨v, rfl, hq, hb2⟩)
  have X2 := Lib.hid (X1.out.keep hb2)
  have HQ := Lib.hid hq
  clear hb2 hq z0 c0 c1 c2 c3 z0' c0' c1' c2' c3'
  cases v with
  | false =>
    go_wp2_with fail
    go_ret
    exact ⟨rfl, X2.out.below⟩
  | true =>
    have HA := Lib.hid (show a.hgt ≤ 1000000 by have := (HQ.out rfl).1.1; omega)
    have HB := Lib.hid (show b.hgt ≤ 1000000 by have := (HQ.out rfl).2.1; omega)
    have HLA := Lib.hid (show a.enc.length ≤ 90000000 by have := (HQ.out rfl).1.2; omega)
    have HLB := Lib.hid (show b.enc.length ≤ 90000000 by have := (HQ.out rfl).2.2; omega)
    have HE := Lib.hid (Cd.encode_any a _ w2 HA.out X2.out.bx.cell HLA.out)
    obtain ⟨z0, c0, c1, c2, c3⟩ := X2.out.bx.facts
    go_wp2_with fail
    ((with_reducible refine HE.out.mono ?_); rintro e w3 ⟨v3, rfl, hb3, ho3⟩)
    obtain ⟨A3, d3, rfl⟩ := own_slice ho3
    have HO3 := Lib.hid (RdB.of_own ho3)
    have HC3 := Lib.hid (own_caps ho3)
    have X3 := Lib.hid (X2.out.keep hb3)
    clear hb3 ho3 z0 c0 c1 c2 c3
    have HE := Lib.hid (Cd.encode_any b _ w3 HB.out X3.out.bx'.cell HLB.out)
    obtain ⟨z0, c0, c1, c2, c3⟩ := X3.out.bx'.facts
    go_wp2_with fail
    ((with_reducible refine HE.out.mono ?_); rintro e w4 ⟨v4, rfl, hb4, ho4⟩)
    obtain ⟨A4, d4, rfl⟩ := own_slice ho4
    have HO4 := Lib.hid (RdB.of_own ho4)
    have HC4 := Lib.hid (own_caps ho4)
    have HP4 := Lib.hid (HO3.out.keep hb4)
    have X4 := Lib.hid (X3.out.keep hb4)
    clear hb4 ho4 z0 c0 c1 c2 c3
    by_cases hka : Cd.chkE a = 0
    · by_cases hkb : Cd.chkE b = 0
      · have HKA := Lib.hid hka
        have HKB := Lib.hid hkb
        rw [hka, hkb]
        clear hka hkb
        obtain ⟨z0, c0, c1, c2, c3⟩ := X4.out.bx.facts
        obtain ⟨z0', c0', c1', c2', c3'⟩ := X4.out.bx'.facts
        have HS := Lib.hid (Cd.same_any 1000000 a b _ _ w4 HA.out (X4.out.bx.cell.cell (Nat.le_refl _)) (X4.out.bx'.cell.cell (Nat.le_refl _)))
        cases hab : a.sm b with
        | true =>
          rw [hab] at HS
          obtain rfl : a = b := (Cd.T.sm_iff a b).1 hab
          clear hab
          go_wp2_with fail
          ((with_reducible refine HS.out.mono ?_); rintro e w5 ⟨rfl, hb5⟩)
          have y3 : ∀ c, (convert 27 9 (.slice A3 (Cd.out a).length c)).run Try.prog w5 = .ok (.string ⟨(Cd.out a).toArray⟩) w5 := fun c => (HP4.out.keep hb5).str (P := Try.prog) Try.underlying27 Try.underlying5 Try.underlying9 c
          have y4 : ∀ c, (convert 27 9 (.slice A4 (Cd.out a).length c)).run Try.prog w5 = .ok (.string ⟨(Cd.out a).toArray⟩) w5 := fun c => (HO4.out.keep hb5).str (P := Try.prog) Try.underlying27 Try.underlying5 Try.underlying9 c
          have HX := Lib.hid (X4.out.keep hb5).below
          clear hb5 z0 c0 c1 c2 c3 z0' c0' c1' c2' c3'
          generalize (Cd.out a).toArray = oa at *
          generalize (Cd.out a).length = ol at *
          go_wp2_with fail
          go_ret
          exact ⟨rfl, HX.out⟩
        | false =>
          rw [hab] at HS
          have HNE := Lib.hid (Cd.enc_takes HKA.out HKB.out HRA.out HRB.out (fun e => by rw [(Cd.T.sm_iff a b).2 e] at hab; cases hab))
          clear hab
          go_wp2_with fail
          ((with_reducible refine HS.out.mono ?_); rintro e w5 ⟨rfl, hb5⟩)
          have HO5 := Lib.hid (HO4.out.keep hb5)
          have HP5 := Lib.hid (HP4.out.keep hb5)
          have HX := Lib.hid (X4.out.keep hb5).below
          clear hb5 z0 c0 c1 c2 c3 z0' c0' c1' c2' c3'
          generalize Cd.out a = la at *
          generalize Cd.out b = lb at *
          obtain ⟨h31, h32⟩ := HC3.out
          obtain ⟨h41, h42⟩ := HC4.out
          unfold maxLen at h32 h42
          rcases Nat.lt_or_ge lb.length la.length with hlt | hge
          · have hne : (!(la.take lb.length == lb.take lb.length)) = true := by
              have h := HNE.out
              rw [Nat.min_eq_right (by omega)] at h
              simpa using h
            have R3 := Lib.hid (show RdB w5.drew A3 lb.length (la.take lb.length) from Cd.rd_take HP5.out lb.length (by omega))
            have R4 := Lib.hid (show RdB w5.drew A4 lb.length (lb.take lb.length) from Cd.rd_take HO5.out lb.length (by omega))
            generalize la.take lb.length = p1 at *
            generalize lb.take lb.length = p2 at *
            have y3 : (convert 27 9 (.slice A3 lb.length d3)).run Try.prog w5.drew = .ok (.string ⟨p1.toArray⟩) w5.drew := R3.out.str (P := Try.prog) Try.underlying27 Try.underlying5 Try.underlying9 d3
            have y4 : (convert 27 9 (.slice A4 lb.length d4)).run Try.prog w5.drew = .ok (.string ⟨p2.toArray⟩) w5.drew := R4.out.str (P := Try.prog) Try.underlying27 Try.underlying5 Try.underlying9 d4
            have g0 : (0 : Int) ≤ ((lb.length : Nat) : Int) := by omega
            have g1 : ((lb.length : Nat) : Int) ≤ (d3 : Int) := by omega
            have g2 : ((lb.length : Nat) : Int) ≤ (d4 : Int) := by omega
            go_wp2_with fail
            go_region_held3 (fun w' => (convert 27 9 (.slice A3 lb.length d3)).run Try.prog w' = .ok (.string ⟨p1.toArray⟩) w' ∧ (convert 27 9 (.slice A4 lb.length d4)).run Try.prog w' = .ok (.string ⟨p2.toArray⟩) w')
              (first | exact ⟨y3, y4⟩)
              (first | fail)
            all_goals (
              go_wp2_with fail
              go_ret
              exact ⟨rfl, HX.out.drew⟩)
          · have hne : (!(la.take la.length == lb.take la.length)) = true := by
              have h := HNE.out
              rw [Nat.min_eq_left (by omega)] at h
              simpa using h
            have R3 := Lib.hid (show RdB w5.drew A3 la.length (la.take la.length) from Cd.rd_take HP5.out la.length (by omega))
            have R4 := Lib.hid (show RdB w5.drew A4 la.length (lb.take la.length) from Cd.rd_take HO5.out la.length (by omega))
            generalize la.take la.length = p1 at *
            generalize lb.take la.length = p2 at *
            have y3 : (convert 27 9 (.slice A3 la.length d3)).run Try.prog w5.drew = .ok (.string ⟨p1.toArray⟩) w5.drew := R3.out.str (P := Try.prog) Try.underlying27 Try.underlying5 Try.underlying9 d3
            have y4 : (convert 27 9 (.slice A4 la.length d4)).run Try.prog w5.drew = .ok (.string ⟨p2.toArray⟩) w5.drew := R4.out.str (P := Try.prog) Try.underlying27 Try.underlying5 Try.underlying9 d4
            have g0 : (0 : Int) ≤ ((la.length : Nat) : Int) := by omega
            have g1 : ((la.length : Nat) : Int) ≤ (d3 : Int) := by omega
            have g2 : ((la.length : Nat) : Int) ≤ (d4 : Int) := by omega
            go_wp2_with fail
            go_region_held3 (fun w' => (convert 27 9 (.slice A3 la.length d3)).run Try.prog w' = .ok (.string ⟨p1.toArray⟩) w' ∧ (convert 27 9 (.slice A4 la.length d4)).run Try.prog w' = .ok (.string ⟨p2.toArray⟩) w')
              (first | exact ⟨y3, y4⟩)
              (first | fail)
            all_goals (
              go_wp2_with fail
              go_ret
              exact ⟨rfl, HX.out.drew⟩)
      · have hne : (Cd.chkE b != 0) = true := by simpa using hkb
        rw [hka]
        clear hka hkb
        go_wp2_with fail
        go_ret
        exact ⟨rfl, X4.out.below⟩
    · have hne : (Cd.chkE a != 0) = true := by simpa using hka
      clear hka
      go_wp2_with fail
      go_ret
      exact ⟨rfl, X4.out.below⟩
end Go.Proofs.Ytnhodcjbmloeeaa
