/- The law SharesSum: the main road. -/
import Derived.Deep.RegionLaw
import Derived.Test.YtpijkjpefdlefaaShL7
namespace Go.Proofs.Ytpijkjpefdlefaa
open Go.RowKit Go.Shelf
set_option linter.unusedVariables false

/-- a share under way: its data are the first j bytes of d -/
structure Shr.Ac (B : Nat) (wr wi : World) (ep ix th mn : Int) (vd : Value) (j : Nat) (d : List UInt8) : Prop where
  s : Has wi B 41 [.int .i64 ep, .int .i64 ix, .int .i64 th, .int .i64 mn, vd]
  own : wi.ownsRow (B + 1) 5 1 vd j ((d.take j).map fun a => Value.int .u8 (a.toNat : Int))
  b : Below B wr wi
  sz : B + 1 ≤ wi.heap.size

theorem hBw3 {W wr : World} {B g i : Nat} {v : Value} (hb : Below B W wr) (h : W.cell? ⟨g, i, none⟩ = some v) (hg : g < B) : wr.cell? ⟨g, i, none⟩ = some v := (hb.cell (p := ⟨g, i, none⟩) hg).trans h

set_option maxRecDepth 100000 in
set_option maxHeartbeats 40000000 in
theorem Shr.law7c (A A1 A3 A4 : Option Addr) (n c c1 n3 c3 n4 c4 t mn : Nat) (sa sb p q : List UInt8) (w : World) (hr : RdB w A n sa) (hr1 : RdB w A1 n sb) (hr3 : RdB w A3 n3 p) (hr4 : RdB w A4 n4 q) (hc3 : n3 ≤ c3) (hcm3 : c3 ≤ maxLen) (hnil3 : A3 = none → c3 = 0) (hc4 : n4 ≤ c4) (hcm4 : c4 ≤ maxLen) (hnil4 : A4 = none → c4 = 0) (h1 : n ≤ 20) (h3 : n3 ≤ 200) (h4 : n4 ≤ 200) (k1 : 1 ≤ t) (k2 : t ≤ mn) (k3 : mn ≤ 8) (k4 : n3 = n * (t - 1)) (k5 : n4 = n * (t - 1)) :
    Calls Try.prog 9 #[.slice A n c, .slice A1 n c1, .int .i64 (t : Int), .int .i64 (mn : Int), .slice A3 n3 c3, .slice A4 n4 c4] w fun e w' => e = .returned (.bool true) ∧ Below w.heap.size w w' := by
  have HR := Lib.hid hr
  have HR1 := Lib.hid hr1
  have HR3 := Lib.hid hr3
  have HR4 := Lib.hid hr4
  have HC3 := Lib.hid hc3
  have HCM3 := Lib.hid hcm3
  have HNIL3 := Lib.hid hnil3
  have HC4 := Lib.hid hc4
  have HCM4 := Lib.hid hcm4
  have HNIL4 := Lib.hid hnil4
  have HK4 := Lib.hid k4
  have HK5 := Lib.hid k5
  have HLA := Lib.hid hr.len
  have HLB := Lib.hid hr1.len
  have HLP := Lib.hid (show p.length = sa.length * (t - 1) by rw [hr3.len, hr.len]; exact k4)
  have HLQ := Lib.hid (show q.length = sb.length * (t - 1) by rw [hr4.len, hr1.len]; exact k5)
  clear hr hr1 hr3 hr4 hc3 hcm3 hnil3 hc4 hcm4 hnil4 k4 k5
  go_enter Try.func9, Try.ntmps9
  go_wp2_with fail
  refine (Shr.sane_any _).mono ?_
  rintro e w1 ⟨rfl, hb1⟩
  have HB1 := Lib.hid hb1
  clear hb1
  go_wp2_with fail
  refine (Shr.split_yes A A3 n c n3 c3 0 t mn sa p w1 (HR.out.keep HB1.out) (HR3.out.keep HB1.out) HC3.out HCM3.out HNIL3.out (by omega) k1 k2 k3 (by omega) (by omega) HK4.out).mono ?_
  rintro e w2 ⟨v2, xs, rfl, hO2, _, hv2, hb2⟩
  obtain ⟨A2, c2, rfl⟩ := own_form hO2.row
  have HB2 := Lib.hid (HB1.out.trans (hb2.mono HB1.out.size))
  have HO2 := Lib.hid hO2
  have HV2 := Lib.hid hv2
  clear hb2 hO2 hv2 HB1
  go_wp2_with fail
  refine (Shr.split_yes A1 A4 n c1 n4 c4 0 t mn sb q w2 (HR1.out.keep HB2.out) (HR4.out.keep HB2.out) HC4.out HCM4.out HNIL4.out (by omega) k1 k2 k3 (by omega) (by omega) HK5.out).mono ?_
  rintro e w3 ⟨v5, zs, rfl, hO5, _, hv5, hb3⟩
  obtain ⟨A5, c5, rfl⟩ := own_form hO5.row
  have HB3 := Lib.hid (HB2.out.trans (hb3.mono HB2.out.size))
  have HX := Lib.hid (HO2.out.keep hb3).rds
  have HZ := Lib.hid hO5.rds
  have HV5 := Lib.hid hv5
  clear hb3 hO5 hv5 HO2 HB2
  have HXL := Lib.hid HX.out.len
  have HZL := Lib.hid HZ.out.len
  obtain ⟨b2, off2, hA2, zb2, _⟩ := HX.out.first (by omega)
  obtain ⟨b5, off5, hA5, zb5, _⟩ := HZ.out.first (by omega)
  subst hA2 hA5
  obtain ⟨R, hR⟩ : ∃ R, R = Shr.spl (Shr.xorL sa sb) 0 t mn (Shr.xorL p q) := ⟨_, rfl⟩
  have HRL := Lib.hid (show R.length = mn by rw [hR, Shr.spl_len])
  have HRK := Lib.hid (show ∀ k, k < mn → R[k]! = { (xs[k]!).s with d := Shr.xorL (xs[k]!).s.d (zs[k]!).s.d } from fun k hk => by
    rw [hR, Shr.spl_xor sa sb p q 0 t mn (by rw [HLA.out, HLB.out]) k1 HLP.out HLQ.out k hk, ← HV2.out, ← HV5.out, Shr.vals_at xs k (by rw [HXL.out]; exact hk), Shr.vals_at zs k (by rw [HZL.out]; exact hk)])
  have HDX := Lib.hid (show ∀ k, k < mn → (xs[k]!).s.d.length = n from fun k hk => by
    rw [← Shr.vals_at xs k (by rw [HXL.out]; exact hk), HV2.out, Shr.spl_at _ _ _ _ _ k hk, Shr.mkS, Shr.dat_len, HLA.out])
  have HDZ := Lib.hid (show ∀ k, k < mn → (zs[k]!).s.d.length = n from fun k hk => by
    rw [← Shr.vals_at zs k (by rw [HZL.out]; exact hk), HV5.out, Shr.spl_at _ _ _ _ _ k hk, Shr.mkS, Shr.dat_len, HLB.out])
  have HJ := Lib.hid (show Shr.joinE R = 0 ∧ Shr.joinV R = Shr.xorL sa sb ∧ R[0]!.d.length = n by
    have hl := Shr.xorL_len sa sb (by rw [HLA.out, HLB.out])
    have h := Shr.all_join (Shr.xorL sa sb) (Shr.xorL p q) t mn k1 k2 k3 (by rw [hl, HLA.out]; omega) (by rw [hl, Shr.xorL_len p q (by rw [HLP.out, HLQ.out, HLA.out, HLB.out]), HLP.out])
    rw [hR]
    exact ⟨h.1, h.2.1, by rw [h.2.2, hl, HLA.out]⟩)
  clear hR
  have z3 : ¬ mn = 0 := by omega
  go_wp2_with fail
  go_loopw [17, 83] (fun v i wr => ∃ (k : Nat) (ys : List Shr.C), k ≤ mn ∧ i = .int .i64 k ∧ Shr.Own wr w3.heap.size v k ys ∧ Shr.vals ys = R.take k ∧ Below w3.heap.size w3 wr) (fun _ i _ => mn - (intOf i).toNat)
  case atStart => exact ⟨0, [], by omega, rfl, Shr.Own.nil _ _, rfl, Below.refl _ _⟩
  case round =>
    obtain ⟨k, ys, hk, rfl, hO, hv, hB⟩ := hrel
    obtain ⟨wo, hwo⟩ : ∃ wo, wo = wr := ⟨_, rfl⟩
    subst hwo
    have HO := Lib.hid hO
    have HV := Lib.hid hv
    have HB := Lib.hid hB
    have hzr := hB.size
    clear hO hv hB
    by_cases hlt : k < mn
    · obtain ⟨_, f0, f1, f2, f3, f4⟩ := (HX.out.keep HB.out).at2 k hlt
      obtain ⟨_, g0, g1, g2, g3, g4⟩ := (HZ.out.keep HB.out).at2 k hlt
      have HXO := Lib.hid ((HX.out.keep HB.out).mem k hlt)
      have HZO := Lib.hid ((HZ.out.keep HB.out).mem k hlt)
      have hdx := HDX.out k hlt
      have hdz := HDZ.out k hlt
      have HT := Lib.hid (show R.take (k + 1) = R.take k ++ [R[k]!] by rw [List.take_succ_eq_append_getElem (by rw [HRL.out]; exact hlt), getElem!_pos R k (by rw [HRL.out]; exact hlt)])
      rw [HRK.out k hlt] at HT
      generalize xs[k]! = x at f0 f1 f2 f3 f4 HXO hdx HT
      generalize zs[k]! = z at g4 HZO hdz HT
      rw [hdx] at f4
      rw [hdz] at g4
      have HDXk := Lib.hid hdx
      have HDZk := Lib.hid hdz
      clear hdx hdz g0 g1 g2 g3
      have zb2r : b2 < wo.heap.size := by omega
      have zb5r : b5 < wo.heap.size := by omega
      obtain ⟨dd, hdd⟩ : ∃ dd, dd = Shr.xorL x.s.d z.s.d := ⟨_, rfl⟩
      have HDL := Lib.hid (show dd.length = n by rw [hdd, Shr.xorL_len _ _ (by rw [HDXk.out, HDZk.out]), HDXk.out])
      have HDG := Lib.hid (show ∀ j, dd.getD j 0 = x.s.d.getD j 0 ^^^ z.s.d.getD j 0 from fun j => by rw [hdd, Shr.xorL_getD _ _ (by rw [HDXk.out, HDZk.out])])
      rw [← hdd] at HT
      clear hdd
      go_wp2_with fail
      go_loopw [113] (fun i wi => ∃ (j : Nat) (vd : Value), j ≤ n ∧ i = .int .i64 j ∧ Shr.Ac wo.heap.size wo wi x.s.ep x.s.ix x.s.th x.s.mn vd j dd) (fun i _ => n - (intOf i).toNat)
      case atStart => exact ⟨0, .slice none 0 0, by omega, rfl, ⟨Has.new _ _ _, World.ownsRow_nil _ _ _ _, (Below.refl _ _).alloc (Nat.le_refl _) _, by simp⟩⟩
      case round =>
        obtain ⟨j, vd, hj, rfl, hAc⟩ := hrel
        have HA := Lib.hid hAc
        clear hAc
        obtain ⟨Ad, cd, rfl⟩ := own_form HA.out.own
        have zbs := HA.out.s.lt
        have hszi := HA.out.b.size
        by_cases hjl : j < n
        · have e4 := HA.out.s.cell 4
          simp only [List.getElem?_cons_succ, List.getElem?_cons_zero] at e4
          have fz := HA.out.s.frozen 4
          obtain ⟨bd, offd, hA1, zd, cd1⟩ := HXO.out.rd.byte j (by rw [HDXk.out]; exact hjl)
          obtain ⟨be, offe, hA2, ze, ce1⟩ := HZO.out.rd.byte j (by rw [HDZk.out]; exact hjl)
          have q1 := hBw2 HA.out.b f4 zb2r
          have q2 := hBw2 HA.out.b cd1 zd
          have q3 := hBw2 HA.out.b g4 zb5r
          have q4 := hBw2 HA.out.b ce1 ze
          rw [hA1] at q1
          rw [hA2] at q3
          have HTJ := Lib.hid (show (dd.take (j + 1)).map (fun a => Value.int .u8 (a.toNat : Int)) = (dd.take j).map (fun a => Value.int .u8 (a.toNat : Int)) ++ [B8 (x.s.d.getD j 0 ^^^ z.s.d.getD j 0)] by
            rw [List.take_succ_eq_append_getElem (by rw [HDL.out]; exact hjl), List.map_append, ← HDG.out j, List.getD_eq_getElem?_getD, List.getElem?_eq_getElem (by rw [HDL.out]; exact hjl)]; rfl)
          have hx8 := Fld.xor8 (x.s.d.getD j 0) (z.s.d.getD j 0)
          generalize x.s.d.getD j 0 ^^^ z.s.d.getD j 0 = y at hx8 HTJ
          generalize x.s.d.getD j 0 = dx at q2 hx8
          generalize z.s.d.getD j 0 = dz at q4 hx8
          have i1 : (0 : Int) ≤ (j : Int) := by omega
          have i2 : (j : Int) < (n : Int) := by omega
          have i3 : (0 : Int) ≤ (k : Int) := by omega
          have i4 : (k : Int) < (mn : Int) := by omega
          have zb2i : b2 < wr.heap.size := by omega
          have zb5i : b5 < wr.heap.size := by omega
          have zdi : bd < wr.heap.size := by omega
          have zei : be < wr.heap.size := by omega
          have BW1 := Lib.hid (show Below wr.heap.size wr ((wr.alloc (.cells #[B8 y] 5)).drew) from ((Below.refl _ _).alloc (Nat.le_refl _) _).drew)
          have OW1 := Lib.hid (show ((wr.alloc (.cells #[B8 y] 5)).drew).ownsRow (wo.heap.size + 1) 5 1 (.slice Ad j cd) j ((dd.take j).map fun a => Value.int .u8 (a.toNat : Int)) from own_drew (HA.out.own.alloc _))
          have SR1 := Lib.hid (show Rd ((wr.alloc (.cells #[B8 y] 5)).drew) (wr.heap.size + 1) 1 (some ⟨wr.heap.size, 0, none⟩) 1 [B8 y] by have h := rd_new wr 5 1 [B8 y] rfl; rw [World.size_alloc] at h; exact h)
          have H11 := Lib.hid (show ∀ u ∈ [B8 y], u.oneCell' = true by simp [Value.oneCell'])
          have HSZ := Lib.hid (show wo.heap.size + 1 ≤ ((wr.alloc (.cells #[B8 y] 5)).drew).heap.size from Nat.le_trans HA.out.sz BW1.out.size)
          clear cd1 ce1 f0 f1 f2 f3 f4 g4 hA1 hA2
          go_wp2_with fail
          go_region_law (first
              | (refine step_append_rd (by rfl) (.tmp 117) (.tmp 135) (by rfl) el8 (by rfl) OW1.out (by rfl) SR1.out H11.out (fun h => by (cases h)) (by unfold maxLen; omega) (by omega) HSZ.out ?_; intro v4 w4 hG4; obtain ⟨Ae, ce, rfl⟩ := own_form hG4.own; have hbC : Below wo.heap.size wr w4 := (BW1.out.mono hszi).grown hG4.grown (Nat.le_trans hszi BW1.out.size) (fun g e => Nat.le_of_succ_le (own_ge OW1.out e)); have zbs4 : wo.heap.size < w4.heap.size := Nat.lt_of_lt_of_le zbs hbC.size; have fz4 : w4.frozen? ⟨wo.heap.size, 4, none⟩ = false := ((HA.out.s.alloc (.cells #[B8 y] 5)).drew.grown hG4.grown (fun e => absurd (own_ge OW1.out e) (by omega))).frozen 4; have e44 := ((HA.out.s.alloc (.cells #[B8 y] 5)).drew.grown hG4.grown (fun e => absurd (own_ge OW1.out e) (by omega))).cell 4; simp only [List.getElem?_cons_succ, List.getElem?_cons_zero] at e44))
          all_goals (
            have HA4 := Lib.hid (show Shr.Ac wo.heap.size wo (w4.setCell ⟨wo.heap.size, 4, none⟩ (.slice Ae (j + 1) ce)) x.s.ep x.s.ix x.s.th x.s.mn (.slice Ae (j + 1) ce) (j + 1) dd from
              ⟨((HA.out.s.alloc (.cells #[B8 y] 5)).drew.grown hG4.grown (fun e => absurd (own_ge OW1.out e) (by omega))).set 4 _, by rw [HTJ.out]; exact own_far hG4.own (p := ⟨wo.heap.size, 4, none⟩) (Nat.lt_succ_self _) _, (HA.out.b.trans hbC).setCell (Nat.le_refl _) _, by simp; omega⟩)
            clear hbC hG4 e44 fz4 q1 q2 q3 q4 hx8 OW1 SR1 BW1 HSZ H11 HTJ e4 fz i1 i2 i3 i4
            go_wp2_with fail
            go_roundw
            case rel => exact ⟨j + 1, _, by omega, by go_num, HA4.out⟩
            case measure => simp [intOf]; omega)
        · obtain rfl : j = n := by omega
          have r0 := HA.out.s.cell 0
          have r1 := HA.out.s.cell 1
          have r2 := HA.out.s.cell 2
          have r3 := HA.out.s.cell 3
          have r4 := HA.out.s.cell 4
          simp only [List.getElem?_cons_succ, List.getElem?_cons_zero] at r0 r1 r2 r3 r4
          have hdt : dd.take j = dd := List.take_of_length_le (by rw [HDL.out]; exact Nat.le_refl _)
          obtain ⟨y, hy⟩ : ∃ y : Shr.C, y = ⟨⟨x.s.ep, x.s.ix, x.s.th, x.s.mn, dd⟩, Ad, cd⟩ := ⟨_, rfl⟩
          have HO8 := Lib.hid (HO.out.keep HA.out.b)
          have HYO := Lib.hid (show y.Ok wr ∧ Far y.A u17.ownBlock ∧ (∀ b off, y.A = some ⟨b, off, none⟩ → b < wr.heap.size) by
            rw [hy]
            have ho := HA.out.own
            rw [hdt] at ho
            refine ⟨⟨?_, ?_, own_nil ho⟩, Far.fresh (own_fresh ho) HO.out.row (Nat.le_succ _), own_lt ho⟩
            · show RdB wr Ad dd.length dd
              rw [HDL.out]
              exact RdB.of_own ho
            · show dd.length ≤ maxLen
              rw [HDL.out]; unfold maxLen; omega)
          have HYC := Lib.hid (show y.cells = [.int .i64 x.s.ep, .int .i64 x.s.ix, .int .i64 x.s.th, .int .i64 x.s.mn, .slice Ad j cd] by rw [hy]; show [_, _, _, _, Value.slice Ad dd.length cd] = _; rw [HDL.out])
          have HYS := Lib.hid (show y.s = ⟨x.s.ep, x.s.ix, x.s.th, x.s.mn, dd⟩ by rw [hy])
          clear hy hdt
          go_wp2_with (at_builtin; refine wpList_append_rd rfl _ _ rfl elS rfl (HO8.out.row.alloc _) rfl (rd_new wr 41 5 [.int .i64 x.s.ep, .int .i64 x.s.ix, .int .i64 x.s.th, .int .i64 x.s.mn, .slice Ad j cd] rfl) (by simp [Value.oneCell']) (fun h => by (cases h)) (by simp only [maxLen]; omega) (by omega) (by simp; omega) ?_; intro v9 w9 hG9; have HG9 := Lib.hid hG9; clear hG9)
          have HO9 := Lib.hid (HO8.out.grow HYO.out (by rw [HYC.out]; exact HG9.out))
          have HB9 := Lib.hid (((HB.out.trans (HA.out.b.mono hzr)).alloc (by omega) (.cells #[.int .i64 x.s.ep, .int .i64 x.s.ix, .int .i64 x.s.th, .int .i64 x.s.mn, .slice Ad j cd] 41)).grown HG9.out.grown (by simp; omega) (fun g e => own_ge HO8.out.row e))
          have HV9 := Lib.hid (show Shr.vals (ys ++ [y]) = R.take (k + 1) by rw [Shr.vals, List.map_append, HT.out]; show Shr.vals ys ++ [y.s] = _; rw [HV.out, HYS.out])
          clear HG9 r0 r1 r2 r3 r4
          go_wp2_with fail
          go_roundw
          case rel => exact ⟨k + 1, ys ++ [y], by omega, by go_num, HO9.out, HV9.out, HB9.out⟩
          case measure => simp [intOf]; omega
    · obtain rfl : k = mn := by omega
      have hrt : R.take k = R := List.take_of_length_le (by rw [HRL.out]; exact Nat.le_refl _)
      rw [hrt] at HV
      clear hrt
      obtain ⟨Au, cu, rfl⟩ := own_form HO.out.row
      have HCU := Lib.hid (own_cap HO.out.row)
      go_wp2_with fail
      refine (Shr.join_yes Au k cu ys wo HO.out.rds HCU.out.1 HCU.out.2 (by rw [HV.out]; exact HJ.out.1)).mono ?_
      rintro e w5 ⟨As, cs, rfl, _, hrs, _, _, hb5⟩
      have hdl : ((Shr.vals ys)[0]!).d.length = n := by rw [HV.out]; exact HJ.out.2.2
      rw [HV.out] at hrs
      rw [HJ.out.2.1, HJ.out.2.2] at hrs
      rw [HV.out, HJ.out.2.2]
      have HB5 := Lib.hid (HB3.out.trans ((HB.out.trans (hb5.mono hzr)).mono HB3.out.size))
      have HRS := Lib.hid hrs
      clear hb5 hrs hdl
      go_wp2_with fail
      go_loopw [160] (fun i wl => ∃ j : Nat, j ≤ n ∧ i = .int .i64 j ∧ Below w5.heap.size w5 wl) (fun i _ => n - (intOf i).toNat)
      case atStart => exact ⟨0, by omega, rfl, Below.refl _ _⟩
      case round =>
        obtain ⟨j, hj, rfl, hw⟩ := hrel
        have HW := Lib.hid hw
        clear hw
        by_cases hjl : j < n
        · obtain ⟨bs, offs, hAs, zs1, cs1⟩ := (HRS.out.keep HW.out).byte j hjl
          obtain ⟨ba, offa, hAa, za1, ca1⟩ := ((HR.out.keep HB5.out).keep HW.out).byte j hjl
          obtain ⟨bb, offb, hAb, zb1, cb1⟩ := ((HR1.out.keep HB5.out).keep HW.out).byte j hjl
          subst hAs hAa hAb
          have hx8 := Fld.xor8 (sa.getD j 0) (sb.getD j 0)
          rw [Shr.xorL_getD sa sb (by rw [HLA.out, HLB.out])] at cs1
          generalize sa.getD j 0 ^^^ sb.getD j 0 = y at hx8 cs1
          generalize sa.getD j 0 = dx at ca1 hx8
          generalize sb.getD j 0 = dz at cb1 hx8
          have i1 : (0 : Int) ≤ (j : Int) := by omega
          have i2 : (j : Int) < (n : Int) := by omega
          go_wp2_with fail
          go_quiet (fail)
          go_wp2_with fail
          go_roundw
          case rel => exact ⟨j + 1, by omega, by go_num, below_drewN HW.out _⟩
          case measure => simp [intOf]; omega
        · obtain rfl : j = n := by omega
          go_wp2_with fail
          go_ret
          exact ⟨rfl, HB5.out.trans (HW.out.mono HB5.out.size)⟩

theorem Shr.law7 (A A1 A3 A4 : Option Addr) (n c n1 c1 n3 c3 n4 c4 : Nat) (th mn : Int) (sa sb p q : List UInt8) (w : World) (hr : RdB w A n sa) (hr1 : RdB w A1 n1 sb) (hr3 : RdB w A3 n3 p) (hr4 : RdB w A4 n4 q) (hn : n ≤ maxLen) (hn1 : n1 ≤ maxLen) (hc3 : n3 ≤ c3) (hcm3 : c3 ≤ maxLen) (hnil3 : A3 = none → c3 = 0) (hc4 : n4 ≤ c4) (hcm4 : c4 ≤ maxLen) (hnil4 : A4 = none → c4 = 0) (hth : -9223372036854775808 ≤ th ∧ th ≤ 9223372036854775807) :
    Calls Try.prog 9 #[.slice A n c, .slice A1 n1 c1, .int .i64 th, .int .i64 mn, .slice A3 n3 c3, .slice A4 n4 c4] w fun e w' => e = .returned (.bool true) ∧ Below w.heap.size w w' := by
  by_cases hbig : 20 < n ∨ n ≠ n1 ∨ 200 < n3 ∨ 200 < n4
  · exact Shr.law7a A A1 A3 A4 n c n1 c1 n3 c3 n4 c4 th mn w hn hn1 (Nat.le_trans hc3 hcm3) (Nat.le_trans hc4 hcm4) hbig
  · obtain rfl : n = n1 := by omega
    by_cases hE : Shr.spE n 0 th mn n3 = 0
    · by_cases hE2 : Shr.spE n 0 th mn n4 = 0
      · obtain ⟨_, e2, e3, e4, _, _, e7⟩ := Shr.spE_pos _ _ _ _ _ hE
        obtain ⟨_, _, _, _, _, _, e8⟩ := Shr.spE_pos _ _ _ _ _ hE2
        obtain ⟨t, rfl⟩ : ∃ t : Nat, th = (t : Int) := ⟨th.toNat, by omega⟩
        obtain ⟨mn', rfl⟩ : ∃ mn' : Nat, mn = (mn' : Int) := ⟨mn.toNat, by omega⟩
        have e7' : n3 = n * (t - 1) := by
          rw [show ((t : Int) - 1) = ((t - 1 : Nat) : Int) by omega, ← Int.natCast_mul] at e7
          omega
        have e8' : n4 = n * (t - 1) := by
          rw [show ((t : Int) - 1) = ((t - 1 : Nat) : Int) by omega, ← Int.natCast_mul] at e8
          omega
        exact Shr.law7c A A1 A3 A4 n c c1 n3 c3 n4 c4 t mn' sa sb p q w hr hr1 hr3 hr4 hc3 hcm3 hnil3 hc4 hcm4 hnil4 (by omega) (by omega) (by omega) (by omega) (by omega) (by omega) e7' e8'
      · exact Shr.law7b2 A A1 A3 A4 n c c1 n3 c3 n4 c4 th mn sa p w hr hr3 hc3 hcm3 hnil3 (by omega) (by omega) (by omega) hth hE hE2
    · exact Shr.law7b A A1 A3 A4 n c c1 n3 c3 n4 c4 th mn sb p q w hr1 hr4 hc4 hcm4 hnil4 (by omega) (by omega) (by omega) hth hE
end Go.Proofs.Ytpijkjpefdlefaa
