/- Contract of the reference's Refresh, where it refreshes. -/
import Derived.Deep.RegionLaw
import Derived.Test.YtpijkjpefdlefaaShR5
namespace Go.Proofs.Ytpijkjpefdlefaa
open Go.RowKit Go.Shelf
set_option linter.unusedVariables false

set_option maxRecDepth 100000 in
set_option maxHeartbeats 4000000 in
theorem Shr.rref_yes (A : Option Addr) (n c : Nat) (A2 : Option Addr) (nc cc : Nat) (xs : List Shr.C) (coins : List UInt8) (w : World) (hr : Shr.Rds w A n xs) (hnm : n ≤ maxLen) (hco : RdB w A2 nc coins) (hncc : nc ≤ cc) (hccm : cc ≤ maxLen) (hnil : A2 = none → cc = 0)
    (t dl : Nat) (ep mn : Int) (h1 : Shr.chkE (Shr.vals xs) = 0) (hth : (xs[0]!).s.th = (t : Int)) (hdl : (xs[0]!).s.d.length = dl) (hep : (xs[0]!).s.ep = ep) (hmn : (xs[0]!).s.mn = mn) (hne : (n : Int) = mn) (hep2 : ep < 1048576) (hnc : nc = dl * (t - 1)) :
    Calls Try.prog 22 #[.slice A n c, .slice A2 nc cc] w (Shr.RetS w n (Shr.refV (Shr.vals xs) coins)) := by
  have hg := Shr.good _ h1
  have hpos : 0 < n := by have := hg.pos; rw [Shr.vals_len, hr.len] at this; exact this
  obtain ⟨b, off, rfl, hb, e0, e1, e2, e3, e4⟩ := hr.first hpos
  have hv0 := Shr.vals_at xs 0 (by rw [hr.len]; exact hpos)
  have g1 := hg.th1
  have g2 := hg.thm
  have g3 := hg.mn8
  have g4 := hg.d64
  have g5 := (hg.ep 0 hg.pos).2
  rw [hv0] at g1 g2 g3 g4 g5
  rw [hth] at e2 g1 g2
  rw [hmn] at e3 g2 g3
  rw [hdl] at e4 g4
  rw [hep] at e0 g5
  have HR := Lib.hid hr
  have H1 := Lib.hid h1
  have HN := Lib.hid hnm
  have HCO := Lib.hid hco
  have HCC := Lib.hid hncc
  have HCM := Lib.hid hccm
  have HNIL := Lib.hid hnil
  have HG := Lib.hid hg
  have HTH := Lib.hid hth
  have HDL := Lib.hid hdl
  have HLN := Lib.hid (show (Shr.vals xs).length = n by rw [Shr.vals_len, hr.len])
  clear hr h1 hnm hco hncc hccm hnil hg hv0 hth hdl hep hmn
  generalize (xs[0]!).s.ix = ix0 at e1
  generalize (xs[0]!).A = A0 at e4
  generalize (xs[0]!).c = c0 at e4
  subst hne
  have q1 : ((n : Int) != (n : Int)) = false := by simp
  have q2 : (ep == 1048576) = false := by simp; omega
  have HSP := Lib.hid (show ∀ (a : Option Addr) (w : World), RdB w a dl (List.replicate dl 0) → RdB w A2 nc coins → Calls Try.prog 13 #[.slice a dl dl, .int .i64 0, .int .i64 (t : Int), .int .i64 (n : Int), .slice A2 nc cc] w (Shr.RetS w n (Shr.spl (List.replicate dl 0) 0 t n coins)) from fun a w ha hc =>
    Shr.rsplit_yes a A2 dl dl nc cc 0 t n (List.replicate dl 0) coins w ha hc HCC.out HCM.out HNIL.out (by omega) (by omega) (by omega) (by omega) (by omega) (by omega) hnc)
  clear hnc
  go_enter Try.func22, Try.ntmps22
  go_wp2_with fail
  refine (Shr.rcheck_any (some ⟨b, off, none⟩) n c xs _ HR.out HN.out).mono ?_
  rintro e w1 ⟨rfl, hb1⟩
  rw [H1.out]
  have c0' := (hb1.cell (p := ⟨b, off, none⟩) hb).trans e0
  have c1' := (hb1.cell (p := ⟨b, off + 1, none⟩) hb).trans e1
  have c2 := (hb1.cell (p := ⟨b, off + 2, none⟩) hb).trans e2
  have c3 := (hb1.cell (p := ⟨b, off + 3, none⟩) hb).trans e3
  have c4 := (hb1.cell (p := ⟨b, off + 4, none⟩) hb).trans e4
  have HB1 := Lib.hid hb1
  have hbw1 : b < w1.heap.size := Nat.lt_of_lt_of_le hb hb1.size
  clear hb1 e0 e1 e2 e3 e4
  go_wp2_with fail
  have HAN := Lib.hid (Has.new w1 41 [.int .i64 ep, .int .i64 ix0, .int .i64 (t : Int), .int .i64 (n : Int), .slice A0 dl c0])
  have HBN := Lib.hid (HB1.out.alloc HB1.out.size (.cells #[.int .i64 ep, .int .i64 ix0, .int .i64 (t : Int), .int .i64 (n : Int), .slice A0 dl c0] 41))
  have zba : w1.heap.size < (w1.alloc (.cells #[.int .i64 ep, .int .i64 ix0, .int .i64 (t : Int), .int .i64 (n : Int), .slice A0 dl c0] 41)).heap.size := HAN.out.lt
  have HZA := Lib.hid HB1.out.size
  obtain ⟨ba, hba⟩ : ∃ ba, ba = w1.heap.size := ⟨_, rfl⟩
  obtain ⟨W1, hW1⟩ : ∃ W1, W1 = w1.alloc (.cells #[.int .i64 ep, .int .i64 ix0, .int .i64 (t : Int), .int .i64 (n : Int), .slice A0 dl c0] 41) := ⟨_, rfl⟩
  rw [← hW1, ← hba] at HAN
  rw [← hW1] at HBN zba
  rw [← hba] at HZA zba
  rw [← hW1, ← hba]
  clear hW1 hba c0' c1' c2 c3 c4 hbw1
  have a2 := HAN.out.cell 2
  have a3 := HAN.out.cell 3
  have a4 := HAN.out.cell 4
  simp only [List.getElem?_cons_succ, List.getElem?_cons_zero] at a2 a3 a4
  have HC1 := Lib.hid (HCO.out.keep HBN.out)
  have hmk := Shr.make_zc dl (by omega)
  have nw2 := World.new_ne W1 ⟨ba, 2, none⟩ a2
  have nw3 := World.new_ne W1 ⟨ba, 3, none⟩ a3
  have nw4 := World.new_ne W1 ⟨ba, 4, none⟩ a4
  go_region_held3 (fun w' => w'.cell? ⟨ba, 2, none⟩ = some (.int .i64 (t : Int)) ∧ w'.cell? ⟨ba, 3, none⟩ = some (.int .i64 (n : Int)) ∧ w'.cell? ⟨ba, 4, none⟩ = some (.slice A0 dl c0))
    (first
      | exact ⟨a2, a3, a4⟩
      | exact ⟨hBw2 hbW a2 zba, hBw2 hbW a3 zba, hBw2 hbW a4 zba⟩
      | go_keep)
    (first
      | (go_at_call 13; (with_reducible refine (HSP.out _ _ ((Shr.rd_zc dl W1).drew) ((HC1.out.alloc _).drew)).mono ?_); rintro e w5 ⟨v5, zs, rfl, hO5, hfr5, hv5, hb5⟩; obtain ⟨A5, c5, rfl⟩ := own_form hO5.row; have hbW : Below W1.heap.size W1 w5 := (((Below.refl _ _).alloc (Nat.le_refl _) _).drew).trans (hb5.mono (by simp))))
  have HBW := Lib.hid (HBN.out.trans (hbW.mono HBN.out.size))
  have HA5 := Lib.hid (HAN.out.keep hbW)
  have HZ := Lib.hid hO5.rds
  have HV5 := Lib.hid hv5
  clear hv5 hb5 hbW hO5 hfr5 a2 a3 a4 hmk nw2 nw3 nw4
  obtain ⟨b5, off5, hA5, zb5, _⟩ := HZ.out.first hpos
  subst hA5
  have zba5 := HA5.out.lt
  have hw5 := HBW.out.size
  have HX := Lib.hid (HR.out.keep HBW.out)
  have HXL := Lib.hid HX.out.len
  have HZL := Lib.hid HZ.out.len
  have zb2 : b < w5.heap.size := by omega
  have HV0 := Lib.hid (Shr.vals_at xs 0 (by rw [HXL.out]; exact hpos))
  have HDX := Lib.hid (show ∀ k, k < n → (xs[k]!).s.d.length = dl from fun k hk => by
    have h := HG.out.len_at k (by rw [HLN.out]; exact hk)
    rw [HV0.out, HDL.out, Shr.vals_at xs k (by rw [HXL.out]; exact hk)] at h
    exact h)
  have HDZ := Lib.hid (show ∀ k, k < n → (zs[k]!).s.d.length = dl from fun k hk => by
    have h2 : k < (Shr.spl (List.replicate dl 0) 0 t n coins).length := by rw [Shr.spl_len]; exact hk
    rw [← Shr.vals_at zs k (by rw [HZL.out]; exact hk), HV5.out, getElem!_pos _ k h2]
    simp [Shr.spl, Shr.dat_len])
  have HZK := Lib.hid (show ∀ k, k < n → (zs[k]!).s = (Shr.zer (Shr.vals xs) coins)[k]! from fun k hk => by
    rw [← Shr.vals_at zs k (by rw [HZL.out]; exact hk), HV5.out, Shr.zer, Shr.tt, HLN.out, HV0.out, HDL.out, HTH.out, Int.toNat_natCast])
  have HEP := Lib.hid (show ∀ k, k < n → 0 ≤ (xs[k]!).s.ep ∧ (xs[k]!).s.ep ≤ 1048576 from fun k hk => by
    have h := (HG.out.ep k (by rw [HLN.out]; exact hk)).2
    rw [Shr.vals_at xs k (by rw [HXL.out]; exact hk)] at h
    exact h)
  go_wp2_with fail
  go_loopw [10, 11] (fun v i wr => ∃ (k : Nat) (ys : List Shr.C), k ≤ n ∧ i = .int .i64 k ∧ Shr.Own wr w5.heap.size v k ys ∧ (∀ x, x ∈ ys → Fresh w5.heap.size x.A) ∧ Shr.vals ys = (Shr.refV (Shr.vals xs) coins).take k ∧ Below w5.heap.size w5 wr) (fun _ i _ => n - (intOf i).toNat)
  case atStart => exact ⟨0, [], by omega, rfl, Shr.Own.nil _ _, fun _ h => by (cases h), rfl, Below.refl _ _⟩
  case round =>
    obtain ⟨k, ys, hk, rfl, hO, hfr, hv, hB⟩ := hrel
    obtain ⟨wo, hwo⟩ : ∃ wo, wo = wr := ⟨_, rfl⟩
    subst hwo
    have HO := Lib.hid hO
    have HFR := Lib.hid hfr
    have HV := Lib.hid hv
    have HB := Lib.hid hB
    have hzr := hB.size
    clear hO hv hB hfr
    by_cases hlt : k < n
    · obtain ⟨_, f0, f1, f2, f3, f4⟩ := (HX.out.keep HB.out).at2 k hlt
      obtain ⟨_, _, _, _, _, g4'⟩ := (HZ.out.keep HB.out).at2 k hlt
      have hepk := HEP.out k hlt
      have HXO := Lib.hid ((HX.out.keep HB.out).mem k hlt)
      have HZO := Lib.hid ((HZ.out.keep HB.out).mem k hlt)
      have hdx := HDX.out k hlt
      have hdz := HDZ.out k hlt
      have HT := Lib.hid (Shr.refV_take (Shr.vals xs) coins k (by rw [HLN.out]; exact hlt))
      rw [← HZK.out k hlt, Shr.vals_at xs k (by rw [HXL.out]; exact hlt)] at HT
      generalize xs[k]! = x at f0 f1 f2 f3 f4 HXO hdx HT hepk
      generalize zs[k]! = z at g4' HZO hdz HT
      rw [hdx] at f4
      rw [hdz] at g4'
      have HDXk := Lib.hid hdx
      have HDZk := Lib.hid hdz
      have zb2r : b < wo.heap.size := by omega
      have zb5r : b5 < wo.heap.size := by omega
      have zbar : ba < wo.heap.size := by omega
      obtain ⟨dd, hdd⟩ : ∃ dd, dd = Shr.addD x.s.d z.s.d := ⟨_, rfl⟩
      have HDL2 := Lib.hid (show dd.length = dl by rw [hdd, Shr.addD_len, hdx])
      have HDG := Lib.hid (show ∀ j, j < dl → dd.getD j 0 = x.s.d.getD j 0 ^^^ z.s.d.getD j 0 from fun j hj => by
        rw [hdd, Shr.addD, List.getD_eq_getElem?_getD, List.getElem?_map, List.getElem?_range (by rw [HDXk.out]; exact hj)]; rfl)
      rw [← hdd] at HT
      clear hdd hdx hdz
      go_wp2_with fail
      go_loopw [13] (fun i wi => ∃ (j : Nat) (vd : Value), j ≤ dl ∧ i = .int .i64 j ∧ Shr.Acc wo.heap.size wo wi (x.s.ep + 1) x.s.ix x.s.th x.s.mn vd j dd) (fun i _ => dl - (intOf i).toNat)
      case atStart => exact ⟨0, .slice none 0 0, by omega, rfl, ⟨Has.new _ _ _, World.ownsRow_nil _ _ _ _, (Below.refl _ _).alloc (Nat.le_refl _) _, by simp⟩⟩
      case round =>
        obtain ⟨j, vd, hj, rfl, hAc⟩ := hrel
        have HA := Lib.hid hAc
        clear hAc
        obtain ⟨Ad, cd, rfl⟩ := own_form HA.out.own
        have zbs := HA.out.s.lt
        have hszi := HA.out.b.size
        have a4 := ((HA5.out.keep HB.out).below HA.out.b zbar).cell 4
        simp only [List.getElem?_cons_succ, List.getElem?_cons_zero] at a4
        have zbai : ba < wr.heap.size := by omega
        by_cases hjl : j < dl
        · have e4 := HA.out.s.cell 4
          simp only [List.getElem?_cons_succ, List.getElem?_cons_zero] at e4
          have fz := HA.out.s.frozen 4
          obtain ⟨bd, offd, hA1, zd, cd1⟩ := HXO.out.rd.byte j (by rw [HDXk.out]; exact hjl)
          obtain ⟨be, offe, hA2, ze, ce1⟩ := HZO.out.rd.byte j (by rw [HDZk.out]; exact hjl)
          have q1 := hBw2 HA.out.b f4 zb2r
          have q2 := hBw2 HA.out.b cd1 zd
          have q3 := hBw2 HA.out.b g4' zb5r
          have q4 := hBw2 HA.out.b ce1 ze
          rw [hA1] at q1
          rw [hA2] at q3
          have HTJ := Lib.hid (show (dd.take (j + 1)).map (fun a => Value.int .u8 (a.toNat : Int)) = (dd.take j).map (fun a => Value.int .u8 (a.toNat : Int)) ++ [B8 (x.s.d.getD j 0 ^^^ z.s.d.getD j 0)] by
            rw [List.take_succ_eq_append_getElem (by rw [HDL2.out]; exact hjl), List.map_append, ← HDG.out j hjl, List.getD_eq_getElem?_getD, List.getElem?_eq_getElem (by rw [HDL2.out]; exact hjl)]; rfl)
          have hx8 := Fld.xor8 (x.s.d.getD j 0) (z.s.d.getD j 0)
          generalize x.s.d.getD j 0 ^^^ z.s.d.getD j 0 = y at hx8 HTJ
          generalize x.s.d.getD j 0 = dx at q2 hx8
          generalize z.s.d.getD j 0 = dz at q4 hx8
          have i1 : (0 : Int) ≤ (j : Int) := by omega
          have i2 : (j : Int) < (dl : Int) := by omega
          have i3 : (0 : Int) ≤ (k : Int) := by omega
          have i4 : (k : Int) < (n : Int) := by omega
          have zb2i : b < wr.heap.size := by omega
          have zb5i : b5 < wr.heap.size := by omega
          have zdi : bd < wr.heap.size := by omega
          have zei : be < wr.heap.size := by omega
          have BW1 := Lib.hid (show Below wr.heap.size wr ((wr.alloc (.cells #[B8 y] 5)).drew) from ((Below.refl _ _).alloc (Nat.le_refl _) _).drew)
          have OW1 := Lib.hid (show ((wr.alloc (.cells #[B8 y] 5)).drew).ownsRow (wo.heap.size + 1) 5 1 (.slice Ad j cd) j ((dd.take j).map fun a => Value.int .u8 (a.toNat : Int)) from own_drew (HA.out.own.alloc _))
          have SR1 := Lib.hid (show Rd ((wr.alloc (.cells #[B8 y] 5)).drew) (wr.heap.size + 1) 1 (some ⟨wr.heap.size, 0, none⟩) 1 [B8 y] by have h := rd_new wr 5 1 [B8 y] rfl; rw [World.size_alloc] at h; exact h)
          have H11 := Lib.hid (show ∀ u ∈ [B8 y], u.oneCell' = true by simp [Value.oneCell'])
          have HSZ := Lib.hid (show wo.heap.size + 1 ≤ ((wr.alloc (.cells #[B8 y] 5)).drew).heap.size from Nat.le_trans HA.out.sz BW1.out.size)
          have HJ1 := Lib.hid (show j + 1 ≤ maxLen by unfold maxLen; omega)
          have HJ2 := Lib.hid (show (j + 1) * 1 ≤ 140737488355328 by omega)
          clear cd1 ce1 f0 f1 f2 f3 f4 g4' hA1 hA2
          go_wp2_with fail
          go_region_law (first
              | (refine step_append_rd (by rfl) (.tmp 69) (.tmp 87) (by rfl) el8 (by rfl) OW1.out (by rfl) SR1.out H11.out (fun h => by (cases h)) HJ1.out HJ2.out HSZ.out ?_; intro v4 w4 hG4; obtain ⟨Ae, ce, rfl⟩ := own_form hG4.own; have hbC : Below wo.heap.size wr w4 := (BW1.out.mono hszi).grown hG4.grown (Nat.le_trans hszi BW1.out.size) (fun g e => Nat.le_of_succ_le (own_ge OW1.out e)); have zbs4 : wo.heap.size < w4.heap.size := Nat.lt_of_lt_of_le zbs hbC.size; have fz4 : w4.frozen? ⟨wo.heap.size, 4, none⟩ = false := ((HA.out.s.alloc (.cells #[B8 y] 5)).drew.grown hG4.grown (fun e => absurd (own_ge OW1.out e) (by omega))).frozen 4; have e44 := ((HA.out.s.alloc (.cells #[B8 y] 5)).drew.grown hG4.grown (fun e => absurd (own_ge OW1.out e) (by omega))).cell 4; simp only [List.getElem?_cons_succ, List.getElem?_cons_zero] at e44))
          all_goals (
            have HA4 := Lib.hid (show Shr.Acc wo.heap.size wo (w4.setCell ⟨wo.heap.size, 4, none⟩ (.slice Ae (j + 1) ce)) (x.s.ep + 1) x.s.ix x.s.th x.s.mn (.slice Ae (j + 1) ce) (j + 1) dd from
              ⟨((HA.out.s.alloc (.cells #[B8 y] 5)).drew.grown hG4.grown (fun e => absurd (own_ge OW1.out e) (by omega))).set 4 _, by rw [HTJ.out]; exact own_far hG4.own (p := ⟨wo.heap.size, 4, none⟩) (Nat.lt_succ_self _) _, (HA.out.b.trans hbC).setCell (Nat.le_refl _) _, by simp; omega⟩)
            clear hbC hG4 e44 fz4 q1 q2 q3 q4 hx8 OW1 SR1 BW1 HSZ H11 HTJ e4 fz i1 i2 i3 i4
            go_wp2_with fail
            go_roundw
            case rel => exact ⟨j + 1, _, by omega, by go_num, HA4.out⟩
            case measure => simp [intOf]; omega)
        · obtain rfl : j = dl := by omega
          have r0 := HA.out.s.cell 0
          have r1 := HA.out.s.cell 1
          have r2 := HA.out.s.cell 2
          have r3 := HA.out.s.cell 3
          have r4 := HA.out.s.cell 4
          simp only [List.getElem?_cons_succ, List.getElem?_cons_zero] at r0 r1 r2 r3 r4
          have hdt : dd.take j = dd := List.take_of_length_le (by rw [HDL2.out]; exact Nat.le_refl _)
          obtain ⟨y, hy⟩ : ∃ y : Shr.C, y = ⟨⟨x.s.ep + 1, x.s.ix, x.s.th, x.s.mn, dd⟩, Ad, cd⟩ := ⟨_, rfl⟩
          have HO8 := Lib.hid (HO.out.keep HA.out.b)
          have HYO := Lib.hid (show y.Ok wr ∧ Far y.A u10.ownBlock ∧ (∀ b off, y.A = some ⟨b, off, none⟩ → b < wr.heap.size) by
            rw [hy]
            have ho := HA.out.own
            rw [hdt] at ho
            refine ⟨⟨?_, ?_, own_nil ho⟩, Far.fresh (own_fresh ho) HO.out.row (Nat.le_succ _), own_lt ho⟩
            · show RdB wr Ad dd.length dd
              rw [HDL2.out]
              exact RdB.of_own ho
            · show dd.length ≤ maxLen
              rw [HDL2.out]; unfold maxLen; omega)
          have HYF := Lib.hid (show Fresh w5.heap.size y.A by
            rw [hy]
            have ho := HA.out.own
            exact (own_fresh ho).mono (by omega))
          have HYC := Lib.hid (show y.cells = [.int .i64 (x.s.ep + 1), .int .i64 x.s.ix, .int .i64 x.s.th, .int .i64 x.s.mn, .slice Ad j cd] by rw [hy]; show [_, _, _, _, Value.slice Ad dd.length cd] = _; rw [HDL2.out])
          have HYS := Lib.hid (show y.s = ⟨x.s.ep + 1, x.s.ix, x.s.th, x.s.mn, dd⟩ by rw [hy])
          clear hy hdt
          go_wp2_with (at_builtin; refine wpList_append_rd rfl _ _ rfl elS rfl (HO8.out.row.alloc _) rfl (rd_new wr 41 5 [.int .i64 (x.s.ep + 1), .int .i64 x.s.ix, .int .i64 x.s.th, .int .i64 x.s.mn, .slice Ad j cd] rfl) (by simp [Value.oneCell']) (fun h => by (cases h)) (by simp only [maxLen]; omega) (by omega) (by simp; omega) ?_; intro v9 w9 hG9; have HG9 := Lib.hid hG9; clear hG9)
          have HO9 := Lib.hid (HO8.out.grow HYO.out (by rw [HYC.out]; exact HG9.out))
          have HB9 := Lib.hid (((HB.out.trans (HA.out.b.mono hzr)).alloc (by omega) (.cells #[.int .i64 (x.s.ep + 1), .int .i64 x.s.ix, .int .i64 x.s.th, .int .i64 x.s.mn, .slice Ad j cd] 41)).grown HG9.out.grown (by simp; omega) (fun g e => own_ge HO8.out.row e))
          have HV9 := Lib.hid (show Shr.vals (ys ++ [y]) = (Shr.refV (Shr.vals xs) coins).take (k + 1) by rw [Shr.vals, List.map_append, HT.out]; show Shr.vals ys ++ [y.s] = _; rw [HV.out, HYS.out])
          have HF9 := Lib.hid (show ∀ q, q ∈ ys ++ [y] → Fresh w5.heap.size q.A from fun q hq => by
            rcases List.mem_append.1 hq with h | h
            · exact HFR.out q h
            · rw [List.mem_singleton] at h; subst h; exact HYF.out)
          clear HG9 r0 r1 r2 r3 r4 a4
          go_wp2_with fail
          go_roundw
          case rel => exact ⟨k + 1, ys ++ [y], by omega, by go_num, HO9.out, HF9.out, HV9.out, HB9.out⟩
          case measure => simp [intOf]; omega
    · obtain rfl : k = n := by omega
      go_wp2_with fail
      go_ret2
      exact ⟨_, ys, rfl, HO.out.mono hw5, fun x hx => (HFR.out x hx).mono hw5, by rw [HV.out, Shr.refV_all _ _ _ HLN.out], HBW.out.trans (HB.out.mono hw5)⟩

end Go.Proofs.Ytpijkjpefdlefaa
