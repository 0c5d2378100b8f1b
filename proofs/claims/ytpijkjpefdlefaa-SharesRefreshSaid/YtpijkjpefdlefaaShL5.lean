/- The law SharesRefresh: the main road. -/
import Derived.Deep.CutRange
import Derived.Test.YtpijkjpefdlefaaShPl8
import Derived.Test.YtpijkjpefdlefaaShL4
namespace Go.Proofs.Ytpijkjpefdlefaa
open Go.RowKit Go.Shelf
set_option linter.unusedVariables false

/-- a slice of slices of bytes that came in -/
structure Ms (w : World) (A : Option Addr) (n : Nat) (qs : List Bq) : Prop where
  rd : Rd w w.heap.size 1 A n (qs.map Bq.cell)
  ok : ∀ q, q ∈ qs → RdB w q.A q.l.length q.l ∧ (q.A = none → q.c = 0) ∧ q.l.length ≤ q.c ∧ q.c ≤ maxLen
theorem Ms.len {w : World} {A : Option Addr} {n : Nat} {qs : List Bq} (h : Ms w A n qs) : qs.length = n := by have := h.rd.1; simpa using this
theorem Ms.keep {w w' : World} {A : Option Addr} {n : Nat} {qs : List Bq} (h : Ms w A n qs) (hb : Below w.heap.size w w') : Ms w' A n qs := ⟨(h.rd.below hb (Nat.le_refl _)).more hb.size, fun q hq => ⟨(h.ok q hq).1.keep hb, (h.ok q hq).2⟩⟩
theorem Ms.at {w : World} {A : Option Addr} {n : Nat} {qs : List Bq} (h : Ms w A n qs) (k : Nat) (hk : k < n) : ∃ b off, A = some ⟨b, off, none⟩ ∧ b < w.heap.size ∧ w.cell? ⟨b, off + k, none⟩ = some (.slice (qs[k]!).A (qs[k]!).l.length (qs[k]!).c) ∧ RdB w (qs[k]!).A (qs[k]!).l.length (qs[k]!).l ∧ ((qs[k]!).A = none → (qs[k]!).c = 0) ∧ (qs[k]!).l.length ≤ (qs[k]!).c ∧ (qs[k]!).c ≤ maxLen := by
  obtain ⟨b, off, e, hb, hc⟩ := h.rd.2 (by omega)
  have hk' : k < qs.length := by rw [h.len]; exact hk
  rw [getElem!_pos qs k hk']
  have ho := h.ok _ (List.getElem_mem hk')
  refine ⟨b, off, e, hb, hc k _ ?_, ho.1, ho.2⟩
  rw [List.getElem?_map, List.getElem?_eq_getElem hk']
  rfl

theorem Shr.flat_one (xs : List Shr.C) : ∀ u ∈ xs.flatMap Shr.C.cells, u.oneCell' = true := by
  intro u hu
  obtain ⟨x, _, hx⟩ := List.mem_flatMap.1 hu
  exact Shr.one_cells x u hx
theorem Shr.not8 (m : UInt8) : bits .xor .u8 IntKind.u8.max (m.toNat : Int) = ((~~~m).toNat : Int) := by
  have h := Fld.xor8 255 m
  have e : (255 ^^^ m : UInt8) = ~~~m := by
    have H : ∀ n : Nat, n < 256 → (255 ^^^ UInt8.ofNat n : UInt8) = ~~~(UInt8.ofNat n) := by decide +kernel
    have := H m.toNat m.toNat_lt
    rwa [UInt8.ofNat_toNat] at this
  rw [e] at h
  exact h
theorem Shr.Rds.kept {w w' : World} {A : Option Addr} {n : Nat} {xs : List Shr.C} {row : Option Nat} (h : Shr.Rds w A n xs) (hg : w.grownBy w' row) (hf : Far A row) (hx : ∀ x, x ∈ xs → Far x.A row) : Shr.Rds w' A n xs :=
  ⟨Rd.kept h.rd hg hf, h.len, fun x hxm => (h.ok x hxm).kept hg (hx x hxm)⟩
theorem Shr.filter_take (l : List Shr.S) (i : Int) (j : Nat) (hj : j < l.length) : (l.take (j + 1)).filter (fun s => decide (s.ix = i)) = (l.take j).filter (fun s => decide (s.ix = i)) ++ (if l[j]!.ix = i then [l[j]!] else []) := by
  rw [List.take_succ_eq_append_getElem hj, List.filter_append, getElem!_pos l j hj]
  congr 1
  by_cases h : l[j].ix = i
  · rw [if_pos h, List.filter_cons_of_pos (by simp [h])]; rfl
  · rw [if_neg h, List.filter_cons_of_neg (by simp [h])]; rfl

set_option maxRecDepth 100000 in
set_option maxHeartbeats 8000000 in
theorem Shr.law5c (A A1 A3 A5 : Option Addr) (n c c1 n3 c3 n5 c5 t mn : Nat) (sec oth coins : List UInt8) (qs : List Bq) (a m : UInt8) (w : World) (hr : RdB w A n sec) (hr1 : RdB w A1 n oth) (hr3 : RdB w A3 n3 coins) (hc3 : n3 ≤ c3) (hcm3 : c3 ≤ maxLen) (hnil : A3 = none → c3 = 0) (hr5 : Ms w A5 n5 qs) (h1 : n ≤ 10) (h2 : n3 ≤ 80) (h5 : n5 ≤ 5) (k1 : 1 ≤ t) (k2 : t ≤ mn) (k3 : mn ≤ 8) (k4 : n3 = n * (t - 1)) :
    Calls Try.prog 7 #[.slice A n c, .slice A1 n c1, .int .i64 (t : Int), .int .i64 (mn : Int), .slice A3 n3 c3, .slice A5 n5 c5, B8 a, B8 m] w fun e w' => e = .returned (.bool true) ∧ Below w.heap.size w w' := by
  have HR := Lib.hid hr
  have HR1 := Lib.hid hr1
  have HR3 := Lib.hid hr3
  have HR5 := Lib.hid hr5
  have HC3 := Lib.hid hc3
  have HCM := Lib.hid hcm3
  have HNIL := Lib.hid hnil
  have HK4 := Lib.hid k4
  have HSL := Lib.hid hr.len
  have HOL := Lib.hid hr1.len
  have HCL := Lib.hid (show coins.length = sec.length * (t - 1) by rw [hr3.len, hr.len]; exact k4)
  clear hr hr1 hr3 hr5 hc3 hcm3 hnil k4
  have d1 : decide ((10 : Int) < (n : Int)) = false := decide_eq_false (by omega)
  have d2 : decide ((80 : Int) < (n3 : Int)) = false := decide_eq_false (by omega)
  have d3 : decide ((5 : Int) < (n5 : Int)) = false := decide_eq_false (by omega)
  have d4 : ((n : Int) != (n : Int)) = false := by simp
  go_enter Try.func7, Try.ntmps7
  go_wp2_with fail
  refine (Shr.sane_any _).mono ?_
  rintro e w1 ⟨rfl, hb1⟩
  have HB1 := Lib.hid hb1
  clear hb1
  go_wp2_with fail
  refine (Shr.split_yes A A3 n c n3 c3 3 t mn sec coins w1 (HR.out.keep HB1.out) (HR3.out.keep HB1.out) HC3.out HCM.out HNIL.out (by omega) k1 k2 k3 (by omega) (by omega) HK4.out).mono ?_
  rintro e w2 ⟨v2, xs, rfl, hO2, _, hv2, hb2⟩
  obtain ⟨A2, c2, rfl⟩ := own_form hO2.row
  have HB2 := Lib.hid (HB1.out.trans (hb2.mono HB1.out.size))
  have HO2 := Lib.hid hO2
  have HV2 := Lib.hid hv2
  clear hb2 hO2 hv2 HB1
  go_wp2_with fail
  go_loopw [19, 20, 80] (fun lv ev i wr => ∃ (k j : Nat) (Al : Option Addr) (cl : Nat) (ys : List Shr.C) (co : List UInt8) (z : Int), k ≤ n5 ∧ j ≤ k ∧ i = .int .i64 k ∧ lv = .slice Al mn cl ∧ ev = .int .i64 z ∧ z = 3 + (j : Int) ∧ Shr.Rds wr Al mn ys ∧ (∀ x, x ∈ ys → ∀ b off, x.A = some ⟨b, off, none⟩ → b < wr.heap.size) ∧ Shr.vals ys = Shr.spl sec z t mn co ∧ co.length = n3 ∧ Below w2.heap.size w2 wr) (fun _ _ i _ => n5 - (intOf i).toNat)
  case atStart => exact ⟨0, 0, A2, c2, xs, coins, 3, by omega, Nat.le_refl _, rfl, rfl, rfl, rfl, HO2.out.rds, fun x hx => (HO2.out.ok x hx).2.2, HV2.out, by rw [HCL.out, HSL.out]; exact HK4.out.symm, Below.refl _ _⟩
  case round =>
    obtain ⟨k, j, Al, cl, ys, co, z, hk, hjk, rfl, rfl, rfl, hz, hY, hlt', hv, hco, hB⟩ := hrel
    have HY := Lib.hid hY
    have HLT := Lib.hid hlt'
    have HV := Lib.hid hv
    have HCO := Lib.hid hco
    have HB := Lib.hid hB
    have HBW := Lib.hid (HB2.out.trans (hB.mono HB2.out.size))
    have HZ := Lib.hid hz
    have hz1 : 3 ≤ z := by omega
    have hz2 : z ≤ 8 := by omega
    clear hY hlt' hv hco hB hz
    by_cases hlt : k < n5
    · obtain ⟨b, off, rfl, hb, e0, hq1, hq2, hq3, hq4⟩ := (HR5.out.keep HBW.out).at k hlt
      generalize qs[k]! = q at e0 hq1 hq2 hq3 hq4
      have hyl : ys.length = mn := HY.out.len
      have HY0 := Lib.hid (show (ys[0]!).s = Shr.mkS sec co z t mn 1 by rw [← Shr.vals_at ys 0 (by omega), HV.out, Shr.spl_at _ _ _ _ _ 0 (by omega)])
      have HCH := Lib.hid (show Shr.chkE (Shr.vals ys) = 0 by rw [HV.out]; exact Shr.spl_chk sec co z t mn k1 k2 k3 (by rw [HSL.out]; omega) (by omega) (by omega))
      have HDL := Lib.hid (show (ys[0]!).s.d.length = n by rw [HY0.out]; show (Shr.dat _ _ _ _).length = n; rw [Shr.dat_len, HSL.out])
      clear hyl
      by_cases hqn : q.l.length = n3
      · have HF := Lib.hid (Shr.ref_yes Al mn cl q.A n3 q.c ys q.l wr HY.out (by unfold maxLen; omega) (by rw [← hqn]; exact hq1) (by rw [← hqn]; exact hq3) hq4 hq2 t n z HCH.out (by rw [HY0.out]; rfl) HDL.out (by rw [HY0.out]; rfl) (by rw [HY0.out]; rfl) (by omega) HK4.out)
        have HRV := Lib.hid (show Shr.refV (Shr.vals ys) q.l = Shr.spl sec (z + 1) t mn (Shr.xorL co q.l) by
          rw [HV.out]
          exact Shr.refV_spl sec co q.l z t mn k1 (by omega) (by rw [HCO.out, HSL.out]; exact HK4.out) (by rw [hqn, HSL.out]; exact HK4.out))
        have HXL := Lib.hid (show (Shr.xorL co q.l).length = n3 by rw [Shr.xorL_len _ _ (by rw [HCO.out, hqn]), HCO.out])
        rw [hqn] at e0
        generalize q.A = Aq at e0 HF
        generalize q.c = cq at e0 HF
        have q1 : ((n3 : Int) == (n3 : Int)) = true := by simp
        clear hq1 hq2 hq3 hq4 hqn
        go_wp2_with fail
        refine HF.out.mono ?_
        rintro e w4 ⟨v4, zs, rfl, hO4, _, hv4, hb4⟩
        obtain ⟨A4, c4, rfl⟩ := own_form hO4.row
        rw [HRV.out] at hv4
        have HB4 := Lib.hid (HB.out.trans (hb4.mono HB.out.size))
        have HO4 := Lib.hid hO4
        have HV4 := Lib.hid hv4
        clear hb4 hO4 hv4 e0 HF
        go_wp2_with fail
        go_roundw
        case rel => exact ⟨k + 1, j + 1, A4, c4, zs, Shr.xorL co q.l, z + 1, by omega, by omega, by go_num, rfl, rfl, by have := HZ.out; omega, HO4.out.rds, fun x hx => (HO4.out.ok x hx).2.2, HV4.out, HXL.out, HB4.out⟩
        case measure => simp [intOf]; omega
      · have HF := Lib.hid (Shr.ref_co Al mn cl q.A q.l.length q.c ys q.l wr HY.out (by unfold maxLen; omega) hq1 hq3 hq4 hq2 t n z (mn : Int) HCH.out (by rw [HY0.out]; rfl) HDL.out (by rw [HY0.out]; rfl) (by rw [HY0.out]; rfl) rfl (by omega) (by
          rw [show ((t : Int) - 1) = ((t - 1 : Nat) : Int) by omega, ← Int.natCast_mul, ← HK4.out]
          omega))
        have HQ4 := Lib.hid hq4
        have hql : q.l.length ≤ 9223372036854775807 := by unfold maxLen at hq4; omega
        generalize q.A = Aq at e0 HF
        generalize q.c = cq at e0 HF
        generalize q.l.length = nq at e0 HF hqn hql
        have q1 : ((nq : Int) == (n3 : Int)) = false := by simp; omega
        clear hq1 hq2 hq3 hq4 hqn
        go_wp2_with fail
        refine HF.out.mono ?_
        rintro e w4 ⟨rfl, hb4⟩
        have HB4 := Lib.hid (HB.out.trans (hb4.mono HB.out.size))
        have HY4 := Lib.hid (HY.out.keep hb4)
        have HLT4 := Lib.hid (show ∀ x, x ∈ ys → ∀ b off, x.A = some ⟨b, off, none⟩ → b < w4.heap.size from fun x hx b off e => Nat.lt_of_lt_of_le (HLT.out x hx b off e) hb4.size)
        clear hb4 e0 HF
        go_wp2_with fail
        go_roundw
        case rel => exact ⟨k + 1, j, Al, cl, ys, co, z, by omega, by omega, by go_num, rfl, rfl, HZ.out, HY4.out, HLT4.out, HV.out, HCO.out, HB4.out⟩
        case measure => simp [intOf]; omega
    · obtain rfl : k = n5 := by omega
      have HCO2 := Lib.hid (show co.length = sec.length * (t - 1) by rw [HCO.out, HSL.out]; exact HK4.out)
      have HX := Lib.hid (HO2.out.rds.keep HB.out)
      have HXLT := Lib.hid (show ∀ x, x ∈ xs → ∀ b off, x.A = some ⟨b, off, none⟩ → b < wr.heap.size from fun x hx b off e => Nat.lt_of_lt_of_le ((HO2.out.ok x hx).2.2 b off e) HB.out.size)
      clear HO2 HCO HB2
      go_wp2_with fail
      refine (Shr.some_any Al mn cl a ys wr HY.out k3 HLT.out).mono ?_
      rintro e w3 ⟨v3, us, rfl, hO3, hv3, _, hb3⟩
      rw [HV.out, Shr.pick_sel] at hv3
      obtain ⟨Ax, cx, rfl⟩ := own_form hO3.row
      have HB3 := Lib.hid (HBW.out.trans (hb3.mono HBW.out.size))
      have HY3 := Lib.hid (HY.out.keep hb3)
      have HX3 := Lib.hid (HX.out.keep hb3)
      have HLT3 := Lib.hid (show ∀ x, x ∈ ys → ∀ b off, x.A = some ⟨b, off, none⟩ → b < w3.heap.size from fun x hx b off e => Nat.lt_of_lt_of_le (HLT.out x hx b off e) hb3.size)
      have HXLT3 := Lib.hid (show ∀ x, x ∈ xs → ∀ b off, x.A = some ⟨b, off, none⟩ → b < w3.heap.size from fun x hx b off e => Nat.lt_of_lt_of_le (HXLT.out x hx b off e) hb3.size)
      have HO3 := Lib.hid hO3
      have HV3 := Lib.hid hv3
      clear hO3 hv3 hb3 HY HX HLT HXLT HBW HB
      have hxl : us.length = (Shr.ixs a mn).length := by have := congrArg List.length HV3.out; rwa [Shr.vals_len, Shr.sel_len] at this
      have HXL := Lib.hid hxl
      have HUS := Lib.hid (show ∀ i, i < us.length → (us[i]!).s.ep = z ∧ (us[i]!).s.th = (t : Int) ∧ (us[i]!).s.mn = (mn : Int) from fun i hi => by
        rw [← Shr.vals_at us i hi, HV3.out, Shr.sel_at _ _ _ _ _ _ i (by rw [← hxl]; exact hi)]
        exact ⟨rfl, rfl, rfl⟩)
      generalize us.length = mm at HO3 HXL HUS ⊢
      clear hxl
      have hm8 : mm ≤ 8 := by rw [HXL.out]; exact Nat.le_trans (Shr.ixs_len a mn) k3
      have HCX := Lib.hid (own_cap HO3.out.row)
      go_wp2_with fail
      go_loopw [109] (fun i wq => ∃ k : Nat, k ≤ mm ∧ i = .int .i64 k ∧ Below w3.heap.size w3 wq) (fun i _ => mm - (intOf i).toNat)
      case atStart => exact ⟨0, by omega, rfl, Below.refl _ _⟩
      case round =>
        obtain ⟨i, hi, rfl, hB⟩ := hrel
        have HBq := Lib.hid hB
        clear hB
        by_cases hlt : i < mm
        · obtain ⟨b, off, rfl, hb, e0, e1, e2, e3, e4⟩ := (HO3.out.rds.keep HBq.out).at i hlt
          obtain ⟨g0, g1, g2⟩ := HUS.out i hlt
          generalize us[i]! = u at e0 e1 e2 e3 e4 g0 g1 g2
          rw [g0] at e0
          rw [g1] at e2
          rw [g2] at e3
          have q1 : (z != z) = false := by simp
          have q2 : ((t : Int) != (t : Int)) = false := by simp
          have q3 : ((mn : Int) != (mn : Int)) = false := by simp
          clear g0 g1 g2
          go_wp2_with fail
          go_roundw
          case rel => exact ⟨i + 1, by omega, by go_num, HBq.out.alloc HBq.out.size _⟩
          case measure => simp [intOf]; omega
        · obtain rfl : i = mm := by omega
          obtain ⟨w4, hw4⟩ : ∃ w4, w4 = wr := ⟨_, rfl⟩
          subst hw4
          have HB4 := Lib.hid (HB3.out.trans (HBq.out.mono HB3.out.size))
          have HO4 := Lib.hid (HO3.out.keep HBq.out)
          have HY4 := Lib.hid (HY3.out.keep HBq.out)
          have HX4 := Lib.hid (HX3.out.keep HBq.out)
          have HLT4 := Lib.hid (show ∀ x, x ∈ ys → ∀ b off, x.A = some ⟨b, off, none⟩ → b < w4.heap.size from fun x hx b off e => Nat.lt_of_lt_of_le (HLT3.out x hx b off e) HBq.out.size)
          have HXLT4 := Lib.hid (show ∀ x, x ∈ xs → ∀ b off, x.A = some ⟨b, off, none⟩ → b < w4.heap.size from fun x hx b off e => Nat.lt_of_lt_of_le (HXLT3.out x hx b off e) HBq.out.size)
          clear HO3 HY3 HX3 HLT3 HXLT3 HB3 HBq HUS
          go_upto_if 133 with fail
          go_cut [28, 29, 30, 31, 32, 33] from 130 to 179 (fun s28 s29 s30 s31 s32 s33 wx => Below w4.heap.size w4 wx)
          case first =>
            by_cases hmt : t ≤ i
            · have HE := Lib.hid (Shr.enough sec co z t mn (Shr.ixs a mn) (Shr.ixs_rise a mn) (Shr.ixs_mem a mn) k1 k2 k3 (by rw [HSL.out]; omega) (by omega) (by omega) HCO2.out (by rw [← HXL.out]; exact hmt))
              rw [← HV3.out] at HE
              go_wp2_with fail
              refine (Shr.join_yes Ax i cx us w4 HO4.out.rds HCX.out.1 HCX.out.2 HE.out.e).mono ?_
              rintro e w5 ⟨As, cs, rfl, _, hrs, _, _, hb5⟩
              rw [HE.out.v] at hrs
              rw [HE.out.d, HSL.out] at hrs ⊢
              have HB5 := Lib.hid hb5
              have ys5 := hrs.str (P := Try.prog) Try.underlying23 Try.underlying5 Try.underlying9 cs
              have yr5 := ((HR.out.keep HB4.out).keep hb5).str (P := Try.prog) Try.underlying23 Try.underlying5 Try.underlying9 c
              clear hb5 hrs
              go_wp2_with fail
              go_meet
              exact HB5.out
            · by_cases hm0 : i = 0
              · go_wp2_with fail
                go_meet
                exact Below.refl _ _
              · have HF := Lib.hid (Shr.tooFew sec co oth z t mn (Shr.ixs a mn) (by rw [← HXL.out]; omega) (Shr.ixs_rise a mn) (Shr.ixs_mem a mn) k1 k2 k3 (by rw [HSL.out]; omega) (by omega) (by omega) (by rw [← HXL.out]; omega) (by rw [HOL.out, HSL.out]))
                have HFE := Lib.hid HF.out.e
                have HFT := Lib.hid HF.out.tt
                have HFS := Lib.hid HF.out.same
                clear HF
                rw [← HV3.out] at HFE HFT HFS
                rw [HOL.out] at HFE
                go_wp2_with fail
                refine (Shr.expl_cap Ax i cx A1 n c1 us oth w4 HO4.out.rds (by unfold maxLen; omega) (HR1.out.keep HB4.out) (by unfold maxLen; omega) HFE.out).mono ?_
                rintro e w6 ⟨Ac, cc, rfl, hnc, hrc, _, _, hb6, hcc1, hcc2⟩
                rw [HFT.out] at hrc hcc1 ⊢
                have HB6 := Lib.hid hb6
                have HX6 := Lib.hid (HO4.out.keep hb6)
                have HRC := Lib.hid hrc
                have HNC := Lib.hid hnc
                have HC1 := Lib.hid hcc1
                have HC2 := Lib.hid hcc2
                clear hb6 hrc hnc hcc1 hcc2
                go_wp2_with fail
                refine (Shr.split_yes A1 Ac n c1 (n * (t - 1)) cc z t mn oth (Shr.explV (Shr.vals us) oth) w6 ((HR1.out.keep HB4.out).keep HB6.out) HRC.out HC1.out HC2.out HNC.out (by omega) k1 k2 k3 (by omega) (by omega) rfl).mono ?_
                rintro e w7 ⟨v7, zs, rfl, hO7, _, hv7, hb7⟩
                obtain ⟨A7, c7, rfl⟩ := own_form hO7.row
                have HB7 := Lib.hid (HB6.out.trans (hb7.mono HB6.out.size))
                have HX7 := Lib.hid (HX6.out.keep hb7)
                have HO7 := Lib.hid hO7
                have HV7 := Lib.hid hv7
                clear hb7 hO7 hv7 HB6 HX6
                go_wp2_with fail
                refine (Shr.some_any A7 mn c7 a zs w7 HO7.out.rds k3 (fun x hx => (HO7.out.ok x hx).2.2)).mono ?_
                rintro e w8 ⟨v8, vs, rfl, hO8, hv8, _, hb8⟩
                rw [HV7.out, Shr.pick_sel, HFS.out] at hv8
                obtain ⟨A8, c8, rfl⟩ := own_form hO8.row
                have hul : vs.length = i := by
                  have h := congrArg List.length hv8
                  rw [Shr.vals_len, Shr.vals_len] at h
                  rw [h]; exact HX7.out.rds.len
                rw [hul] at hO8 ⊢
                have HB8 := Lib.hid (HB7.out.trans (hb8.mono HB7.out.size))
                have HX8 := Lib.hid (HX7.out.keep hb8)
                have HO8 := Lib.hid hO8
                have HV8 := Lib.hid hv8
                clear hb8 hO8 hv8 hul HB7 HX7 HO7
                go_wp2_with fail
                refine (Shr.same_any A8 Ax i c8 cx vs us w8 HO8.out.rds HX8.out.rds (by unfold maxLen; omega) HV8.out).mono ?_
                rintro e w9 ⟨rfl, hb9⟩
                have HB9 := Lib.hid (HB8.out.trans (hb9.mono HB8.out.size))
                clear hb9
                go_wp2_with fail
                go_meet
                exact HB9.out
          case rest =>
            have HBc := Lib.hid hcut
            clear hcut
            have HB5 := Lib.hid (HB4.out.trans (HBc.out.mono HB4.out.size))
            have HY5 := Lib.hid (HY4.out.keep HBc.out)
            have HX5 := Lib.hid (HX4.out.keep HBc.out)
            have HLT5 := Lib.hid (show ∀ x, x ∈ ys → ∀ b off, x.A = some ⟨b, off, none⟩ → b < wc.heap.size from fun x hx b off e => Nat.lt_of_lt_of_le (HLT4.out x hx b off e) HBc.out.size)
            have HXLT5 := Lib.hid (show ∀ x, x ∈ xs → ∀ b off, x.A = some ⟨b, off, none⟩ → b < wc.heap.size from fun x hx b off e => Nat.lt_of_lt_of_le (HXLT4.out x hx b off e) HBc.out.size)
            clear HB4 HO4 HY4 HX4 HLT4 HXLT4 HBc HCX HXL HV3
            by_cases hz3 : z = 3
            · have q1 : (z == 3) = true := by simp [hz3]
              clear hz3
              go_wp2_with fail
              go_ret
              exact ⟨rfl, HB5.out⟩
            · have q1 : (z == 3) = false := by simp [hz3]
              have HZ3 := Lib.hid hz3
              clear hz3
              go_wp2_with fail
              refine (Shr.some_any A2 mn c2 m xs wc HX5.out k3 HXLT5.out).mono ?_
              rintro e w6 ⟨v6, os, rfl, hO6, hv6, _, hb6⟩
              rw [HV2.out, Shr.pick_sel] at hv6
              obtain ⟨A6, c6, rfl⟩ := own_form hO6.row
              have HB6 := Lib.hid (HB5.out.trans (hb6.mono HB5.out.size))
              have HY6 := Lib.hid (HY5.out.keep hb6)
              have HLT6 := Lib.hid (show ∀ x, x ∈ ys → ∀ b off, x.A = some ⟨b, off, none⟩ → b < w6.heap.size from fun x hx b off e => Nat.lt_of_lt_of_le (HLT5.out x hx b off e) hb6.size)
              have HO6 := Lib.hid hO6
              have HV6 := Lib.hid hv6
              clear hO6 hv6 hb6 HY5 HX5 HLT5 HXLT5 HB5
              go_wp2_with fail
              rw [Shr.not8 m]
              refine (Shr.some_any Al mn cl (~~~m) ys w6 HY6.out k3 HLT6.out).mono ?_
              rintro e w7 ⟨v7, ns, rfl, hO7, hv7, _, hb7⟩
              rw [HV.out, Shr.pick_sel] at hv7
              obtain ⟨A7, c7, rfl⟩ := own_form hO7.row
              have HB7 := Lib.hid (HB6.out.trans (hb7.mono HB6.out.size))
              have HO7 := Lib.hid (HO6.out.keep hb7).rds
              have HN7 := Lib.hid hO7.rds
              have HV7 := Lib.hid hv7
              have HFX := Lib.hid (show ∀ x, x ∈ os ++ ns → ∀ b off, x.A = some ⟨b, off, none⟩ → b < w7.heap.size from fun x hx b off e => by
                rcases List.mem_append.1 hx with h | h
                · exact Nat.lt_of_lt_of_le ((HO6.out.ok x h).2.2 b off e) hb7.size
                · exact (hO7.ok x h).2.2 b off e)
              have HNO := Lib.hid (own_nil HO6.out.row)
              have HNN := Lib.hid (own_nil hO7.row)
              have hol : os.length = (Shr.ixs m mn).length := by have := congrArg List.length HV6.out; rwa [Shr.vals_len, Shr.sel_len] at this
              have hnl : ns.length = (Shr.ixs (~~~m) mn).length := by have := congrArg List.length hv7; rwa [Shr.vals_len, Shr.sel_len] at this
              have HOL := Lib.hid hol
              have HNL := Lib.hid hnl
              clear hO7 hv7 hb7 HO6 HY6 HLT6 HB6 hol hnl
              have ho8 : os.length ≤ 8 := by rw [HOL.out]; exact Nat.le_trans (Shr.ixs_len m mn) k3
              have hn8 : ns.length ≤ 8 := by rw [HNL.out]; exact Nat.le_trans (Shr.ixs_len (~~~m) mn) k3
              have HLO := Lib.hid (show ∃ lo, lo = os.length from ⟨_, rfl⟩)
              obtain ⟨lo, hlo⟩ := HLO.out
              obtain ⟨ly, hly⟩ : ∃ ly, ly = ns.length := ⟨_, rfl⟩
              rw [← hlo] at HOL ho8 HO7 ⊢
              rw [← hly] at HNL hn8 HN7 ⊢
              have HAL := Lib.hid (show (Shr.vals (os ++ ns)).length = lo + ly by rw [Shr.vals_len, List.length_append, hlo, hly])
              clear hlo hly HLO
              by_cases hlo0 : lo = 0
              · subst hlo0
                go_wp2_with fail
                go_ret
                exact ⟨rfl, HB7.out⟩
              · by_cases hly0 : ly = 0
                · subst hly0
                  go_wp2_with fail
                  go_ret
                  exact ⟨rfl, HB7.out⟩
                · have HMJ := Lib.hid (Shr.mix_join sec coins co 3 z t mn m k1 k2 k3 (by rw [HSL.out]; omega) (Ne.symm HZ3.out) (fun h => by rw [HOL.out, h] at hlo0; exact hlo0 rfl) (fun h => by rw [HNL.out, h] at hly0; exact hly0 rfl))
                  have HMF := Lib.hid (show ∀ i, i < mn → (Shr.vals (os ++ ns)).filter (fun s => decide (s.ix = ((i + 1 : Nat) : Int))) = [Shr.mixS sec coins co 3 z t mn m (i + 1)] from fun i hi => by
                    rw [Shr.vals, List.map_append]
                    show (Shr.vals os ++ Shr.vals ns).filter _ = _
                    rw [HV6.out, HV7.out]
                    exact Shr.mix_filter sec coins co 3 z t mn (i + 1) m k3 (by omega) (by omega))
                  have z1 : ((lo : Int) == 0) = false := by simp; omega
                  have z2 : ((ly : Int) == 0) = false := by simp; omega
                  go_wp2_with fail
                  clear z1 z2
                  go_loopw [36, 37] (fun v i wr => ∃ (k : Nat) (zs : List Shr.C), k ≤ mn ∧ i = .int .i64 ((k : Int) + 1) ∧ Shr.Own wr w7.heap.size v zs.length zs ∧ Shr.vals zs = Shr.mix sec coins co 3 z t mn m k ∧ Below w7.heap.size w7 wr) (fun _ i _ => mn + 1 - (intOf i).toNat)
                  case atStart => exact ⟨0, [], by omega, rfl, Shr.Own.nil _ _, rfl, Below.refl _ _⟩
                  case round =>
                    obtain ⟨k, zs, hk, rfl, hO, hv, hB⟩ := hrel
                    obtain ⟨wo, hwo⟩ : ∃ wo, wo = wr := ⟨_, rfl⟩
                    subst hwo
                    have HO := Lib.hid hO
                    have HVz := Lib.hid hv
                    have HB := Lib.hid hB
                    have hzr := hB.size
                    clear hO hv hB
                    by_cases hlt : k < mn
                    · have hle : (k : Int) + 1 ≤ (mn : Int) := by omega
                      have OW := Lib.hid (show (wo.alloc (.cells #[] 41)).ownsRow wo.heap.size 41 5 (.slice (some ⟨wo.heap.size, 0, none⟩) 0 0) 0 [] from World.ownsRow_lit (base := wo.heap.size) (e := 41) (size := 5) wo #[] 0 (Nat.le_refl _) (by decide) (by simp))
                      have BW := Lib.hid ((Below.refl wo.heap.size wo).alloc (Nat.le_refl _) (.cells #[] 41))
                      have SRO := Lib.hid ((HO7.out.keep HB.out).rd.below BW.out (Nat.le_refl _))
                      have HNw := Lib.hid (HN7.out.keep HB.out)
                      go_wp2_with (first
                        | (at_builtin; refine wpList_append_rd rfl (.tmp 202) (.tmp 203) rfl elS rfl OW.out rfl SRO.out (Shr.flat_one os) HNO.out (by simp only [maxLen]; omega) (by omega) BW.out.size ?_; intro v8 w8 hG8; have hb8 : Below wo.heap.size wo w8 := BW.out.grown hG8.grown BW.out.size (fun g e => own_ge OW.out e); have SR8 := (HNw.out.keep hb8).rd)
                        | (at_builtin; refine wpList_append_rd rfl (.tmp 204) (.tmp 205) rfl elS rfl hG8.own rfl SR8 (Shr.flat_one ns) HNN.out (by simp only [maxLen]; omega) (by omega) hb8.size ?_; intro v9 w9 hG9; simp only [Nat.zero_add, List.nil_append] at hG9; obtain ⟨A9, c9, rfl⟩ := own_form hG9.own))
                      have hb9 : Below wo.heap.size wo w9 := hb8.grown hG9.grown hb8.size (fun g e => own_ge hG8.own e)
                      have HR9 := Lib.hid (show Shr.Rds w9 A9 (lo + ly) (os ++ ns) from Shr.Rds.of_own (by rw [List.flatMap_append]; exact hG9.own) (fun x hx => by
                        rcases List.mem_append.1 hx with h | h
                        · exact ((HO7.out.ok x h).keep HB.out).keep hb9
                        · exact ((HN7.out.ok x h).keep HB.out).keep hb9))
                      have HO9 := Lib.hid (HO.out.keep hb9)
                      have HB9 := Lib.hid (HB.out.trans (hb9.mono hzr))
                      have HF9 := Lib.hid (show Far A9 u36.ownBlock from fun b off e e2 => by
                        have h1 := own_fresh hG9.own b off e
                        have h2 := (HO.out.row.lt b e2.symm).2
                        omega)
                      have HL9 := Lib.hid (own_lt hG9.own)
                      clear hG8 hG9 hb8 hb9 SR8 OW BW SRO HNw HO HB
                      go_loopw [36, 208] (fun v i wi => ∃ (j : Nat) (zs : List Shr.C), j ≤ lo + ly ∧ i = .int .i64 j ∧ Shr.Own wi w7.heap.size v zs.length zs ∧ Shr.vals zs = Shr.mix sec coins co 3 z t mn m k ++ ((Shr.vals (os ++ ns)).take j).filter (fun s => decide (s.ix = ((k + 1 : Nat) : Int))) ∧ Shr.Rds wi A9 (lo + ly) (os ++ ns) ∧ Far A9 v.ownBlock ∧ (∀ b off, A9 = some ⟨b, off, none⟩ → b < wi.heap.size) ∧ Below w7.heap.size w7 wi) (fun _ i _ => lo + ly - (intOf i).toNat)
                      case atStart => exact ⟨0, zs, by omega, rfl, HO9.out, by rw [HVz.out]; simp, HR9.out, HF9.out, HL9.out, HB9.out⟩
                      case round =>
                        obtain ⟨j, zs2, hj, rfl, hO, hv, hR, hF, hL, hB⟩ := hrel
                        have HO := Lib.hid hO
                        have HVj := Lib.hid hv
                        have HRj := Lib.hid hR
                        have HFj := Lib.hid hF
                        have HLj := Lib.hid hL
                        have HB := Lib.hid hB
                        have hzj := hB.size
                        clear hO hv hR hF hL hB HO9 HR9 HF9 HL9 HB9
                        by_cases hjl : j < lo + ly
                        · obtain ⟨b, off, rfl, hb, e0, e1, e2, e3, e4⟩ := HRj.out.at j hjl
                          have HFT := Lib.hid (Shr.filter_take (Shr.vals (os ++ ns)) ((k + 1 : Nat) : Int) j (by rw [HAL.out]; exact hjl))
                          have hvj := Shr.vals_at (os ++ ns) j (by rw [← Shr.vals_len, HAL.out]; exact hjl)
                          rw [hvj] at HFT
                          have hmem : (os ++ ns)[j]! ∈ os ++ ns := by rw [getElem!_pos (os ++ ns) j (by rw [← Shr.vals_len, HAL.out]; exact hjl)]; exact List.getElem_mem _
                          have HXOK := Lib.hid (HRj.out.mem j hjl)
                          have HXLT := Lib.hid (HFX.out _ hmem)
                          have hzl : zs2.length ≤ 24 := by
                            have h := congrArg List.length HVj.out
                            rw [Shr.vals_len, List.length_append] at h
                            have h2 := List.length_filter_le (fun s : Shr.S => decide (s.ix = ((k + 1 : Nat) : Int))) ((Shr.vals (os ++ ns)).take j)
                            rw [List.length_take, HAL.out] at h2
                            have h3 : (Shr.mix sec coins co 3 z t mn m k).length = k := by simp [Shr.mix]
                            omega
                          generalize (os ++ ns)[j]! = x at e0 e1 e2 e3 e4 HFT HXOK HXLT
                          clear hvj hmem
                          have BN := Lib.hid ((Below.refl wr.heap.size wr).alloc (Nat.le_refl _) (.cells #[.int .i64 x.s.ep, .int .i64 x.s.ix, .int .i64 x.s.th, .int .i64 x.s.mn, .slice x.A x.s.d.length x.c] 41))
                          have HO1 := Lib.hid (HO.out.keep BN.out)
                          have HB1' := Lib.hid (HB.out.alloc hzj (.cells #[.int .i64 x.s.ep, .int .i64 x.s.ix, .int .i64 x.s.th, .int .i64 x.s.mn, .slice x.A x.s.d.length x.c] 41))
                          have HX1 := Lib.hid (show x.Ok (wr.alloc (.cells #[.int .i64 x.s.ep, .int .i64 x.s.ix, .int .i64 x.s.th, .int .i64 x.s.mn, .slice x.A x.s.d.length x.c] 41)) ∧ Far x.A u36.ownBlock ∧ (∀ b off, x.A = some ⟨b, off, none⟩ → b < (wr.alloc (.cells #[.int .i64 x.s.ep, .int .i64 x.s.ix, .int .i64 x.s.th, .int .i64 x.s.mn, .slice x.A x.s.d.length x.c] 41)).heap.size) from
                            ⟨HXOK.out.keep BN.out, fun b off e e2 => by have h1 := HXLT.out b off e; have h2 := own_ge HO.out.row e2.symm; omega, fun b off e => by have h1 := HXLT.out b off e; have h2 := BN.out.size; omega⟩)
                          have HR1' := Lib.hid (HRj.out.keep BN.out)
                          have HFAR := Lib.hid (show ∀ y, y ∈ os ++ ns → Far y.A u36.ownBlock from fun y hy b off e e2 => by have h1 := HFX.out y hy b off e; have h2 := own_ge HO.out.row e2.symm; omega)
                          have HXC := Lib.hid (show x.cells = [.int .i64 x.s.ep, .int .i64 x.s.ix, .int .i64 x.s.th, .int .i64 x.s.mn, .slice x.A x.s.d.length x.c] from rfl)
                          by_cases hx : x.s.ix = ((k + 1 : Nat) : Int)
                          · have q1 : (x.s.ix == (k : Int) + 1) = true := by rw [hx]; simp
                            rw [if_pos hx] at HFT
                            have HV4 := Lib.hid (show Shr.vals (zs2 ++ [x]) = Shr.mix sec coins co 3 z t mn m k ++ ((Shr.vals (os ++ ns)).take (j + 1)).filter (fun s => decide (s.ix = ((k + 1 : Nat) : Int))) by
                              rw [HFT.out, ← List.append_assoc, ← HVj.out, Shr.vals, List.map_append]; rfl)
                            clear hx
                            go_wp2_with (at_builtin; refine wpList_append_rd rfl (.tmp 216) (.tmp 218) rfl elS rfl (HO1.out.row.alloc _) rfl (rd_second5 wr 41 [.int .i64 x.s.ep, .int .i64 x.s.ix, .int .i64 x.s.th, .int .i64 x.s.mn, .slice x.A x.s.d.length x.c] 5 (.cells #[.int .i64 x.s.ep, .int .i64 x.s.ix, .int .i64 x.s.th, .int .i64 x.s.mn, .slice x.A x.s.d.length x.c] 41) rfl) (by simp [Value.oneCell']) (fun h => by (cases h)) (by simp only [maxLen]; omega) (by omega) (by simp; omega) ?_; intro v4 w4 hG; have HG := Lib.hid hG; clear hG)
                            have HO4 := Lib.hid (HO1.out.grow HX1.out (by rw [HXC.out]; exact HG.out))
                            have BN2 := Lib.hid ((Below.refl (wr.alloc (.cells #[.int .i64 x.s.ep, .int .i64 x.s.ix, .int .i64 x.s.th, .int .i64 x.s.mn, .slice x.A x.s.d.length x.c] 41)).heap.size (wr.alloc (.cells #[.int .i64 x.s.ep, .int .i64 x.s.ix, .int .i64 x.s.th, .int .i64 x.s.mn, .slice x.A x.s.d.length x.c] 41))).alloc (Nat.le_refl _) (.cells #[.int .i64 x.s.ep, .int .i64 x.s.ix, .int .i64 x.s.th, .int .i64 x.s.mn, .slice x.A x.s.d.length x.c] 41))
                            have HB4 := Lib.hid ((HB1'.out.alloc HB1'.out.size (.cells #[.int .i64 x.s.ep, .int .i64 x.s.ix, .int .i64 x.s.th, .int .i64 x.s.mn, .slice x.A x.s.d.length x.c] 41)).grown HG.out.grown (by simp; omega) (fun g e => own_ge HO1.out.row e))
                            have HR4 := Lib.hid ((HR1'.out.keep BN2.out).kept HG.out.grown HFj.out HFAR.out)
                            have HL2 := Lib.hid (show ∀ b' off', (some (⟨b, off, none⟩ : Addr)) = some ⟨b', off', none⟩ → b' < ((wr.alloc (.cells #[.int .i64 x.s.ep, .int .i64 x.s.ix, .int .i64 x.s.th, .int .i64 x.s.mn, .slice x.A x.s.d.length x.c] 41)).alloc (.cells #[.int .i64 x.s.ep, .int .i64 x.s.ix, .int .i64 x.s.th, .int .i64 x.s.mn, .slice x.A x.s.d.length x.c] 41)).heap.size from fun b' off' e => by have := HLj.out b' off' e; simp; omega)
                            have HF4 := Lib.hid (HFj.out.grew HL2.out HG.out)
                            have HL4 := Lib.hid (show ∀ b' off', (some (⟨b, off, none⟩ : Addr)) = some ⟨b', off', none⟩ → b' < w4.heap.size from fun b' off' e => Nat.lt_of_lt_of_le (HL2.out b' off' e) HG.out.grown.size)
                            clear HG HL2 e0 e1 e2 e3 e4
                            go_wp2_with fail
                            go_roundw
                            case rel => exact ⟨j + 1, zs2 ++ [x], by omega, by go_num, by rw [List.length_append]; exact HO4.out, HV4.out, HR4.out, HF4.out, HL4.out, HB4.out⟩
                            case measure => simp [intOf]; omega
                          · have q1 : (x.s.ix == (k : Int) + 1) = false := by simp; omega
                            rw [if_neg hx, List.append_nil] at HFT
                            have HV4 := Lib.hid (show Shr.vals zs2 = Shr.mix sec coins co 3 z t mn m k ++ ((Shr.vals (os ++ ns)).take (j + 1)).filter (fun s => decide (s.ix = ((k + 1 : Nat) : Int))) by
                              rw [HFT.out, HVj.out])
                            have HL1 := Lib.hid (show ∀ b' off', (some (⟨b, off, none⟩ : Addr)) = some ⟨b', off', none⟩ → b' < (wr.alloc (.cells #[.int .i64 x.s.ep, .int .i64 x.s.ix, .int .i64 x.s.th, .int .i64 x.s.mn, .slice x.A x.s.d.length x.c] 41)).heap.size from fun b' off' e => Nat.lt_of_lt_of_le (HLj.out b' off' e) BN.out.size)
                            clear hx
                            go_wp2_with fail
                            go_roundw
                            case rel => exact ⟨j + 1, zs2, by omega, by go_num, HO1.out, HV4.out, HR1'.out, HFj.out, HL1.out, HB1'.out⟩
                            case measure => simp [intOf]; omega
                        · obtain rfl : j = lo + ly := by omega
                          have HV4 := Lib.hid (show Shr.vals zs2 = Shr.mix sec coins co 3 z t mn m (k + 1) by
                            have h := HVj.out
                            rw [List.take_of_length_le (by rw [HAL.out]; exact Nat.le_refl _), HMF.out k hlt] at h
                            rw [h, Shr.mix_succ])
                          go_wp2_with fail
                          go_roundw
                          case rel => exact ⟨k + 1, zs2, by omega, by go_num, HO.out, HV4.out, HB.out⟩
                          case measure => simp [intOf]; omega
                    · obtain rfl : k = mn := by omega
                      have hle : ¬ (k : Int) + 1 ≤ (k : Int) := by omega
                      obtain ⟨Ab, cb, rfl⟩ := own_form HO.out.row
                      have hzl : zs.length ≤ 8 := by
                        have h := congrArg List.length HVz.out
                        rw [Shr.vals_len] at h
                        rw [h]
                        simp [Shr.mix]
                        omega
                      have HRb := Lib.hid HO.out.rds
                      go_wp2_with fail
                      refine (Shr.join_no Ab zs.length cb zs wo HRb.out (by unfold maxLen; omega) (by rw [HVz.out, HMJ.out]; decide)).mono ?_
                      rintro e w9 ⟨rfl, hb9⟩
                      rw [HVz.out, HMJ.out]
                      have HB9 := Lib.hid (HB7.out.trans ((HB.out.trans (hb9.mono hzr)).mono HB7.out.size))
                      clear hb9
                      go_wp2_with fail
                      go_ret
                      exact ⟨rfl, HB9.out⟩
end Go.Proofs.Ytpijkjpefdlefaa
