/- The law SharesHide returns true. -/
import Derived.Test.YtpijkjpefdlefaaShPl6
import Derived.Test.YtpijkjpefdlefaaShSame
import Derived.Test.YtpijkjpefdlefaaShL6
namespace Go.Proofs.Ytpijkjpefdlefaa
open Go.RowKit Go.Shelf
set_option linter.unusedVariables false

/-- too few chosen shares -/
structure Shr.TooFew (sec coins other : List UInt8) (ep : Int) (t mn : Nat) (is : List Nat) : Prop where
  j : Shr.joinE (Shr.sel sec coins ep t mn is) = 60
  e : Shr.explE (Shr.sel sec coins ep t mn is) other.length = 0
  tt : Shr.tt (Shr.sel sec coins ep t mn is) = t
  len : (Shr.explV (Shr.sel sec coins ep t mn is) other).length = other.length * (t - 1)
  same : Shr.sel other (Shr.explV (Shr.sel sec coins ep t mn is) other) ep t mn is = Shr.sel sec coins ep t mn is
theorem Shr.tooFew (sec coins other : List UInt8) (ep : Int) (t mn : Nat) (is : List Nat) (hne : 0 < is.length) (hr : is.Pairwise (· < ·)) (hb : ∀ i, i ∈ is → 1 ≤ i ∧ i ≤ mn) (h1 : 1 ≤ t) (h2 : t ≤ mn) (h3 : mn ≤ 8) (h4 : sec.length ≤ 64) (h5 : 0 ≤ ep) (h6 : ep ≤ 1048576) (hl : is.length < t) (ho : other.length = sec.length) : Shr.TooFew sec coins other ep t mn is := by
  have c := Shr.sel_chk sec coins ep t mn is hne hr hb h1 h2 h3 h4 h5 h6
  have t0 : (Shr.sel sec coins ep t mn is)[0]! = Shr.mkS sec coins ep t mn is[0] := Shr.sel_at _ _ _ _ _ is 0 hne
  have tt := Shr.sel_tt sec coins ep t mn is hne
  refine ⟨?_, ?_, tt, ?_, ?_⟩
  · rw [Shr.sel_join _ _ _ _ _ is hne c, if_pos hl]
  · rw [Shr.explE, if_neg (by rw [c]; decide), t0, Shr.sel_len, if_neg (by simp only [Shr.mkS]; omega), if_neg (by rw [ho]; simp only [Shr.mkS, Shr.dat_len]; simp)]
  · rw [Shr.explV, tt, Shr.exV_len _ _ _ (by rw [Shr.sel_len]; exact hl)]
  · rw [Shr.explV, tt]
    exact Shr.sel_expl sec coins other ep t mn is hne (Shr.good _ c) hl (by omega) ho
/-- enough shares explain nothing -/
theorem Shr.enough_expl (sec coins : List UInt8) (ep : Int) (t mn : Nat) (is : List Nat) (ns : Nat) (hc : Shr.chkE (Shr.sel sec coins ep t mn is) = 0) (hl : t ≤ is.length) (h1 : 1 ≤ t) : Shr.explE (Shr.sel sec coins ep t mn is) ns = 60 := by
  rw [Shr.explE, if_neg (by rw [hc]; decide), Shr.sel_at _ _ _ _ _ is 0 (by omega), Shr.sel_len, if_pos (by simp only [Shr.mkS]; omega)]

set_option maxRecDepth 100000 in
set_option maxHeartbeats 4000000 in
theorem Shr.law4a (A A1 A3 : Option Addr) (n c n1 c1 n3 c3 : Nat) (ep th mn : Int) (a : UInt8) (w : World) (hn : n ≤ maxLen) (hn1 : n1 ≤ maxLen) (hn3 : n3 ≤ maxLen) (hbig : 20 < n ∨ 200 < n3 ∨ n1 ≠ n) :
    Calls Try.prog 6 #[.slice A n c, .slice A1 n1 c1, .int .i64 ep, .int .i64 th, .int .i64 mn, .slice A3 n3 c3, B8 a] w fun e w' => e = .returned (.bool true) ∧ Below w.heap.size w w' := by
  by_cases h1 : 20 < n
  · go_enter Try.func6, Try.ntmps6
    go_wp2_with fail
    refine (Shr.sane_any _).mono ?_
    rintro e w1 ⟨rfl, hb1⟩
    have HB1 := Lib.hid hb1
    clear hb1
    go_wp2_with fail
    go_ret
    exact ⟨rfl, HB1.out⟩
  · by_cases h2 : 200 < n3
    · go_enter Try.func6, Try.ntmps6
      go_wp2_with fail
      refine (Shr.sane_any _).mono ?_
      rintro e w1 ⟨rfl, hb1⟩
      have HB1 := Lib.hid hb1
      clear hb1
      go_wp2_with fail
      go_ret
      exact ⟨rfl, HB1.out⟩
    · have h3 : n1 ≠ n := by omega
      have h3' : ((n1 : Int) != (n : Int)) = true := by simp; omega
      go_enter Try.func6, Try.ntmps6
      go_wp2_with fail
      refine (Shr.sane_any _).mono ?_
      rintro e w1 ⟨rfl, hb1⟩
      have HB1 := Lib.hid hb1
      clear hb1
      go_wp2_with fail
      go_ret
      exact ⟨rfl, HB1.out⟩

set_option maxRecDepth 100000 in
set_option maxHeartbeats 4000000 in
theorem Shr.law4b (A A1 A3 : Option Addr) (n c c1 n3 c3 : Nat) (ep th mn : Int) (a : UInt8) (w : World) (h1 : n ≤ 20) (h2 : n3 ≤ 200) (hth : -9223372036854775808 ≤ th ∧ th ≤ 9223372036854775807) (hE : Shr.spE n ep th mn n3 ≠ 0) :
    Calls Try.prog 6 #[.slice A n c, .slice A1 n c1, .int .i64 ep, .int .i64 th, .int .i64 mn, .slice A3 n3 c3, B8 a] w fun e w' => e = .returned (.bool true) ∧ Below w.heap.size w w' := by
  have HE := Lib.hid hE
  obtain ⟨se, hse⟩ : ∃ se, se = Shr.spE n ep th mn n3 := ⟨_, rfl⟩
  have hq : (se != 0) = true := by rw [hse]; simpa using hE
  have HSE := Lib.hid hse
  clear hE hse
  have HTH := Lib.hid hth
  clear hth
  go_enter Try.func6, Try.ntmps6
  go_wp2_with fail
  refine (Shr.sane_any _).mono ?_
  rintro e w1 ⟨rfl, hb1⟩
  have HB1 := Lib.hid hb1
  clear hb1
  go_wp2_with fail
  refine (Shr.split_no A A3 n c n3 c3 ep th mn w1 (by unfold maxLen; omega) (by unfold maxLen; omega) HTH.out HE.out).mono ?_
  rintro e w2 ⟨rfl, hb2⟩
  rw [← HSE.out]
  have HB2 := Lib.hid (HB1.out.trans (hb2.mono HB1.out.size))
  clear hb2
  go_wp2_with fail
  go_ret
  exact ⟨rfl, HB2.out⟩

set_option maxRecDepth 100000 in
set_option maxHeartbeats 4000000 in
theorem Shr.law4c (A A1 A3 : Option Addr) (n c c1 n3 c3 t mn : Nat) (ep : Int) (sec oth coins : List UInt8) (a : UInt8) (w : World) (hr : RdB w A n sec) (hr1 : RdB w A1 n oth) (hr3 : RdB w A3 n3 coins) (hc3 : n3 ≤ c3) (hcm3 : c3 ≤ maxLen) (hnil : A3 = none → c3 = 0) (h1 : n ≤ 20) (h2 : n3 ≤ 200) (k1 : 1 ≤ t) (k2 : t ≤ mn) (k3 : mn ≤ 8) (k4 : n3 = n * (t - 1)) (k5 : 0 ≤ ep) (k6 : ep ≤ 1048576) :
    Calls Try.prog 6 #[.slice A n c, .slice A1 n c1, .int .i64 ep, .int .i64 (t : Int), .int .i64 (mn : Int), .slice A3 n3 c3, B8 a] w fun e w' => e = .returned (.bool true) ∧ Below w.heap.size w w' := by
  have HR := Lib.hid hr
  have HR1 := Lib.hid hr1
  have HR3 := Lib.hid hr3
  have HC3 := Lib.hid hc3
  have HCM := Lib.hid hcm3
  have HNIL := Lib.hid hnil
  have HK4 := Lib.hid k4
  have HSL := Lib.hid hr.len
  have HOL := Lib.hid hr1.len
  have HCL := Lib.hid (show coins.length = sec.length * (t - 1) by rw [hr3.len, hr.len]; exact k4)
  have HP5 := Lib.hid k5
  have HP6 := Lib.hid k6
  clear hr hr1 hr3 hc3 hcm3 hnil k4 k5 k6
  go_enter Try.func6, Try.ntmps6
  go_wp2_with fail
  refine (Shr.sane_any _).mono ?_
  rintro e w1 ⟨rfl, hb1⟩
  have HB1 := Lib.hid hb1
  clear hb1
  go_wp2_with fail
  refine (Shr.split_yes A A3 n c n3 c3 ep t mn sec coins w1 (HR.out.keep HB1.out) (HR3.out.keep HB1.out) HC3.out HCM.out HNIL.out (by omega) k1 k2 k3 HP5.out HP6.out HK4.out).mono ?_
  rintro e w2 ⟨v2, xs, rfl, hO2, _, hv2, hb2⟩
  obtain ⟨A2, c2, rfl⟩ := own_form hO2.row
  have HB2 := Lib.hid (HB1.out.trans (hb2.mono HB1.out.size))
  have HO2 := Lib.hid hO2
  have HV2 := Lib.hid hv2
  clear hb2 hO2 hv2 HB1
  go_wp2_with fail
  refine (Shr.some_any A2 mn c2 a xs w2 HO2.out.rds k3 (fun x hx => (HO2.out.ok x hx).2.2)).mono ?_
  rintro e w3 ⟨v3, ys, rfl, hO3, hv3, hsub3, hb3⟩
  rw [HV2.out, Shr.pick_sel] at hv3
  have HB3 := Lib.hid (HB2.out.trans (hb3.mono HB2.out.size))
  have HO3 := Lib.hid hO3
  have HV3 := Lib.hid hv3
  clear hO3 hv3 hsub3 hb3 HO2 HB2 HV2
  obtain ⟨Ax, cx, rfl⟩ := own_form HO3.out.row
  have hxl : ys.length = (Shr.ixs a mn).length := by have := congrArg List.length HV3.out; rwa [Shr.vals_len, Shr.sel_len] at this
  have HXL := Lib.hid hxl
  generalize ys.length = m at HO3 HXL ⊢
  clear hxl
  have hm8 : m ≤ 8 := by rw [HXL.out]; exact Nat.le_trans (Shr.ixs_len a mn) k3
  have HCX := Lib.hid (own_cap HO3.out.row)
  by_cases hm0 : m = 0
  · subst hm0
    go_wp2_with fail
    go_ret
    exact ⟨rfl, HB3.out⟩
  · by_cases hmt : t ≤ m
    · have HX := Lib.hid (Shr.enough sec coins ep t mn (Shr.ixs a mn) (Shr.ixs_rise a mn) (Shr.ixs_mem a mn) k1 k2 k3 (by rw [HSL.out]; omega) HP5.out HP6.out HCL.out (by rw [← HXL.out]; exact hmt))
      have HXE := Lib.hid (Shr.enough_expl sec coins ep t mn (Shr.ixs a mn) n HX.out.chk (by rw [← HXL.out]; exact hmt) k1)
      rw [← HV3.out] at HX HXE
      go_wp2_with fail
      refine (Shr.join_yes Ax m cx ys w3 HO3.out.rds HCX.out.1 HCX.out.2 HX.out.e).mono ?_
      rintro e w5 ⟨As, cs, rfl, _, hrs, _, _, hb5⟩
      rw [HX.out.v] at hrs
      rw [HX.out.d, HSL.out] at hrs ⊢
      have HB5 := Lib.hid (HB3.out.trans (hb5.mono HB3.out.size))
      have HX5 := Lib.hid (HO3.out.keep hb5)
      have HRS5 := Lib.hid hrs
      clear hb5 hrs HB3 HO3
      go_wp2_with fail
      refine (Shr.expl_no Ax m cx A1 n c1 ys w5 HX5.out.rds (by unfold maxLen; omega) (by unfold maxLen; omega) (by rw [HXE.out]; decide)).mono ?_
      rintro e w6 ⟨rfl, hb6⟩
      rw [HXE.out]
      have HB6 := Lib.hid (HB5.out.trans (hb6.mono HB5.out.size))
      have ys6 := (HRS5.out.keep hb6).str (P := Try.prog) Try.underlying23 Try.underlying5 Try.underlying9 cs
      have yr6 := (HR.out.keep HB6.out).str (P := Try.prog) Try.underlying23 Try.underlying5 Try.underlying9 c
      clear hb6
      go_wp2_with fail
      go_ret
      exact ⟨rfl, HB6.out⟩
    · have HF := Lib.hid (Shr.tooFew sec coins oth ep t mn (Shr.ixs a mn) (by rw [← HXL.out]; omega) (Shr.ixs_rise a mn) (Shr.ixs_mem a mn) k1 k2 k3 (by rw [HSL.out]; omega) HP5.out HP6.out (by rw [← HXL.out]; omega) (by rw [HOL.out, HSL.out]))
      have HFJ := Lib.hid HF.out.j
      have HFE := Lib.hid HF.out.e
      have HFT := Lib.hid HF.out.tt
      have HFS := Lib.hid HF.out.same
      clear HF
      rw [← HV3.out] at HFJ HFE HFT HFS
      rw [HOL.out] at HFE
      go_wp2_with fail
      refine (Shr.join_no Ax m cx ys w3 HO3.out.rds (by unfold maxLen; omega) (by rw [HFJ.out]; decide)).mono ?_
      rintro e w5 ⟨rfl, hb5⟩
      rw [HFJ.out]
      have HB5 := Lib.hid (HB3.out.trans (hb5.mono HB3.out.size))
      have HX5 := Lib.hid (HO3.out.keep hb5)
      clear hb5 HB3 HO3
      go_wp2_with fail
      refine (Shr.expl_cap Ax m cx A1 n c1 ys oth w5 HX5.out.rds (by unfold maxLen; omega) (HR1.out.keep HB5.out) (by unfold maxLen; omega) HFE.out).mono ?_
      rintro e w6 ⟨Ac, cc, rfl, hnc, hrc, _, _, hb6, hcc1, hcc2⟩
      rw [HFT.out] at hrc hcc1 ⊢
      have HB6 := Lib.hid (HB5.out.trans (hb6.mono HB5.out.size))
      have HX6 := Lib.hid (HX5.out.keep hb6)
      have HRC := Lib.hid hrc
      have HNC := Lib.hid hnc
      have HC1 := Lib.hid hcc1
      have HC2 := Lib.hid hcc2
      clear hb6 hrc hnc hcc1 hcc2 HB5 HX5
      go_wp2_with fail
      refine (Shr.split_yes A1 Ac n c1 (n * (t - 1)) cc ep t mn oth (Shr.explV (Shr.vals ys) oth) w6 (HR1.out.keep HB6.out) HRC.out HC1.out HC2.out HNC.out (by omega) k1 k2 k3 HP5.out HP6.out rfl).mono ?_
      rintro e w7 ⟨v7, zs, rfl, hO7, _, hv7, hb7⟩
      obtain ⟨A7, c7, rfl⟩ := own_form hO7.row
      have HB7 := Lib.hid (HB6.out.trans (hb7.mono HB6.out.size))
      have HX7 := Lib.hid (HX6.out.keep hb7)
      have HO7 := Lib.hid hO7
      have HV7 := Lib.hid hv7
      clear hb7 hO7 hv7 HB6 HX6
      go_wp2_with fail
      refine (Shr.some_any A7 mn c7 a zs w7 HO7.out.rds k3 (fun x hx => (HO7.out.ok x hx).2.2)).mono ?_
      rintro e w8 ⟨v8, us, rfl, hO8, hv8, _, hb8⟩
      rw [HV7.out, Shr.pick_sel, HFS.out] at hv8
      obtain ⟨A8, c8, rfl⟩ := own_form hO8.row
      have hul : us.length = m := by
        have h := congrArg List.length hv8
        rw [Shr.vals_len, Shr.vals_len] at h
        rw [h]; exact HX7.out.rds.len
      rw [hul] at hO8 ⊢
      have HB8 := Lib.hid (HB7.out.trans (hb8.mono HB7.out.size))
      have HX8 := Lib.hid (HX7.out.keep hb8)
      have HO8 := Lib.hid hO8
      have HV8 := Lib.hid hv8
      clear hb8 hO8 hv8 hul HB7 HX7 HO7
      go_wp2_with fail
      refine (Shr.same_any A8 Ax m c8 cx us ys w8 HO8.out.rds HX8.out.rds (by unfold maxLen; omega) HV8.out).mono ?_
      rintro e w9 ⟨rfl, hb9⟩
      have HB9 := Lib.hid (HB8.out.trans (hb9.mono HB8.out.size))
      clear hb9
      go_wp2_with fail
      go_ret
      exact ⟨rfl, HB9.out⟩

theorem Shr.law4 (A A1 A3 : Option Addr) (n c n1 c1 n3 c3 : Nat) (ep th mn : Int) (sec oth coins : List UInt8) (a : UInt8) (w : World) (hr : RdB w A n sec) (hr1 : RdB w A1 n1 oth) (hr3 : RdB w A3 n3 coins) (hn : n ≤ maxLen) (hn1 : n1 ≤ maxLen) (hc3 : n3 ≤ c3) (hcm3 : c3 ≤ maxLen) (hnil : A3 = none → c3 = 0) (hth : -9223372036854775808 ≤ th ∧ th ≤ 9223372036854775807) :
    Calls Try.prog 6 #[.slice A n c, .slice A1 n1 c1, .int .i64 ep, .int .i64 th, .int .i64 mn, .slice A3 n3 c3, B8 a] w fun e w' => e = .returned (.bool true) ∧ Below w.heap.size w w' := by
  by_cases hbig : 20 < n ∨ 200 < n3 ∨ n1 ≠ n
  · exact Shr.law4a A A1 A3 n c n1 c1 n3 c3 ep th mn a w hn hn1 (Nat.le_trans hc3 hcm3) hbig
  · obtain rfl : n1 = n := by omega
    by_cases hE : Shr.spE n1 ep th mn n3 = 0
    · obtain ⟨_, e2, e3, e4, e5, e6, e7⟩ := Shr.spE_pos _ _ _ _ _ hE
      obtain ⟨t, rfl⟩ : ∃ t : Nat, th = (t : Int) := ⟨th.toNat, by omega⟩
      obtain ⟨mn', rfl⟩ : ∃ mn' : Nat, mn = (mn' : Int) := ⟨mn.toNat, by omega⟩
      have e7' : n3 = n1 * (t - 1) := by
        rw [show ((t : Int) - 1) = ((t - 1 : Nat) : Int) by omega, ← Int.natCast_mul] at e7
        omega
      exact Shr.law4c A A1 A3 n1 c c1 n3 c3 t mn' ep sec oth coins a w hr hr1 hr3 hc3 hcm3 hnil (by omega) (by omega) (by omega) (by omega) (by omega) e7' e5 e6
    · exact Shr.law4b A A1 A3 n1 c c1 n3 c3 ep th mn a w (by omega) (by omega) hth hE
end Go.Proofs.Ytpijkjpefdlefaa
