import Derived.Test.YtideglpjgplpnaaDoorMSlR5
import Derived.Test.YtideglpjgplpnaaDoorMSlF
/- SealsHide: the walk. -/
namespace Go.Proofs.YtideglpjgplpnaaDoor
open Go.RowKit Go.Shelf
set_option linter.unusedVariables false
set_option linter.unusedSimpArgs false

theorem Sl.z36_at (w : World) : ((w.alloc (.cells Sl.z36.toArray 27)).setRow w.heap.size Sl.z36.toArray).rangeAt w.heap.size 0 Sl.z36 := by
  have h : Has ((w.alloc (.cells Sl.z36.toArray 27)).setRow w.heap.size Sl.z36.toArray) w.heap.size 27 Sl.z36 := setRow_heap _ w.heap.size _ _ 27 (0, 0) (World.alloc_heap_new w _)
  intro j v hj
  rw [Nat.zero_add, h.cell j]
  exact hj
set_option maxRecDepth 100000 in
set_option maxHeartbeats 32000000 in
theorem Sl.hide_law (Ab : Option Addr) (nb cb : Nat) (body : List UInt8) (Ak : Option Addr) (nk ck : Nat) (key : List UInt8) (th mn : Int) (Ac : Option Addr) (nc cc : Nat) (coins : List UInt8) (Ao : Option Addr) (no co : Nat) (other : List UInt8) (mask : UInt8) (w : World) (ha : Sl.ArgS w Ab nb cb body Ak nk ck key th mn Ac nc cc coins) (ho : RdB w Ao no other) (hom : no ≤ maxLen) (hon : Ao = none → co = 0) :
    Calls Tryd.prog 8 #[.slice Ab nb cb, .slice Ak nk ck, .slice Ao no co, .int .i64 th, .int .i64 mn, .slice Ac nc cc, B8 mask] w fun e w' => e = .returned (.bool true) ∧ Below w.heap.size w w' := by
  have HA := Lib.hid ha
  have HO := Lib.hid ho
  have hbm := ha.bm
  have hkm := ha.km
  have hcm0 := Nat.le_trans ha.cl ha.cx
  have HMA := Lib.hid (And.intro hbm (And.intro hkm hcm0))
  unfold maxLen at hbm hkm hcm0 hom
  clear ha ho
  by_cases hbig : 20 < nb ∨ 20 < nk ∨ 200 < nc ∨ no ≠ nb
  · have big : ∀ (P : Prop), (20 < nb → P) → (¬ 20 < nb → 20 < nk → P) → (¬ 20 < nb → ¬ 20 < nk → 200 < nc → P) → (¬ 20 < nb → ¬ 20 < nk → ¬ 200 < nc → ((no : Int) != (nb : Int)) = true → P) → P := by
      intro P f1 f2 f3 f4
      by_cases g1 : 20 < nb
      · exact f1 g1
      · by_cases g2 : 20 < nk
        · exact f2 g1 g2
        · by_cases g3 : 200 < nc
          · exact f3 g1 g2 g3
          · exact f4 g1 g2 g3 (by simp; omega)
    clear hbig
    refine big _ ?_ ?_ ?_ ?_ <;>
    · intros
      go_enter Tryd.func8, Tryd.ntmps8
      go_wp2_with fail
      ((with_reducible refine (Sl.sane_any w HA.out.g).mono ?_); rintro e w1 ⟨rfl, hb1⟩)
      have HB := Lib.hid hb1
      clear hb1
      go_wp2_with fail
      go_ret
      exact ⟨rfl, HB.out⟩
  have hs1 : nb ≤ 20 := by omega
  have hs2 : nk ≤ 20 := by omega
  have hs3 : nc ≤ 200 := by omega
  obtain rfl : no = nb := by omega
  have qn : ((no : Int) != (no : Int)) = false := by simp
  clear hbig
  go_enter Tryd.func8, Tryd.ntmps8
  go_wp2_with fail
  ((with_reducible refine (Sl.sane_any w HA.out.g).mono ?_); rintro e w1 ⟨rfl, hb1⟩)
  have HB := Lib.hid hb1
  clear hb1
  have HI0 := Lib.hid (show (Tryd.prog.info? 27).map (·.size) = some Sl.z36.toArray.size from Sl.infoW)
  by_cases hE : Sl.selE no nk th mn nc = 0
  rotate_left
  · have HSN := Lib.hid (Sl.seal_no Ab Ak Ac no cb nk ck nc cc th mn w1 HMA.out.1 HMA.out.2.1 HMA.out.2.2 HA.out.th hE)
    obtain ⟨z, hz⟩ : ∃ z, Sl.selE no nk th mn nc = z := ⟨_, rfl⟩
    rw [hz] at HSN hE
    have q : (z != 0) = true := by simpa using hE
    have HI36 := Lib.hid (show (Tryd.prog.info? 27).map (·.size) = some Sl.z36.length from Sl.infoW)
    clear hz hE
    go_wp2_with fail
    ((with_reducible refine HSN.out.mono ?_); rintro e w3 ⟨rfl, hb3⟩)
    replace HB := Lib.hid (HB.out.trans (hb3.mono HB.out.size))
    clear hb3
    go_wp2_with (first
      | (refine wpList_store_row (o := ⟨none, .store 27 (.tmp 15) (.tmp 62), _, _, _, _⟩) rfl 27 (.tmp 15) (.tmp 62) rfl w3.heap.size Sl.z36.toArray rfl rfl 27 Sl.z36.toArray (World.alloc_heap_new w3 _) HI0.out rfl Sl.z36_one ?_
         obtain ⟨w4, hw4⟩ : ∃ w4, w4 = (w3.alloc (.cells Sl.z36.toArray 27)).setRow w3.heap.size Sl.z36.toArray := ⟨_, rfl⟩
         change wpList _ _ _ _ _ ((w3.alloc (.cells Sl.z36.toArray 27)).setRow w3.heap.size Sl.z36.toArray)
         rw [← hw4]
         have hb4 : Below w3.heap.size w3 w4 := by rw [hw4]; exact below_setRow ((Below.refl _ w3).alloc (Nat.le_refl _) _) (Nat.le_refl _) _
         have hz4 : w4.rangeAt w3.heap.size 0 Sl.z36 := by rw [hw4]; exact Sl.z36_at w3
         have HZ4 := Lib.hid hz4
         clear hw4)
      | (refine wpList_load_midG (op := ⟨some 71, _, _, _, _, _⟩) (by rfl) 27 (.tmp 15) rfl w3.heap.size 0 rfl Sl.z36 _ HZ4.out Tryd.underlying27 rfl HI36.out ?_))
    ((with_reducible refine (Sl.y14 w4).mono ?_); rintro e w5 ⟨rfl, hb5⟩)
    go_wp2_with fail
    go_ret
    exact ⟨rfl, (HB.out.trans (hb4.mono HB.out.size)).trans (hb5.mono (HB.out.trans (hb4.mono HB.out.size)).size)⟩
  obtain ⟨t, m, rfl, rfl, hkb, hmk⟩ := Sl.seal_cases HA.out hE
  subst nk
  clear hE
  have HMK := Lib.hid hmk
  have hm8 := hmk.m8
  have ht1 := hmk.t1
  have htm := hmk.tm
  have HSY := Lib.hid (Sl.seal_mk (HA.out.keep HB.out) hmk)
  clear hmk
  obtain ⟨s, hs⟩ : ∃ s, Sl.selW body key t m coins = s := ⟨_, rfl⟩
  obtain ⟨l, hl⟩ : ∃ l, Sl.selS key t m coins = l := ⟨_, rfl⟩
  have HSE := Lib.hid hs
  have HLE := Lib.hid hl
  rw [hs, hl] at HSY
  clear hs hl
  go_wp2_with fail
  ((with_reducible refine HSY.out.mono ?_); rintro e w3 ⟨Ad, cd, Am, cA, b0, off0, c, xs, rfl, hok, hr, hv, hnc, hcm, hb3⟩)
  replace HB := Lib.hid (HB.out.trans (hb3.mono HB.out.size))
  have HH := Lib.hid (fun W' he => Sl.Hold.make (W := w3) hok hr hv hnc hcm (W' := W') he)
  have HI := Lib.hid (show (Tryd.prog.info? 27).map (·.size) = some (Sl.row s Ad cd Am cA).toArray.size from by rw [List.size_toArray, Sl.row_len hok.cl]; exact Sl.infoW)
  have HZ := Lib.hid (show Sl.z36.toArray.size = (Sl.row s Ad cd Am cA).toArray.size from by rw [List.size_toArray, List.size_toArray, Sl.row_len hok.cl]; rfl)
  have H1 := Lib.hid (show (Sl.row s Ad cd Am cA).toArray.all (·.oneCell') = true from all_oneCell_toArray (Sl.row_one _ _ _ _ _))
  clear hok hr hv hnc hcm hb3 HSY
  go_wp2_with (first
      | (refine wpList_store_row (o := ⟨none, .store 27 (.tmp 15) (.tmp 62), _, _, _, _⟩) rfl 27 (.tmp 15) (.tmp 62) rfl w3.heap.size (Sl.row s Ad cd Am cA).toArray rfl rfl 27 Sl.z36.toArray (World.alloc_heap_new w3 _) HI.out HZ.out H1.out ?_
         obtain ⟨w4, hw4⟩ : ∃ w4, w4 = (w3.alloc (.cells Sl.z36.toArray 27)).setRow w3.heap.size (Sl.row s Ad cd Am cA).toArray := ⟨_, rfl⟩
         change wpList _ _ _ _ _ ((w3.alloc (.cells Sl.z36.toArray 27)).setRow w3.heap.size (Sl.row s Ad cd Am cA).toArray)
         rw [← hw4]
         have H2 := Lib.hid (HH.out w4 hw4)
         clear hw4))
  obtain ⟨gS, hgS⟩ : ∃ gS, gS = w3.heap.size := ⟨_, rfl⟩
  have HS := Lib.hid H2.out.1
  have hb4 := H2.out.2
  rw [← hgS] at HS ⊢
  replace HB := Lib.hid (HB.out.trans (hb4.mono HB.out.size))
  clear hgS hb4 H2 HH HZ H1
  have HLI := Lib.hid (show Sl.Lies w4 body key coins t m s l xs Ad cd Am cA from ⟨HMK.out, HSE.out, HLE.out, HS.out.v, HS.out.ok, HA.out.g.keep HB.out⟩)
  have HX := Lib.hid HLI.out.all
  have HBL := Lib.hid (show body.length = no from HA.out.rb.len)
  obtain ⟨bm, om, rfl⟩ := Sl.mkA HS.out.ok (by rw [HLI.out.msl]; omega)
  have HLT := Lib.hid (Sl.data_lt HS.out.r (fun x hx => (HX.out x hx).2.2.1))
  have h32 := (Sl.row_at HS.out.ok.cl Ad cd (some ⟨bm, om, none⟩) cA).1
  have h35 := (Sl.row_at HS.out.ok.cl Ad cd (some ⟨bm, om, none⟩) cA).2.2.2
  rw [HLI.out.dl, HBL.out] at h32
  rw [HLI.out.msl] at h35
  obtain ⟨T, hT⟩ : ∃ T, Sl.row s Ad cd (some ⟨bm, om, none⟩) cA = T := ⟨_, rfl⟩
  have HT := Lib.hid hT.symm
  rw [hT] at HI h32 h35
  have H32 := Lib.hid h32
  have H35 := Lib.hid h35
  clear hT h32 h35
  have hm1 : 1 ≤ m := by omega
  ((with_reducible refine (Sl.some_any (some ⟨b0, off0, none⟩) m c mask xs w4 HS.out.r hm8 HLT.out).mono ?_); rintro e w5 ⟨v1, ys, rfl, hO1, hv1, hsub1, hb5⟩)
  obtain ⟨Ax, cx, rfl⟩ := own_form hO1.row
  rw [HS.out.v] at hv1
  replace HB := Lib.hid (HB.out.trans (hb5.mono HB.out.size))
  replace HS := Lib.hid (HS.out.keep hb5)
  replace HLI := Lib.hid (HLI.out.keep hb5)
  clear hb5
  have HR := Lib.hid hO1.rds
  have HCX := Lib.hid (own_cap hO1.row)
  have HV := Lib.hid hv1
  have HU := Lib.hid hsub1
  have hys8 := HLI.out.plen hv1
  clear hO1 hv1 hsub1
  obtain ⟨np, hnp⟩ : ∃ np, ys.length = np := ⟨_, rfl⟩
  have HNP := Lib.hid hnp
  have ho1 := Sl.open_any Ax ys.length cx ys s Ad cd (some ⟨bm, om, none⟩) cA w5 (HLI.out.rdy HU.out (by omega) HR.out) HCX.out.1 HCX.out.2
  have HZ1 := Lib.hid (HLI.out.opn HV.out)
  have HZ2 := Lib.hid (fun h => And.intro (HLI.out.few HV.out h) (Sl.opn_no (HLI.out.few HV.out h) (by decide)))
  obtain ⟨z1, hz1⟩ : ∃ z, Sl.opnE s (Shr.vals ys) = z := ⟨_, rfl⟩
  obtain ⟨V1, hV1⟩ : ∃ V, Sl.opnV s (Shr.vals ys) = V := ⟨_, rfl⟩
  rw [hz1, hV1] at ho1 HZ1 HZ2
  rw [← HT.out] at ho1
  have HOP := Lib.hid ho1
  rw [hnp] at HR HCX HZ1 HZ2 HOP hys8 ⊢
  clear ho1 hz1 hV1 hnp
  have HSr := Lib.hid (show w5.heap[gS]? = some (.cells T.toArray 27 (0, 0)) from by rw [HT.out]; exact HS.out.h)
  go_wp2_with (with_reducible refine wpList_load_row rfl 27 (.tmp 15) rfl gS rfl 27 T.toArray (0, 0) _ HSr.out Tryd.underlying27 rfl HI.out ?_)
  ((with_reducible refine HOP.out.mono ?_); rintro e w6 ⟨A6, c6, rfl, _, hr6, hb6⟩)
  clear HOP HSr
  replace HB := Lib.hid (HB.out.trans (hb6.mono HB.out.size))
  replace HS := Lib.hid (HS.out.keep hb6)
  replace HLI := Lib.hid (HLI.out.keep hb6)
  replace HR := Lib.hid (HR.out.keep hb6)
  clear hb6
  have HW1 := Lib.hid hr6
  clear hr6
  by_cases g1 : t ≤ np
  · obtain ⟨e1, e2⟩ := HZ1.out g1
    subst e1
    rw [e2] at HW1 ⊢
    rw [HBL.out] at HW1 ⊢
    clear e2 HZ1 HZ2
    have htw := HLI.out.twin_no (A := Ax) (c := cx) (Ao := Ao) (co := co) HV.out HU.out (by rw [HNP.out]; exact HR.out) (by rw [HBL.out]; exact HO.out.keep HB.out) (by rw [HNP.out]; exact g1)
    rw [HNP.out, HBL.out, ← HT.out] at htw
    have HTW := Lib.hid htw
    clear htw
    have HSr := Lib.hid (show w6.heap[gS]? = some (.cells T.toArray 27 (0, 0)) from by rw [HT.out]; exact HS.out.h)
    go_wp2_with (with_reducible refine wpList_load_row rfl 27 (.tmp 15) rfl gS rfl 27 T.toArray (0, 0) _ HSr.out Tryd.underlying27 rfl HI.out ?_)
    ((with_reducible refine HTW.out.mono ?_); rintro e w7 ⟨A8, n8, c8, A9, n9, c9, rfl, hb7⟩)
    clear HTW HSr
    replace HB := Lib.hid (HB.out.trans (hb7.mono HB.out.size))
    replace HS := Lib.hid (HS.out.keep hb7)
    replace HLI := Lib.hid (HLI.out.keep hb7)
    replace HR := Lib.hid (HR.out.keep hb7)
    replace HW1 := Lib.hid (HW1.out.keep hb7)
    clear hb7
    have k0 := RdB.str (P := Tryd.prog) (HA.out.rb.keep HB.out) Tryd.underlying24 Tryd.underlying5 Tryd.underlying9 cb
    have k1 := RdB.str (P := Tryd.prog) (HW1.out) Tryd.underlying24 Tryd.underlying5 Tryd.underlying9 c6
    go_wp2_with fail
    go_ret
    exact ⟨rfl, HB.out⟩
  have g2 : np < t := by omega
  obtain ⟨e1, e2⟩ := HZ2.out g2
  subst e1
  subst e2
  clear HZ1 HZ2 HW1
  by_cases hp0 : np = 0
  · subst hp0
    go_wp2_with fail
    go_ret
    exact ⟨rfl, HB.out⟩
  have hnp0 : 0 < np := by omega
  obtain ⟨kk, cn, hmk2, hkl, hxd, hpk, hms, htw⟩ := HLI.out.twin_yes (A := Ax) (c := cx) (Ao := Ao) (co := co) HV.out HU.out (by rw [HNP.out]; exact HR.out) (by rw [HBL.out]; exact HO.out.keep HB.out) (by rw [HNP.out]; exact g2) (by rw [HNP.out]; exact hnp0)
  rw [HNP.out, HBL.out, ← HT.out] at htw
  have HTW := Lib.hid htw
  have HMK2 := Lib.hid hmk2
  have HXD := Lib.hid hxd
  have HPK := Lib.hid hpk
  have HMS := Lib.hid hms
  clear htw hmk2 hxd hpk hms hkl
  have HSr := Lib.hid (show w6.heap[gS]? = some (.cells T.toArray 27 (0, 0)) from by rw [HT.out]; exact HS.out.h)
  have q60 : ((0 : Int) == 0) = true := rfl
  go_wp2_with (with_reducible refine wpList_load_row rfl 27 (.tmp 15) rfl gS rfl 27 T.toArray (0, 0) _ HSr.out Tryd.underlying27 rfl HI.out ?_)
  ((with_reducible refine HTW.out.mono ?_); rintro e w7 ⟨A8, c8, A9, c9, rfl, hk8, hk9, hn8, hn9, hcc9, hcm9, hb7⟩)
  clear HTW HSr
  replace HB := Lib.hid (HB.out.trans (hb7.mono HB.out.size))
  replace HS := Lib.hid (HS.out.keep hb7)
  replace HLI := Lib.hid (HLI.out.keep hb7)
  replace HR := Lib.hid (HR.out.keep hb7)
  clear hb7
  obtain ⟨ncn, hncn⟩ : ∃ n, cn.length = n := ⟨_, rfl⟩
  rw [hncn] at hk9 hcc9 ⊢
  have HAS := Lib.hid (show Sl.ArgS w7 Ao no co other A8 no c8 kk t m A9 ncn c9 cn from ⟨HO.out.keep HB.out, hk8, hk9, by unfold maxLen; omega, by unfold maxLen; omega, hon, hcc9, hcm9, hn9, HA.out.th, HLI.out.k⟩)
  have HSY := Lib.hid (Sl.seal_mk HAS.out HMK2.out)
  clear hk8 hk9 hn8 hn9 hcc9 hcm9 hncn
  obtain ⟨s2, hs2'⟩ : ∃ s2, Sl.selW other kk t m cn = s2 := ⟨_, rfl⟩
  obtain ⟨l2, hl2⟩ : ∃ l2, Sl.selS kk t m cn = l2 := ⟨_, rfl⟩
  have HSE2 := Lib.hid hs2'
  have HLE2 := Lib.hid hl2
  rw [hs2'] at HMS
  rw [hl2] at HPK
  rw [hs2', hl2] at HSY
  clear hs2' hl2
  go_wp2_with fail
  ((with_reducible refine HSY.out.mono ?_); rintro e w8 ⟨Ad2, cd2, Am2, cA2, b2, off2, cc2, xs2, rfl, hok, hr, hv, hnc, hcm, hb8⟩)
  replace HB := Lib.hid (HB.out.trans (hb8.mono HB.out.size))
  replace HS := Lib.hid (HS.out.keep hb8)
  replace HLI := Lib.hid (HLI.out.keep hb8)
  replace HR := Lib.hid (HR.out.keep hb8)
  clear hb8
  have HH := Lib.hid (fun W' he => Sl.Hold.make (W := w8) hok hr hv hnc hcm (W' := W') he)
  have HI2 := Lib.hid (show (Tryd.prog.info? 27).map (·.size) = some (Sl.row s2 Ad2 cd2 Am2 cA2).toArray.size from by rw [List.size_toArray, Sl.row_len hok.cl]; exact Sl.infoW)
  have HZ := Lib.hid (show Sl.z36.toArray.size = (Sl.row s2 Ad2 cd2 Am2 cA2).toArray.size from by rw [List.size_toArray, List.size_toArray, Sl.row_len hok.cl]; rfl)
  have H1 := Lib.hid (show (Sl.row s2 Ad2 cd2 Am2 cA2).toArray.all (·.oneCell') = true from all_oneCell_toArray (Sl.row_one _ _ _ _ _))
  clear hok hr hv hnc hcm HSY
  go_wp2_with (first
      | (refine wpList_store_row (o := ⟨none, .store 27 (.tmp 27) (.tmp 143), _, _, _, _⟩) rfl 27 (.tmp 27) (.tmp 143) rfl w8.heap.size (Sl.row s2 Ad2 cd2 Am2 cA2).toArray rfl rfl 27 Sl.z36.toArray (World.alloc_heap_new w8 _) HI2.out HZ.out H1.out ?_
         obtain ⟨w9, hw9⟩ : ∃ w9, w9 = (w8.alloc (.cells Sl.z36.toArray 27)).setRow w8.heap.size (Sl.row s2 Ad2 cd2 Am2 cA2).toArray := ⟨_, rfl⟩
         change wpList _ _ _ _ _ ((w8.alloc (.cells Sl.z36.toArray 27)).setRow w8.heap.size (Sl.row s2 Ad2 cd2 Am2 cA2).toArray)
         rw [← hw9]
         have H2 := Lib.hid (HH.out w9 hw9)
         clear hw9))
  obtain ⟨gT, hgT⟩ : ∃ gT, gT = w8.heap.size := ⟨_, rfl⟩
  have HS2 := Lib.hid H2.out.1
  have hb9 := H2.out.2
  rw [← hgT] at HS2 ⊢
  clear hgT H2 HH HZ H1
  replace HB := Lib.hid (HB.out.trans (hb9.mono HB.out.size))
  replace HS := Lib.hid (HS.out.keep hb9)
  replace HLI := Lib.hid (HLI.out.keep hb9)
  replace HR := Lib.hid (HR.out.keep hb9)
  clear hb9
  have HLI2 := Lib.hid (show Sl.Lies w9 other kk cn t m s2 l2 xs2 Ad2 cd2 Am2 cA2 from ⟨HMK2.out, HSE2.out, HLE2.out, HS2.out.v, HS2.out.ok, HLI.out.k⟩)
  have HX2 := Lib.hid HLI2.out.all
  have HOL := Lib.hid (show other.length = no from HO.out.len)
  obtain ⟨bt, ot, rfl⟩ := Sl.mkA HS2.out.ok (by rw [HLI2.out.msl]; omega)
  have HLT2 := Lib.hid (Sl.data_lt HS2.out.r (fun x hx => (HX2.out x hx).2.2.1))
  have h32 := (Sl.row_at HS2.out.ok.cl Ad2 cd2 (some ⟨bt, ot, none⟩) cA2).1
  have h35 := (Sl.row_at HS2.out.ok.cl Ad2 cd2 (some ⟨bt, ot, none⟩) cA2).2.2.2
  rw [HLI2.out.dl, HOL.out] at h32
  rw [HLI2.out.msl] at h35
  have H322 := Lib.hid h32
  have H352 := Lib.hid h35
  have HDE := Lib.hid (show s2.d = s.d from by rw [← HSE2.out]; exact HXD.out)
  clear h32 h35 HXD
  ((with_reducible refine (Sl.some_any (some ⟨b2, off2, none⟩) m cc2 mask xs2 w9 HS2.out.r hm8 HLT2.out).mono ?_); rintro e w10 ⟨v2, ys2, rfl, hO2, hv2, hsub2, hb10⟩)
  obtain ⟨Ay, cy, rfl⟩ := own_form hO2.row
  rw [HS2.out.v, HPK.out] at hv2
  replace HB := Lib.hid (HB.out.trans (hb10.mono HB.out.size))
  replace HS := Lib.hid (HS.out.keep hb10)
  replace HLI := Lib.hid (HLI.out.keep hb10)
  replace HR := Lib.hid (HR.out.keep hb10)
  replace HS2 := Lib.hid (HS2.out.keep hb10)
  replace HLI2 := Lib.hid (HLI2.out.keep hb10)
  clear hb10
  have HR2 := Lib.hid hO2.rds
  have HVE := Lib.hid hv2.symm
  have hl2 : ys2.length = np := by rw [← HNP.out, ← Shr.vals_len, hv2, Shr.vals_len]
  rw [hl2] at HR2 ⊢
  clear hO2 hv2 hsub2 hl2 HLT HLT2 HX HX2 HPK
  have y32 : w10.cell? ⟨gS, 32, none⟩ = some (.slice Ad no cd) := (HS.out.h.cell 32).trans (by rw [← HT.out]; exact H32.out)
  have y35 : w10.cell? ⟨gS, 35, none⟩ = some (.slice (some ⟨bm, om, none⟩) m cA) := (HS.out.h.cell 35).trans (by rw [← HT.out]; exact H35.out)
  have v32 : w10.cell? ⟨gT, 32, none⟩ = some (.slice Ad2 no cd2) := (HS2.out.h.cell 32).trans H322.out
  have v35 : w10.cell? ⟨gT, 35, none⟩ = some (.slice (some ⟨bt, ot, none⟩) m cA2) := (HS2.out.h.cell 35).trans H352.out
  have rdS : RdB w10 Ad no s.d := by have h := HS.out.ok.rd; rw [HLI.out.dl, HBL.out] at h; exact h
  have rdT : RdB w10 Ad2 no s.d := by have h := HS2.out.ok.rd; rw [HLI2.out.dl, HOL.out, HDE.out] at h; exact h
  have k1 := RdB.str (P := Tryd.prog) (rdS) Tryd.underlying24 Tryd.underlying5 Tryd.underlying9 cd
  have k2 := RdB.str (P := Tryd.prog) (rdT) Tryd.underlying24 Tryd.underlying5 Tryd.underlying9 cd2
  have qm : ((m : Int) != (m : Int)) = false := by simp
  clear rdS rdT
  go_wp2_with fail
  have HSM := Shr.same_any Ax Ay np cx cy ys ys2 w10 HR.out HR2.out (by unfold maxLen; omega) HVE.out
  ((with_reducible refine HSM.mono ?_); rintro e w11 ⟨rfl, hb11⟩)
  clear k1 k2 HSM y32 y35 v32 v35
  replace HB := Lib.hid (HB.out.trans (hb11.mono HB.out.size))
  replace HS := Lib.hid (HS.out.keep hb11)
  replace HLI := Lib.hid (HLI.out.keep hb11)
  replace HR := Lib.hid (HR.out.keep hb11)
  replace HS2 := Lib.hid (HS2.out.keep hb11)
  replace HLI2 := Lib.hid (HLI2.out.keep hb11)
  replace HR2 := Lib.hid (HR2.out.keep hb11)
  clear hb11
  have y32 : w11.cell? ⟨gS, 32, none⟩ = some (.slice Ad no cd) := (HS.out.h.cell 32).trans (by rw [← HT.out]; exact H32.out)
  have y35 : w11.cell? ⟨gS, 35, none⟩ = some (.slice (some ⟨bm, om, none⟩) m cA) := (HS.out.h.cell 35).trans (by rw [← HT.out]; exact H35.out)
  have v32 : w11.cell? ⟨gT, 32, none⟩ = some (.slice Ad2 no cd2) := (HS2.out.h.cell 32).trans H322.out
  have v35 : w11.cell? ⟨gT, 35, none⟩ = some (.slice (some ⟨bt, ot, none⟩) m cA2) := (HS2.out.h.cell 35).trans H352.out
  go_wp2_with fail
  clear y32 y35 v32 v35
  go_loopw [181] (fun i wr => ∃ k : Nat, k ≤ np ∧ i = .int .i64 k ∧ Below w11.heap.size w11 wr) (fun i _ => np - (intOf i).toNat)
  case atStart => exact ⟨0, by omega, rfl, Below.refl _ _⟩
  case round =>
    obtain ⟨k, hk, rfl, hB⟩ := hrel
    have HBr := Lib.hid hB
    clear hB
    by_cases hlt : k < np
    · obtain ⟨bx, ox, rfl, hbx, f0, f1, f2, f3, f4⟩ := (HR.out.keep HBr.out).at k hlt
      have hkl : k < ys.length := by rw [HNP.out]; exact hlt
      have hym : ys[k]! ∈ ys := by rw [getElem!_pos ys k hkl]; exact List.getElem_mem _
      obtain ⟨i1, i2, hme⟩ := HMS.out _ hym
      generalize ys[k]! = y at f0 f1 f2 f3 f4 i1 i2 hme
      obtain ⟨j, hj⟩ := Int.eq_ofNat_of_zero_le (show 0 ≤ y.s.ix - 1 by omega)
      have hix : y.s.ix = (j : Int) + 1 := by omega
      have hjm : j < m := by omega
      rw [hj, Int.toNat_natCast] at hme
      rw [hix] at f1
      have HME := Lib.hid hme
      clear hme hj hix i1 i2 hym hkl
      have i1 : (0 : Int) ≤ (k : Int) := by omega
      have i2 : (k : Int) < (np : Int) := by omega
      go_upto_region 23 with fail
      obtain ⟨w12, hw12⟩ : ∃ w12, wr.alloc (.cells #[.int .i64 y.s.ep, .int .i64 ((j : Int) + 1), .int .i64 y.s.th, .int .i64 y.s.mn, .slice y.A y.s.d.length y.c] 43) = w12 := ⟨_, rfl⟩
      have hz : Has w12 wr.heap.size 43 [.int .i64 y.s.ep, .int .i64 ((j : Int) + 1), .int .i64 y.s.th, .int .i64 y.s.mn, .slice y.A y.s.d.length y.c] := by rw [← hw12]; exact Has.new _ _ _
      have hb12 : Below wr.heap.size wr w12 := by rw [← hw12]; exact (Below.refl _ _).alloc (Nat.le_refl _) _
      change Code.wp _ _ _ _ (wr.alloc (.cells #[.int .i64 y.s.ep, .int .i64 ((j : Int) + 1), .int .i64 y.s.th, .int .i64 y.s.mn, .slice y.A y.s.d.length y.c] 43))
      rw [hw12]
      obtain ⟨gz, hgz⟩ : ∃ gz, wr.heap.size = gz := ⟨_, rfl⟩
      replace HBr := Lib.hid (HBr.out.trans (hb12.mono HBr.out.size))
      rw [hgz] at hz ⊢
      have HZ := Lib.hid hz
      clear hz hb12 hw12 hgz f0 f1 f2 f3 f4 i1 i2
      have HS12 := Lib.hid (HS.out.keep HBr.out)
      have HT12 := Lib.hid (HS2.out.keep HBr.out)
      have q1 : decide (((j : Int) + 1) < 1) = false := decide_eq_false (by omega)
      have q2 : decide ((m : Int) < ((j : Int) + 1)) = false := decide_eq_false (by omega)
      have q3 : IntKind.i64.wrap (((j : Int) + 1) - 1) = (j : Int) := (IntWalk.i64_in _ (by omega)).trans (by omega)
      obtain ⟨D, hD⟩ : ∃ D, s.ms.getD j [] = D := ⟨_, rfl⟩
      have hD2 : s2.ms.getD j [] = D := by rw [← HME.out]; exact hD
      have MS := Lib.hid (fun (W : World) (hb : Below w12.heap.size w12 W) => Sl.mkAt (HS12.out.keep hb).ok j (by rw [HLI.out.msl]; exact hjm))
      have MT := Lib.hid (fun (W : World) (hb : Below w12.heap.size w12 W) => Sl.mkAt (HT12.out.keep hb).ok j (by rw [HLI2.out.msl]; exact hjm))
      rw [hD] at MS
      rw [hD2] at MT
      have H32D := Lib.hid (MS.out w12 (Below.refl _ _)).2
      clear hD hD2
      refine Sl.wp_normal ?_
      have s0 : Below w12.heap.size w12 w12.drew := (Below.refl _ w12).drew
      refine wp_region_named (fun ops hops => ?_)
      refine wp_region_T (by kernel_rfl) [] (fun w' => Below w12.heap.size w12 w') ?_
      rw [show ops.size = 28 from by rw [hops]; rfl]
      have HNS : Region.noSelect ops = true := by rw [hops]; kernel_rfl
      obtain ⟨o0, h0, d0, p0, g0⟩ := op_at5 hops 0 rfl (d := some 185) (p := Op.fieldAddr 43 (Operand.tmp 32) 1) (g := none) rfl rfl rfl
      obtain ⟨o1, h1, d1, p1, g1⟩ := op_at5 hops 1 rfl (d := some 186) (p := Op.load 3 (Operand.tmp 185)) (g := none) rfl rfl rfl
      obtain ⟨o2, h2, d2, p2, g2⟩ := op_at5 hops 2 rfl (d := some 187) (p := Op.binOp BinOp.lss 3 (Operand.tmp 186) (Operand.const (Value.int IntKind.i64 1)) 3) (g := none) rfl rfl rfl
      obtain ⟨o3, h3, d3, p3, g3⟩ := op_at5 hops 3 rfl (d := some 188) (p := Op.move (Operand.tmp 187)) (g := none) rfl rfl rfl
      obtain ⟨o4, h4, d4, p4, g4⟩ := op_at5 hops 4 rfl (d := some 189) (p := Op.fieldAddr 43 (Operand.tmp 32) 1) (g := some (3, false)) rfl rfl rfl
      obtain ⟨o5, h5, d5, p5, g5⟩ := op_at5 hops 5 rfl (d := some 190) (p := Op.load 3 (Operand.tmp 189)) (g := some (3, false)) rfl rfl rfl
      obtain ⟨o6, h6, d6, p6, g6⟩ := op_at5 hops 6 rfl (d := some 191) (p := Op.fieldAddr 27 (Operand.tmp 15) 4) (g := some (3, false)) rfl rfl rfl
      obtain ⟨o7, h7, d7, p7, g7⟩ := op_at5 hops 7 rfl (d := some 192) (p := Op.load 25 (Operand.tmp 191)) (g := some (3, false)) rfl rfl rfl
      obtain ⟨o8, h8, d8, p8, g8⟩ := op_at5 hops 8 rfl (d := some 193) (p := Op.call { callee := Callee.builtin Builtin.len, args := #[Operand.tmp 192], argTypes := #[25] }) (g := some (3, false)) rfl rfl rfl
      obtain ⟨o9, h9, d9, p9, g9⟩ := op_at5 hops 9 rfl (d := some 194) (p := Op.binOp BinOp.gtr 3 (Operand.tmp 190) (Operand.tmp 193) 3) (g := some (3, false)) rfl rfl rfl
      obtain ⟨o10, h10, d10, p10, g10⟩ := op_at5 hops 10 rfl (d := some 195) (p := Op.pick (Operand.tmp 188) (Operand.const (Value.bool true)) (Operand.tmp 194)) (g := none) rfl rfl rfl
      obtain ⟨o11, h11, d11, p11, g11⟩ := op_at5 hops 11 rfl (d := some 196) (p := Op.move (Operand.tmp 195)) (g := none) rfl rfl rfl
      obtain ⟨o12, h12, d12, p12, g12⟩ := op_at5 hops 12 rfl (d := some 197) (p := Op.fieldAddr 27 (Operand.tmp 15) 4) (g := some (11, false)) rfl rfl rfl
      obtain ⟨o13, h13, d13, p13, g13⟩ := op_at5 hops 13 rfl (d := some 198) (p := Op.load 25 (Operand.tmp 197)) (g := some (11, false)) rfl rfl rfl
      obtain ⟨o14, h14, d14, p14, g14⟩ := op_at5 hops 14 rfl (d := some 199) (p := Op.fieldAddr 43 (Operand.tmp 32) 1) (g := some (11, false)) rfl rfl rfl
      obtain ⟨o15, h15, d15, p15, g15⟩ := op_at5 hops 15 rfl (d := some 200) (p := Op.load 3 (Operand.tmp 199)) (g := some (11, false)) rfl rfl rfl
      obtain ⟨o16, h16, d16, p16, g16⟩ := op_at5 hops 16 rfl (d := some 201) (p := Op.binOp BinOp.sub 3 (Operand.tmp 200) (Operand.const (Value.int IntKind.i64 1)) 3) (g := some (11, false)) rfl rfl rfl
      obtain ⟨o17, h17, d17, p17, g17⟩ := op_at5 hops 17 rfl (d := some 202) (p := Op.indexAddr 25 (Operand.tmp 198) (Operand.tmp 201)) (g := some (11, false)) rfl rfl rfl
      obtain ⟨o18, h18, d18, p18, g18⟩ := op_at5 hops 18 rfl (d := some 203) (p := Op.load 23 (Operand.tmp 202)) (g := some (11, false)) rfl rfl rfl
      obtain ⟨o19, h19, d19, p19, g19⟩ := op_at5 hops 19 rfl (d := some 204) (p := Op.fieldAddr 27 (Operand.tmp 27) 4) (g := some (11, false)) rfl rfl rfl
      obtain ⟨o20, h20, d20, p20, g20⟩ := op_at5 hops 20 rfl (d := some 205) (p := Op.load 25 (Operand.tmp 204)) (g := some (11, false)) rfl rfl rfl
      obtain ⟨o21, h21, d21, p21, g21⟩ := op_at5 hops 21 rfl (d := some 206) (p := Op.fieldAddr 43 (Operand.tmp 32) 1) (g := some (11, false)) rfl rfl rfl
      obtain ⟨o22, h22, d22, p22, g22⟩ := op_at5 hops 22 rfl (d := some 207) (p := Op.load 3 (Operand.tmp 206)) (g := some (11, false)) rfl rfl rfl
      obtain ⟨o23, h23, d23, p23, g23⟩ := op_at5 hops 23 rfl (d := some 208) (p := Op.binOp BinOp.sub 3 (Operand.tmp 207) (Operand.const (Value.int IntKind.i64 1)) 3) (g := some (11, false)) rfl rfl rfl
      obtain ⟨o24, h24, d24, p24, g24⟩ := op_at5 hops 24 rfl (d := some 209) (p := Op.indexAddr 25 (Operand.tmp 205) (Operand.tmp 208)) (g := some (11, false)) rfl rfl rfl
      obtain ⟨o25, h25, d25, p25, g25⟩ := op_at5 hops 25 rfl (d := some 210) (p := Op.load 23 (Operand.tmp 209)) (g := some (11, false)) rfl rfl rfl
      obtain ⟨o26, h26, d26, p26, g26⟩ := op_at5 hops 26 rfl (d := some 211) (p := Op.binOp BinOp.neq 23 (Operand.tmp 203) (Operand.tmp 210) 23) (g := some (11, false)) rfl rfl rfl
      obtain ⟨o27, h27, d27, p27, g27⟩ := op_at5 hops 27 rfl (d := some 212) (p := Op.pick (Operand.tmp 196) (Operand.const (Value.bool true)) (Operand.tmp 211)) (g := none) rfl rfl rfl
      refine wpAnyT_take (i := 0) (v := .pointer (some ⟨gz, 1, none⟩)) [0, 1, 2, 3, 4, 5, 6, 7, 8, 9, 10, 11, 12, 13, 14, 15, 16, 17, 18, 19, 20, 21, 22, 23, 24, 25, 26, 27] h0 HNS (by rw [hops]; kernel_rfl) (by rw [hops]; kernel_rfl) (by rw [hops]; kernel_rfl) (fun _ _ _ => NormalOnly.hQ _ _ _) (Or.inl ⟨(wanted_none g0), fun w' _ => by unfold execOp; rw [p0]; first | rfl | kernel_rfl⟩) s0 ?_
      rw [d0]
      simp only [Act.put, List.setIfInBounds_toArray, List.set_cons_zero, List.set_cons_succ]
      refine wpAnyT_take (i := 1) (v := .int .i64 ((j : Int) + 1)) [1, 2, 3, 4, 5, 6, 7, 8, 9, 10, 11, 12, 13, 14, 15, 16, 17, 18, 19, 20, 21, 22, 23, 24, 25, 26, 27] h1 HNS (by rw [hops]; kernel_rfl) (by rw [hops]; kernel_rfl) (by rw [hops]; kernel_rfl) (fun _ _ _ => NormalOnly.hQ _ _ _) (Or.inl ⟨(wanted_none g1), fun w' h => run_op_load_cell 3 _ p1 gz 1 (by rfl) (.int .i64 ((j : Int) + 1)) ((HZ.out.keep h).cell 1) _ Tryd.underlying3 rfl⟩) s0 ?_
      rw [d1]
      simp only [Act.put, List.setIfInBounds_toArray, List.set_cons_zero, List.set_cons_succ]
      refine wpAnyT_take (i := 2) (v := .bool false) [2, 3, 4, 5, 6, 7, 8, 9, 10, 11, 12, 13, 14, 15, 16, 17, 18, 19, 20, 21, 22, 23, 24, 25, 26, 27] h2 HNS (by rw [hops]; kernel_rfl) (by rw [hops]; kernel_rfl) (by rw [hops]; kernel_rfl) (fun _ _ _ => NormalOnly.hQ _ _ _) (Or.inl ⟨(wanted_none g2), fun w' h => (show _ = Result.ok (.value (.bool (decide (((j : Int) + 1) < 1)))) w' from by unfold execOp; rw [p2]; first | rfl | kernel_rfl).trans (by rw [q1])⟩) s0 ?_
      rw [d2]
      simp only [Act.put, List.setIfInBounds_toArray, List.set_cons_zero, List.set_cons_succ]
      refine wpAnyT_take (i := 3) (v := .bool false) [3, 4, 5, 6, 7, 8, 9, 10, 11, 12, 13, 14, 15, 16, 17, 18, 19, 20, 21, 22, 23, 24, 25, 26, 27] h3 HNS (by rw [hops]; kernel_rfl) (by rw [hops]; kernel_rfl) (by rw [hops]; kernel_rfl) (fun _ _ _ => NormalOnly.hQ _ _ _) (Or.inl ⟨(wanted_none g3), fun w' _ => by unfold execOp; rw [p3]; first | rfl | kernel_rfl⟩) s0 ?_
      rw [d3]
      simp only [Act.put, List.setIfInBounds_toArray, List.set_cons_zero, List.set_cons_succ]
      refine wpAnyT_take (i := 4) (v := .pointer (some ⟨gz, 1, none⟩)) [4, 5, 9, 10, 11, 12, 13, 14, 15, 16, 17, 18, 19, 20, 21, 22, 23, 24, 25, 26, 27] h4 HNS (by rw [hops]; kernel_rfl) (by rw [hops]; kernel_rfl) (by rw [hops]; kernel_rfl) (fun _ _ _ => NormalOnly.hQ _ _ _) (Or.inl ⟨(wanted_some g4 h3 d3 (by rfl)), fun w' _ => by unfold execOp; rw [p4]; first | rfl | kernel_rfl⟩) s0 ?_
      rw [d4]
      simp only [Act.put, List.setIfInBounds_toArray, List.set_cons_zero, List.set_cons_succ]
      refine wpAnyT_take (i := 5) (v := .int .i64 ((j : Int) + 1)) [5, 9, 10, 11, 12, 13, 14, 15, 16, 17, 18, 19, 20, 21, 22, 23, 24, 25, 26, 27] h5 HNS (by rw [hops]; kernel_rfl) (by rw [hops]; kernel_rfl) (by rw [hops]; kernel_rfl) (fun _ _ _ => NormalOnly.hQ _ _ _) (Or.inl ⟨(wanted_some g5 h3 d3 (by rfl)), fun w' h => run_op_load_cell 3 _ p5 gz 1 (by rfl) (.int .i64 ((j : Int) + 1)) ((HZ.out.keep h).cell 1) _ Tryd.underlying3 rfl⟩) s0 ?_
      rw [d5]
      simp only [Act.put, List.setIfInBounds_toArray, List.set_cons_zero, List.set_cons_succ]
      refine wpAnyT_take (i := 6) (v := .pointer (some ⟨gS, 35, none⟩)) [6, 7, 8, 9, 10, 11, 12, 13, 14, 15, 16, 17, 18, 19, 20, 21, 22, 23, 24, 25, 26, 27] h6 HNS (by rw [hops]; kernel_rfl) (by rw [hops]; kernel_rfl) (by rw [hops]; kernel_rfl) (fun _ _ _ => NormalOnly.hQ _ _ _) (Or.inl ⟨(wanted_some g6 h3 d3 (by rfl)), fun w' _ => by unfold execOp; rw [p6]; first | rfl | kernel_rfl⟩) s0 ?_
      rw [d6]
      simp only [Act.put, List.setIfInBounds_toArray, List.set_cons_zero, List.set_cons_succ]
      refine wpAnyT_take (i := 7) (v := .slice (some ⟨bm, om, none⟩) m cA) [7, 8, 9, 10, 11, 12, 13, 14, 15, 16, 17, 18, 19, 20, 21, 22, 23, 24, 25, 26, 27] h7 HNS (by rw [hops]; kernel_rfl) (by rw [hops]; kernel_rfl) (by rw [hops]; kernel_rfl) (fun _ _ _ => NormalOnly.hQ _ _ _) (Or.inl ⟨(wanted_some g7 h3 d3 (by rfl)), fun w' h => run_op_load_cell 25 _ p7 (gS) (35) (by rfl) (.slice (some ⟨bm, om, none⟩) m cA) (((HS12.out.keep h).h.cell 35).trans (by rw [← HT.out]; exact H35.out)) _ Tryd.underlying25 rfl⟩) s0 ?_
      rw [d7]
      simp only [Act.put, List.setIfInBounds_toArray, List.set_cons_zero, List.set_cons_succ]
      refine wpAnyT_take (i := 8) (v := .int .i64 (m : Int)) [8, 9, 10, 11, 12, 13, 14, 15, 16, 17, 18, 19, 20, 21, 22, 23, 24, 25, 26, 27] h8 HNS (by rw [hops]; kernel_rfl) (by rw [hops]; kernel_rfl) (by rw [hops]; kernel_rfl) (fun _ _ _ => NormalOnly.hQ _ _ _) (Or.inl ⟨(wanted_some g8 h3 d3 (by rfl)), fun w' _ => by unfold execOp; rw [p8]; first | rfl | kernel_rfl⟩) s0 ?_
      rw [d8]
      simp only [Act.put, List.setIfInBounds_toArray, List.set_cons_zero, List.set_cons_succ]
      refine wpAnyT_take (i := 9) (v := .bool false) [9, 10, 11, 12, 13, 14, 15, 16, 17, 18, 19, 20, 21, 22, 23, 24, 25, 26, 27] h9 HNS (by rw [hops]; kernel_rfl) (by rw [hops]; kernel_rfl) (by rw [hops]; kernel_rfl) (fun _ _ _ => NormalOnly.hQ _ _ _) (Or.inl ⟨(wanted_some g9 h3 d3 (by rfl)), fun w' h => (show _ = Result.ok (.value (.bool (decide ((m : Int) < ((j : Int) + 1))))) w' from by unfold execOp; rw [p9]; first | rfl | kernel_rfl).trans (by rw [q2])⟩) s0 ?_
      rw [d9]
      simp only [Act.put, List.setIfInBounds_toArray, List.set_cons_zero, List.set_cons_succ]
      refine wpAnyT_take (i := 10) (v := .bool false) [10, 11, 12, 13, 14, 15, 16, 17, 18, 19, 20, 21, 22, 23, 24, 25, 26, 27] h10 HNS (by rw [hops]; kernel_rfl) (by rw [hops]; kernel_rfl) (by rw [hops]; kernel_rfl) (fun _ _ _ => NormalOnly.hQ _ _ _) (Or.inl ⟨(wanted_none g10), fun w' _ => by unfold execOp; rw [p10]; first | rfl | kernel_rfl⟩) s0 ?_
      rw [d10]
      simp only [Act.put, List.setIfInBounds_toArray, List.set_cons_zero, List.set_cons_succ]
      refine wpAnyT_take (i := 11) (v := .bool false) [11, 12, 13, 14, 15, 16, 17, 18, 19, 20, 21, 22, 23, 24, 25, 26, 27] h11 HNS (by rw [hops]; kernel_rfl) (by rw [hops]; kernel_rfl) (by rw [hops]; kernel_rfl) (fun _ _ _ => NormalOnly.hQ _ _ _) (Or.inl ⟨(wanted_none g11), fun w' _ => by unfold execOp; rw [p11]; first | rfl | kernel_rfl⟩) s0 ?_
      rw [d11]
      simp only [Act.put, List.setIfInBounds_toArray, List.set_cons_zero, List.set_cons_succ]
      refine wpAnyT_take (i := 12) (v := .pointer (some ⟨gS, 35, none⟩)) [12, 13, 17, 18, 26, 27] h12 HNS (by rw [hops]; kernel_rfl) (by rw [hops]; kernel_rfl) (by rw [hops]; kernel_rfl) (fun _ _ _ => NormalOnly.hQ _ _ _) (Or.inl ⟨(wanted_some g12 h11 d11 (by rfl)), fun w' _ => by unfold execOp; rw [p12]; first | rfl | kernel_rfl⟩) s0 ?_
      rw [d12]
      simp only [Act.put, List.setIfInBounds_toArray, List.set_cons_zero, List.set_cons_succ]
      refine wpAnyT_take (i := 13) (v := .slice (some ⟨bm, om, none⟩) m cA) [13, 17, 18, 26, 27] h13 HNS (by rw [hops]; kernel_rfl) (by rw [hops]; kernel_rfl) (by rw [hops]; kernel_rfl) (fun _ _ _ => NormalOnly.hQ _ _ _) (Or.inl ⟨(wanted_some g13 h11 d11 (by rfl)), fun w' h => run_op_load_cell 25 _ p13 (gS) (35) (by rfl) (.slice (some ⟨bm, om, none⟩) m cA) (((HS12.out.keep h).h.cell 35).trans (by rw [← HT.out]; exact H35.out)) _ Tryd.underlying25 rfl⟩) s0 ?_
      rw [d13]
      simp only [Act.put, List.setIfInBounds_toArray, List.set_cons_zero, List.set_cons_succ]
      refine wpAnyT_take (i := 14) (v := .pointer (some ⟨gz, 1, none⟩)) [14, 15, 16, 17, 18, 26, 27] h14 HNS (by rw [hops]; kernel_rfl) (by rw [hops]; kernel_rfl) (by rw [hops]; kernel_rfl) (fun _ _ _ => NormalOnly.hQ _ _ _) (Or.inl ⟨(wanted_some g14 h11 d11 (by rfl)), fun w' _ => by unfold execOp; rw [p14]; first | rfl | kernel_rfl⟩) s0 ?_
      rw [d14]
      simp only [Act.put, List.setIfInBounds_toArray, List.set_cons_zero, List.set_cons_succ]
      refine wpAnyT_take (i := 15) (v := .int .i64 ((j : Int) + 1)) [15, 16, 17, 18, 26, 27] h15 HNS (by rw [hops]; kernel_rfl) (by rw [hops]; kernel_rfl) (by rw [hops]; kernel_rfl) (fun _ _ _ => NormalOnly.hQ _ _ _) (Or.inl ⟨(wanted_some g15 h11 d11 (by rfl)), fun w' h => run_op_load_cell 3 _ p15 gz 1 (by rfl) (.int .i64 ((j : Int) + 1)) ((HZ.out.keep h).cell 1) _ Tryd.underlying3 rfl⟩) s0 ?_
      rw [d15]
      simp only [Act.put, List.setIfInBounds_toArray, List.set_cons_zero, List.set_cons_succ]
      refine wpAnyT_take (i := 16) (v := .int .i64 (j : Int)) [16, 17, 18, 26, 27] h16 HNS (by rw [hops]; kernel_rfl) (by rw [hops]; kernel_rfl) (by rw [hops]; kernel_rfl) (fun _ _ _ => NormalOnly.hQ _ _ _) (Or.inl ⟨(wanted_some g16 h11 d11 (by rfl)), fun w' h => (show _ = Result.ok (.value (.int .i64 (IntKind.i64.wrap (((j : Int) + 1) - 1)))) w' from by unfold execOp; rw [p16]; first | rfl | kernel_rfl).trans (by rw [q3])⟩) s0 ?_
      rw [d16]
      simp only [Act.put, List.setIfInBounds_toArray, List.set_cons_zero, List.set_cons_succ]
      refine wpAnyT_take (i := 17) (v := .pointer (some ⟨bm, om + j * 32, none⟩)) [17, 18, 26, 27] h17 HNS (by rw [hops]; kernel_rfl) (by rw [hops]; kernel_rfl) (by rw [hops]; kernel_rfl) (fun _ _ _ => NormalOnly.hQ _ _ _) (Or.inl ⟨(wanted_some g17 h11 d11 (by rfl)), fun w' h => run_op_index_mid 25 _ _ p17 bm om m cA j (by rfl) (by rfl) hjm 23 32 Tryd.underlying25 Sl.infoD⟩) s0 ?_
      rw [d17]
      simp only [Act.put, List.setIfInBounds_toArray, List.set_cons_zero, List.set_cons_succ]
      refine wpAnyT_take (i := 18) (v := .agg (D.map Dg.b8).toArray) [18, 26, 27] h18 HNS (by rw [hops]; kernel_rfl) (by rw [hops]; kernel_rfl) (by rw [hops]; kernel_rfl) (fun _ _ _ => NormalOnly.hQ _ _ _) (Or.inl ⟨(wanted_some g18 h11 d11 (by rfl)), fun w' h => run_op_load_mid 23 _ p18 bm (om + j * 32) (by rfl) (D.map Dg.b8) _ (MS.out w' h).1 Tryd.underlying23 rfl (Sl.infoDm _ H32D.out)⟩) s0 ?_
      rw [d18]
      simp only [Act.put, List.setIfInBounds_toArray, List.set_cons_zero, List.set_cons_succ]
      refine wpAnyT_take (i := 19) (v := .pointer (some ⟨gT, 35, none⟩)) [19, 20, 24, 25, 26, 27] h19 HNS (by rw [hops]; kernel_rfl) (by rw [hops]; kernel_rfl) (by rw [hops]; kernel_rfl) (fun _ _ _ => NormalOnly.hQ _ _ _) (Or.inl ⟨(wanted_some g19 h11 d11 (by rfl)), fun w' _ => by unfold execOp; rw [p19]; first | rfl | kernel_rfl⟩) s0 ?_
      rw [d19]
      simp only [Act.put, List.setIfInBounds_toArray, List.set_cons_zero, List.set_cons_succ]
      refine wpAnyT_take (i := 20) (v := .slice (some ⟨bt, ot, none⟩) m cA2) [20, 24, 25, 26, 27] h20 HNS (by rw [hops]; kernel_rfl) (by rw [hops]; kernel_rfl) (by rw [hops]; kernel_rfl) (fun _ _ _ => NormalOnly.hQ _ _ _) (Or.inl ⟨(wanted_some g20 h11 d11 (by rfl)), fun w' h => run_op_load_cell 25 _ p20 (gT) (35) (by rfl) (.slice (some ⟨bt, ot, none⟩) m cA2) (((HT12.out.keep h).h.cell 35).trans H352.out) _ Tryd.underlying25 rfl⟩) s0 ?_
      rw [d20]
      simp only [Act.put, List.setIfInBounds_toArray, List.set_cons_zero, List.set_cons_succ]
      refine wpAnyT_take (i := 21) (v := .pointer (some ⟨gz, 1, none⟩)) [21, 22, 23, 24, 25, 26, 27] h21 HNS (by rw [hops]; kernel_rfl) (by rw [hops]; kernel_rfl) (by rw [hops]; kernel_rfl) (fun _ _ _ => NormalOnly.hQ _ _ _) (Or.inl ⟨(wanted_some g21 h11 d11 (by rfl)), fun w' _ => by unfold execOp; rw [p21]; first | rfl | kernel_rfl⟩) s0 ?_
      rw [d21]
      simp only [Act.put, List.setIfInBounds_toArray, List.set_cons_zero, List.set_cons_succ]
      refine wpAnyT_take (i := 22) (v := .int .i64 ((j : Int) + 1)) [22, 23, 24, 25, 26, 27] h22 HNS (by rw [hops]; kernel_rfl) (by rw [hops]; kernel_rfl) (by rw [hops]; kernel_rfl) (fun _ _ _ => NormalOnly.hQ _ _ _) (Or.inl ⟨(wanted_some g22 h11 d11 (by rfl)), fun w' h => run_op_load_cell 3 _ p22 gz 1 (by rfl) (.int .i64 ((j : Int) + 1)) ((HZ.out.keep h).cell 1) _ Tryd.underlying3 rfl⟩) s0 ?_
      rw [d22]
      simp only [Act.put, List.setIfInBounds_toArray, List.set_cons_zero, List.set_cons_succ]
      refine wpAnyT_take (i := 23) (v := .int .i64 (j : Int)) [23, 24, 25, 26, 27] h23 HNS (by rw [hops]; kernel_rfl) (by rw [hops]; kernel_rfl) (by rw [hops]; kernel_rfl) (fun _ _ _ => NormalOnly.hQ _ _ _) (Or.inl ⟨(wanted_some g23 h11 d11 (by rfl)), fun w' h => (show _ = Result.ok (.value (.int .i64 (IntKind.i64.wrap (((j : Int) + 1) - 1)))) w' from by unfold execOp; rw [p23]; first | rfl | kernel_rfl).trans (by rw [q3])⟩) s0 ?_
      rw [d23]
      simp only [Act.put, List.setIfInBounds_toArray, List.set_cons_zero, List.set_cons_succ]
      refine wpAnyT_take (i := 24) (v := .pointer (some ⟨bt, ot + j * 32, none⟩)) [24, 25, 26, 27] h24 HNS (by rw [hops]; kernel_rfl) (by rw [hops]; kernel_rfl) (by rw [hops]; kernel_rfl) (fun _ _ _ => NormalOnly.hQ _ _ _) (Or.inl ⟨(wanted_some g24 h11 d11 (by rfl)), fun w' h => run_op_index_mid 25 _ _ p24 bt ot m cA2 j (by rfl) (by rfl) hjm 23 32 Tryd.underlying25 Sl.infoD⟩) s0 ?_
      rw [d24]
      simp only [Act.put, List.setIfInBounds_toArray, List.set_cons_zero, List.set_cons_succ]
      refine wpAnyT_take (i := 25) (v := .agg (D.map Dg.b8).toArray) [25, 26, 27] h25 HNS (by rw [hops]; kernel_rfl) (by rw [hops]; kernel_rfl) (by rw [hops]; kernel_rfl) (fun _ _ _ => NormalOnly.hQ _ _ _) (Or.inl ⟨(wanted_some g25 h11 d11 (by rfl)), fun w' h => run_op_load_mid 23 _ p25 bt (ot + j * 32) (by rfl) (D.map Dg.b8) _ (MT.out w' h).1 Tryd.underlying23 rfl (Sl.infoDm _ H32D.out)⟩) s0 ?_
      rw [d25]
      simp only [Act.put, List.setIfInBounds_toArray, List.set_cons_zero, List.set_cons_succ]
      refine wpAnyT_take (i := 26) (v := .bool false) [26, 27] h26 HNS (by rw [hops]; kernel_rfl) (by rw [hops]; kernel_rfl) (by rw [hops]; kernel_rfl) (fun _ _ _ => NormalOnly.hQ _ _ _) (Or.inl ⟨(wanted_some g26 h11 d11 (by rfl)), fun w' h => run_op_neq_agg 23 23 _ _ p26 _ _ _ (by rfl) (by rfl) (by kernel_rfl) ((Sl.neqD _ _ H32D.out H32D.out w').trans (by simp))⟩) s0 ?_
      rw [d26]
      simp only [Act.put, List.setIfInBounds_toArray, List.set_cons_zero, List.set_cons_succ]
      refine wpAnyT_take (i := 27) (v := .bool false) [27] h27 HNS (by rw [hops]; kernel_rfl) (by rw [hops]; kernel_rfl) (by rw [hops]; kernel_rfl) (fun _ _ _ => NormalOnly.hQ _ _ _) (Or.inl ⟨(wanted_none g27), fun w' _ => by unfold execOp; rw [p27]; first | rfl | kernel_rfl⟩) s0 ?_
      rw [d27]
      simp only [Act.put, List.setIfInBounds_toArray, List.set_cons_zero, List.set_cons_succ]
      refine wpAnyT_done (by rw [hops]; kernel_rfl) ⟨rfl, ?_⟩ _
      clear HNS hops h0 d0 p0 g0 h1 d1 p1 g1 h2 d2 p2 g2 h3 d3 p3 g3 h4 d4 p4 g4 h5 d5 p5 g5 h6 d6 p6 g6 h7 d7 p7 g7 h8 d8 p8 g8 h9 d9 p9 g9 h10 d10 p10 g10 h11 d11 p11 g11 h12 d12 p12 g12 h13 d13 p13 g13 h14 d14 p14 g14 h15 d15 p15 g15 h16 d16 p16 g16 h17 d17 p17 g17 h18 d18 p18 g18 h19 d19 p19 g19 h20 d20 p20 g20 h21 d21 p21 g21 h22 d22 p22 g22 h23 d23 p23 g23 h24 d24 p24 g24 h25 d25 p25 g25 h26 d26 p26 g26 h27 d27 p27 g27
      replace HBr := Lib.hid (HBr.out.drew)
      clear MS MT H32D HS12 HT12 HZ q1 q2 q3 HME hjm
      go_wp2_with fail
      go_roundw
      case rel => exact ⟨k + 1, by omega, by go_num, HBr.out⟩
      case measure => simp [intOf]; omega
    · obtain rfl : k = np := by omega
      go_wp2_with fail
      go_ret
      exact ⟨rfl, HB.out.trans (HBr.out.mono HB.out.size)⟩
end Go.Proofs.YtideglpjgplpnaaDoor
