/- The law SharesAny returns true. -/
import Derived.Test.YtpijkjpefdlefaaShPl5
namespace Go.Proofs.Ytpijkjpefdlefaa
open Go.RowKit Go.Shelf
set_option linter.unusedVariables false

theorem own_lit2 (w : World) (o : Obj) (e size base : Nat) (hb : base ≤ w.heap.size) : ((w.alloc o).alloc (.cells #[] e)).ownsRow base e size (.slice (some ⟨w.heap.size + 1, 0, none⟩) 0 0) 0 [] := by
  have h := World.ownsRow_lit (base := base) (e := e) (size := size) (w.alloc o) #[] 0 (by simp; omega) (by decide) (by simp)
  rw [World.size_alloc w o] at h
  exact h
theorem rd_second5 (w : World) (t : TypeId) (cs : List Value) (size : Nat) (o : Obj) (hl : cs.length = size) : Rd ((w.alloc o).alloc (.cells cs.toArray t)) ((w.alloc o).alloc (.cells cs.toArray t)).heap.size size (some ⟨w.heap.size + 1, 0, none⟩) 1 cs := by
  have h := rd_new (w.alloc o) t size cs hl
  rw [World.size_alloc w o] at h
  exact h
theorem rd_old5 (w : World) (t : TypeId) (cs : List Value) (size : Nat) (o : Obj) (hl : cs.length = size) : Rd ((w.alloc (.cells cs.toArray t)).alloc o) (w.alloc (.cells cs.toArray t)).heap.size size (some ⟨w.heap.size, 0, none⟩) 1 cs :=
  (rd_new w t size cs hl).below ((Below.refl _ _).alloc (Nat.le_refl _) _) (Nat.le_refl _)
theorem far_eq {b g : Nat} (h : b ≠ g) : Far (some ⟨b, 0, none⟩) (some g) := by
  rintro b' off e e2
  injection e with e
  injection e with e1
  injection e2 with e2
  omega
theorem Rd.nil_ok {w : World} {A : Option Addr} {n c base e size : Nat} {xs : List Value} (h : w.ownsRow base e size (.slice A n c) n xs) : A = none → c = 0 := own_nil h

theorem Shr.ixs_len (m : UInt8) : ∀ k, (Shr.ixs m k).length ≤ k
  | 0 => Nat.le_refl _
  | k + 1 => by
    have := Shr.ixs_len m k
    rw [Shr.ixs, List.length_append]
    split <;> simp <;> omega
/-- enough chosen shares: what Join answers -/
structure Shr.Enough (l : List Shr.S) (sec : List UInt8) : Prop where
  chk : Shr.chkE l = 0
  e : Shr.joinE l = 0
  v : Shr.joinV l = sec
  d : l[0]!.d.length = sec.length
theorem Shr.enough (sec coins : List UInt8) (ep : Int) (t mn : Nat) (is : List Nat) (hr : is.Pairwise (· < ·)) (hb : ∀ i, i ∈ is → 1 ≤ i ∧ i ≤ mn) (h1 : 1 ≤ t) (h2 : t ≤ mn) (h3 : mn ≤ 8) (h4 : sec.length ≤ 64) (h5 : 0 ≤ ep) (h6 : ep ≤ 1048576) (hc : coins.length = sec.length * (t - 1)) (hl : t ≤ is.length) : Shr.Enough (Shr.sel sec coins ep t mn is) sec := by
  have hne : 0 < is.length := by omega
  have c := Shr.sel_chk sec coins ep t mn is hne hr hb h1 h2 h3 h4 h5 h6
  refine ⟨c, ?_, Shr.sel_joinV sec coins ep t mn is hne hr (fun i hi => by have := hb i hi; omega) h1 hc hl, ?_⟩
  · rw [Shr.sel_join _ _ _ _ _ is hne c, if_neg (by omega)]
  · rw [Shr.sel_at _ _ _ _ _ is 0 hne]; exact Shr.dat_len _ _ _ _
theorem Shr.bad_join (l : List Shr.S) (h : Shr.chkE l = 60) : Shr.joinE l = 60 := by rw [Shr.joinE, if_pos (by rw [h]; decide), h]
/-- a share twice -/
theorem Shr.twice (sec coins : List UInt8) (ep : Int) (t mn : Nat) (is : List Nat) (hne : 0 < is.length) : Shr.joinE (Shr.sel sec coins ep t mn is ++ [(Shr.sel sec coins ep t mn is)[is.length - 1]!]) = 60 := by
  have e : Shr.sel sec coins ep t mn is ++ [(Shr.sel sec coins ep t mn is)[is.length - 1]!] = Shr.sel sec coins ep t mn (is ++ [is[is.length - 1]]) := by
    rw [Shr.sel_at _ _ _ _ _ is _ (by omega), Shr.sel, Shr.sel, List.map_append]
    rfl
  rw [e]
  refine Shr.bad_join _ (Shr.sel_bad _ _ _ _ _ _ (is.length - 1) (by simp; omega) ?_)
  have e1 : (is ++ [is[is.length - 1]])[is.length - 1 + 1]'(by simp; omega) = is[is.length - 1] := by
    rw [List.getElem_append_right (by omega)]
    simp
  have e2 : (is ++ [is[is.length - 1]])[is.length - 1]'(by simp; omega) = is[is.length - 1] := by
    rw [List.getElem_append_left (by omega)]
  rw [e1, e2]
  exact Nat.le_refl _
/-- two shares, exchanged -/
theorem Shr.swapped (sec coins : List UInt8) (ep : Int) (t mn : Nat) (is : List Nat) (hr : is.Pairwise (· < ·)) (h2 : 1 < is.length) : Shr.joinE [(Shr.sel sec coins ep t mn is)[1]!, (Shr.sel sec coins ep t mn is)[0]!] = 60 := by
  rw [Shr.sel_at _ _ _ _ _ is 1 h2, Shr.sel_at _ _ _ _ _ is 0 (by omega)]
  have h := (List.pairwise_iff_getElem.1 hr) 0 1 (by omega) h2 (by omega)
  exact Shr.bad_join _ (Shr.sel_bad sec coins ep t mn [is[1], is[0]] 0 (by simp) (by show is[0] ≤ is[1]; omega))

set_option maxRecDepth 100000 in
set_option maxHeartbeats 4000000 in
theorem Shr.law6a (A A3 : Option Addr) (n c n3 c3 : Nat) (th mn : Int) (a b : UInt8) (w : World) (hn : n ≤ maxLen) (hn3 : n3 ≤ maxLen) (hbig : 20 < n ∨ 200 < n3) :
    Calls Try.prog 8 #[.slice A n c, .int .i64 th, .int .i64 mn, .slice A3 n3 c3, B8 a, B8 b] w fun e w' => e = .returned (.bool true) ∧ Below w.heap.size w w' := by
  by_cases h1 : 20 < n
  · go_enter Try.func8, Try.ntmps8
    go_wp2_with fail
    refine (Shr.sane_any _).mono ?_
    rintro e w1 ⟨rfl, hb1⟩
    have HB1 := Lib.hid hb1
    clear hb1
    go_wp2_with fail
    go_ret
    exact ⟨rfl, HB1.out⟩
  · have h2 : 200 < n3 := by omega
    go_enter Try.func8, Try.ntmps8
    go_wp2_with fail
    refine (Shr.sane_any _).mono ?_
    rintro e w1 ⟨rfl, hb1⟩
    have HB1 := Lib.hid hb1
    clear hb1
    go_wp2_with fail
    go_ret
    exact ⟨rfl, HB1.out⟩

set_option maxRecDepth 100000 in
set_option maxHeartbeats 4000000 in
theorem Shr.law6b (A A3 : Option Addr) (n c n3 c3 : Nat) (th mn : Int) (a b : UInt8) (w : World) (h1 : n ≤ 20) (h2 : n3 ≤ 200) (hth : -9223372036854775808 ≤ th ∧ th ≤ 9223372036854775807) (hE : Shr.spE n 0 th mn n3 ≠ 0) :
    Calls Try.prog 8 #[.slice A n c, .int .i64 th, .int .i64 mn, .slice A3 n3 c3, B8 a, B8 b] w fun e w' => e = .returned (.bool true) ∧ Below w.heap.size w w' := by
  have HE := Lib.hid hE
  obtain ⟨se, hse⟩ : ∃ se, se = Shr.spE n 0 th mn n3 := ⟨_, rfl⟩
  have hq : (se != 0) = true := by rw [hse]; simpa using hE
  have HSE := Lib.hid hse
  clear hE hse
  have HTH := Lib.hid hth
  clear hth
  go_enter Try.func8, Try.ntmps8
  go_wp2_with fail
  refine (Shr.sane_any _).mono ?_
  rintro e w1 ⟨rfl, hb1⟩
  have HB1 := Lib.hid hb1
  clear hb1
  go_wp2_with fail
  refine (Shr.split_no A A3 n c n3 c3 0 th mn w1 (by unfold maxLen; omega) (by unfold maxLen; omega) HTH.out HE.out).mono ?_
  rintro e w2 ⟨rfl, hb2⟩
  rw [← HSE.out]
  have HB2 := Lib.hid (HB1.out.trans (hb2.mono HB1.out.size))
  clear hb2
  go_wp2_with fail
  go_ret
  exact ⟨rfl, HB2.out⟩

set_option maxRecDepth 100000 in
set_option maxHeartbeats 4000000 in
theorem Shr.law6c (A A3 : Option Addr) (n c n3 c3 t mn : Nat) (sec coins : List UInt8) (a b : UInt8) (w : World) (hr : RdB w A n sec) (hr3 : RdB w A3 n3 coins) (hc3 : n3 ≤ c3) (hcm3 : c3 ≤ maxLen) (hnil : A3 = none → c3 = 0) (h1 : n ≤ 20) (h2 : n3 ≤ 200) (k1 : 1 ≤ t) (k2 : t ≤ mn) (k3 : mn ≤ 8) (k4 : n3 = n * (t - 1)) :
    Calls Try.prog 8 #[.slice A n c, .int .i64 (t : Int), .int .i64 (mn : Int), .slice A3 n3 c3, B8 a, B8 b] w fun e w' => e = .returned (.bool true) ∧ Below w.heap.size w w' := by
  have HR := Lib.hid hr
  have HR3 := Lib.hid hr3
  have HC3 := Lib.hid hc3
  have HCM := Lib.hid hcm3
  have HNIL := Lib.hid hnil
  have HK4 := Lib.hid k4
  have HSL := Lib.hid hr.len
  have HCL := Lib.hid (show coins.length = sec.length * (t - 1) by rw [hr3.len, hr.len]; exact k4)
  clear hr hr3 hc3 hcm3 hnil k4
  go_enter Try.func8, Try.ntmps8
  go_wp2_with fail
  refine (Shr.sane_any _).mono ?_
  rintro e w1 ⟨rfl, hb1⟩
  have HB1 := Lib.hid hb1
  clear hb1
  go_wp2_with fail
  refine (Shr.split_yes A A3 n c n3 c3 0 t mn sec coins w1 (HR.out.keep HB1.out) (HR3.out.keep HB1.out) HC3.out HCM.out HNIL.out (by omega) k1 k2 k3 (by omega) (by omega) HK4.out).mono ?_
  rintro e w2 ⟨v2, xs, rfl, hO2, _, hv2, hb2⟩
  obtain ⟨A2, c2, rfl⟩ := own_form hO2.row
  have HB2 := Lib.hid (HB1.out.trans (hb2.mono HB1.out.size))
  have HO2 := Lib.hid hO2
  have HV2 := Lib.hid hv2
  clear hb2 hO2 hv2 HB1
  go_wp2_with fail
  refine (Shr.some_any A2 mn c2 a xs w2 HO2.out.rds k3 (fun x hx => (HO2.out.ok x hx).2.2)).mono ?_
  rintro e w3 ⟨v3, ys, rfl, hO3, hv3, hsub3, hb3⟩
  rw [HV2.out, Shr.pick_sel] at hv3
  have HO23 := Lib.hid (HO2.out.keep hb3)
  have HB3 := Lib.hid (HB2.out.trans (hb3.mono HB2.out.size))
  have HO3 := Lib.hid hO3
  have HV3 := Lib.hid hv3
  clear hO3 hv3 hsub3 hb3 HO2 HB2
  go_wp2_with fail
  refine (Shr.some_any A2 mn c2 b xs w3 HO23.out.rds k3 (fun x hx => (HO23.out.ok x hx).2.2)).mono ?_
  rintro e w4 ⟨v4, zs, rfl, hO4, hv4, hsub4, hb4⟩
  rw [HV2.out, Shr.pick_sel] at hv4
  have HO34 := Lib.hid (HO3.out.keep hb4)
  have HB4 := Lib.hid (HB3.out.trans (hb4.mono HB3.out.size))
  have HO4 := Lib.hid hO4
  have HV4 := Lib.hid hv4
  clear hO4 hv4 hsub4 hb4 HO3 HB3 HO23 HV2
  obtain ⟨Ax, cx, rfl⟩ := own_form HO34.out.row
  obtain ⟨Ay, cy, rfl⟩ := own_form HO4.out.row
  have hxl : ys.length = (Shr.ixs a mn).length := by have := congrArg List.length HV3.out; rwa [Shr.vals_len, Shr.sel_len] at this
  have hyl : zs.length = (Shr.ixs b mn).length := by have := congrArg List.length HV4.out; rwa [Shr.vals_len, Shr.sel_len] at this
  have HXL := Lib.hid hxl
  have HYL := Lib.hid hyl
  generalize ys.length = m at HO34 HXL ⊢
  generalize zs.length = m2 at HO4 HYL ⊢
  clear hxl hyl
  have hm8 : m ≤ 8 := by rw [HXL.out]; exact Nat.le_trans (Shr.ixs_len a mn) k3
  have hm28 : m2 ≤ 8 := by rw [HYL.out]; exact Nat.le_trans (Shr.ixs_len b mn) k3
  by_cases hmt : m < t
  · go_wp2_with fail
    go_ret
    exact ⟨rfl, HB4.out⟩
  · by_cases hmt2 : m2 < t
    · go_wp2_with fail
      go_ret
      exact ⟨rfl, HB4.out⟩
    · have HX := Lib.hid (Shr.enough sec coins 0 t mn (Shr.ixs a mn) (Shr.ixs_rise a mn) (Shr.ixs_mem a mn) k1 k2 k3 (by rw [HSL.out]; omega) (by omega) (by omega) HCL.out (by rw [← HXL.out]; omega))
      have HY := Lib.hid (Shr.enough sec coins 0 t mn (Shr.ixs b mn) (Shr.ixs_rise b mn) (Shr.ixs_mem b mn) k1 k2 k3 (by rw [HSL.out]; omega) (by omega) (by omega) HCL.out (by rw [← HYL.out]; omega))
      have HTW := Lib.hid (Shr.twice sec coins 0 t mn (Shr.ixs a mn) (by rw [← HXL.out]; omega))
      have HSW := Lib.hid (Shr.swapped sec coins 0 t mn (Shr.ixs a mn) (Shr.ixs_rise a mn))
      rw [← HV3.out] at HX HTW HSW
      rw [← HV4.out] at HY
      rw [← HXL.out] at HTW HSW
      have cx1 := own_cap HO34.out.row
      have cy1 := own_cap HO4.out.row
      have HCX := Lib.hid cx1
      have HCY := Lib.hid cy1
      clear cx1 cy1
      go_wp2_with fail
      refine (Shr.join_yes Ax m cx ys w4 HO34.out.rds HCX.out.1 HCX.out.2 HX.out.e).mono ?_
      rintro e w5 ⟨As, cs, rfl, _, hrs, _, _, hb5⟩
      rw [HX.out.v] at hrs
      rw [HX.out.d, HSL.out] at hrs ⊢
      have HB5 := Lib.hid (HB4.out.trans (hb5.mono HB4.out.size))
      have HX5 := Lib.hid (HO34.out.keep hb5)
      have HY5 := Lib.hid (HO4.out.keep hb5)
      have HRS5 := Lib.hid hrs
      clear hb5 hrs HB4 HO34 HO4
      go_wp2_with fail
      refine (Shr.join_yes Ay m2 cy zs w5 HY5.out.rds HCY.out.1 HCY.out.2 HY.out.e).mono ?_
      rintro e w6 ⟨At, ct, rfl, _, hrt, _, _, hb6⟩
      rw [HY.out.v] at hrt
      rw [HY.out.d, HSL.out] at hrt ⊢
      have HB6 := Lib.hid (HB5.out.trans (hb6.mono HB5.out.size))
      have HX6 := Lib.hid (HX5.out.keep hb6)
      have HRS6 := Lib.hid (HRS5.out.keep hb6)
      have HRT6 := Lib.hid hrt
      clear hb6 hrt HB5 HX5 HY5 HRS5
      go_wp2_with fail
      obtain ⟨m', rfl⟩ : ∃ m', m = m' + 1 := ⟨m - 1, by omega⟩
      obtain ⟨bq, offq, hAx, zq, _⟩ := HX6.out.rds.first (by omega)
      subst hAx
      obtain ⟨_, q0, q1, q2, q3, q4⟩ := HX6.out.rds.at2 m' (by omega)
      have hylen : ys.length = m' + 1 := by have := HX6.out.rds.len; exact this
      have HSRC := Lib.hid (rd_of_own HX6.out.row)
      have HONE := Lib.hid (show ∀ u ∈ ys.flatMap Shr.C.cells, u.oneCell' = true from fun u hu => by
        obtain ⟨x, _, hx⟩ := List.mem_flatMap.1 hu
        exact Shr.one_cells x u hx)
      have HNX := Lib.hid (own_nil HX6.out.row)
      have hmemz : ys[m']! ∈ ys := by rw [getElem!_pos ys m' (by omega)]; exact List.getElem_mem _
      have HJ60 := Lib.hid (show Shr.joinE (Shr.vals (ys ++ [ys[m']!])) = 60 by
        have h := HTW.out
        rw [Nat.add_sub_cancel, Shr.vals_at ys m' (by omega)] at h
        rw [Shr.vals, List.map_append]
        exact h)
      have HRB := Lib.hid (show ∀ (AB : Option Addr) (cB : Nat) (wB : World), wB.ownsRow w6.heap.size 41 5 (.slice AB (m' + 1 + 1) cB) (m' + 1 + 1) (ys.flatMap Shr.C.cells ++ [.int .i64 (ys[m']!).s.ep, .int .i64 (ys[m']!).s.ix, .int .i64 (ys[m']!).s.th, .int .i64 (ys[m']!).s.mn, .slice (ys[m']!).A (ys[m']!).s.d.length (ys[m']!).c]) → Below w6.heap.size w6 wB → Shr.Rds wB AB (m' + 1 + 1) (ys ++ [ys[m']!]) from fun AB cB wB ho hb => Shr.Rds.of_own (by rw [List.flatMap_append, List.flatMap_singleton]; exact ho) (fun x hx => by
        have hx' : x ∈ ys := by
          rcases List.mem_append.1 hx with h | h
          · exact h
          · rw [List.mem_singleton] at h; rw [h]; exact hmemz
        exact (HX6.out.ok x hx').1.keep hb))
      generalize ys[m']! = z at q0 q1 q2 q3 q4 HJ60 HRB
      have hw1 : IntKind.i64.wrap (m' : Int) = (m' : Int) := IntWalk.i64_in _ (by omega)
      have i1 : (0 : Int) ≤ (m' : Int) := by omega
      have i2 : (m' : Int) < ((m' + 1 : Nat) : Int) := by omega
      have i3 : (m' : Int) < (m' : Int) + 1 := by omega
      have hw2 : IntKind.i64.wrap (((m' + 1 : Nat) : Int) - 1) = (m' : Int) := by rw [show (((m' + 1 : Nat) : Int) - 1) = (m' : Int) by omega]; exact hw1
      have hw3 : IntKind.i64.wrap ((m' : Int) + 1 - 1) = (m' : Int) := by rw [show ((m' : Int) + 1 - 1) = (m' : Int) by omega]; exact hw1
      clear hylen hmemz
      have OW1 := Lib.hid (show ((w6.alloc (.cells #[] 41)).drew).ownsRow w6.heap.size 41 5 (.slice (some ⟨w6.heap.size, 0, none⟩) 0 0) 0 [] from own_drew (World.ownsRow_lit (base := w6.heap.size) (e := 41) (size := 5) w6 #[] 0 (Nat.le_refl _) (by decide) (by simp)))
      have OW2 := Lib.hid (show (((w6.alloc (.cells #[] 41)).alloc (.cells #[.int .i64 z.s.ep, .int .i64 z.s.ix, .int .i64 z.s.th, .int .i64 z.s.mn, .slice z.A z.s.d.length z.c] 41)).drew).ownsRow w6.heap.size 41 5 (.slice (some ⟨w6.heap.size, 0, none⟩) 0 0) 0 [] from own_drew ((World.ownsRow_lit (base := w6.heap.size) (e := 41) (size := 5) w6 #[] 0 (Nat.le_refl _) (by decide) (by simp)).alloc _))
      have OW3 := Lib.hid (show (((w6.alloc (.cells #[.int .i64 z.s.ep, .int .i64 z.s.ix, .int .i64 z.s.th, .int .i64 z.s.mn, .slice z.A z.s.d.length z.c] 41)).alloc (.cells #[] 41)).drew).ownsRow w6.heap.size 41 5 (.slice (some ⟨w6.heap.size + 1, 0, none⟩) 0 0) 0 [] from own_drew (own_lit2 w6 _ 41 5 w6.heap.size (Nat.le_refl _)))
      have BW1 := Lib.hid (show Below w6.heap.size w6 ((w6.alloc (.cells #[] 41)).drew) from ((Below.refl _ _).alloc (Nat.le_refl _) _).drew)
      have BW2 := Lib.hid (show Below w6.heap.size w6 (((w6.alloc (.cells #[] 41)).alloc (.cells #[.int .i64 z.s.ep, .int .i64 z.s.ix, .int .i64 z.s.th, .int .i64 z.s.mn, .slice z.A z.s.d.length z.c] 41)).drew) from (((Below.refl _ _).alloc (Nat.le_refl _) _).alloc (by simp) _).drew)
      have BW3 := Lib.hid (show Below w6.heap.size w6 (((w6.alloc (.cells #[.int .i64 z.s.ep, .int .i64 z.s.ix, .int .i64 z.s.th, .int .i64 z.s.mn, .slice z.A z.s.d.length z.c] 41)).alloc (.cells #[] 41)).drew) from (((Below.refl _ _).alloc (Nat.le_refl _) _).alloc (by simp) _).drew)
      have FF2 := Lib.hid (show Far (some ⟨w6.heap.size + 1, 0, none⟩) (Value.ownBlock (.slice (some ⟨w6.heap.size, 0, none⟩) 0 0)) from far_eq (show w6.heap.size + 1 ≠ w6.heap.size by omega))
      have FF3 := Lib.hid (show Far (some ⟨w6.heap.size, 0, none⟩) (Value.ownBlock (.slice (some ⟨w6.heap.size + 1, 0, none⟩) 0 0)) from far_eq (show w6.heap.size ≠ w6.heap.size + 1 by omega))
      have SR1 := Lib.hid (HSRC.out.below BW1.out (Nat.le_refl _))
      have SR2 := Lib.hid (HSRC.out.below BW2.out (Nat.le_refl _))
      have SR3 := Lib.hid (HSRC.out.below BW3.out (Nat.le_refl _))
      go_region_held3 (fun w' => w'.cell? ⟨bq, offq + m' * 5, none⟩ = some (.int .i64 z.s.ep) ∧ w'.cell? ⟨bq, offq + m' * 5 + 1, none⟩ = some (.int .i64 z.s.ix) ∧ w'.cell? ⟨bq, offq + m' * 5 + 2, none⟩ = some (.int .i64 z.s.th) ∧ w'.cell? ⟨bq, offq + m' * 5 + 3, none⟩ = some (.int .i64 z.s.mn) ∧ w'.cell? ⟨bq, offq + m' * 5 + 4, none⟩ = some (.slice z.A z.s.d.length z.c))
        (first
          | exact ⟨q0, q1, q2, q3, q4⟩
          | exact ⟨hBw2 hb67 q0 zq, hBw2 hb67 q1 zq, hBw2 hb67 q2 zq, hBw2 hb67 q3 zq, hBw2 hb67 q4 zq⟩
          | exact ⟨hBw2 hbB q0 zq, hBw2 hbB q1 zq, hBw2 hbB q2 zq, hBw2 hbB q3 zq, hBw2 hbB q4 zq⟩
          | exact ⟨hBw2 (hbA.alloc sA _) q0 zq, hBw2 (hbA.alloc sA _) q1 zq, hBw2 (hbA.alloc sA _) q2 zq, hBw2 (hbA.alloc sA _) q3 zq, hBw2 (hbA.alloc sA _) q4 zq⟩
          | exact ⟨hBw2 hbA q0 zq, hBw2 hbA q1 zq, hBw2 hbA q2 zq, hBw2 hbA q3 zq, hBw2 hbA q4 zq⟩
          | exact ⟨hBw2 BW1.out q0 zq, hBw2 BW1.out q1 zq, hBw2 BW1.out q2 zq, hBw2 BW1.out q3 zq, hBw2 BW1.out q4 zq⟩
          | exact ⟨hBw2 BW2.out q0 zq, hBw2 BW2.out q1 zq, hBw2 BW2.out q2 zq, hBw2 BW2.out q3 zq, hBw2 BW2.out q4 zq⟩
          | exact ⟨hBw2 BW3.out q0 zq, hBw2 BW3.out q1 zq, hBw2 BW3.out q2 zq, hBw2 BW3.out q3 zq, hBw2 BW3.out q4 zq⟩
          | exact ⟨hBw2 ((Below.refl _ _).alloc (Nat.le_refl _) _).drew q0 zq, hBw2 ((Below.refl _ _).alloc (Nat.le_refl _) _).drew q1 zq, hBw2 ((Below.refl _ _).alloc (Nat.le_refl _) _).drew q2 zq, hBw2 ((Below.refl _ _).alloc (Nat.le_refl _) _).drew q3 zq, hBw2 ((Below.refl _ _).alloc (Nat.le_refl _) _).drew q4 zq⟩)
        (first
          | (refine step_append_rd (by rfl) (.tmp 72) (.tmp 73) (by rfl) elS (by rfl) OW1.out (by rfl) SR1.out HONE.out HNX.out (by unfold maxLen; omega) (by omega) BW1.out.size ?_; intro vA wA hGA; simp only [Nat.zero_add, List.nil_append] at hGA; have hbA : Below w6.heap.size w6 wA := BW1.out.grown hGA.grown BW1.out.size (fun g e => own_ge OW1.out e); have sA : w6.heap.size ≤ wA.heap.size := hbA.size)
          | (refine step_append_rd (by rfl) (.tmp 72) (.tmp 73) (by rfl) elS (by rfl) OW2.out (by rfl) SR2.out HONE.out HNX.out (by unfold maxLen; omega) (by omega) BW2.out.size ?_; intro vA wA hGA; simp only [Nat.zero_add, List.nil_append] at hGA; have hbA : Below w6.heap.size w6 wA := BW2.out.grown hGA.grown BW2.out.size (fun g e => own_ge OW2.out e); have sA : w6.heap.size ≤ wA.heap.size := hbA.size)
          | (refine step_append_rd (by rfl) (.tmp 72) (.tmp 73) (by rfl) elS (by rfl) OW3.out (by rfl) SR3.out HONE.out HNX.out (by unfold maxLen; omega) (by omega) BW3.out.size ?_; intro vA wA hGA; simp only [Nat.zero_add, List.nil_append] at hGA; have hbA : Below w6.heap.size w6 wA := BW3.out.grown hGA.grown BW3.out.size (fun g e => own_ge OW3.out e); have sA : w6.heap.size ≤ wA.heap.size := hbA.size)
          | (refine step_append_rd (by rfl) (.tmp 74) (.tmp 81) (by rfl) elS (by rfl) (hGA.own.alloc _) (by rfl) (rd_new wA 41 5 [.int .i64 z.s.ep, .int .i64 z.s.ix, .int .i64 z.s.th, .int .i64 z.s.mn, .slice z.A z.s.d.length z.c] rfl) (by simp [Value.oneCell']) (fun h => by (cases h)) (by unfold maxLen; omega) (by omega) (by first | exact sA | (simp; omega)) ?_; intro vB wB hGB; obtain ⟨AB, cB, rfl⟩ := own_form hGB.own; have hbB : Below w6.heap.size w6 wB := (hbA.alloc sA _).grown hGB.grown (by first | exact sA | (simp; omega)) (fun g e => own_ge hGA.own e))
          | (refine step_append_rd (by rfl) (.tmp 74) (.tmp 81) (by rfl) elS (by rfl) (hGA.own) (by rfl) ((rd_second5 w6 41 [.int .i64 z.s.ep, .int .i64 z.s.ix, .int .i64 z.s.th, .int .i64 z.s.mn, .slice z.A z.s.d.length z.c] 5 _ rfl).drew.keptB hGA.grown FF2.out) (by simp [Value.oneCell']) (fun h => by (cases h)) (by unfold maxLen; omega) (by omega) (by first | exact sA | (simp; omega)) ?_; intro vB wB hGB; obtain ⟨AB, cB, rfl⟩ := own_form hGB.own; have hbB : Below w6.heap.size w6 wB := (hbA).grown hGB.grown (by first | exact sA | (simp; omega)) (fun g e => own_ge hGA.own e))
          | (refine step_append_rd (by rfl) (.tmp 74) (.tmp 81) (by rfl) elS (by rfl) (hGA.own) (by rfl) ((rd_old5 w6 41 [.int .i64 z.s.ep, .int .i64 z.s.ix, .int .i64 z.s.th, .int .i64 z.s.mn, .slice z.A z.s.d.length z.c] 5 _ rfl).drew.keptB hGA.grown FF3.out) (by simp [Value.oneCell']) (fun h => by (cases h)) (by unfold maxLen; omega) (by omega) (by first | exact sA | (simp; omega)) ?_; intro vB wB hGB; obtain ⟨AB, cB, rfl⟩ := own_form hGB.own; have hbB : Below w6.heap.size w6 wB := (hbA).grown hGB.grown (by first | exact sA | (simp; omega)) (fun g e => own_ge hGA.own e))
          | (go_at_call 17; (with_reducible refine (Shr.join_no AB (m' + 1 + 1) cB (ys ++ [z]) wB (HRB.out AB cB wB hGB.own hbB) (by unfold maxLen; omega) (by rw [HJ60.out]; decide)).mono ?_); rintro e w7 ⟨rfl, hb7⟩; rw [HJ60.out]; have hb67 : Below w6.heap.size w6 w7 := hbB.trans (hb7.mono hbB.size)))
      all_goals (
        have HB7 := Lib.hid (HB6.out.trans (hb67.mono HB6.out.size))
        have HX7 := Lib.hid (HX6.out.keep hb67)
        have ys7 := (HRS6.out.keep hb67).str (P := Try.prog) Try.underlying23 Try.underlying5 Try.underlying9 cs
        have yt7 := (HRT6.out.keep hb67).str (P := Try.prog) Try.underlying23 Try.underlying5 Try.underlying9 ct
        have hzq7 : bq < w7.heap.size := Nat.lt_of_lt_of_le zq hb67.size
        clear hb67 hb7 hbB hGB hbA hGA sA q0 q1 q2 q3 q4 hw1 hw2 hw3 i1 i2 i3
        by_cases hm1 : m' = 0
        · subst hm1
          go_wp2_with fail
          go_ret
          exact ⟨rfl, HB7.out⟩
        · have hm2 : 1 ≤ m' := by omega
          have j1 : (1 : Int) < ((m' + 1 : Nat) : Int) := by omega
          have j2 : (1 : Int) < (m' : Int) + 1 := by omega
          have j3 : (0 : Int) < (m' : Int) := by omega
          have j4 : 0 < m' := by omega
          obtain ⟨_, t0, t1, t2, t3, t4⟩ := HX7.out.rds.at2 0 (by omega)
          obtain ⟨_, u0, u1, u2, u3, u4⟩ := HX7.out.rds.at2 1 (by omega)
          simp only [Nat.zero_mul, Nat.one_mul, Nat.add_zero] at t0 t1 t2 t3 t4 u0 u1 u2 u3 u4
          have hyl : ys.length = m' + 1 := HX7.out.rds.len
          have HOK0 := Lib.hid (HX7.out.rds.mem 0 (by omega))
          have HOK1 := Lib.hid (HX7.out.rds.mem 1 (by omega))
          have HJ2 := Lib.hid (show Shr.joinE (Shr.vals [ys[1]!, ys[0]!]) = 60 by
            have h := HSW.out (by omega)
            rw [Shr.vals_at ys 1 (by omega), Shr.vals_at ys 0 (by omega)] at h
            exact h)
          generalize ys[1]! = z1 at u0 u1 u2 u3 u4 HOK1 HJ2
          generalize ys[0]! = z0 at t0 t1 t2 t3 t4 HOK0 HJ2
          clear hyl
          have HPRE := Lib.hid (show Below w7.heap.size w7 ((w7.alloc (.cells #[.int .i64 z1.s.ep, .int .i64 z1.s.ix, .int .i64 z1.s.th, .int .i64 z1.s.mn, .slice z1.A z1.s.d.length z1.c, .int .i64 z0.s.ep, .int .i64 z0.s.ix, .int .i64 z0.s.th, .int .i64 z0.s.mn, .slice z0.A z0.s.d.length z0.c] 41)).drew) from ((Below.refl _ _).alloc (Nat.le_refl _) _).drew)
          have HRD := Lib.hid (show Shr.Rds ((w7.alloc (.cells #[.int .i64 z1.s.ep, .int .i64 z1.s.ix, .int .i64 z1.s.th, .int .i64 z1.s.mn, .slice z1.A z1.s.d.length z1.c, .int .i64 z0.s.ep, .int .i64 z0.s.ix, .int .i64 z0.s.th, .int .i64 z0.s.mn, .slice z0.A z0.s.d.length z0.c] 41)).drew) (some ⟨w7.heap.size, 0, none⟩) 2 [z1, z0] by
            have h := (Has.new w7 41 [.int .i64 z1.s.ep, .int .i64 z1.s.ix, .int .i64 z1.s.th, .int .i64 z1.s.mn, .slice z1.A z1.s.d.length z1.c, .int .i64 z0.s.ep, .int .i64 z0.s.ix, .int .i64 z0.s.th, .int .i64 z0.s.mn, .slice z0.A z0.s.d.length z0.c]).drew
            refine ⟨⟨rfl, fun _ => ⟨w7.heap.size, 0, rfl, h.lt, fun j u hu => by rw [Nat.zero_add, h.cell j]; exact hu⟩⟩, rfl, fun x hx => ?_⟩
            simp only [List.mem_cons, List.not_mem_nil, or_false] at hx
            rcases hx with rfl | rfl
            · exact HOK1.out.keep HPRE.out
            · exact HOK0.out.keep HPRE.out)
          go_wp2_with fail
          go_region_held3 (fun w' => w'.cell? ⟨bq, offq + 5, none⟩ = some (.int .i64 z1.s.ep) ∧ w'.cell? ⟨bq, offq + 5 + 1, none⟩ = some (.int .i64 z1.s.ix) ∧ w'.cell? ⟨bq, offq + 5 + 2, none⟩ = some (.int .i64 z1.s.th) ∧ w'.cell? ⟨bq, offq + 5 + 3, none⟩ = some (.int .i64 z1.s.mn) ∧ w'.cell? ⟨bq, offq + 5 + 4, none⟩ = some (.slice z1.A z1.s.d.length z1.c) ∧ w'.cell? ⟨bq, offq, none⟩ = some (.int .i64 z0.s.ep) ∧ w'.cell? ⟨bq, offq + 1, none⟩ = some (.int .i64 z0.s.ix) ∧ w'.cell? ⟨bq, offq + 2, none⟩ = some (.int .i64 z0.s.th) ∧ w'.cell? ⟨bq, offq + 3, none⟩ = some (.int .i64 z0.s.mn) ∧ w'.cell? ⟨bq, offq + 4, none⟩ = some (.slice z0.A z0.s.d.length z0.c))
            (first
              | exact ⟨u0, u1, u2, u3, u4, t0, t1, t2, t3, t4⟩
              | exact ⟨hBw2 hb9 u0 hzq7, hBw2 hb9 u1 hzq7, hBw2 hb9 u2 hzq7, hBw2 hb9 u3 hzq7, hBw2 hb9 u4 hzq7, hBw2 hb9 t0 hzq7, hBw2 hb9 t1 hzq7, hBw2 hb9 t2 hzq7, hBw2 hb9 t3 hzq7, hBw2 hb9 t4 hzq7⟩
              | exact ⟨hBw2 HPRE.out u0 hzq7, hBw2 HPRE.out u1 hzq7, hBw2 HPRE.out u2 hzq7, hBw2 HPRE.out u3 hzq7, hBw2 HPRE.out u4 hzq7, hBw2 HPRE.out t0 hzq7, hBw2 HPRE.out t1 hzq7, hBw2 HPRE.out t2 hzq7, hBw2 HPRE.out t3 hzq7, hBw2 HPRE.out t4 hzq7⟩)
            (first | (go_at_call 17; (with_reducible refine (Shr.join_no _ 2 2 [z1, z0] _ HRD.out (by decide) (by rw [HJ2.out]; decide)).mono ?_); rintro e w9 ⟨rfl, hb9'⟩; rw [HJ2.out]; have hb9 : Below w7.heap.size w7 w9 := HPRE.out.trans (hb9'.mono (by simp))))
          have HB9 := Lib.hid (HB7.out.trans (hb9.mono HB7.out.size))
          clear hb9 hb9'
          go_wp2_with fail
          go_ret
          exact ⟨rfl, HB9.out⟩)

theorem Shr.law6 (A A3 : Option Addr) (n c n3 c3 : Nat) (th mn : Int) (sec coins : List UInt8) (a b : UInt8) (w : World) (hr : RdB w A n sec) (hr3 : RdB w A3 n3 coins) (hn : n ≤ maxLen) (hc3 : n3 ≤ c3) (hcm3 : c3 ≤ maxLen) (hnil : A3 = none → c3 = 0) (hth : -9223372036854775808 ≤ th ∧ th ≤ 9223372036854775807) :
    Calls Try.prog 8 #[.slice A n c, .int .i64 th, .int .i64 mn, .slice A3 n3 c3, B8 a, B8 b] w fun e w' => e = .returned (.bool true) ∧ Below w.heap.size w w' := by
  by_cases hbig : 20 < n ∨ 200 < n3
  · exact Shr.law6a A A3 n c n3 c3 th mn a b w hn (Nat.le_trans hc3 hcm3) hbig
  · by_cases hE : Shr.spE n 0 th mn n3 = 0
    · obtain ⟨_, e2, e3, e4, _, _, e7⟩ := Shr.spE_pos _ _ _ _ _ hE
      obtain ⟨t, rfl⟩ : ∃ t : Nat, th = (t : Int) := ⟨th.toNat, by omega⟩
      obtain ⟨mn', rfl⟩ : ∃ mn' : Nat, mn = (mn' : Int) := ⟨mn.toNat, by omega⟩
      have e7' : n3 = n * (t - 1) := by
        rw [show ((t : Int) - 1) = ((t - 1 : Nat) : Int) by omega, ← Int.natCast_mul] at e7
        omega
      exact Shr.law6c A A3 n c n3 c3 t mn' sec coins a b w hr hr3 hc3 hcm3 hnil (by omega) (by omega) (by omega) (by omega) (by omega) e7'
    · exact Shr.law6b A A3 n c n3 c3 th mn a b w (by omega) (by omega) hth hE
end Go.Proofs.Ytpijkjpefdlefaa
