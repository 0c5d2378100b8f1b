import Derived.Test.YtideglpjgplpnaaDoorMSlMx
/- SealsReturned: the walk. -/
namespace Go.Proofs.YtideglpjgplpnaaDoor
open Go.RowKit Go.Shelf
set_option linter.unusedVariables false
set_option linter.unusedSimpArgs false

theorem Sl.wpAnyT_plain {P : Program} {ops : Array Oper} {Q : Exit → Act → World → Prop} {md : Region.Mode} {S : World → Prop} {T : List Nat} : ∀ (fuel : Nat) (listed : Array Bool) (a : Act) (w : World), wpAnyT P md ops Q S T fuel listed a w → wpAnyT P md ops Q (fun _ => True) [] fuel listed a w
  | 0, _, _, _, h => h
  | fuel + 1, _, _, _, h => ⟨h.1, fun i hi => wpOp_mono (fun a' w' h' => ⟨fun _ => trivial, Sl.wpAnyT_plain fuel _ a' w' h'.2⟩) (h.2 i hi)⟩
theorem Sl.one5 (x : Shr.C) : ∀ v ∈ x.cells, v.oneCell' = true := by
  intro v hv
  simp only [Shr.C.cells, List.mem_cons, List.not_mem_nil, or_false] at hv
  rcases hv with rfl | rfl | rfl | rfl | rfl <;> rfl
set_option maxRecDepth 100000 in
set_option maxHeartbeats 32000000 in
theorem Sl.returned_law (Ab : Option Addr) (nb cb : Nat) (body : List UInt8) (Ak : Option Addr) (nk ck : Nat) (key : List UInt8) (th mn : Int) (Ac : Option Addr) (nc cc : Nat) (coins : List UInt8) (a b at_ : UInt8) (Ao : Option Addr) (no co : Nat) (order : List UInt8) (w : World) (ha : Sl.ArgS w Ab nb cb body Ak nk ck key th mn Ac nc cc coins) (ho : RdB w Ao no order) (hom : no ≤ maxLen) :
    Calls Tryd.prog 4 #[.slice Ab nb cb, .slice Ak nk ck, .int .i64 th, .int .i64 mn, .slice Ac nc cc, B8 a, B8 b, B8 at_, .slice Ao no co] w fun e w' => e = .returned (.bool true) ∧ Below w.heap.size w w' := by
  have HA := Lib.hid ha
  have HO := Lib.hid ho
  have hbm := ha.bm
  have hkm := ha.km
  have hcm0 := Nat.le_trans ha.cl ha.cx
  have HMA := Lib.hid (And.intro hbm (And.intro hkm hcm0))
  unfold maxLen at hbm hkm hcm0 hom
  clear ha ho
  by_cases hbig : 20 < nb ∨ 20 < nk ∨ 200 < nc ∨ 20 < no
  · have big : ∀ (P : Prop), (20 < nb → P) → (¬ 20 < nb → 20 < nk → P) → (¬ 20 < nb → ¬ 20 < nk → 200 < nc → P) → (¬ 20 < nb → ¬ 20 < nk → ¬ 200 < nc → 20 < no → P) → P := by
      intro P f1 f2 f3 f4
      by_cases g1 : 20 < nb
      · exact f1 g1
      · by_cases g2 : 20 < nk
        · exact f2 g1 g2
        · by_cases g3 : 200 < nc
          · exact f3 g1 g2 g3
          · exact f4 g1 g2 g3 (by omega)
    clear hbig
    refine big _ ?_ ?_ ?_ ?_ <;>
    · intros
      go_enter Tryd.func4, Tryd.ntmps4
      go_wp2_with fail
      ((with_reducible refine (Sl.sane_any w HA.out.g).mono ?_); rintro e w1 ⟨rfl, hb1⟩)
      have HB := Lib.hid hb1
      clear hb1
      go_wp2_with fail
      go_ret
      exact ⟨rfl, HB.out⟩
  have hs1 : nb ≤ 20 := by omega
  have hs2 : nk ≤ 20 := by omega
  have hs3 : nc ≤ 200 := by omega
  have hs4 : no ≤ 20 := by omega
  clear hbig
  go_enter Tryd.func4, Tryd.ntmps4
  go_wp2_with fail
  ((with_reducible refine (Sl.sane_any w HA.out.g).mono ?_); rintro e w1 ⟨rfl, hb1⟩)
  have HB := Lib.hid hb1
  clear hb1
  have HI0 := Lib.hid (show (Tryd.prog.info? 27).map (·.size) = some Sl.z36.toArray.size from Sl.infoW)
  by_cases hE : Sl.selE nb nk th mn nc = 0
  rotate_left
  · have HSN := Lib.hid (Sl.seal_no Ab Ak Ac nb cb nk ck nc cc th mn w1 HMA.out.1 HMA.out.2.1 HMA.out.2.2 HA.out.th hE)
    obtain ⟨z, hz⟩ : ∃ z, Sl.selE nb nk th mn nc = z := ⟨_, rfl⟩
    rw [hz] at HSN hE
    have q : (z != 0) = true := by simpa using hE
    clear hz hE
    go_wp2_with fail
    ((with_reducible refine HSN.out.mono ?_); rintro e w3 ⟨rfl, hb3⟩)
    replace HB := Lib.hid (HB.out.trans (hb3.mono HB.out.size))
    clear hb3
    go_wp2_with (first
      | (refine wpList_store_row (o := ⟨none, .store 27 (.tmp 19) (.tmp 64), _, _, _, _⟩) rfl 27 (.tmp 19) (.tmp 64) rfl w3.heap.size Sl.z36.toArray rfl rfl 27 Sl.z36.toArray (World.alloc_heap_new w3 _) HI0.out rfl Sl.z36_one ?_
         obtain ⟨w4, hw4⟩ : ∃ w4, w4 = (w3.alloc (.cells Sl.z36.toArray 27)).setRow w3.heap.size Sl.z36.toArray := ⟨_, rfl⟩
         change wpList _ _ _ _ _ ((w3.alloc (.cells Sl.z36.toArray 27)).setRow w3.heap.size Sl.z36.toArray)
         rw [← hw4]
         have hb4 : Below w3.heap.size w3 w4 := by rw [hw4]; exact below_setRow ((Below.refl _ w3).alloc (Nat.le_refl _) _) (Nat.le_refl _) _
         clear hw4))
    go_ret
    exact ⟨rfl, HB.out.trans (hb4.mono HB.out.size)⟩
  obtain ⟨t, m, rfl, rfl, hkb, hmk⟩ := Sl.seal_cases HA.out hE
  subst nk
  clear hE
  have HMK := Lib.hid hmk
  have hm8 := hmk.m8
  have ht1 := hmk.t1
  have htm := hmk.tm
  have HSY := Lib.hid (Sl.seal_mk (HA.out.keep HB.out) hmk)
  clear hmk
  obtain ⟨s, hs⟩ : ∃ s, Sl.selW body key t m coins = s := ⟨_, rfl⟩
  obtain ⟨l, hl⟩ : ∃ l, Sl.selS key t m coins = l := ⟨_, rfl⟩
  have HSE := Lib.hid hs
  have HLE := Lib.hid hl
  rw [hs, hl] at HSY
  clear hs hl
  go_wp2_with fail
  ((with_reducible refine HSY.out.mono ?_); rintro e w3 ⟨Ad, cd, Am, cA, b0, off0, c, xs, rfl, hok, hr, hv, hnc, hcm, hb3⟩)
  replace HB := Lib.hid (HB.out.trans (hb3.mono HB.out.size))
  have HH := Lib.hid (fun W' he => Sl.Hold.make (W := w3) hok hr hv hnc hcm (W' := W') he)
  have HI := Lib.hid (show (Tryd.prog.info? 27).map (·.size) = some (Sl.row s Ad cd Am cA).toArray.size from by rw [List.size_toArray, Sl.row_len hok.cl]; exact Sl.infoW)
  have HZ := Lib.hid (show Sl.z36.toArray.size = (Sl.row s Ad cd Am cA).toArray.size from by rw [List.size_toArray, List.size_toArray, Sl.row_len hok.cl]; rfl)
  have H1 := Lib.hid (show (Sl.row s Ad cd Am cA).toArray.all (·.oneCell') = true from all_oneCell_toArray (Sl.row_one _ _ _ _ _))
  have HX := Lib.hid (show ∀ x ∈ xs, Sl.rg x.s ∧ x.s.d.length ≤ 10000000 ∧ 1 ≤ x.s.d.length ∧ Sl.bad s x.s = false from by rw [← HSE.out]; exact Sl.sel_rg HMK.out (by rw [HLE.out]; exact hv))
  have HXL := Lib.hid hr.len
  clear hok hr hv hnc hcm hb3 HSY
  go_wp2_with (first
      | (refine wpList_store_row (o := ⟨none, .store 27 (.tmp 19) (.tmp 64), _, _, _, _⟩) rfl 27 (.tmp 19) (.tmp 64) rfl w3.heap.size (Sl.row s Ad cd Am cA).toArray rfl rfl 27 Sl.z36.toArray (World.alloc_heap_new w3 _) HI.out HZ.out H1.out ?_
         obtain ⟨w4, hw4⟩ : ∃ w4, w4 = (w3.alloc (.cells Sl.z36.toArray 27)).setRow w3.heap.size (Sl.row s Ad cd Am cA).toArray := ⟨_, rfl⟩
         change wpList _ _ _ _ _ ((w3.alloc (.cells Sl.z36.toArray 27)).setRow w3.heap.size (Sl.row s Ad cd Am cA).toArray)
         rw [← hw4]
         have H2 := Lib.hid (HH.out w4 hw4)
         clear hw4)
      | (at_builtin
         have ow : (w4.alloc (.cells #[] 43)).ownsRow w4.heap.size 43 5 (.slice (some ⟨w4.heap.size, 0, none⟩) 0 0) 0 [] := World.ownsRow_lit (base := w4.heap.size) (e := 43) (size := 5) w4 #[] 0 (Nat.le_refl _) (by decide) rfl
         have bb : Below w4.heap.size w4 (w4.alloc (.cells #[] 43)) := (Below.refl _ w4).alloc (Nat.le_refl _) _
         refine wpList_append_rd rfl _ _ rfl elS rfl ow rfl (H2.out.1.r.keep bb).rd (Sl.ones xs) (fun e => by cases e) (by unfold maxLen; omega) (by omega) bb.size ?_
         intro v4 w5 hG
         obtain ⟨A6, c6, rfl⟩ := own_form hG.own
         have hB5 : Below w4.heap.size w4 w5 := bb.grown hG.grown bb.size (fun k e => own_ge ow e)
         have row6 := hG.own
         have cap6 := own_cap hG.own
         rw [List.nil_append, Nat.zero_add] at row6
         rw [Nat.zero_add] at cap6
         obtain ⟨gm, rfl, hmx⟩ := Sl.Mx.start row6 HXL.out (by omega) hB5
         have HMX := Lib.hid hmx
         have HC6 := Lib.hid cap6
         clear hG hB5 row6 cap6 hmx ow bb
         rw [Nat.zero_add]))
  obtain ⟨gS, hgS⟩ : ∃ gS, gS = w3.heap.size := ⟨_, rfl⟩
  have HS := Lib.hid H2.out.1
  have hb4 := H2.out.2
  rw [← hgS] at HS ⊢
  replace HB := Lib.hid (HB.out.trans (hb4.mono HB.out.size))
  clear hgS hb4 H2 HH HZ H1
  obtain ⟨T, hT⟩ : ∃ T, Sl.row s Ad cd Am cA = T := ⟨_, rfl⟩
  have HT := Lib.hid hT.symm
  rw [hT] at HI ⊢
  clear hT
  have hm1 : 1 ≤ m := by omega
  go_loopw [74] (fun i wr => ∃ (k : Nat) (ys : List Shr.C), k ≤ no ∧ i = .int .i64 k ∧ Sl.Mx w4 wr gm m xs ys) (fun i _ => no - (intOf i).toNat)
  case atStart => exact ⟨0, xs, by omega, rfl, HMX.out⟩
  case round =>
    obtain ⟨k, ys, hk, rfl, hM⟩ := hrel
    have HM := Lib.hid hM
    clear hM HMX
    by_cases hlt : k < no
    · obtain ⟨bo, oo, rfl, hbo, x0⟩ := (HO.out.keep (HB.out.trans (HM.out.b.mono HB.out.size))).byte k hlt
      obtain ⟨v, hv⟩ : ∃ v, order.getD k 0 = v := ⟨_, rfl⟩
      rw [hv] at x0
      clear hv
      have i1 : (0 : Int) ≤ (k : Int) := by omega
      have i2 : (k : Int) < (no : Int) := by omega
      have hv256 := v.toNat_lt
      go_wp2_with fail
      clear x0 i1 i2
      refine Sl.wp_normal ?_
      have s0 : Below wr.heap.size wr wr.drew := (Below.refl _ wr).drew
      refine wp_region_named (fun ops hops => ?_)
      refine wp_region_T (by kernel_rfl) [] (fun w' => Below wr.heap.size wr w') ?_
      rw [show ops.size = 11 from by rw [hops]; rfl]
      have HNS : Region.noSelect ops = true := by rw [hops]; kernel_rfl
      obtain ⟨o0, h0, d0, p0, g0⟩ := op_at5 hops 0 rfl (d := some 79) (p := Op.move (Operand.tmp 23)) (g := none) rfl rfl rfl
      obtain ⟨o1, h1, d1, p1, g1⟩ := op_at5 hops 1 rfl (d := some 80) (p := Op.move (Operand.tmp 22)) (g := none) rfl rfl rfl
      obtain ⟨o2, h2, d2, p2, g2⟩ := op_at5 hops 2 rfl (d := some 81) (p := Op.call { callee := Callee.builtin Builtin.len, args := #[Operand.tmp 80], argTypes := #[28] }) (g := none) rfl rfl rfl
      obtain ⟨o3, h3, d3, p3, g3⟩ := op_at5 hops 3 rfl (d := some 82) (p := Op.binOp BinOp.rem 3 (Operand.tmp 79) (Operand.tmp 81) 3) (g := none) rfl rfl rfl
      obtain ⟨o4, h4, d4, p4, g4⟩ := op_at5 hops 4 rfl (d := some 83) (p := Op.move (Operand.tmp 24)) (g := none) rfl rfl rfl
      obtain ⟨o5, h5, d5, p5, g5⟩ := op_at5 hops 5 rfl (d := some 84) (p := Op.convert 5 3 (Operand.tmp 83)) (g := none) rfl rfl rfl
      obtain ⟨o6, h6, d6, p6, g6⟩ := op_at5 hops 6 rfl (d := some 85) (p := Op.move (Operand.tmp 22)) (g := none) rfl rfl rfl
      obtain ⟨o7, h7, d7, p7, g7⟩ := op_at5 hops 7 rfl (d := some 86) (p := Op.call { callee := Callee.builtin Builtin.len, args := #[Operand.tmp 85], argTypes := #[28] }) (g := none) rfl rfl rfl
      obtain ⟨o8, h8, d8, p8, g8⟩ := op_at5 hops 8 rfl (d := some 87) (p := Op.binOp BinOp.rem 3 (Operand.tmp 84) (Operand.tmp 86) 3) (g := none) rfl rfl rfl
      obtain ⟨o9, h9, d9, p9, g9⟩ := op_at5 hops 9 rfl (d := some 25) (p := Op.assign (Operand.tmp 82)) (g := none) rfl rfl rfl
      obtain ⟨o10, h10, d10, p10, g10⟩ := op_at5 hops 10 rfl (d := some 26) (p := Op.assign (Operand.tmp 87)) (g := none) rfl rfl rfl
      refine wpAnyT_take (i := 0) (v := .int .i64 (k : Int)) [0, 3, 9, 10] h0 HNS (by rw [hops]; kernel_rfl) (by rw [hops]; kernel_rfl) (by rw [hops]; kernel_rfl) (fun _ _ _ => NormalOnly.hQ _ _ _) (Or.inl ⟨(wanted_none g0), fun w' _ => by unfold execOp; rw [p0]; first | rfl | kernel_rfl⟩) s0 ?_
      rw [d0]
      simp only [Act.put, List.setIfInBounds_toArray, List.set_cons_zero, List.set_cons_succ]
      refine wpAnyT_take (i := 1) (v := .slice (some ⟨gm, 0, none⟩) m c6) [1, 2, 3, 9, 10] h1 HNS (by rw [hops]; kernel_rfl) (by rw [hops]; kernel_rfl) (by rw [hops]; kernel_rfl) (fun _ _ _ => NormalOnly.hQ _ _ _) (Or.inl ⟨(wanted_none g1), fun w' _ => by unfold execOp; rw [p1]; first | rfl | kernel_rfl⟩) s0 ?_
      rw [d1]
      simp only [Act.put, List.setIfInBounds_toArray, List.set_cons_zero, List.set_cons_succ]
      refine wpAnyT_take (i := 2) (v := .int .i64 (m : Int)) [2, 3, 9, 10] h2 HNS (by rw [hops]; kernel_rfl) (by rw [hops]; kernel_rfl) (by rw [hops]; kernel_rfl) (fun _ _ _ => NormalOnly.hQ _ _ _) (Or.inl ⟨(wanted_none g2), fun w' _ => by unfold execOp; rw [p2]; first | rfl | kernel_rfl⟩) s0 ?_
      rw [d2]
      simp only [Act.put, List.setIfInBounds_toArray, List.set_cons_zero, List.set_cons_succ]
      refine wpAnyT_take (i := 3) (v := .int .i64 ((k % m : Nat) : Int)) [3, 9, 10] h3 HNS (by rw [hops]; kernel_rfl) (by rw [hops]; kernel_rfl) (by rw [hops]; kernel_rfl) (fun _ _ _ => NormalOnly.hQ _ _ _) (Or.inl ⟨(wanted_none g3), fun w' h => Sl.run_op_rem _ _ _ _ p3 (k) m (by rfl) (by rfl) (by omega) (by omega)⟩) s0 ?_
      rw [d3]
      simp only [Act.put, List.setIfInBounds_toArray, List.set_cons_zero, List.set_cons_succ]
      refine wpAnyT_take (i := 4) (v := B8 v) [4, 5, 8, 10] h4 HNS (by rw [hops]; kernel_rfl) (by rw [hops]; kernel_rfl) (by rw [hops]; kernel_rfl) (fun _ _ _ => NormalOnly.hQ _ _ _) (Or.inl ⟨(wanted_none g4), fun w' _ => by unfold execOp; rw [p4]; first | rfl | kernel_rfl⟩) s0 ?_
      rw [d4]
      simp only [Act.put, List.setIfInBounds_toArray, List.set_cons_zero, List.set_cons_succ]
      refine wpAnyT_take (i := 5) (v := .int .i64 (v.toNat : Int)) [5, 8, 10] h5 HNS (by rw [hops]; kernel_rfl) (by rw [hops]; kernel_rfl) (by rw [hops]; kernel_rfl) (fun _ _ _ => NormalOnly.hQ _ _ _) (Or.inl ⟨(wanted_none g5), fun w' h => (show _ = Result.ok (.value (.int .i64 (IntKind.i64.wrap (v.toNat : Int)))) w' from by unfold execOp; rw [p5]; first | rfl | kernel_rfl).trans (by rw [IntWalk.i64_in _ (by omega)])⟩) s0 ?_
      rw [d5]
      simp only [Act.put, List.setIfInBounds_toArray, List.set_cons_zero, List.set_cons_succ]
      refine wpAnyT_take (i := 6) (v := .slice (some ⟨gm, 0, none⟩) m c6) [6, 7, 8, 10] h6 HNS (by rw [hops]; kernel_rfl) (by rw [hops]; kernel_rfl) (by rw [hops]; kernel_rfl) (fun _ _ _ => NormalOnly.hQ _ _ _) (Or.inl ⟨(wanted_none g6), fun w' _ => by unfold execOp; rw [p6]; first | rfl | kernel_rfl⟩) s0 ?_
      rw [d6]
      simp only [Act.put, List.setIfInBounds_toArray, List.set_cons_zero, List.set_cons_succ]
      refine wpAnyT_take (i := 7) (v := .int .i64 (m : Int)) [7, 8, 10] h7 HNS (by rw [hops]; kernel_rfl) (by rw [hops]; kernel_rfl) (by rw [hops]; kernel_rfl) (fun _ _ _ => NormalOnly.hQ _ _ _) (Or.inl ⟨(wanted_none g7), fun w' _ => by unfold execOp; rw [p7]; first | rfl | kernel_rfl⟩) s0 ?_
      rw [d7]
      simp only [Act.put, List.setIfInBounds_toArray, List.set_cons_zero, List.set_cons_succ]
      refine wpAnyT_take (i := 8) (v := .int .i64 ((v.toNat % m : Nat) : Int)) [8, 10] h8 HNS (by rw [hops]; kernel_rfl) (by rw [hops]; kernel_rfl) (by rw [hops]; kernel_rfl) (fun _ _ _ => NormalOnly.hQ _ _ _) (Or.inl ⟨(wanted_none g8), fun w' h => Sl.run_op_rem _ _ _ _ p8 (v.toNat) m (by rfl) (by rfl) (by omega) (by omega)⟩) s0 ?_
      rw [d8]
      simp only [Act.put, List.setIfInBounds_toArray, List.set_cons_zero, List.set_cons_succ]
      refine wpAnyT_take (i := 9) (v := .int .i64 ((k % m : Nat) : Int)) [9, 10] h9 HNS (by rw [hops]; kernel_rfl) (by rw [hops]; kernel_rfl) (by rw [hops]; kernel_rfl) (fun _ _ _ => NormalOnly.hQ _ _ _) (Or.inl ⟨(wanted_none g9), fun w' _ => by unfold execOp; rw [p9]; first | rfl | kernel_rfl⟩) s0 ?_
      rw [d9]
      simp only [Act.put, List.setIfInBounds_toArray, List.set_cons_zero, List.set_cons_succ]
      refine wpAnyT_take (i := 10) (v := .int .i64 ((v.toNat % m : Nat) : Int)) [10] h10 HNS (by rw [hops]; kernel_rfl) (by rw [hops]; kernel_rfl) (by rw [hops]; kernel_rfl) (fun _ _ _ => NormalOnly.hQ _ _ _) (Or.inl ⟨(wanted_none g10), fun w' _ => by unfold execOp; rw [p10]; first | rfl | kernel_rfl⟩) s0 ?_
      rw [d10]
      simp only [Act.put, List.setIfInBounds_toArray, List.set_cons_zero, List.set_cons_succ]
      refine wpAnyT_done (by rw [hops]; kernel_rfl) ⟨rfl, ?_⟩ _
      clear HNS hops h0 d0 p0 g0 h1 d1 p1 g1 h2 d2 p2 g2 h3 d3 p3 g3 h4 d4 p4 g4 h5 d5 p5 g5 h6 d6 p6 g6 h7 d7 p7 g7 h8 d8 p8 g8 h9 d9 p9 g9 h10 d10 p10 g10
      replace HM := Lib.hid HM.out.drew
      have hk1 : k % m < m := Nat.mod_lt _ (by omega)
      have hk2 : v.toNat % m < m := Nat.mod_lt _ (by omega)
      obtain ⟨p, hp⟩ : ∃ p, k % m = p := ⟨_, rfl⟩
      obtain ⟨q, hq⟩ : ∃ q, v.toNat % m = q := ⟨_, rfl⟩
      rw [hp] at hk1 ⊢
      rw [hq] at hk2 ⊢
      clear hp hq hv256
      obtain ⟨y1, hy1⟩ : ∃ y, ys[p]? = some y := ⟨_, List.getElem?_eq_getElem (by rw [HM.out.len]; exact hk1)⟩
      obtain ⟨y2, hy2⟩ : ∃ y, ys[q]? = some y := ⟨_, List.getElem?_eq_getElem (by rw [HM.out.len]; exact hk2)⟩
      have HY1 := Lib.hid hy1
      have HY2 := Lib.hid hy2
      clear hy1 hy2
      go_wp2_with fail
      obtain ⟨w7, hw7⟩ : ∃ w7, wr.drew = w7 := ⟨_, rfl⟩
      rw [hw7] at HM ⊢
      clear hw7
      refine Sl.wp_normal ?_
      refine wp_region_named (fun ops hops => ?_)
      refine wp_region_T (by kernel_rfl) [] (fun _ => True) ?_
      rw [show ops.size = 16 from by rw [hops]; rfl]
      have HNS : Region.noSelect ops = true := by rw [hops]; kernel_rfl
      have s0 : w7.drew = w7.drew := rfl
      obtain ⟨o0, h0, d0, p0, g0⟩ := op_at5 hops 0 rfl (d := some 88) (p := Op.move (Operand.tmp 22)) (g := none) rfl rfl rfl
      obtain ⟨o1, h1, d1, p1, g1⟩ := op_at5 hops 1 rfl (d := some 89) (p := Op.move (Operand.tmp 25)) (g := none) rfl rfl rfl
      obtain ⟨o2, h2, d2, p2, g2⟩ := op_at5 hops 2 rfl (d := some 90) (p := Op.move (Operand.tmp 22)) (g := none) rfl rfl rfl
      obtain ⟨o3, h3, d3, p3, g3⟩ := op_at5 hops 3 rfl (d := some 91) (p := Op.move (Operand.tmp 26)) (g := none) rfl rfl rfl
      obtain ⟨o4, h4, d4, p4, g4⟩ := op_at5 hops 4 rfl (d := some 92) (p := Op.move (Operand.tmp 22)) (g := none) rfl rfl rfl
      obtain ⟨o5, h5, d5, p5, g5⟩ := op_at5 hops 5 rfl (d := some 93) (p := Op.move (Operand.tmp 26)) (g := none) rfl rfl rfl
      obtain ⟨o6, h6, d6, p6, g6⟩ := op_at5 hops 6 rfl (d := some 94) (p := Op.indexAddr 28 (Operand.tmp 92) (Operand.tmp 93)) (g := none) rfl rfl rfl
      obtain ⟨o7, h7, d7, p7, g7⟩ := op_at5 hops 7 rfl (d := some 95) (p := Op.load 43 (Operand.tmp 94)) (g := none) rfl rfl rfl
      obtain ⟨o8, h8, d8, p8, g8⟩ := op_at5 hops 8 rfl (d := some 96) (p := Op.move (Operand.tmp 22)) (g := none) rfl rfl rfl
      obtain ⟨o9, h9, d9, p9, g9⟩ := op_at5 hops 9 rfl (d := some 97) (p := Op.move (Operand.tmp 25)) (g := none) rfl rfl rfl
      obtain ⟨o10, h10, d10, p10, g10⟩ := op_at5 hops 10 rfl (d := some 98) (p := Op.indexAddr 28 (Operand.tmp 96) (Operand.tmp 97)) (g := none) rfl rfl rfl
      obtain ⟨o11, h11, d11, p11, g11⟩ := op_at5 hops 11 rfl (d := some 99) (p := Op.load 43 (Operand.tmp 98)) (g := none) rfl rfl rfl
      obtain ⟨o12, h12, d12, p12, g12⟩ := op_at5 hops 12 rfl (d := some 100) (p := Op.indexAddr 28 (Operand.tmp 88) (Operand.tmp 89)) (g := none) rfl rfl rfl
      obtain ⟨o13, h13, d13, p13, g13⟩ := op_at5 hops 13 rfl (d := none) (p := Op.store 43 (Operand.tmp 100) (Operand.tmp 95)) (g := none) rfl rfl rfl
      obtain ⟨o14, h14, d14, p14, g14⟩ := op_at5 hops 14 rfl (d := some 101) (p := Op.indexAddr 28 (Operand.tmp 90) (Operand.tmp 91)) (g := none) rfl rfl rfl
      obtain ⟨o15, h15, d15, p15, g15⟩ := op_at5 hops 15 rfl (d := none) (p := Op.store 43 (Operand.tmp 101) (Operand.tmp 99)) (g := none) rfl rfl rfl
      refine wpAnyT_take (i := 2) (v := .slice (some ⟨gm, 0, none⟩) m c6) [2, 14, 15] h2 HNS (by rw [hops]; kernel_rfl) (by rw [hops]; kernel_rfl) (by rw [hops]; kernel_rfl) (fun _ _ _ => NormalOnly.hQ _ _ _) (Or.inl ⟨(wanted_none g2), fun w' _ => by unfold execOp; rw [p2]; first | rfl | kernel_rfl⟩) trivial ?_
      rw [d2]
      simp only [Act.put, List.setIfInBounds_toArray, List.set_cons_zero, List.set_cons_succ]
      refine wpAnyT_take (i := 3) (v := .int .i64 (q : Int)) [3, 14, 15] h3 HNS (by rw [hops]; kernel_rfl) (by rw [hops]; kernel_rfl) (by rw [hops]; kernel_rfl) (fun _ _ _ => NormalOnly.hQ _ _ _) (Or.inl ⟨(wanted_none g3), fun w' _ => by unfold execOp; rw [p3]; first | rfl | kernel_rfl⟩) trivial ?_
      rw [d3]
      simp only [Act.put, List.setIfInBounds_toArray, List.set_cons_zero, List.set_cons_succ]
      refine Sl.wpAnyT_plain (S := fun w' => w' = w7.drew) (T := [13, 14, 15]) _ _ _ _ ?_
      refine wpAnyT_take (i := 0) (v := .slice (some ⟨gm, 0, none⟩) m c6) [0, 12, 13, 14, 15] h0 HNS (by rw [hops]; kernel_rfl) (by rw [hops]; kernel_rfl) (by rw [hops]; kernel_rfl) (fun _ _ _ => NormalOnly.hQ _ _ _) (Or.inl ⟨(wanted_none g0), fun w' _ => by unfold execOp; rw [p0]; first | rfl | kernel_rfl⟩) s0 ?_
      rw [d0]
      simp only [Act.put, List.setIfInBounds_toArray, List.set_cons_zero, List.set_cons_succ]
      refine wpAnyT_take (i := 1) (v := .int .i64 (p : Int)) [1, 12, 13, 14, 15] h1 HNS (by rw [hops]; kernel_rfl) (by rw [hops]; kernel_rfl) (by rw [hops]; kernel_rfl) (fun _ _ _ => NormalOnly.hQ _ _ _) (Or.inl ⟨(wanted_none g1), fun w' _ => by unfold execOp; rw [p1]; first | rfl | kernel_rfl⟩) s0 ?_
      rw [d1]
      simp only [Act.put, List.setIfInBounds_toArray, List.set_cons_zero, List.set_cons_succ]
      refine wpAnyT_take (i := 4) (v := .slice (some ⟨gm, 0, none⟩) m c6) [4, 6, 7, 12, 13, 14, 15] h4 HNS (by rw [hops]; kernel_rfl) (by rw [hops]; kernel_rfl) (by rw [hops]; kernel_rfl) (fun _ _ _ => NormalOnly.hQ _ _ _) (Or.inl ⟨(wanted_none g4), fun w' _ => by unfold execOp; rw [p4]; first | rfl | kernel_rfl⟩) s0 ?_
      rw [d4]
      simp only [Act.put, List.setIfInBounds_toArray, List.set_cons_zero, List.set_cons_succ]
      refine wpAnyT_take (i := 5) (v := .int .i64 (q : Int)) [5, 6, 7, 12, 13, 14, 15] h5 HNS (by rw [hops]; kernel_rfl) (by rw [hops]; kernel_rfl) (by rw [hops]; kernel_rfl) (fun _ _ _ => NormalOnly.hQ _ _ _) (Or.inl ⟨(wanted_none g5), fun w' _ => by unfold execOp; rw [p5]; first | rfl | kernel_rfl⟩) s0 ?_
      rw [d5]
      simp only [Act.put, List.setIfInBounds_toArray, List.set_cons_zero, List.set_cons_succ]
      refine wpAnyT_take (i := 6) (v := .pointer (some ⟨gm, q * 5, none⟩)) [6, 7, 12, 13, 14, 15] h6 HNS (by rw [hops]; kernel_rfl) (by rw [hops]; kernel_rfl) (by rw [hops]; kernel_rfl) (fun _ _ _ => NormalOnly.hQ _ _ _) (Or.inl ⟨(wanted_none g6), fun w' h => (run_op_index_mid 28 _ _ p6 gm 0 m c6 q (by rfl) (by rfl) hk2 43 5 Tryd.underlying28 Sl.info5).trans (by rw [Nat.zero_add])⟩) s0 ?_
      rw [d6]
      simp only [Act.put, List.setIfInBounds_toArray, List.set_cons_zero, List.set_cons_succ]
      refine wpAnyT_take (i := 7) (v := .agg y2.cells.toArray) [7, 12, 13, 14, 15] h7 HNS (by rw [hops]; kernel_rfl) (by rw [hops]; kernel_rfl) (by rw [hops]; kernel_rfl) (fun _ _ _ => NormalOnly.hQ _ _ _) (Or.inl ⟨(wanted_none g7), fun w' h => run_op_load_mid 43 _ p7 gm (q * 5) (by rfl) y2.cells _ (by rw [h]; exact HM.out.drew.rd q y2 HY2.out) Tryd.underlying43 rfl Sl.info5⟩) s0 ?_
      rw [d7]
      simp only [Act.put, List.setIfInBounds_toArray, List.set_cons_zero, List.set_cons_succ]
      refine wpAnyT_take (i := 8) (v := .slice (some ⟨gm, 0, none⟩) m c6) [8, 10, 11, 12, 13, 14, 15] h8 HNS (by rw [hops]; kernel_rfl) (by rw [hops]; kernel_rfl) (by rw [hops]; kernel_rfl) (fun _ _ _ => NormalOnly.hQ _ _ _) (Or.inl ⟨(wanted_none g8), fun w' _ => by unfold execOp; rw [p8]; first | rfl | kernel_rfl⟩) s0 ?_
      rw [d8]
      simp only [Act.put, List.setIfInBounds_toArray, List.set_cons_zero, List.set_cons_succ]
      refine wpAnyT_take (i := 9) (v := .int .i64 (p : Int)) [9, 10, 11, 12, 13, 14, 15] h9 HNS (by rw [hops]; kernel_rfl) (by rw [hops]; kernel_rfl) (by rw [hops]; kernel_rfl) (fun _ _ _ => NormalOnly.hQ _ _ _) (Or.inl ⟨(wanted_none g9), fun w' _ => by unfold execOp; rw [p9]; first | rfl | kernel_rfl⟩) s0 ?_
      rw [d9]
      simp only [Act.put, List.setIfInBounds_toArray, List.set_cons_zero, List.set_cons_succ]
      refine wpAnyT_take (i := 10) (v := .pointer (some ⟨gm, p * 5, none⟩)) [10, 11, 12, 13, 14, 15] h10 HNS (by rw [hops]; kernel_rfl) (by rw [hops]; kernel_rfl) (by rw [hops]; kernel_rfl) (fun _ _ _ => NormalOnly.hQ _ _ _) (Or.inl ⟨(wanted_none g10), fun w' h => (run_op_index_mid 28 _ _ p10 gm 0 m c6 p (by rfl) (by rfl) hk1 43 5 Tryd.underlying28 Sl.info5).trans (by rw [Nat.zero_add])⟩) s0 ?_
      rw [d10]
      simp only [Act.put, List.setIfInBounds_toArray, List.set_cons_zero, List.set_cons_succ]
      refine wpAnyT_take (i := 11) (v := .agg y1.cells.toArray) [11, 12, 13, 14, 15] h11 HNS (by rw [hops]; kernel_rfl) (by rw [hops]; kernel_rfl) (by rw [hops]; kernel_rfl) (fun _ _ _ => NormalOnly.hQ _ _ _) (Or.inl ⟨(wanted_none g11), fun w' h => run_op_load_mid 43 _ p11 gm (p * 5) (by rfl) y1.cells _ (by rw [h]; exact HM.out.drew.rd p y1 HY1.out) Tryd.underlying43 rfl Sl.info5⟩) s0 ?_
      rw [d11]
      simp only [Act.put, List.setIfInBounds_toArray, List.set_cons_zero, List.set_cons_succ]
      refine wpAnyT_take (i := 12) (v := .pointer (some ⟨gm, p * 5, none⟩)) [12, 13, 14, 15] h12 HNS (by rw [hops]; kernel_rfl) (by rw [hops]; kernel_rfl) (by rw [hops]; kernel_rfl) (fun _ _ _ => NormalOnly.hQ _ _ _) (Or.inl ⟨(wanted_none g12), fun w' h => (run_op_index_mid 28 _ _ p12 gm 0 m c6 p (by rfl) (by rfl) hk1 43 5 Tryd.underlying28 Sl.info5).trans (by rw [Nat.zero_add])⟩) s0 ?_
      rw [d12]
      simp only [Act.put, List.setIfInBounds_toArray, List.set_cons_zero, List.set_cons_succ]
      have hm0 := HM.out.drew
      refine wpAnyT_one (by rw [hops]; kernel_rfl) h13 (wanted_none g13) (fun K hK => ?_)
      refine wp_store_mid 43 _ _ p13 gm (p * 5) y2.cells.toArray (by rfl) (by rfl) (hm0.there p hk1) Sl.info5 (all_oneCell_toArray (Sl.one5 y2)) ?_
      rw [d13]
      simp only [Act.put, List.setIfInBounds_toArray, List.set_cons_zero, List.set_cons_succ]
      refine hK.out _ _ (fun h => absurd (by decide) h) ?_
      clear hK K
      have hm1' := hm0.set p hk1 y2 (HM.out.mem _ (List.mem_of_getElem? HY2.out))
      refine wpAnyT_one (by rw [hops]; kernel_rfl) h14 (wanted_none g14) (fun K hK => ?_)
      refine wp_runG (w' := w7.drew.setCells gm (p * 5) y2.cells) (v := .pointer (some ⟨gm, q * 5, none⟩)) ((run_op_index_mid 28 _ _ p14 gm 0 m c6 q (by rfl) (by rfl) hk2 43 5 Tryd.underlying28 Sl.info5).trans (by rw [Nat.zero_add])) ?_
      rw [d14]
      simp only [Act.put, List.setIfInBounds_toArray, List.set_cons_zero, List.set_cons_succ]
      refine hK.out _ _ (fun h => absurd (by decide) h) ?_
      clear hK K
      refine wpAnyT_one (by rw [hops]; kernel_rfl) h15 (wanted_none g15) (fun K hK => ?_)
      refine wp_store_mid 43 _ _ p15 gm (q * 5) y1.cells.toArray (by rfl) (by rfl) (hm1'.there q hk2) Sl.info5 (all_oneCell_toArray (Sl.one5 y1)) ?_
      rw [d15]
      simp only [Act.put, List.setIfInBounds_toArray, List.set_cons_zero, List.set_cons_succ]
      refine hK.out _ _ (fun h => absurd (by decide) h) ?_
      clear hK K
      have hm2 := hm1'.set q hk2 y1 (HM.out.mem _ (List.mem_of_getElem? HY1.out))
      refine wpAnyT_done (by rw [hops]; kernel_rfl) ⟨rfl, ?_⟩ _
      have HM2 := Lib.hid hm2
      clear hm0 hm1' hm2 s0
      clear HNS hops h0 d0 p0 g0 h1 d1 p1 g1 h2 d2 p2 g2 h3 d3 p3 g3 h4 d4 p4 g4 h5 d5 p5 g5 h6 d6 p6 g6 h7 d7 p7 g7 h8 d8 p8 g8 h9 d9 p9 g9 h10 d10 p10 g10 h11 d11 p11 g11 h12 d12 p12 g12 h13 d13 p13 g13 h14 d14 p14 g14 h15 d15 p15 g15
      obtain ⟨w8, hw8⟩ : ∃ w8, (w7.drew.setCells gm (p * 5) y2.cells.toArray.toList).setCells gm (q * 5) y1.cells.toArray.toList = w8 := ⟨_, rfl⟩
      replace HM2 := Lib.hid (show Sl.Mx w4 ((w7.drew.setCells gm (p * 5) y2.cells.toArray.toList).setCells gm (q * 5) y1.cells.toArray.toList) gm m xs _ from HM2.out)
      rw [hw8] at HM2 ⊢
      clear hw8 hk1 hk2
      go_wp2_with fail
      go_roundw
      case rel => exact ⟨k + 1, _, by omega, by go_num, HM2.out⟩
      case measure => simp [intOf]; omega
    · obtain rfl : k = no := by omega
      have HYR := Lib.hid (HM.out.rds (fun x hx => HS.out.r.ok x hx))
      have HMEM := Lib.hid HM.out.mem
      have hbm4 := HM.out.b
      replace HS := Lib.hid (HS.out.keep hbm4)
      replace HB := Lib.hid (HB.out.trans (hbm4.mono HB.out.size))
      have HLI := Lib.hid (show Sl.Lies wr body key coins t m s l xs Ad cd Am cA from ⟨HMK.out, HSE.out, HLE.out, HS.out.v, HS.out.ok, HA.out.g.keep HB.out⟩)
      clear hbm4 HM
      have hal := Sl.alt_any (some ⟨gm, 0, none⟩) m c6 ys s Ad cd Am cA wr (HLI.out.rdy HMEM.out (by omega) HYR.out)
      rw [HLI.out.alt HMEM.out, HLI.out.chk, ← HT.out] at hal
      have HAL := Lib.hid hal
      clear hal HYR HMEM
      have HSr := Lib.hid (show wr.heap[gS]? = some (.cells T.toArray 27 (0, 0)) from by rw [HT.out]; exact HS.out.h)
      go_wp2_with (with_reducible refine wpList_load_row rfl 27 (.tmp 19) rfl gS rfl 27 T.toArray (0, 0) _ HSr.out Tryd.underlying27 rfl HI.out ?_)
      ((with_reducible refine HAL.out.mono ?_); rintro e w11 ⟨A9, c9, rfl, _, hb11⟩)
      clear HAL HSr
      replace HS := Lib.hid (HS.out.keep hb11)
      replace HLI := Lib.hid (HLI.out.keep hb11)
      replace HB := Lib.hid (HB.out.trans (hb11.mono HB.out.size))
      clear hb11
      have HLT := Lib.hid (Sl.data_lt HS.out.r (fun x hx => (HLI.out.all x hx).2.2.1))
      go_wp2_with fail
      ((with_reducible refine (Sl.some_any (some ⟨b0, off0, none⟩) m c a xs w11 HS.out.r hm8 HLT.out).mono ?_); rintro e w12 ⟨v1, ys1, rfl, hO1, hv1, hsub1, hb12⟩)
      obtain ⟨A12, c12, rfl⟩ := own_form hO1.row
      rw [HS.out.v] at hv1
      have HP := Lib.hid hb12
      have HO1 := Lib.hid hO1.row
      have HR1 := Lib.hid hO1.rds
      have HV1 := Lib.hid hv1
      have HU1 := Lib.hid hsub1
      clear hO1 hv1 hsub1 hb12
      go_wp2_with fail
      ((with_reducible refine (Sl.some_any (some ⟨b0, off0, none⟩) m c b xs w12 (HS.out.r.keep HP.out) hm8 (fun x hx b off e => Nat.lt_of_lt_of_le (HLT.out x hx b off e) HP.out.size)).mono ?_); rintro e w13 ⟨v2, ys2, rfl, hO2, hv2, hsub2, hb13⟩)
      obtain ⟨A13, c13, rfl⟩ := own_form hO2.row
      rw [HS.out.v] at hv2
      replace HO1 := Lib.hid (own_below HO1.out hb13)
      replace HR1 := Lib.hid (HR1.out.keep hb13)
      replace HP := Lib.hid (HP.out.trans (hb13.mono HP.out.size))
      have HR2 := Lib.hid hO2.rds
      have CAPQ := Lib.hid (own_cap hO2.row)
      have HV2 := Lib.hid hv2
      have HU2 := Lib.hid hsub2
      clear hO2 hv2 hsub2 hb13
      have ho1 := Sl.open_any A12 ys1.length c12 ys1 s Ad cd Am cA w13 ((HLI.out.keep HP.out).rdy HU1.out (by have := HLI.out.plen HV1.out; omega) HR1.out) (own_cap HO1.out).1 (own_cap HO1.out).2
      have HZ1 := Lib.hid (HLI.out.opn HV1.out)
      obtain ⟨z1, hz1⟩ : ∃ z, Sl.opnE s (Shr.vals ys1) = z := ⟨_, rfl⟩
      obtain ⟨V1, hV1⟩ : ∃ V, Sl.opnV s (Shr.vals ys1) = V := ⟨_, rfl⟩
      rw [hz1, hV1] at ho1 HZ1
      rw [← HT.out] at ho1
      have HN1 := Lib.hid (HLI.out.plen HV1.out)
      have HOP1 := Lib.hid ho1
      obtain ⟨np, hnp⟩ : ∃ np, ys1.length = np := ⟨_, rfl⟩
      have HNP := Lib.hid hnp
      rw [hnp] at HO1 HR1 HN1 HZ1 HOP1 ⊢
      have hnp8 : np ≤ 8 := HN1.out
      clear ho1 hz1 hV1 hnp HN1
      have HSr := Lib.hid (show w13.heap[gS]? = some (.cells T.toArray 27 (0, 0)) from by rw [HT.out]; exact (HS.out.keep HP.out).h)
      go_wp2_with (with_reducible refine wpList_load_row rfl 27 (.tmp 19) rfl gS rfl 27 T.toArray (0, 0) _ HSr.out Tryd.underlying27 rfl HI.out ?_)
      ((with_reducible refine HOP1.out.mono ?_); rintro e w14 ⟨A14, c14, rfl, _, hr14, hb14⟩)
      clear HOP1 HSr
      replace HO1 := Lib.hid (own_below HO1.out hb14)
      replace HR1 := Lib.hid (HR1.out.keep hb14)
      replace HR2 := Lib.hid (HR2.out.keep hb14)
      replace HP := Lib.hid (HP.out.trans (hb14.mono HP.out.size))
      have HW1 := Lib.hid hr14
      clear hb14 hr14
      have ho2 := Sl.open_any A13 ys2.length c13 ys2 s Ad cd Am cA w14 ((HLI.out.keep HP.out).rdy HU2.out (by have := HLI.out.plen HV2.out; omega) HR2.out) CAPQ.out.1 CAPQ.out.2
      have HZ2 := Lib.hid (HLI.out.opn HV2.out)
      obtain ⟨z2, hz2⟩ : ∃ z, Sl.opnE s (Shr.vals ys2) = z := ⟨_, rfl⟩
      obtain ⟨V2, hV2⟩ : ∃ V, Sl.opnV s (Shr.vals ys2) = V := ⟨_, rfl⟩
      rw [hz2, hV2] at ho2 HZ2
      rw [← HT.out] at ho2
      have HOP2 := Lib.hid ho2
      have HN2 := Lib.hid (HLI.out.plen HV2.out)
      obtain ⟨nq, hnq⟩ : ∃ nq, ys2.length = nq := ⟨_, rfl⟩
      rw [hnq] at HN2 HZ2 HOP2 ⊢
      have hnq8 : nq ≤ 8 := HN2.out
      clear ho2 hz2 hV2 hnq HN2 HR2 HU2 HV2 CAPQ
      have HSr := Lib.hid (show w14.heap[gS]? = some (.cells T.toArray 27 (0, 0)) from by rw [HT.out]; exact (HS.out.keep HP.out).h)
      go_wp2_with (with_reducible refine wpList_load_row rfl 27 (.tmp 19) rfl gS rfl 27 T.toArray (0, 0) _ HSr.out Tryd.underlying27 rfl HI.out ?_)
      ((with_reducible refine HOP2.out.mono ?_); rintro e w15 ⟨A15, c15, rfl, _, hr15, hb15⟩)
      clear HOP2 HSr
      replace HO1 := Lib.hid (own_below HO1.out hb15)
      replace HR1 := Lib.hid (HR1.out.keep hb15)
      replace HP := Lib.hid (HP.out.trans (hb15.mono HP.out.size))
      replace HW1 := Lib.hid (HW1.out.keep hb15)
      have HW2 := Lib.hid hr15
      clear hb15 hr15
      have HB15 := Lib.hid (HB.out.trans (HP.out.mono HB.out.size))
      go_upto_region 21 with fail
      go_cut [165] from 134 to 165 (fun v165 wx => v165 = .bool false ∧ w15 = wx)
      case first =>
        have k0 := RdB.str (P := Tryd.prog) (HA.out.rb.keep HB15.out) Tryd.underlying24 Tryd.underlying5 Tryd.underlying9 cb
        by_cases g1 : t ≤ np
        · obtain ⟨e1, e2⟩ := HZ1.out g1
          have k1 := (RdB.str (P := Tryd.prog) (HW1.out) Tryd.underlying24 Tryd.underlying5 Tryd.underlying9 c14).trans (show _ = Result.ok (Value.string ⟨body.toArray⟩) w15 by rw [e2])
          have q1 : (z1 != 0) = false := by rw [e1]; rfl
          clear e1 e2
          by_cases g2 : t ≤ nq
          · obtain ⟨e3, e4⟩ := HZ2.out g2
            have k2 := (RdB.str (P := Tryd.prog) (HW2.out) Tryd.underlying24 Tryd.underlying5 Tryd.underlying9 c15).trans (show _ = Result.ok (Value.string ⟨body.toArray⟩) w15 by rw [e4])
            have q2 : (z2 != 0) = false := by rw [e3]; rfl
            clear e3 e4
            go_wp2_with fail
            go_meet
            exact ⟨rfl, rfl⟩
          · go_wp2_with fail
            go_meet
            exact ⟨rfl, rfl⟩
        · by_cases g2 : t ≤ nq
          · obtain ⟨e3, e4⟩ := HZ2.out g2
            have k2 := (RdB.str (P := Tryd.prog) (HW2.out) Tryd.underlying24 Tryd.underlying5 Tryd.underlying9 c15).trans (show _ = Result.ok (Value.string ⟨body.toArray⟩) w15 by rw [e4])
            have q2 : (z2 != 0) = false := by rw [e3]; rfl
            clear e3 e4
            go_wp2_with fail
            go_meet
            exact ⟨rfl, rfl⟩
          · go_wp2_with fail
            go_meet
            exact ⟨rfl, rfl⟩
      case rest =>
        obtain ⟨rfl, rfl⟩ := hcut
        clear HZ1 HZ2 HW1 HW2
        by_cases hp0 : np = 0
        · subst hp0
          go_wp2_with fail
          go_ret
          exact ⟨rfl, HB15.out⟩
        have hnp0 : 0 < np := by omega
        obtain ⟨kk, hkk⟩ : ∃ kk, at_.toNat % np = kk := ⟨_, rfl⟩
        have hkn : kk < np := by rw [← hkk]; exact Nat.mod_lt _ hnp0
        obtain ⟨gp, rfl, hgp, hcells⟩ := Sl.own_at HO1.out HNP.out hnp0
        obtain ⟨y, hy⟩ : ∃ y, ys1[kk]? = some y := ⟨_, List.getElem?_eq_getElem (by rw [HNP.out]; exact hkn)⟩
        obtain ⟨c1, c2⟩ := hcells kk y hy
        have HY := Lib.hid hy
        have HGP := Lib.hid hgp
        have hat := at_.toNat_lt
        have ha256 := a.toNat_lt
        have q1 : IntKind.i64.wrap ((at_.toNat : Nat) : Int) = (at_.toNat : Int) := IntWalk.i64_in _ (by omega)
        have q2 : IntKind.i64.wrap ((a.toNat : Nat) : Int) = (a.toNat : Int) := IntWalk.i64_in _ (by omega)
        have q3 : Int.tmod (at_.toNat : Int) (np : Int) = (kk : Int) := by rw [← hkk]; rfl
        obtain ⟨vv, hvv⟩ : ∃ vv : Int, (a.toNat : Int) - (at_.toNat : Int) = vv := ⟨_, rfl⟩
        have hv64 : -9223372036854775808 ≤ vv ∧ vv ≤ 9223372036854775807 := by omega
        have q4 : IntKind.i64.wrap ((a.toNat : Int) - (at_.toNat : Int)) = vv := (IntWalk.i64_in _ (by omega)).trans hvv
        have HVV := Lib.hid hv64
        have i1 : (0 : Int) ≤ (kk : Int) := by omega
        have i2 : (kk : Int) < (np : Int) := by omega
        clear hy hgp hcells hkk hvv hv64 hat ha256
        go_upto_region 26 with fail
        change Code.wp _ _ _ _ (w15.setCell ⟨gp, kk * 5 + 1, none⟩ (.int .i64 vv))
        obtain ⟨w16, hw16⟩ : ∃ w16, w15.setCell ⟨gp, kk * 5 + 1, none⟩ (.int .i64 vv) = w16 := ⟨_, rfl⟩
        have hR3 := Sl.Rds.reix HR1.out kk y HY.out vv (fun z hz b off e => by have h1 := HLT.out z (HU1.out z hz) b off e; have h2 := HGP.out; omega)
        have hB3 := HP.out.setCell (p := ⟨gp, kk * 5 + 1, none⟩) HGP.out (.int .i64 vv)
        rw [hw16] at hR3 hB3 ⊢
        clear hw16
        replace HP := Lib.hid hB3
        have hrd3 : Sl.Rdy w16 (some ⟨gp, 0, none⟩) np (ys1.set kk (Sl.reix y vv)) s Ad cd Am cA := ⟨hR3, fun x hx => by
            rcases List.mem_or_eq_of_mem_set hx with hx | rfl
            · exact (HLI.out.all x (HU1.out x hx)).1
            · have h5 := (HLI.out.all y (HU1.out y (List.mem_of_getElem? HY.out))).1
              exact ⟨h5.1, HVV.out, h5.2.2.1, h5.2.2.2⟩, by omega, fun x hx => by
            rcases List.mem_or_eq_of_mem_set hx with hx | rfl
            · exact (HLI.out.all x (HU1.out x hx)).2.1
            · exact (HLI.out.all y (HU1.out y (List.mem_of_getElem? HY.out))).2.1, HLI.out.ok.keep HP.out, HLI.out.k.keep HP.out⟩
        have ho3 := Sl.open_any (some ⟨gp, 0, none⟩) np c12 (ys1.set kk (Sl.reix y vv)) s Ad cd Am cA w16 hrd3 (own_cap HO1.out).1 (own_cap HO1.out).2
        have HYES := Lib.hid (fun h => Sl.opn_yes (s := s) (l := Shr.vals (ys1.set kk (Sl.reix y vv))) h)
        have HD64 := Lib.hid (Sl.good HLI.out.chk).d64
        obtain ⟨z3, hz3⟩ : ∃ z, Sl.opnE s (Shr.vals (ys1.set kk (Sl.reix y vv))) = z := ⟨_, rfl⟩
        obtain ⟨V3, hV3⟩ : ∃ V, Sl.opnV s (Shr.vals (ys1.set kk (Sl.reix y vv))) = V := ⟨_, rfl⟩
        rw [hz3, hV3] at ho3 HYES
        rw [← HT.out] at ho3
        have HOP3 := Lib.hid ho3
        have HS16 := Lib.hid (show Has w16 gS 27 T from by rw [HT.out]; exact (HS.out.keep HP.out).h)
        have HSr := Lib.hid (show w16.heap[gS]? = some (.cells T.toArray 27 (0, 0)) from HS16.out)
        clear ho3 hz3 hV3 hrd3 hR3 hB3 HO1 HR1 HY HU1 HLT HGP c1 c2 q1 q2 q3 q4 i1 i2 HVV HNP HV1
        go_wp2_with (with_reducible refine wpList_load_row rfl 27 (.tmp 19) rfl gS rfl 27 T.toArray (0, 0) _ HSr.out Tryd.underlying27 rfl HI.out ?_)
        ((with_reducible refine HOP3.out.mono ?_); rintro e w17 ⟨A17, c17, rfl, hq17, hr17, hb17⟩)
        clear HSr HOP3
        replace HS16 := Lib.hid (HS16.out.keep hb17)
        replace HP := Lib.hid (HP.out.trans (hb17.mono HP.out.size))
        have HB17 := Lib.hid (HB.out.trans (HP.out.mono HB.out.size))
        have HQ17 := Lib.hid hq17
        have HR17 := Lib.hid hr17
        have HCL := Lib.hid HS.out.ok.cl
        have HG17 := Lib.hid (HLI.out.k.keep HP.out)
        clear hq17 hr17 hb17
        obtain ⟨n3, hn3⟩ : ∃ n3, V3.length = n3 := ⟨_, rfl⟩
        rw [hn3] at HR17 HYES ⊢
        clear hn3
        go_wp2_with fail
        by_cases h3 : z3 = 0
        · subst h3
          obtain ⟨hy1, hy2, hy3, hy4⟩ := HYES.out rfl
          have hn64 : n3 ≤ 1000000 := by have := HD64.out; omega
          have HCM := Lib.hid hy4
          clear hy1 hy2 hy3 hy4 HYES
          refine Sl.wp_normal ?_
          have s0 : Below w17.heap.size w17 w17.drew := (Below.refl _ w17).drew
          refine wp_region_named (fun ops hops => ?_)
          refine wp_region_T (by kernel_rfl) [] (fun w' => Below w17.heap.size w17 w') ?_
          rw [show ops.size = 10 from by rw [hops]; rfl]
          have HNS : Region.noSelect ops = true := by rw [hops]; kernel_rfl
          obtain ⟨o0, h0, d0, p0, g0⟩ := op_at5 hops 0 rfl (d := some 188) (p := Op.move (Operand.tmp 36)) (g := none) rfl rfl rfl
          obtain ⟨o1, h1, d1, p1, g1⟩ := op_at5 hops 1 rfl (d := some 189) (p := Op.binOp BinOp.neq 32 (Operand.tmp 188) (Operand.const (Value.int IntKind.i64 0)) 32) (g := none) rfl rfl rfl
          obtain ⟨o2, h2, d2, p2, g2⟩ := op_at5 hops 2 rfl (d := some 190) (p := Op.move (Operand.tmp 189)) (g := none) rfl rfl rfl
          obtain ⟨o3, h3, d3, p3, g3⟩ := op_at5 hops 3 rfl (d := some 191) (p := Op.move (Operand.tmp 35)) (g := some (2, false)) rfl rfl rfl
          obtain ⟨o4, h4, d4, p4, g4⟩ := op_at5 hops 4 rfl (d := some 192) (p := Op.call { callee := Callee.value (Operand.func 15), args := #[Operand.const (Value.string { data := #[99, 111, 109, 109, 105, 116] }), Operand.tmp 191], argTypes := #[9, 24] }) (g := some (2, false)) rfl rfl rfl
          obtain ⟨o5, h5, d5, p5, g5⟩ := op_at5 hops 5 rfl (d := some 193) (p := Op.fieldAddr 27 (Operand.tmp 19) 0) (g := some (2, false)) rfl rfl rfl
          obtain ⟨o6, h6, d6, p6, g6⟩ := op_at5 hops 6 rfl (d := some 194) (p := Op.load 23 (Operand.tmp 193)) (g := some (2, false)) rfl rfl rfl
          obtain ⟨o7, h7, d7, p7, g7⟩ := op_at5 hops 7 rfl (d := some 195) (p := Op.binOp BinOp.eql 23 (Operand.tmp 192) (Operand.tmp 194) 23) (g := some (2, false)) rfl rfl rfl
          obtain ⟨o8, h8, d8, p8, g8⟩ := op_at5 hops 8 rfl (d := some 196) (p := Op.pick (Operand.tmp 190) (Operand.const (Value.bool true)) (Operand.tmp 195)) (g := none) rfl rfl rfl
          obtain ⟨o9, h9, d9, p9, g9⟩ := op_at5 hops 9 rfl (d := some 18) (p := Op.assign (Operand.tmp 196)) (g := none) rfl rfl rfl
          have HE15 := Lib.hid (enters_of Tryd.func15 (by kernel_rfl) rfl)
          refine wpAnyT_take (i := 0) (v := .int .i64 0) [0, 1, 2, 3, 4, 5, 6, 7, 8, 9] h0 HNS (by rw [hops]; kernel_rfl) (by rw [hops]; kernel_rfl) (by rw [hops]; kernel_rfl) (fun _ _ _ => NormalOnly.hQ _ _ _) (Or.inl ⟨(wanted_none g0), fun w' _ => by unfold execOp; rw [p0]; first | rfl | kernel_rfl⟩) s0 ?_
          rw [d0]
          simp only [Act.put, List.setIfInBounds_toArray, List.set_cons_zero, List.set_cons_succ]
          refine wpAnyT_take (i := 1) (v := .bool false) [1, 2, 3, 4, 5, 6, 7, 8, 9] h1 HNS (by rw [hops]; kernel_rfl) (by rw [hops]; kernel_rfl) (by rw [hops]; kernel_rfl) (fun _ _ _ => NormalOnly.hQ _ _ _) (Or.inl ⟨(wanted_none g1), fun w' _ => by unfold execOp; rw [p1]; first | rfl | kernel_rfl⟩) s0 ?_
          rw [d1]
          simp only [Act.put, List.setIfInBounds_toArray, List.set_cons_zero, List.set_cons_succ]
          refine wpAnyT_take (i := 2) (v := .bool false) [2, 3, 4, 5, 6, 7, 8, 9] h2 HNS (by rw [hops]; kernel_rfl) (by rw [hops]; kernel_rfl) (by rw [hops]; kernel_rfl) (fun _ _ _ => NormalOnly.hQ _ _ _) (Or.inl ⟨(wanted_none g2), fun w' _ => by unfold execOp; rw [p2]; first | rfl | kernel_rfl⟩) s0 ?_
          rw [d2]
          simp only [Act.put, List.setIfInBounds_toArray, List.set_cons_zero, List.set_cons_succ]
          refine wpAnyT_take (i := 3) (v := .slice A17 n3 c17) [3, 4, 7, 8, 9] h3 HNS (by rw [hops]; kernel_rfl) (by rw [hops]; kernel_rfl) (by rw [hops]; kernel_rfl) (fun _ _ _ => NormalOnly.hQ _ _ _) (Or.inl ⟨(wanted_some g3 h2 d2 (by rfl)), fun w' _ => by unfold execOp; rw [p3]; first | rfl | kernel_rfl⟩) s0 ?_
          rw [d3]
          simp only [Act.put, List.setIfInBounds_toArray, List.set_cons_zero, List.set_cons_succ]
          refine wpAnyT_take (i := 5) (v := .pointer (some ⟨gS, 0, none⟩)) [5, 6, 7, 8, 9] h5 HNS (by rw [hops]; kernel_rfl) (by rw [hops]; kernel_rfl) (by rw [hops]; kernel_rfl) (fun _ _ _ => NormalOnly.hQ _ _ _) (Or.inl ⟨(wanted_some g5 h2 d2 (by rfl)), fun w' _ => by unfold execOp; rw [p5]; first | rfl | kernel_rfl⟩) s0 ?_
          rw [d5]
          simp only [Act.put, List.setIfInBounds_toArray, List.set_cons_zero, List.set_cons_succ]
          refine wpAnyT_take (i := 6) (v := .agg (s.cm.map Dg.b8).toArray) [6, 7, 8, 9] h6 HNS (by rw [hops]; kernel_rfl) (by rw [hops]; kernel_rfl) (by rw [hops]; kernel_rfl) (fun _ _ _ => NormalOnly.hQ _ _ _) (Or.inl ⟨(wanted_some g6 h2 d2 (by rfl)), fun w' h => run_op_load_mid 23 _ p6 gS 0 (by rfl) (s.cm.map Dg.b8) _ (Sl.rowAtH (by have h2 := HS16.out.keep h; rw [HT.out] at h2; exact h2)) Tryd.underlying23 rfl (Sl.infoDm _ HCL.out)⟩) s0 ?_
          rw [d6]
          simp only [Act.put, List.setIfInBounds_toArray, List.set_cons_zero, List.set_cons_succ]
          refine wpAnyT_one (by rw [hops]; kernel_rfl) h4 (wanted_some g4 h2 d2 (by rfl)) (fun K hK => ?_)
          refine wp_call2 15 _ _ _ (.string ⟨Sl.tgC.toArray⟩) (.slice A17 n3 c17) p4 HE15.out (by rfl) (by rfl) ?_
          (refine (Sl.tag_cm _ A17 n3 c17 V3 s.cm (HR17.out.keep s0) HQ17.out hn64 (HG17.out.keep s0) HCM.out).mono ?_; rintro e w18 ⟨rfl, hb0⟩)
          have s1 : Below w17.heap.size w17 w18 := s0.trans (hb0.mono s0.size)
          clear hb0
          refine ⟨_, rfl, ?_⟩
          rw [d4]
          simp only [Act.put, List.setIfInBounds_toArray, List.set_cons_zero, List.set_cons_succ]
          refine hK.out _ _ (fun _ => s1) ?_
          clear hK K
          refine wpAnyT_take (i := 7) (v := .bool true) [7, 8, 9] h7 HNS (by rw [hops]; kernel_rfl) (by rw [hops]; kernel_rfl) (by rw [hops]; kernel_rfl) (fun _ _ _ => NormalOnly.hQ _ _ _) (Or.inl ⟨(wanted_some g7 h2 d2 (by rfl)), fun w' h => Sl.run_op_eql_agg 23 23 _ _ p7 _ _ _ (by rfl) (by rfl) (by kernel_rfl) (Sl.eqlD (s.cm) HCL.out w')⟩) s1 ?_
          rw [d7]
          simp only [Act.put, List.setIfInBounds_toArray, List.set_cons_zero, List.set_cons_succ]
          refine wpAnyT_take (i := 8) (v := .bool true) [8, 9] h8 HNS (by rw [hops]; kernel_rfl) (by rw [hops]; kernel_rfl) (by rw [hops]; kernel_rfl) (fun _ _ _ => NormalOnly.hQ _ _ _) (Or.inl ⟨(wanted_none g8), fun w' _ => by unfold execOp; rw [p8]; first | rfl | kernel_rfl⟩) s1 ?_
          rw [d8]
          simp only [Act.put, List.setIfInBounds_toArray, List.set_cons_zero, List.set_cons_succ]
          refine wpAnyT_take (i := 9) (v := .bool true) [9] h9 HNS (by rw [hops]; kernel_rfl) (by rw [hops]; kernel_rfl) (by rw [hops]; kernel_rfl) (fun _ _ _ => NormalOnly.hQ _ _ _) (Or.inl ⟨(wanted_none g9), fun w' _ => by unfold execOp; rw [p9]; first | rfl | kernel_rfl⟩) s1 ?_
          rw [d9]
          simp only [Act.put, List.setIfInBounds_toArray, List.set_cons_zero, List.set_cons_succ]
          refine wpAnyT_done (by rw [hops]; kernel_rfl) ⟨rfl, ?_⟩ _
          clear HNS hops h0 d0 p0 g0 h1 d1 p1 g1 h2 d2 p2 g2 h3 d3 p3 g3 h4 d4 p4 g4 h5 d5 p5 g5 h6 d6 p6 g6 h7 d7 p7 g7 h8 d8 p8 g8 h9 d9 p9 g9
          clear s0
          clear HE15
          go_wp2_with fail
          go_ret
          exact ⟨rfl, HB17.out.trans (s1.mono HB17.out.size)⟩
        · have q3 : (z3 != 0) = true := by simpa using h3
          clear HYES
          refine Sl.wp_normal ?_
          have s0 : Below w17.heap.size w17 w17.drew := (Below.refl _ w17).drew
          refine wp_region_named (fun ops hops => ?_)
          refine wp_region_T (by kernel_rfl) [] (fun w' => Below w17.heap.size w17 w') ?_
          rw [show ops.size = 10 from by rw [hops]; rfl]
          have HNS : Region.noSelect ops = true := by rw [hops]; kernel_rfl
          obtain ⟨o0, h0, d0, p0, g0⟩ := op_at5 hops 0 rfl (d := some 188) (p := Op.move (Operand.tmp 36)) (g := none) rfl rfl rfl
          obtain ⟨o1, h1, d1, p1, g1⟩ := op_at5 hops 1 rfl (d := some 189) (p := Op.binOp BinOp.neq 32 (Operand.tmp 188) (Operand.const (Value.int IntKind.i64 0)) 32) (g := none) rfl rfl rfl
          obtain ⟨o2, h2, d2, p2, g2⟩ := op_at5 hops 2 rfl (d := some 190) (p := Op.move (Operand.tmp 189)) (g := none) rfl rfl rfl
          obtain ⟨o3, h3, d3, p3, g3⟩ := op_at5 hops 3 rfl (d := some 191) (p := Op.move (Operand.tmp 35)) (g := some (2, false)) rfl rfl rfl
          obtain ⟨o4, h4, d4, p4, g4⟩ := op_at5 hops 4 rfl (d := some 192) (p := Op.call { callee := Callee.value (Operand.func 15), args := #[Operand.const (Value.string { data := #[99, 111, 109, 109, 105, 116] }), Operand.tmp 191], argTypes := #[9, 24] }) (g := some (2, false)) rfl rfl rfl
          obtain ⟨o5, h5, d5, p5, g5⟩ := op_at5 hops 5 rfl (d := some 193) (p := Op.fieldAddr 27 (Operand.tmp 19) 0) (g := some (2, false)) rfl rfl rfl
          obtain ⟨o6, h6, d6, p6, g6⟩ := op_at5 hops 6 rfl (d := some 194) (p := Op.load 23 (Operand.tmp 193)) (g := some (2, false)) rfl rfl rfl
          obtain ⟨o7, h7, d7, p7, g7⟩ := op_at5 hops 7 rfl (d := some 195) (p := Op.binOp BinOp.eql 23 (Operand.tmp 192) (Operand.tmp 194) 23) (g := some (2, false)) rfl rfl rfl
          obtain ⟨o8, h8, d8, p8, g8⟩ := op_at5 hops 8 rfl (d := some 196) (p := Op.pick (Operand.tmp 190) (Operand.const (Value.bool true)) (Operand.tmp 195)) (g := none) rfl rfl rfl
          obtain ⟨o9, h9, d9, p9, g9⟩ := op_at5 hops 9 rfl (d := some 18) (p := Op.assign (Operand.tmp 196)) (g := none) rfl rfl rfl
          refine wpAnyT_take (i := 0) (v := .int .i64 z3) [0, 1, 2, 3, 4, 5, 6, 7, 8, 9] h0 HNS (by rw [hops]; kernel_rfl) (by rw [hops]; kernel_rfl) (by rw [hops]; kernel_rfl) (fun _ _ _ => NormalOnly.hQ _ _ _) (Or.inl ⟨(wanted_none g0), fun w' _ => by unfold execOp; rw [p0]; first | rfl | kernel_rfl⟩) s0 ?_
          rw [d0]
          simp only [Act.put, List.setIfInBounds_toArray, List.set_cons_zero, List.set_cons_succ]
          refine wpAnyT_take (i := 1) (v := .bool true) [1, 2, 3, 4, 5, 6, 7, 8, 9] h1 HNS (by rw [hops]; kernel_rfl) (by rw [hops]; kernel_rfl) (by rw [hops]; kernel_rfl) (fun _ _ _ => NormalOnly.hQ _ _ _) (Or.inl ⟨(wanted_none g1), fun w' h => (show _ = Result.ok (.value (.bool (z3 != 0))) w' from by unfold execOp; rw [p1]; first | rfl | kernel_rfl).trans (by rw [q3])⟩) s0 ?_
          rw [d1]
          simp only [Act.put, List.setIfInBounds_toArray, List.set_cons_zero, List.set_cons_succ]
          refine wpAnyT_take (i := 2) (v := .bool true) [2, 3, 4, 5, 6, 7, 8, 9] h2 HNS (by rw [hops]; kernel_rfl) (by rw [hops]; kernel_rfl) (by rw [hops]; kernel_rfl) (fun _ _ _ => NormalOnly.hQ _ _ _) (Or.inl ⟨(wanted_none g2), fun w' _ => by unfold execOp; rw [p2]; first | rfl | kernel_rfl⟩) s0 ?_
          rw [d2]
          simp only [Act.put, List.setIfInBounds_toArray, List.set_cons_zero, List.set_cons_succ]
          refine wpAnyT_take (i := 3) (v := undef) [3, 4, 7, 8, 9] h3 HNS (by rw [hops]; kernel_rfl) (by rw [hops]; kernel_rfl) (by rw [hops]; kernel_rfl) (fun _ _ _ => NormalOnly.hQ _ _ _) (Or.inr ⟨(unwanted_some g3 h2 d2 (by rfl)), rfl⟩) s0 ?_
          rw [d3]
          simp only [Act.put, List.setIfInBounds_toArray, List.set_cons_zero, List.set_cons_succ]
          refine wpAnyT_take (i := 5) (v := undef) [5, 6, 7, 8, 9] h5 HNS (by rw [hops]; kernel_rfl) (by rw [hops]; kernel_rfl) (by rw [hops]; kernel_rfl) (fun _ _ _ => NormalOnly.hQ _ _ _) (Or.inr ⟨(unwanted_some g5 h2 d2 (by rfl)), rfl⟩) s0 ?_
          rw [d5]
          simp only [Act.put, List.setIfInBounds_toArray, List.set_cons_zero, List.set_cons_succ]
          refine wpAnyT_take (i := 6) (v := undef) [6, 7, 8, 9] h6 HNS (by rw [hops]; kernel_rfl) (by rw [hops]; kernel_rfl) (by rw [hops]; kernel_rfl) (fun _ _ _ => NormalOnly.hQ _ _ _) (Or.inr ⟨(unwanted_some g6 h2 d2 (by rfl)), rfl⟩) s0 ?_
          rw [d6]
          simp only [Act.put, List.setIfInBounds_toArray, List.set_cons_zero, List.set_cons_succ]
          refine wpAnyT_skip (by rw [hops]; kernel_rfl) h4 (unwanted_some g4 h2 d2 (by rfl)) (fun _ => s0) ?_
          rw [d4]
          simp only [Act.put, List.setIfInBounds_toArray, List.set_cons_zero, List.set_cons_succ]
          refine wpAnyT_take (i := 7) (v := undef) [7, 8, 9] h7 HNS (by rw [hops]; kernel_rfl) (by rw [hops]; kernel_rfl) (by rw [hops]; kernel_rfl) (fun _ _ _ => NormalOnly.hQ _ _ _) (Or.inr ⟨(unwanted_some g7 h2 d2 (by rfl)), rfl⟩) s0 ?_
          rw [d7]
          simp only [Act.put, List.setIfInBounds_toArray, List.set_cons_zero, List.set_cons_succ]
          refine wpAnyT_take (i := 8) (v := .bool true) [8, 9] h8 HNS (by rw [hops]; kernel_rfl) (by rw [hops]; kernel_rfl) (by rw [hops]; kernel_rfl) (fun _ _ _ => NormalOnly.hQ _ _ _) (Or.inl ⟨(wanted_none g8), fun w' _ => by unfold execOp; rw [p8]; first | rfl | kernel_rfl⟩) s0 ?_
          rw [d8]
          simp only [Act.put, List.setIfInBounds_toArray, List.set_cons_zero, List.set_cons_succ]
          refine wpAnyT_take (i := 9) (v := .bool true) [9] h9 HNS (by rw [hops]; kernel_rfl) (by rw [hops]; kernel_rfl) (by rw [hops]; kernel_rfl) (fun _ _ _ => NormalOnly.hQ _ _ _) (Or.inl ⟨(wanted_none g9), fun w' _ => by unfold execOp; rw [p9]; first | rfl | kernel_rfl⟩) s0 ?_
          rw [d9]
          simp only [Act.put, List.setIfInBounds_toArray, List.set_cons_zero, List.set_cons_succ]
          refine wpAnyT_done (by rw [hops]; kernel_rfl) ⟨rfl, ?_⟩ _
          clear HNS hops h0 d0 p0 g0 h1 d1 p1 g1 h2 d2 p2 g2 h3 d3 p3 g3 h4 d4 p4 g4 h5 d5 p5 g5 h6 d6 p6 g6 h7 d7 p7 g7 h8 d8 p8 g8 h9 d9 p9 g9
          go_wp2_with fail
          go_ret
          exact ⟨rfl, HB17.out.drew⟩
end Go.Proofs.YtideglpjgplpnaaDoor
