import Derived.Test.YtideglpjgplpnaaDoorMSlM1
import Derived.Test.YtideglpjgplpnaaDoorMSlR5
/- SealsMarks: the walk. -/
namespace Go.Proofs.YtideglpjgplpnaaDoor
open Go.RowKit Go.Shelf
set_option linter.unusedVariables false
set_option linter.unusedSimpArgs false

theorem Sl.at0 {W : World} {g : Nat} {t : TypeId} {cs : List Value} (h : Has W g t cs) : W.rangeAt g 0 cs := fun j v hj => by rw [Nat.zero_add, h.cell j]; exact hj
theorem Sl.altp_bad {s : Sl.W} {l : List Shr.S} {k : Nat} {x : Shr.S} (hx : l[k]? = some x) (hb : Sl.bad s x = true) : Sl.altp s l (k + 1) = Sl.altp s l k ++ [k] := by
  rw [Sl.altp, Sl.altk, hx]
  show Sl.altp s l k ++ (if Sl.bad s x = true then [k] else []) = _
  rw [if_pos hb]
theorem Sl.altp_good {s : Sl.W} {l : List Shr.S} {k : Nat} {x : Shr.S} (hx : l[k]? = some x) (hb : Sl.bad s x = false) : Sl.altp s l (k + 1) = Sl.altp s l k := by
  rw [Sl.altp, Sl.altk, hx]
  show Sl.altp s l k ++ (if Sl.bad s x = true then [k] else []) = _
  rw [if_neg (by rw [hb]; simp), List.append_nil]
theorem Sl.alt_at {s : Sl.W} {l : List Shr.S} {k : Nat} {x : Shr.S} (hx : l[k]? = some x) (hb : Sl.bad s x = true) : (Sl.alt s l)[(Sl.altp s l k).length]? = some k := by
  obtain ⟨r, hr⟩ := Sl.altp_pre s l (k + 1) l.length (List.getElem?_eq_some_iff.1 hx).1
  unfold Sl.alt
  rw [← hr, Sl.altp_bad hx hb, List.append_assoc, List.getElem?_append_right (Nat.le_refl _), Nat.sub_self]
  rfl
set_option maxRecDepth 100000 in
set_option maxHeartbeats 32000000 in
theorem Sl.marks_law (s : Sl.W) (Ad : Option Addr) (cd : Nat) (Am : Option Addr) (cA : Nat) (A : Option Addr) (n c : Nat) (xs : List Shr.C) (w : World) (ha : Sl.Arg w s Ad cd Am cA A n c xs) :
    Calls Tryd.prog 9 #[.agg (Sl.row s Ad cd Am cA).toArray, .slice A n c] w fun e w' => e = .returned (.bool true) ∧ Below w.heap.size w w' := by
  have HA := Lib.hid ha
  have HI := Lib.hid (show (Tryd.prog.info? 27).map (·.size) = some (Sl.row s Ad cd Am cA).toArray.size from by rw [List.size_toArray, Sl.row_len ha.s.cl]; exact Sl.infoW)
  have hat := Sl.row_at ha.s.cl Ad cd Am cA
  have HAT := Lib.hid hat
  have HCL := Lib.hid ha.s.cl
  clear hat ha
  obtain ⟨T, hT⟩ : ∃ T, Sl.row s Ad cd Am cA = T := ⟨_, rfl⟩
  have HT := Lib.hid hT.symm
  rw [hT] at HI HAT ⊢
  clear hT
  obtain ⟨W1, hW1⟩ : ∃ W1, W1 = w.alloc (.cells T.toArray 27) := ⟨_, rfl⟩
  have HB := Lib.hid (show Below w.heap.size w W1 from by rw [hW1]; exact (Below.refl _ w).alloc (Nat.le_refl _) _)
  have HS := Lib.hid (show Has W1 w.heap.size 27 T from by rw [hW1]; exact Has.new w _ _)
  go_enter Tryd.func9, Tryd.ntmps9
  go_upto_region 1 with fail
  change Code.wp _ _ _ _ (w.alloc (.cells T.toArray 27))
  rw [← hW1]
  clear hW1
  obtain ⟨gS, hgS⟩ : ∃ gS, gS = w.heap.size := ⟨_, rfl⟩
  rw [← hgS] at HS ⊢
  clear hgS
  go_wp2_with fail
  ((with_reducible refine (Sl.sane_any W1 (HA.out.k.keep HB.out)).mono ?_); rintro e w2 ⟨rfl, hb2⟩)
  replace HB := Lib.hid (HB.out.trans (hb2.mono HB.out.size))
  replace HS := Lib.hid (HS.out.keep hb2)
  clear hb2
  have HSr := Lib.hid (show w2.heap[gS]? = some (.cells T.toArray 27 (0, 0)) from HS.out)
  have HFS := Sl.few_any s Ad cd Am cA w2 HCL.out
  rw [← HT.out] at HFS
  obtain ⟨fs, hfs⟩ : ∃ fs, Sl.fewS s = fs := ⟨_, rfl⟩
  rw [hfs] at HFS
  replace HFS := Lib.hid HFS
  have HFSE := Lib.hid hfs
  clear hfs
  go_wp2_with (with_reducible refine wpList_load_row rfl 27 (.tmp 2) rfl gS rfl 27 T.toArray (0, 0) _ HSr.out Tryd.underlying27 rfl HI.out ?_)
  ((with_reducible refine HFS.out.mono ?_); rintro e w3 ⟨rfl, hb3⟩)
  clear HSr HFS
  replace HB := Lib.hid (HB.out.trans (hb3.mono HB.out.size))
  replace HS := Lib.hid (HS.out.keep hb3)
  clear hb3
  cases fs with
  | false =>
    go_wp2_with fail
    go_ret
    exact ⟨rfl, HB.out⟩
  | true =>
    have HFN := Lib.hid (Shr.few_any A n c xs w3 (HA.out.r.keep HB.out) (Nat.le_trans HA.out.nc HA.out.cm))
    obtain ⟨fl, hfl⟩ : ∃ fl, Shr.fewB (Shr.vals xs) = fl := ⟨_, rfl⟩
    rw [hfl] at HFN
    have HFLE := Lib.hid hfl
    clear hfl
    go_wp2_with fail
    ((with_reducible refine HFN.out.mono ?_); rintro e _ ⟨rfl, rfl⟩)
    clear HFN
    cases fl with
    | false =>
      go_wp2_with fail
      go_ret
      exact ⟨rfl, HB.out⟩
    | true =>
      have HRD := Lib.hid (fun (W : World) (hb : Below w.heap.size w W) => HA.out.rdy HFLE.out hb (HA.out.r.keep hb))
      have HN := Lib.hid (HA.out.few HFLE.out)
      have HC := Lib.hid (show ∀ W, Calls Tryd.prog 21 #[.agg T.toArray] W fun e w' => e = .returned (.int .i64 (Sl.chk s)) ∧ Below W.heap.size W w' from fun W => by rw [HT.out]; exact Sl.check_any s Ad cd Am cA W HCL.out)
      have HSm := Lib.hid (show w3.rangeAt gS 0 T from fun j v hj => by rw [Nat.zero_add, HS.out.cell j]; exact hj)
      have HIm := Lib.hid (show (Tryd.prog.info? 27).map (·.size) = some T.length from by have h := HI.out; rw [List.size_toArray] at h; exact h)
      obtain ⟨z, hz⟩ : ∃ z, Sl.chk s = z := ⟨_, rfl⟩
      rw [hz] at HC
      have HZ := Lib.hid hz
      clear hz
      go_wp2_with (refine wpList_load_midG (op := ⟨some 23, _, _, _, _, _⟩) (by rfl) 27 (.tmp 2) rfl gS 0 rfl T _ HSm.out Tryd.underlying27 rfl HIm.out ?_)
      ((with_reducible refine (HC.out w3).mono ?_); rintro e w4 ⟨rfl, hb4⟩)
      clear HC HSm HIm
      replace HB := Lib.hid (HB.out.trans (hb4.mono HB.out.size))
      replace HS := Lib.hid (HS.out.keep hb4)
      clear hb4
      by_cases h0 : z = 0
      rotate_left
      · have q : (z != 0) = true := by simpa using h0
        go_wp2_with fail
        go_ret
        exact ⟨rfl, HB.out⟩
      subst h0
      have HGD := Lib.hid (Sl.good HZ.out)
      have hal := Sl.alt_any A n c xs s Ad cd Am cA w4 (HRD.out w4 HB.out)
      rw [HZ.out, show Sl.altV s (Shr.vals xs) = Sl.alt s (Shr.vals xs) from by unfold Sl.altV; rw [if_pos HZ.out], ← HT.out] at hal
      have HAL := Lib.hid hal
      clear hal
      have hnm : n ≤ 10 := HN.out
      have HSr := Lib.hid (show w4.heap[gS]? = some (.cells T.toArray 27 (0, 0)) from HS.out)
      go_wp2_with (with_reducible refine wpList_load_row rfl 27 (.tmp 2) rfl gS rfl 27 T.toArray (0, 0) _ HSr.out Tryd.underlying27 rfl HI.out ?_)
      ((with_reducible refine HAL.out.mono ?_); rintro e w5 ⟨A5, c5, rfl, hr5, hb5⟩)
      clear HAL HSr
      replace HB := Lib.hid (HB.out.trans (hb5.mono HB.out.size))
      replace HS := Lib.hid (HS.out.keep hb5)
      clear hb5
      obtain ⟨L, hL⟩ : ∃ L, Sl.alt s (Shr.vals xs) = L := ⟨_, rfl⟩
      have HL := Lib.hid hL
      rw [hL] at hr5 ⊢
      obtain ⟨nL, hnL⟩ : ∃ nL, L.length = nL := ⟨_, rfl⟩
      have HNL := Lib.hid hnL
      rw [hnL] at hr5 ⊢
      have HR5 := Lib.hid hr5
      have hxl : xs.length = n := HA.out.r.len
      have hvl : (Shr.vals xs).length = n := by rw [Shr.vals_len]; exact hxl
      have HVL := Lib.hid hvl
      have hnL2 : nL ≤ n := by rw [← hnL, ← hL, ← hvl]; exact Sl.altp_le _ _ _
      have HARG := Lib.hid (HRD.out w5 HB.out)
      have HXL := Lib.hid hxl
      clear hr5 hL hnL hxl hvl
      go_wp2_with fail
      go_loopw [7, 35] (fun v7 i wr => ∃ k p : Nat, k ≤ n ∧ i = .int .i64 k ∧ v7 = .int .i64 p ∧ p = (Sl.altp s (Shr.vals xs) k).length ∧ Below w5.heap.size w5 wr) (fun _ i _ => n - (intOf i).toNat)
      case atStart => exact ⟨0, 0, by omega, rfl, rfl, rfl, Below.refl _ _⟩
      case round =>
        obtain ⟨k, p, hk, rfl, rfl, hp, hB⟩ := hrel
        have HBr := Lib.hid hB
        have HP := Lib.hid hp
        clear hB hp
        by_cases hlt : k < n
        · obtain ⟨b, off, rfl, hbx, f0, f1, f2, f3, f4⟩ := (HARG.out.r.keep HBr.out).at k hlt
          have hkl : k < xs.length := by rw [HXL.out]; exact hlt
          have HOK := Lib.hid (((HARG.out.r.keep HBr.out).mem k hlt).rd)
          have hg := HARG.out.g (xs[k]!) (by rw [getElem!_pos xs k hkl]; exact List.getElem_mem _)
          have hdl := HARG.out.d (xs[k]!) (by rw [getElem!_pos xs k hkl]; exact List.getElem_mem _)
          have hxv : (Shr.vals xs)[k]? = some (xs[k]!).s := by rw [Shr.vals, List.getElem?_map, List.getElem?_eq_getElem hkl, getElem!_pos xs k hkl]; rfl
          generalize xs[k]! = y at f0 f1 f2 f3 f4 HOK hg hdl hxv
          have HXV := Lib.hid hxv
          have HGY := Lib.hid hg
          have HDL := Lib.hid hdl
          clear hkl hg hdl hxv
          have i1 : (0 : Int) ≤ (k : Int) := by omega
          have i2 : (k : Int) < (n : Int) := by omega
          go_upto_region 10 with fail
          obtain ⟨w6, hw6⟩ : ∃ w6, wr.alloc (.cells #[.int .i64 y.s.ep, .int .i64 y.s.ix, .int .i64 y.s.th, .int .i64 y.s.mn, .slice y.A y.s.d.length y.c] 43) = w6 := ⟨_, rfl⟩
          have hz : Has w6 wr.heap.size 43 [.int .i64 y.s.ep, .int .i64 y.s.ix, .int .i64 y.s.th, .int .i64 y.s.mn, .slice y.A y.s.d.length y.c] := by rw [← hw6]; exact Has.new _ _ _
          have hb6 : Below wr.heap.size wr w6 := by rw [← hw6]; exact (Below.refl _ _).alloc (Nat.le_refl _) _
          change Code.wp _ _ _ _ (wr.alloc (.cells #[.int .i64 y.s.ep, .int .i64 y.s.ix, .int .i64 y.s.th, .int .i64 y.s.mn, .slice y.A y.s.d.length y.c] 43))
          rw [hw6]
          obtain ⟨gz, hgz⟩ : ∃ gz, wr.heap.size = gz := ⟨_, rfl⟩
          have HM := Lib.hid (Sl.mark_law y.s y.A y.c w6 (HOK.out.keep hb6) HDL.out HGY.out.1 HGY.out.2.1 HGY.out.2.2.1 HGY.out.2.2.2 ((HARG.out.k.keep HBr.out).keep hb6))
          replace HBr := Lib.hid (HBr.out.trans (hb6.mono HBr.out.size))
          rw [hgz] at hz ⊢
          have HZ := Lib.hid hz
          clear hz hb6 hw6 hgz f0 f1 f2 f3 f4 i1 i2
          have y0 := HZ.out.cell 0
          have y1 := HZ.out.cell 1
          have y2 := HZ.out.cell 2
          have y3 := HZ.out.cell 3
          have y4 := HZ.out.cell 4
          simp only [List.getElem?_cons_succ, List.getElem?_cons_zero] at y0 y1 y2 y3 y4
          go_wp2_with fail
          ((with_reducible refine HM.out.mono ?_); rintro e w7 ⟨rfl, hb7⟩)
          clear HM y0 y1 y2 y3 y4 HOK HDL
          replace HBr := Lib.hid (HBr.out.trans (hb7.mono HBr.out.size))
          replace HZ := Lib.hid (HZ.out.keep hb7)
          clear hb7
          obtain ⟨D, hD⟩ : ∃ D, Sl.mark y.s = D := ⟨_, rfl⟩
          have hD32 : D.length = 32 := by rw [← hD]; exact Sl.mark_len _
          rw [hD]
          have HDM := Lib.hid hD
          have HD32 := Lib.hid hD32
          have HID := Lib.hid (show (Tryd.prog.info? 23).map (·.size) = some (D.map Dg.b8).toArray.size from by rw [List.size_toArray, List.length_map, hD32]; exact Sl.infoD)
          have HZD := Lib.hid (show Dg.z32.toArray.size = (D.map Dg.b8).toArray.size from by rw [List.size_toArray, List.size_toArray, List.length_map, hD32]; rfl)
          have H1D := Lib.hid (show (D.map Dg.b8).toArray.all (·.oneCell') = true from all_oneCell_toArray (one_bytes _))
          clear hD hD32
          go_upto_region 11 with (first
            | (refine wpList_store_row (o := ⟨none, .store 23 (.tmp 10) (.tmp 43), _, _, _, _⟩) rfl 23 (.tmp 10) (.tmp 43) rfl w7.heap.size (D.map Dg.b8).toArray rfl rfl 23 Dg.z32.toArray (World.alloc_heap_new w7 _) HID.out HZD.out H1D.out ?_))
          change Code.wp _ _ _ _ ((w7.alloc (.cells Dg.z32.toArray 23)).setRow w7.heap.size (D.map Dg.b8).toArray)
          obtain ⟨w8, hw8⟩ : ∃ w8, (w7.alloc (.cells Dg.z32.toArray 23)).setRow w7.heap.size (D.map Dg.b8).toArray = w8 := ⟨_, rfl⟩
          have hb8 : Below w7.heap.size w7 w8 := by rw [← hw8]; exact below_setRow ((Below.refl _ w7).alloc (Nat.le_refl _) _) (Nat.le_refl _) _
          have hd8 : Has w8 w7.heap.size 23 (D.map Dg.b8) := by rw [← hw8]; exact setRow_heap _ w7.heap.size _ _ 23 (0, 0) (World.alloc_heap_new w7 _)
          rw [hw8]
          obtain ⟨gd, hgd⟩ : ∃ gd, w7.heap.size = gd := ⟨_, rfl⟩
          replace HBr := Lib.hid (HBr.out.trans (hb8.mono HBr.out.size))
          replace HZ := Lib.hid (HZ.out.keep hb8)
          rw [hgd] at hd8 ⊢
          have HD8 := Lib.hid hd8
          have HS8 := Lib.hid (HS.out.keep HBr.out)
          clear hb8 hd8 hw8 hgd HID HZD H1D
          go_wp2_with fail
          have h33 := HAT.out.2.2.1
          have h35 := HAT.out.2.2.2
          have HA33 := Lib.hid h33
          have HA35 := Lib.hid h35
          clear h33 h35
          obtain ⟨ix, hix⟩ : ∃ ix, y.s.ix = ix := ⟨_, rfl⟩
          rw [hix] at HZ ⊢
          have HIX := Lib.hid hix
          clear hix
          by_cases c1 : ix < 1
          · have q1 : decide (ix < 1) = true := decide_eq_true c1
            have hbad : Sl.bad s y.s = true := by unfold Sl.bad; rw [HIX.out, q1]; rfl
            clear c1
            refine Sl.wp_normal ?_
            have s0 : Below w8.heap.size w8 w8.drew := (Below.refl _ w8).drew
            refine wp_region_named (fun ops hops => ?_)
            refine wp_region_T (by kernel_rfl) [] (fun w' => Below w8.heap.size w8 w') ?_
            rw [show ops.size = 21 from by rw [hops]; rfl]
            have HNS : Region.noSelect ops = true := by rw [hops]; kernel_rfl
            obtain ⟨o0, h0, d0, p0, g0⟩ := op_at5 hops 0 rfl (d := some 47) (p := Op.fieldAddr 43 (Operand.tmp 9) 1) (g := none) rfl rfl rfl
            obtain ⟨o1, h1, d1, p1, g1⟩ := op_at5 hops 1 rfl (d := some 48) (p := Op.load 3 (Operand.tmp 47)) (g := none) rfl rfl rfl
            obtain ⟨o2, h2, d2, p2, g2⟩ := op_at5 hops 2 rfl (d := some 49) (p := Op.binOp BinOp.lss 3 (Operand.tmp 48) (Operand.const (Value.int IntKind.i64 1)) 3) (g := none) rfl rfl rfl
            obtain ⟨o3, h3, d3, p3, g3⟩ := op_at5 hops 3 rfl (d := some 50) (p := Op.move (Operand.tmp 49)) (g := none) rfl rfl rfl
            obtain ⟨o4, h4, d4, p4, g4⟩ := op_at5 hops 4 rfl (d := some 51) (p := Op.fieldAddr 43 (Operand.tmp 9) 1) (g := some (3, false)) rfl rfl rfl
            obtain ⟨o5, h5, d5, p5, g5⟩ := op_at5 hops 5 rfl (d := some 52) (p := Op.load 3 (Operand.tmp 51)) (g := some (3, false)) rfl rfl rfl
            obtain ⟨o6, h6, d6, p6, g6⟩ := op_at5 hops 6 rfl (d := some 53) (p := Op.fieldAddr 27 (Operand.tmp 2) 3) (g := some (3, false)) rfl rfl rfl
            obtain ⟨o7, h7, d7, p7, g7⟩ := op_at5 hops 7 rfl (d := some 54) (p := Op.load 3 (Operand.tmp 53)) (g := some (3, false)) rfl rfl rfl
            obtain ⟨o8, h8, d8, p8, g8⟩ := op_at5 hops 8 rfl (d := some 55) (p := Op.binOp BinOp.gtr 3 (Operand.tmp 52) (Operand.tmp 54) 3) (g := some (3, false)) rfl rfl rfl
            obtain ⟨o9, h9, d9, p9, g9⟩ := op_at5 hops 9 rfl (d := some 56) (p := Op.pick (Operand.tmp 50) (Operand.const (Value.bool true)) (Operand.tmp 55)) (g := none) rfl rfl rfl
            obtain ⟨o10, h10, d10, p10, g10⟩ := op_at5 hops 10 rfl (d := some 57) (p := Op.move (Operand.tmp 56)) (g := none) rfl rfl rfl
            obtain ⟨o11, h11, d11, p11, g11⟩ := op_at5 hops 11 rfl (d := some 58) (p := Op.fieldAddr 27 (Operand.tmp 2) 4) (g := some (10, false)) rfl rfl rfl
            obtain ⟨o12, h12, d12, p12, g12⟩ := op_at5 hops 12 rfl (d := some 59) (p := Op.load 25 (Operand.tmp 58)) (g := some (10, false)) rfl rfl rfl
            obtain ⟨o13, h13, d13, p13, g13⟩ := op_at5 hops 13 rfl (d := some 60) (p := Op.fieldAddr 43 (Operand.tmp 9) 1) (g := some (10, false)) rfl rfl rfl
            obtain ⟨o14, h14, d14, p14, g14⟩ := op_at5 hops 14 rfl (d := some 61) (p := Op.load 3 (Operand.tmp 60)) (g := some (10, false)) rfl rfl rfl
            obtain ⟨o15, h15, d15, p15, g15⟩ := op_at5 hops 15 rfl (d := some 62) (p := Op.binOp BinOp.sub 3 (Operand.tmp 61) (Operand.const (Value.int IntKind.i64 1)) 3) (g := some (10, false)) rfl rfl rfl
            obtain ⟨o16, h16, d16, p16, g16⟩ := op_at5 hops 16 rfl (d := some 63) (p := Op.indexAddr 25 (Operand.tmp 59) (Operand.tmp 62)) (g := some (10, false)) rfl rfl rfl
            obtain ⟨o17, h17, d17, p17, g17⟩ := op_at5 hops 17 rfl (d := some 64) (p := Op.load 23 (Operand.tmp 63)) (g := some (10, false)) rfl rfl rfl
            obtain ⟨o18, h18, d18, p18, g18⟩ := op_at5 hops 18 rfl (d := some 65) (p := Op.load 23 (Operand.tmp 10)) (g := some (10, false)) rfl rfl rfl
            obtain ⟨o19, h19, d19, p19, g19⟩ := op_at5 hops 19 rfl (d := some 66) (p := Op.binOp BinOp.neq 23 (Operand.tmp 64) (Operand.tmp 65) 23) (g := some (10, false)) rfl rfl rfl
            obtain ⟨o20, h20, d20, p20, g20⟩ := op_at5 hops 20 rfl (d := some 67) (p := Op.pick (Operand.tmp 57) (Operand.const (Value.bool true)) (Operand.tmp 66)) (g := none) rfl rfl rfl
            refine wpAnyT_take (i := 0) (v := .pointer (some ⟨gz, 1, none⟩)) [0, 1, 2, 3, 4, 5, 6, 7, 8, 9, 10, 11, 12, 13, 14, 15, 16, 17, 18, 19, 20] h0 HNS (by rw [hops]; kernel_rfl) (by rw [hops]; kernel_rfl) (by rw [hops]; kernel_rfl) (fun _ _ _ => NormalOnly.hQ _ _ _) (Or.inl ⟨(wanted_none g0), fun w' _ => by unfold execOp; rw [p0]; first | rfl | kernel_rfl⟩) s0 ?_
            rw [d0]
            simp only [Act.put, List.setIfInBounds_toArray, List.set_cons_zero, List.set_cons_succ]
            refine wpAnyT_take (i := 1) (v := .int .i64 ix) [1, 2, 3, 4, 5, 6, 7, 8, 9, 10, 11, 12, 13, 14, 15, 16, 17, 18, 19, 20] h1 HNS (by rw [hops]; kernel_rfl) (by rw [hops]; kernel_rfl) (by rw [hops]; kernel_rfl) (fun _ _ _ => NormalOnly.hQ _ _ _) (Or.inl ⟨(wanted_none g1), fun w' h => run_op_load_cell 3 _ p1 gz 1 (by rfl) (.int .i64 ix) ((HZ.out.keep h).cell 1) _ Tryd.underlying3 rfl⟩) s0 ?_
            rw [d1]
            simp only [Act.put, List.setIfInBounds_toArray, List.set_cons_zero, List.set_cons_succ]
            refine wpAnyT_take (i := 2) (v := .bool true) [2, 3, 4, 5, 6, 7, 8, 9, 10, 11, 12, 13, 14, 15, 16, 17, 18, 19, 20] h2 HNS (by rw [hops]; kernel_rfl) (by rw [hops]; kernel_rfl) (by rw [hops]; kernel_rfl) (fun _ _ _ => NormalOnly.hQ _ _ _) (Or.inl ⟨(wanted_none g2), fun w' h => (show _ = Result.ok (.value (.bool (decide (ix < 1)))) w' from by unfold execOp; rw [p2]; first | rfl | kernel_rfl).trans (by rw [q1])⟩) s0 ?_
            rw [d2]
            simp only [Act.put, List.setIfInBounds_toArray, List.set_cons_zero, List.set_cons_succ]
            refine wpAnyT_take (i := 3) (v := .bool true) [3, 4, 5, 6, 7, 8, 9, 10, 11, 12, 13, 14, 15, 16, 17, 18, 19, 20] h3 HNS (by rw [hops]; kernel_rfl) (by rw [hops]; kernel_rfl) (by rw [hops]; kernel_rfl) (fun _ _ _ => NormalOnly.hQ _ _ _) (Or.inl ⟨(wanted_none g3), fun w' _ => by unfold execOp; rw [p3]; first | rfl | kernel_rfl⟩) s0 ?_
            rw [d3]
            simp only [Act.put, List.setIfInBounds_toArray, List.set_cons_zero, List.set_cons_succ]
            refine wpAnyT_take (i := 4) (v := undef) [4, 5, 8, 9, 10, 11, 12, 13, 14, 15, 16, 17, 18, 19, 20] h4 HNS (by rw [hops]; kernel_rfl) (by rw [hops]; kernel_rfl) (by rw [hops]; kernel_rfl) (fun _ _ _ => NormalOnly.hQ _ _ _) (Or.inr ⟨(unwanted_some g4 h3 d3 (by rfl)), rfl⟩) s0 ?_
            rw [d4]
            simp only [Act.put, List.setIfInBounds_toArray, List.set_cons_zero, List.set_cons_succ]
            refine wpAnyT_take (i := 5) (v := undef) [5, 8, 9, 10, 11, 12, 13, 14, 15, 16, 17, 18, 19, 20] h5 HNS (by rw [hops]; kernel_rfl) (by rw [hops]; kernel_rfl) (by rw [hops]; kernel_rfl) (fun _ _ _ => NormalOnly.hQ _ _ _) (Or.inr ⟨(unwanted_some g5 h3 d3 (by rfl)), rfl⟩) s0 ?_
            rw [d5]
            simp only [Act.put, List.setIfInBounds_toArray, List.set_cons_zero, List.set_cons_succ]
            refine wpAnyT_take (i := 6) (v := undef) [6, 7, 8, 9, 10, 11, 12, 13, 14, 15, 16, 17, 18, 19, 20] h6 HNS (by rw [hops]; kernel_rfl) (by rw [hops]; kernel_rfl) (by rw [hops]; kernel_rfl) (fun _ _ _ => NormalOnly.hQ _ _ _) (Or.inr ⟨(unwanted_some g6 h3 d3 (by rfl)), rfl⟩) s0 ?_
            rw [d6]
            simp only [Act.put, List.setIfInBounds_toArray, List.set_cons_zero, List.set_cons_succ]
            refine wpAnyT_take (i := 7) (v := undef) [7, 8, 9, 10, 11, 12, 13, 14, 15, 16, 17, 18, 19, 20] h7 HNS (by rw [hops]; kernel_rfl) (by rw [hops]; kernel_rfl) (by rw [hops]; kernel_rfl) (fun _ _ _ => NormalOnly.hQ _ _ _) (Or.inr ⟨(unwanted_some g7 h3 d3 (by rfl)), rfl⟩) s0 ?_
            rw [d7]
            simp only [Act.put, List.setIfInBounds_toArray, List.set_cons_zero, List.set_cons_succ]
            refine wpAnyT_take (i := 8) (v := undef) [8, 9, 10, 11, 12, 13, 14, 15, 16, 17, 18, 19, 20] h8 HNS (by rw [hops]; kernel_rfl) (by rw [hops]; kernel_rfl) (by rw [hops]; kernel_rfl) (fun _ _ _ => NormalOnly.hQ _ _ _) (Or.inr ⟨(unwanted_some g8 h3 d3 (by rfl)), rfl⟩) s0 ?_
            rw [d8]
            simp only [Act.put, List.setIfInBounds_toArray, List.set_cons_zero, List.set_cons_succ]
            refine wpAnyT_take (i := 9) (v := .bool true) [9, 10, 11, 12, 13, 14, 15, 16, 17, 18, 19, 20] h9 HNS (by rw [hops]; kernel_rfl) (by rw [hops]; kernel_rfl) (by rw [hops]; kernel_rfl) (fun _ _ _ => NormalOnly.hQ _ _ _) (Or.inl ⟨(wanted_none g9), fun w' _ => by unfold execOp; rw [p9]; first | rfl | kernel_rfl⟩) s0 ?_
            rw [d9]
            simp only [Act.put, List.setIfInBounds_toArray, List.set_cons_zero, List.set_cons_succ]
            refine wpAnyT_take (i := 10) (v := .bool true) [10, 11, 12, 13, 14, 15, 16, 17, 18, 19, 20] h10 HNS (by rw [hops]; kernel_rfl) (by rw [hops]; kernel_rfl) (by rw [hops]; kernel_rfl) (fun _ _ _ => NormalOnly.hQ _ _ _) (Or.inl ⟨(wanted_none g10), fun w' _ => by unfold execOp; rw [p10]; first | rfl | kernel_rfl⟩) s0 ?_
            rw [d10]
            simp only [Act.put, List.setIfInBounds_toArray, List.set_cons_zero, List.set_cons_succ]
            refine wpAnyT_take (i := 11) (v := undef) [11, 12, 16, 17, 19, 20] h11 HNS (by rw [hops]; kernel_rfl) (by rw [hops]; kernel_rfl) (by rw [hops]; kernel_rfl) (fun _ _ _ => NormalOnly.hQ _ _ _) (Or.inr ⟨(unwanted_some g11 h10 d10 (by rfl)), rfl⟩) s0 ?_
            rw [d11]
            simp only [Act.put, List.setIfInBounds_toArray, List.set_cons_zero, List.set_cons_succ]
            refine wpAnyT_take (i := 12) (v := undef) [12, 16, 17, 19, 20] h12 HNS (by rw [hops]; kernel_rfl) (by rw [hops]; kernel_rfl) (by rw [hops]; kernel_rfl) (fun _ _ _ => NormalOnly.hQ _ _ _) (Or.inr ⟨(unwanted_some g12 h10 d10 (by rfl)), rfl⟩) s0 ?_
            rw [d12]
            simp only [Act.put, List.setIfInBounds_toArray, List.set_cons_zero, List.set_cons_succ]
            refine wpAnyT_take (i := 13) (v := undef) [13, 14, 15, 16, 17, 19, 20] h13 HNS (by rw [hops]; kernel_rfl) (by rw [hops]; kernel_rfl) (by rw [hops]; kernel_rfl) (fun _ _ _ => NormalOnly.hQ _ _ _) (Or.inr ⟨(unwanted_some g13 h10 d10 (by rfl)), rfl⟩) s0 ?_
            rw [d13]
            simp only [Act.put, List.setIfInBounds_toArray, List.set_cons_zero, List.set_cons_succ]
            refine wpAnyT_take (i := 14) (v := undef) [14, 15, 16, 17, 19, 20] h14 HNS (by rw [hops]; kernel_rfl) (by rw [hops]; kernel_rfl) (by rw [hops]; kernel_rfl) (fun _ _ _ => NormalOnly.hQ _ _ _) (Or.inr ⟨(unwanted_some g14 h10 d10 (by rfl)), rfl⟩) s0 ?_
            rw [d14]
            simp only [Act.put, List.setIfInBounds_toArray, List.set_cons_zero, List.set_cons_succ]
            refine wpAnyT_take (i := 15) (v := undef) [15, 16, 17, 19, 20] h15 HNS (by rw [hops]; kernel_rfl) (by rw [hops]; kernel_rfl) (by rw [hops]; kernel_rfl) (fun _ _ _ => NormalOnly.hQ _ _ _) (Or.inr ⟨(unwanted_some g15 h10 d10 (by rfl)), rfl⟩) s0 ?_
            rw [d15]
            simp only [Act.put, List.setIfInBounds_toArray, List.set_cons_zero, List.set_cons_succ]
            refine wpAnyT_take (i := 16) (v := undef) [16, 17, 19, 20] h16 HNS (by rw [hops]; kernel_rfl) (by rw [hops]; kernel_rfl) (by rw [hops]; kernel_rfl) (fun _ _ _ => NormalOnly.hQ _ _ _) (Or.inr ⟨(unwanted_some g16 h10 d10 (by rfl)), rfl⟩) s0 ?_
            rw [d16]
            simp only [Act.put, List.setIfInBounds_toArray, List.set_cons_zero, List.set_cons_succ]
            refine wpAnyT_take (i := 17) (v := undef) [17, 19, 20] h17 HNS (by rw [hops]; kernel_rfl) (by rw [hops]; kernel_rfl) (by rw [hops]; kernel_rfl) (fun _ _ _ => NormalOnly.hQ _ _ _) (Or.inr ⟨(unwanted_some g17 h10 d10 (by rfl)), rfl⟩) s0 ?_
            rw [d17]
            simp only [Act.put, List.setIfInBounds_toArray, List.set_cons_zero, List.set_cons_succ]
            refine wpAnyT_take (i := 18) (v := undef) [18, 19, 20] h18 HNS (by rw [hops]; kernel_rfl) (by rw [hops]; kernel_rfl) (by rw [hops]; kernel_rfl) (fun _ _ _ => NormalOnly.hQ _ _ _) (Or.inr ⟨(unwanted_some g18 h10 d10 (by rfl)), rfl⟩) s0 ?_
            rw [d18]
            simp only [Act.put, List.setIfInBounds_toArray, List.set_cons_zero, List.set_cons_succ]
            refine wpAnyT_take (i := 19) (v := undef) [19, 20] h19 HNS (by rw [hops]; kernel_rfl) (by rw [hops]; kernel_rfl) (by rw [hops]; kernel_rfl) (fun _ _ _ => NormalOnly.hQ _ _ _) (Or.inr ⟨(unwanted_some g19 h10 d10 (by rfl)), rfl⟩) s0 ?_
            rw [d19]
            simp only [Act.put, List.setIfInBounds_toArray, List.set_cons_zero, List.set_cons_succ]
            refine wpAnyT_take (i := 20) (v := .bool true) [20] h20 HNS (by rw [hops]; kernel_rfl) (by rw [hops]; kernel_rfl) (by rw [hops]; kernel_rfl) (fun _ _ _ => NormalOnly.hQ _ _ _) (Or.inl ⟨(wanted_none g20), fun w' _ => by unfold execOp; rw [p20]; first | rfl | kernel_rfl⟩) s0 ?_
            rw [d20]
            simp only [Act.put, List.setIfInBounds_toArray, List.set_cons_zero, List.set_cons_succ]
            refine wpAnyT_done (by rw [hops]; kernel_rfl) ⟨rfl, ?_⟩ _
            clear HNS hops h0 d0 p0 g0 h1 d1 p1 g1 h2 d2 p2 g2 h3 d3 p3 g3 h4 d4 p4 g4 h5 d5 p5 g5 h6 d6 p6 g6 h7 d7 p7 g7 h8 d8 p8 g8 h9 d9 p9 g9 h10 d10 p10 g10 h11 d11 p11 g11 h12 d12 p12 g12 h13 d13 p13 g13 h14 d14 p14 g14 h15 d15 p15 g15 h16 d16 p16 g16 h17 d17 p17 g17 h18 d18 p18 g18 h19 d19 p19 g19 h20 d20 p20 g20
            replace HBr := Lib.hid HBr.out.drew
            clear HZ HD8 HS8 HA33 HA35 HD32
            have hat := Sl.alt_at HXV.out hbad
            rw [HL.out, ← HP.out] at hat
            have hpL : p < nL := by rw [← HNL.out]; exact (List.getElem?_eq_some_iff.1 hat).1
            obtain ⟨b5, o5, rfl, hb5, hc5⟩ := HR5.out.2 (by omega)
            have x5 := hc5 p (Sl.iv k) (by rw [List.getElem?_map, hat]; rfl)
            have x6 := (HBr.out.cell (p := ⟨b5, o5 + p, none⟩) hb5).trans x5
            have hpn : p + 1 = (Sl.altp s (Shr.vals xs) (k + 1)).length := by rw [Sl.altp_bad HXV.out hbad, List.length_append, ← HP.out]; rfl
            have HPN := Lib.hid hpn
            change _ = some (Value.int .i64 (k : Int)) at x6
            have i1 : (0 : Int) ≤ (p : Int) := by omega
            have i2 : (p : Int) < (nL : Int) := by omega
            have qk : ((k : Int) != (k : Int)) = false := by simp
            clear hat hb5 hc5 x5 hpn hbad
            go_wp2_with fail
            go_roundw
            case rel => exact ⟨k + 1, p + 1, by omega, by go_num, by go_num, HPN.out, HBr.out⟩
            case measure => simp [intOf]; omega
          have q1 : decide (ix < 1) = false := decide_eq_false c1
          by_cases c2 : s.mn < ix
          · have q2 : decide (s.mn < ix) = true := decide_eq_true c2
            have hbad : Sl.bad s y.s = true := by unfold Sl.bad; rw [HIX.out, q1, q2]; rfl
            clear c1 c2
            refine Sl.wp_normal ?_
            have s0 : Below w8.heap.size w8 w8.drew := (Below.refl _ w8).drew
            refine wp_region_named (fun ops hops => ?_)
            refine wp_region_T (by kernel_rfl) [] (fun w' => Below w8.heap.size w8 w') ?_
            rw [show ops.size = 21 from by rw [hops]; rfl]
            have HNS : Region.noSelect ops = true := by rw [hops]; kernel_rfl
            obtain ⟨o0, h0, d0, p0, g0⟩ := op_at5 hops 0 rfl (d := some 47) (p := Op.fieldAddr 43 (Operand.tmp 9) 1) (g := none) rfl rfl rfl
            obtain ⟨o1, h1, d1, p1, g1⟩ := op_at5 hops 1 rfl (d := some 48) (p := Op.load 3 (Operand.tmp 47)) (g := none) rfl rfl rfl
            obtain ⟨o2, h2, d2, p2, g2⟩ := op_at5 hops 2 rfl (d := some 49) (p := Op.binOp BinOp.lss 3 (Operand.tmp 48) (Operand.const (Value.int IntKind.i64 1)) 3) (g := none) rfl rfl rfl
            obtain ⟨o3, h3, d3, p3, g3⟩ := op_at5 hops 3 rfl (d := some 50) (p := Op.move (Operand.tmp 49)) (g := none) rfl rfl rfl
            obtain ⟨o4, h4, d4, p4, g4⟩ := op_at5 hops 4 rfl (d := some 51) (p := Op.fieldAddr 43 (Operand.tmp 9) 1) (g := some (3, false)) rfl rfl rfl
            obtain ⟨o5, h5, d5, p5, g5⟩ := op_at5 hops 5 rfl (d := some 52) (p := Op.load 3 (Operand.tmp 51)) (g := some (3, false)) rfl rfl rfl
            obtain ⟨o6, h6, d6, p6, g6⟩ := op_at5 hops 6 rfl (d := some 53) (p := Op.fieldAddr 27 (Operand.tmp 2) 3) (g := some (3, false)) rfl rfl rfl
            obtain ⟨o7, h7, d7, p7, g7⟩ := op_at5 hops 7 rfl (d := some 54) (p := Op.load 3 (Operand.tmp 53)) (g := some (3, false)) rfl rfl rfl
            obtain ⟨o8, h8, d8, p8, g8⟩ := op_at5 hops 8 rfl (d := some 55) (p := Op.binOp BinOp.gtr 3 (Operand.tmp 52) (Operand.tmp 54) 3) (g := some (3, false)) rfl rfl rfl
            obtain ⟨o9, h9, d9, p9, g9⟩ := op_at5 hops 9 rfl (d := some 56) (p := Op.pick (Operand.tmp 50) (Operand.const (Value.bool true)) (Operand.tmp 55)) (g := none) rfl rfl rfl
            obtain ⟨o10, h10, d10, p10, g10⟩ := op_at5 hops 10 rfl (d := some 57) (p := Op.move (Operand.tmp 56)) (g := none) rfl rfl rfl
            obtain ⟨o11, h11, d11, p11, g11⟩ := op_at5 hops 11 rfl (d := some 58) (p := Op.fieldAddr 27 (Operand.tmp 2) 4) (g := some (10, false)) rfl rfl rfl
            obtain ⟨o12, h12, d12, p12, g12⟩ := op_at5 hops 12 rfl (d := some 59) (p := Op.load 25 (Operand.tmp 58)) (g := some (10, false)) rfl rfl rfl
            obtain ⟨o13, h13, d13, p13, g13⟩ := op_at5 hops 13 rfl (d := some 60) (p := Op.fieldAddr 43 (Operand.tmp 9) 1) (g := some (10, false)) rfl rfl rfl
            obtain ⟨o14, h14, d14, p14, g14⟩ := op_at5 hops 14 rfl (d := some 61) (p := Op.load 3 (Operand.tmp 60)) (g := some (10, false)) rfl rfl rfl
            obtain ⟨o15, h15, d15, p15, g15⟩ := op_at5 hops 15 rfl (d := some 62) (p := Op.binOp BinOp.sub 3 (Operand.tmp 61) (Operand.const (Value.int IntKind.i64 1)) 3) (g := some (10, false)) rfl rfl rfl
            obtain ⟨o16, h16, d16, p16, g16⟩ := op_at5 hops 16 rfl (d := some 63) (p := Op.indexAddr 25 (Operand.tmp 59) (Operand.tmp 62)) (g := some (10, false)) rfl rfl rfl
            obtain ⟨o17, h17, d17, p17, g17⟩ := op_at5 hops 17 rfl (d := some 64) (p := Op.load 23 (Operand.tmp 63)) (g := some (10, false)) rfl rfl rfl
            obtain ⟨o18, h18, d18, p18, g18⟩ := op_at5 hops 18 rfl (d := some 65) (p := Op.load 23 (Operand.tmp 10)) (g := some (10, false)) rfl rfl rfl
            obtain ⟨o19, h19, d19, p19, g19⟩ := op_at5 hops 19 rfl (d := some 66) (p := Op.binOp BinOp.neq 23 (Operand.tmp 64) (Operand.tmp 65) 23) (g := some (10, false)) rfl rfl rfl
            obtain ⟨o20, h20, d20, p20, g20⟩ := op_at5 hops 20 rfl (d := some 67) (p := Op.pick (Operand.tmp 57) (Operand.const (Value.bool true)) (Operand.tmp 66)) (g := none) rfl rfl rfl
            refine wpAnyT_take (i := 0) (v := .pointer (some ⟨gz, 1, none⟩)) [0, 1, 2, 3, 4, 5, 6, 7, 8, 9, 10, 11, 12, 13, 14, 15, 16, 17, 18, 19, 20] h0 HNS (by rw [hops]; kernel_rfl) (by rw [hops]; kernel_rfl) (by rw [hops]; kernel_rfl) (fun _ _ _ => NormalOnly.hQ _ _ _) (Or.inl ⟨(wanted_none g0), fun w' _ => by unfold execOp; rw [p0]; first | rfl | kernel_rfl⟩) s0 ?_
            rw [d0]
            simp only [Act.put, List.setIfInBounds_toArray, List.set_cons_zero, List.set_cons_succ]
            refine wpAnyT_take (i := 1) (v := .int .i64 ix) [1, 2, 3, 4, 5, 6, 7, 8, 9, 10, 11, 12, 13, 14, 15, 16, 17, 18, 19, 20] h1 HNS (by rw [hops]; kernel_rfl) (by rw [hops]; kernel_rfl) (by rw [hops]; kernel_rfl) (fun _ _ _ => NormalOnly.hQ _ _ _) (Or.inl ⟨(wanted_none g1), fun w' h => run_op_load_cell 3 _ p1 gz 1 (by rfl) (.int .i64 ix) ((HZ.out.keep h).cell 1) _ Tryd.underlying3 rfl⟩) s0 ?_
            rw [d1]
            simp only [Act.put, List.setIfInBounds_toArray, List.set_cons_zero, List.set_cons_succ]
            refine wpAnyT_take (i := 2) (v := .bool false) [2, 3, 4, 5, 6, 7, 8, 9, 10, 11, 12, 13, 14, 15, 16, 17, 18, 19, 20] h2 HNS (by rw [hops]; kernel_rfl) (by rw [hops]; kernel_rfl) (by rw [hops]; kernel_rfl) (fun _ _ _ => NormalOnly.hQ _ _ _) (Or.inl ⟨(wanted_none g2), fun w' h => (show _ = Result.ok (.value (.bool (decide (ix < 1)))) w' from by unfold execOp; rw [p2]; first | rfl | kernel_rfl).trans (by rw [q1])⟩) s0 ?_
            rw [d2]
            simp only [Act.put, List.setIfInBounds_toArray, List.set_cons_zero, List.set_cons_succ]
            refine wpAnyT_take (i := 3) (v := .bool false) [3, 4, 5, 6, 7, 8, 9, 10, 11, 12, 13, 14, 15, 16, 17, 18, 19, 20] h3 HNS (by rw [hops]; kernel_rfl) (by rw [hops]; kernel_rfl) (by rw [hops]; kernel_rfl) (fun _ _ _ => NormalOnly.hQ _ _ _) (Or.inl ⟨(wanted_none g3), fun w' _ => by unfold execOp; rw [p3]; first | rfl | kernel_rfl⟩) s0 ?_
            rw [d3]
            simp only [Act.put, List.setIfInBounds_toArray, List.set_cons_zero, List.set_cons_succ]
            refine wpAnyT_take (i := 4) (v := .pointer (some ⟨gz, 1, none⟩)) [4, 5, 8, 9, 10, 11, 12, 13, 14, 15, 16, 17, 18, 19, 20] h4 HNS (by rw [hops]; kernel_rfl) (by rw [hops]; kernel_rfl) (by rw [hops]; kernel_rfl) (fun _ _ _ => NormalOnly.hQ _ _ _) (Or.inl ⟨(wanted_some g4 h3 d3 (by rfl)), fun w' _ => by unfold execOp; rw [p4]; first | rfl | kernel_rfl⟩) s0 ?_
            rw [d4]
            simp only [Act.put, List.setIfInBounds_toArray, List.set_cons_zero, List.set_cons_succ]
            refine wpAnyT_take (i := 5) (v := .int .i64 ix) [5, 8, 9, 10, 11, 12, 13, 14, 15, 16, 17, 18, 19, 20] h5 HNS (by rw [hops]; kernel_rfl) (by rw [hops]; kernel_rfl) (by rw [hops]; kernel_rfl) (fun _ _ _ => NormalOnly.hQ _ _ _) (Or.inl ⟨(wanted_some g5 h3 d3 (by rfl)), fun w' h => run_op_load_cell 3 _ p5 gz 1 (by rfl) (.int .i64 ix) ((HZ.out.keep h).cell 1) _ Tryd.underlying3 rfl⟩) s0 ?_
            rw [d5]
            simp only [Act.put, List.setIfInBounds_toArray, List.set_cons_zero, List.set_cons_succ]
            refine wpAnyT_take (i := 6) (v := .pointer (some ⟨gS, 34, none⟩)) [6, 7, 8, 9, 10, 11, 12, 13, 14, 15, 16, 17, 18, 19, 20] h6 HNS (by rw [hops]; kernel_rfl) (by rw [hops]; kernel_rfl) (by rw [hops]; kernel_rfl) (fun _ _ _ => NormalOnly.hQ _ _ _) (Or.inl ⟨(wanted_some g6 h3 d3 (by rfl)), fun w' _ => by unfold execOp; rw [p6]; first | rfl | kernel_rfl⟩) s0 ?_
            rw [d6]
            simp only [Act.put, List.setIfInBounds_toArray, List.set_cons_zero, List.set_cons_succ]
            refine wpAnyT_take (i := 7) (v := .int .i64 s.mn) [7, 8, 9, 10, 11, 12, 13, 14, 15, 16, 17, 18, 19, 20] h7 HNS (by rw [hops]; kernel_rfl) (by rw [hops]; kernel_rfl) (by rw [hops]; kernel_rfl) (fun _ _ _ => NormalOnly.hQ _ _ _) (Or.inl ⟨(wanted_some g7 h3 d3 (by rfl)), fun w' h => run_op_load_cell 3 _ p7 (gS) (34) (by rfl) (.int .i64 s.mn) (((HS8.out.keep h).cell 34).trans HA33.out) _ Tryd.underlying3 rfl⟩) s0 ?_
            rw [d7]
            simp only [Act.put, List.setIfInBounds_toArray, List.set_cons_zero, List.set_cons_succ]
            refine wpAnyT_take (i := 8) (v := .bool true) [8, 9, 10, 11, 12, 13, 14, 15, 16, 17, 18, 19, 20] h8 HNS (by rw [hops]; kernel_rfl) (by rw [hops]; kernel_rfl) (by rw [hops]; kernel_rfl) (fun _ _ _ => NormalOnly.hQ _ _ _) (Or.inl ⟨(wanted_some g8 h3 d3 (by rfl)), fun w' h => (show _ = Result.ok (.value (.bool (decide (s.mn < ix)))) w' from by unfold execOp; rw [p8]; first | rfl | kernel_rfl).trans (by rw [q2])⟩) s0 ?_
            rw [d8]
            simp only [Act.put, List.setIfInBounds_toArray, List.set_cons_zero, List.set_cons_succ]
            refine wpAnyT_take (i := 9) (v := .bool true) [9, 10, 11, 12, 13, 14, 15, 16, 17, 18, 19, 20] h9 HNS (by rw [hops]; kernel_rfl) (by rw [hops]; kernel_rfl) (by rw [hops]; kernel_rfl) (fun _ _ _ => NormalOnly.hQ _ _ _) (Or.inl ⟨(wanted_none g9), fun w' _ => by unfold execOp; rw [p9]; first | rfl | kernel_rfl⟩) s0 ?_
            rw [d9]
            simp only [Act.put, List.setIfInBounds_toArray, List.set_cons_zero, List.set_cons_succ]
            refine wpAnyT_take (i := 10) (v := .bool true) [10, 11, 12, 13, 14, 15, 16, 17, 18, 19, 20] h10 HNS (by rw [hops]; kernel_rfl) (by rw [hops]; kernel_rfl) (by rw [hops]; kernel_rfl) (fun _ _ _ => NormalOnly.hQ _ _ _) (Or.inl ⟨(wanted_none g10), fun w' _ => by unfold execOp; rw [p10]; first | rfl | kernel_rfl⟩) s0 ?_
            rw [d10]
            simp only [Act.put, List.setIfInBounds_toArray, List.set_cons_zero, List.set_cons_succ]
            refine wpAnyT_take (i := 11) (v := undef) [11, 12, 16, 17, 19, 20] h11 HNS (by rw [hops]; kernel_rfl) (by rw [hops]; kernel_rfl) (by rw [hops]; kernel_rfl) (fun _ _ _ => NormalOnly.hQ _ _ _) (Or.inr ⟨(unwanted_some g11 h10 d10 (by rfl)), rfl⟩) s0 ?_
            rw [d11]
            simp only [Act.put, List.setIfInBounds_toArray, List.set_cons_zero, List.set_cons_succ]
            refine wpAnyT_take (i := 12) (v := undef) [12, 16, 17, 19, 20] h12 HNS (by rw [hops]; kernel_rfl) (by rw [hops]; kernel_rfl) (by rw [hops]; kernel_rfl) (fun _ _ _ => NormalOnly.hQ _ _ _) (Or.inr ⟨(unwanted_some g12 h10 d10 (by rfl)), rfl⟩) s0 ?_
            rw [d12]
            simp only [Act.put, List.setIfInBounds_toArray, List.set_cons_zero, List.set_cons_succ]
            refine wpAnyT_take (i := 13) (v := undef) [13, 14, 15, 16, 17, 19, 20] h13 HNS (by rw [hops]; kernel_rfl) (by rw [hops]; kernel_rfl) (by rw [hops]; kernel_rfl) (fun _ _ _ => NormalOnly.hQ _ _ _) (Or.inr ⟨(unwanted_some g13 h10 d10 (by rfl)), rfl⟩) s0 ?_
            rw [d13]
            simp only [Act.put, List.setIfInBounds_toArray, List.set_cons_zero, List.set_cons_succ]
            refine wpAnyT_take (i := 14) (v := undef) [14, 15, 16, 17, 19, 20] h14 HNS (by rw [hops]; kernel_rfl) (by rw [hops]; kernel_rfl) (by rw [hops]; kernel_rfl) (fun _ _ _ => NormalOnly.hQ _ _ _) (Or.inr ⟨(unwanted_some g14 h10 d10 (by rfl)), rfl⟩) s0 ?_
            rw [d14]
            simp only [Act.put, List.setIfInBounds_toArray, List.set_cons_zero, List.set_cons_succ]
            refine wpAnyT_take (i := 15) (v := undef) [15, 16, 17, 19, 20] h15 HNS (by rw [hops]; kernel_rfl) (by rw [hops]; kernel_rfl) (by rw [hops]; kernel_rfl) (fun _ _ _ => NormalOnly.hQ _ _ _) (Or.inr ⟨(unwanted_some g15 h10 d10 (by rfl)), rfl⟩) s0 ?_
            rw [d15]
            simp only [Act.put, List.setIfInBounds_toArray, List.set_cons_zero, List.set_cons_succ]
            refine wpAnyT_take (i := 16) (v := undef) [16, 17, 19, 20] h16 HNS (by rw [hops]; kernel_rfl) (by rw [hops]; kernel_rfl) (by rw [hops]; kernel_rfl) (fun _ _ _ => NormalOnly.hQ _ _ _) (Or.inr ⟨(unwanted_some g16 h10 d10 (by rfl)), rfl⟩) s0 ?_
            rw [d16]
            simp only [Act.put, List.setIfInBounds_toArray, List.set_cons_zero, List.set_cons_succ]
            refine wpAnyT_take (i := 17) (v := undef) [17, 19, 20] h17 HNS (by rw [hops]; kernel_rfl) (by rw [hops]; kernel_rfl) (by rw [hops]; kernel_rfl) (fun _ _ _ => NormalOnly.hQ _ _ _) (Or.inr ⟨(unwanted_some g17 h10 d10 (by rfl)), rfl⟩) s0 ?_
            rw [d17]
            simp only [Act.put, List.setIfInBounds_toArray, List.set_cons_zero, List.set_cons_succ]
            refine wpAnyT_take (i := 18) (v := undef) [18, 19, 20] h18 HNS (by rw [hops]; kernel_rfl) (by rw [hops]; kernel_rfl) (by rw [hops]; kernel_rfl) (fun _ _ _ => NormalOnly.hQ _ _ _) (Or.inr ⟨(unwanted_some g18 h10 d10 (by rfl)), rfl⟩) s0 ?_
            rw [d18]
            simp only [Act.put, List.setIfInBounds_toArray, List.set_cons_zero, List.set_cons_succ]
            refine wpAnyT_take (i := 19) (v := undef) [19, 20] h19 HNS (by rw [hops]; kernel_rfl) (by rw [hops]; kernel_rfl) (by rw [hops]; kernel_rfl) (fun _ _ _ => NormalOnly.hQ _ _ _) (Or.inr ⟨(unwanted_some g19 h10 d10 (by rfl)), rfl⟩) s0 ?_
            rw [d19]
            simp only [Act.put, List.setIfInBounds_toArray, List.set_cons_zero, List.set_cons_succ]
            refine wpAnyT_take (i := 20) (v := .bool true) [20] h20 HNS (by rw [hops]; kernel_rfl) (by rw [hops]; kernel_rfl) (by rw [hops]; kernel_rfl) (fun _ _ _ => NormalOnly.hQ _ _ _) (Or.inl ⟨(wanted_none g20), fun w' _ => by unfold execOp; rw [p20]; first | rfl | kernel_rfl⟩) s0 ?_
            rw [d20]
            simp only [Act.put, List.setIfInBounds_toArray, List.set_cons_zero, List.set_cons_succ]
            refine wpAnyT_done (by rw [hops]; kernel_rfl) ⟨rfl, ?_⟩ _
            clear HNS hops h0 d0 p0 g0 h1 d1 p1 g1 h2 d2 p2 g2 h3 d3 p3 g3 h4 d4 p4 g4 h5 d5 p5 g5 h6 d6 p6 g6 h7 d7 p7 g7 h8 d8 p8 g8 h9 d9 p9 g9 h10 d10 p10 g10 h11 d11 p11 g11 h12 d12 p12 g12 h13 d13 p13 g13 h14 d14 p14 g14 h15 d15 p15 g15 h16 d16 p16 g16 h17 d17 p17 g17 h18 d18 p18 g18 h19 d19 p19 g19 h20 d20 p20 g20
            replace HBr := Lib.hid HBr.out.drew
            clear HZ HD8 HS8 HA33 HA35 HD32
            have hat := Sl.alt_at HXV.out hbad
            rw [HL.out, ← HP.out] at hat
            have hpL : p < nL := by rw [← HNL.out]; exact (List.getElem?_eq_some_iff.1 hat).1
            obtain ⟨b5, o5, rfl, hb5, hc5⟩ := HR5.out.2 (by omega)
            have x5 := hc5 p (Sl.iv k) (by rw [List.getElem?_map, hat]; rfl)
            have x6 := (HBr.out.cell (p := ⟨b5, o5 + p, none⟩) hb5).trans x5
            have hpn : p + 1 = (Sl.altp s (Shr.vals xs) (k + 1)).length := by rw [Sl.altp_bad HXV.out hbad, List.length_append, ← HP.out]; rfl
            have HPN := Lib.hid hpn
            change _ = some (Value.int .i64 (k : Int)) at x6
            have i1 : (0 : Int) ≤ (p : Int) := by omega
            have i2 : (p : Int) < (nL : Int) := by omega
            have qk : ((k : Int) != (k : Int)) = false := by simp
            clear hat hb5 hc5 x5 hpn hbad
            go_wp2_with fail
            go_roundw
            case rel => exact ⟨k + 1, p + 1, by omega, by go_num, by go_num, HPN.out, HBr.out⟩
            case measure => simp [intOf]; omega
          have q2 : decide (s.mn < ix) = false := decide_eq_false c2
          obtain ⟨j, hj⟩ := Int.eq_ofNat_of_zero_le (show 0 ≤ ix - 1 by omega)
          obtain ⟨m, hm⟩ : ∃ m, s.ms.length = m := ⟨_, rfl⟩
          have hjm : j < m := by have h1 := HGD.out.mkl; omega
          have hjs : j < s.ms.length := by rw [hm]; exact hjm
          have q3 : IntKind.i64.wrap (ix - 1) = (j : Int) := (IntWalk.i64_in _ (by have h1 := HGD.out.mn8; omega)).trans hj
          obtain ⟨bm, om, rfl⟩ := Sl.mkA HARG.out.s (by omega)
          rw [hm] at HA35
          obtain ⟨M, hM⟩ : ∃ M, s.ms.getD j [] = M := ⟨_, rfl⟩
          have hbm : Sl.bad s y.s = !(M == D) := by
            unfold Sl.bad
            rw [HIX.out, q1, q2, hj, Int.toNat_natCast, hM, HDM.out]
            rfl
          have HBM := Lib.hid hbm
          have MS := Lib.hid (fun (W : World) (hb : Below w8.heap.size w8 W) => (show W.rangeAt bm (om + j * 32) (M.map Dg.b8) from by rw [← hM]; exact (Sl.mkAt ((HARG.out.s.keep HBr.out).keep hb) j hjs).1))
          have HM32 := Lib.hid (show M.length = 32 from by rw [← hM]; exact (Sl.mkAt HARG.out.s j hjs).2)
          clear hj hm hjs hM hbm c1 c2 HDM
          refine Sl.wp_normal ?_
          have s0 : Below w8.heap.size w8 w8.drew := (Below.refl _ w8).drew
          refine wp_region_named (fun ops hops => ?_)
          refine wp_region_T (by kernel_rfl) [] (fun w' => Below w8.heap.size w8 w') ?_
          rw [show ops.size = 21 from by rw [hops]; rfl]
          have HNS : Region.noSelect ops = true := by rw [hops]; kernel_rfl
          obtain ⟨o0, h0, d0, p0, g0⟩ := op_at5 hops 0 rfl (d := some 47) (p := Op.fieldAddr 43 (Operand.tmp 9) 1) (g := none) rfl rfl rfl
          obtain ⟨o1, h1, d1, p1, g1⟩ := op_at5 hops 1 rfl (d := some 48) (p := Op.load 3 (Operand.tmp 47)) (g := none) rfl rfl rfl
          obtain ⟨o2, h2, d2, p2, g2⟩ := op_at5 hops 2 rfl (d := some 49) (p := Op.binOp BinOp.lss 3 (Operand.tmp 48) (Operand.const (Value.int IntKind.i64 1)) 3) (g := none) rfl rfl rfl
          obtain ⟨o3, h3, d3, p3, g3⟩ := op_at5 hops 3 rfl (d := some 50) (p := Op.move (Operand.tmp 49)) (g := none) rfl rfl rfl
          obtain ⟨o4, h4, d4, p4, g4⟩ := op_at5 hops 4 rfl (d := some 51) (p := Op.fieldAddr 43 (Operand.tmp 9) 1) (g := some (3, false)) rfl rfl rfl
          obtain ⟨o5, h5, d5, p5, g5⟩ := op_at5 hops 5 rfl (d := some 52) (p := Op.load 3 (Operand.tmp 51)) (g := some (3, false)) rfl rfl rfl
          obtain ⟨o6, h6, d6, p6, g6⟩ := op_at5 hops 6 rfl (d := some 53) (p := Op.fieldAddr 27 (Operand.tmp 2) 3) (g := some (3, false)) rfl rfl rfl
          obtain ⟨o7, h7, d7, p7, g7⟩ := op_at5 hops 7 rfl (d := some 54) (p := Op.load 3 (Operand.tmp 53)) (g := some (3, false)) rfl rfl rfl
          obtain ⟨o8, h8, d8, p8, g8⟩ := op_at5 hops 8 rfl (d := some 55) (p := Op.binOp BinOp.gtr 3 (Operand.tmp 52) (Operand.tmp 54) 3) (g := some (3, false)) rfl rfl rfl
          obtain ⟨o9, h9, d9, p9, g9⟩ := op_at5 hops 9 rfl (d := some 56) (p := Op.pick (Operand.tmp 50) (Operand.const (Value.bool true)) (Operand.tmp 55)) (g := none) rfl rfl rfl
          obtain ⟨o10, h10, d10, p10, g10⟩ := op_at5 hops 10 rfl (d := some 57) (p := Op.move (Operand.tmp 56)) (g := none) rfl rfl rfl
          obtain ⟨o11, h11, d11, p11, g11⟩ := op_at5 hops 11 rfl (d := some 58) (p := Op.fieldAddr 27 (Operand.tmp 2) 4) (g := some (10, false)) rfl rfl rfl
          obtain ⟨o12, h12, d12, p12, g12⟩ := op_at5 hops 12 rfl (d := some 59) (p := Op.load 25 (Operand.tmp 58)) (g := some (10, false)) rfl rfl rfl
          obtain ⟨o13, h13, d13, p13, g13⟩ := op_at5 hops 13 rfl (d := some 60) (p := Op.fieldAddr 43 (Operand.tmp 9) 1) (g := some (10, false)) rfl rfl rfl
          obtain ⟨o14, h14, d14, p14, g14⟩ := op_at5 hops 14 rfl (d := some 61) (p := Op.load 3 (Operand.tmp 60)) (g := some (10, false)) rfl rfl rfl
          obtain ⟨o15, h15, d15, p15, g15⟩ := op_at5 hops 15 rfl (d := some 62) (p := Op.binOp BinOp.sub 3 (Operand.tmp 61) (Operand.const (Value.int IntKind.i64 1)) 3) (g := some (10, false)) rfl rfl rfl
          obtain ⟨o16, h16, d16, p16, g16⟩ := op_at5 hops 16 rfl (d := some 63) (p := Op.indexAddr 25 (Operand.tmp 59) (Operand.tmp 62)) (g := some (10, false)) rfl rfl rfl
          obtain ⟨o17, h17, d17, p17, g17⟩ := op_at5 hops 17 rfl (d := some 64) (p := Op.load 23 (Operand.tmp 63)) (g := some (10, false)) rfl rfl rfl
          obtain ⟨o18, h18, d18, p18, g18⟩ := op_at5 hops 18 rfl (d := some 65) (p := Op.load 23 (Operand.tmp 10)) (g := some (10, false)) rfl rfl rfl
          obtain ⟨o19, h19, d19, p19, g19⟩ := op_at5 hops 19 rfl (d := some 66) (p := Op.binOp BinOp.neq 23 (Operand.tmp 64) (Operand.tmp 65) 23) (g := some (10, false)) rfl rfl rfl
          obtain ⟨o20, h20, d20, p20, g20⟩ := op_at5 hops 20 rfl (d := some 67) (p := Op.pick (Operand.tmp 57) (Operand.const (Value.bool true)) (Operand.tmp 66)) (g := none) rfl rfl rfl
          refine wpAnyT_take (i := 0) (v := .pointer (some ⟨gz, 1, none⟩)) [0, 1, 2, 3, 4, 5, 6, 7, 8, 9, 10, 11, 12, 13, 14, 15, 16, 17, 18, 19, 20] h0 HNS (by rw [hops]; kernel_rfl) (by rw [hops]; kernel_rfl) (by rw [hops]; kernel_rfl) (fun _ _ _ => NormalOnly.hQ _ _ _) (Or.inl ⟨(wanted_none g0), fun w' _ => by unfold execOp; rw [p0]; first | rfl | kernel_rfl⟩) s0 ?_
          rw [d0]
          simp only [Act.put, List.setIfInBounds_toArray, List.set_cons_zero, List.set_cons_succ]
          refine wpAnyT_take (i := 1) (v := .int .i64 ix) [1, 2, 3, 4, 5, 6, 7, 8, 9, 10, 11, 12, 13, 14, 15, 16, 17, 18, 19, 20] h1 HNS (by rw [hops]; kernel_rfl) (by rw [hops]; kernel_rfl) (by rw [hops]; kernel_rfl) (fun _ _ _ => NormalOnly.hQ _ _ _) (Or.inl ⟨(wanted_none g1), fun w' h => run_op_load_cell 3 _ p1 gz 1 (by rfl) (.int .i64 ix) ((HZ.out.keep h).cell 1) _ Tryd.underlying3 rfl⟩) s0 ?_
          rw [d1]
          simp only [Act.put, List.setIfInBounds_toArray, List.set_cons_zero, List.set_cons_succ]
          refine wpAnyT_take (i := 2) (v := .bool false) [2, 3, 4, 5, 6, 7, 8, 9, 10, 11, 12, 13, 14, 15, 16, 17, 18, 19, 20] h2 HNS (by rw [hops]; kernel_rfl) (by rw [hops]; kernel_rfl) (by rw [hops]; kernel_rfl) (fun _ _ _ => NormalOnly.hQ _ _ _) (Or.inl ⟨(wanted_none g2), fun w' h => (show _ = Result.ok (.value (.bool (decide (ix < 1)))) w' from by unfold execOp; rw [p2]; first | rfl | kernel_rfl).trans (by rw [q1])⟩) s0 ?_
          rw [d2]
          simp only [Act.put, List.setIfInBounds_toArray, List.set_cons_zero, List.set_cons_succ]
          refine wpAnyT_take (i := 3) (v := .bool false) [3, 4, 5, 6, 7, 8, 9, 10, 11, 12, 13, 14, 15, 16, 17, 18, 19, 20] h3 HNS (by rw [hops]; kernel_rfl) (by rw [hops]; kernel_rfl) (by rw [hops]; kernel_rfl) (fun _ _ _ => NormalOnly.hQ _ _ _) (Or.inl ⟨(wanted_none g3), fun w' _ => by unfold execOp; rw [p3]; first | rfl | kernel_rfl⟩) s0 ?_
          rw [d3]
          simp only [Act.put, List.setIfInBounds_toArray, List.set_cons_zero, List.set_cons_succ]
          refine wpAnyT_take (i := 4) (v := .pointer (some ⟨gz, 1, none⟩)) [4, 5, 8, 9, 10, 11, 12, 13, 14, 15, 16, 17, 18, 19, 20] h4 HNS (by rw [hops]; kernel_rfl) (by rw [hops]; kernel_rfl) (by rw [hops]; kernel_rfl) (fun _ _ _ => NormalOnly.hQ _ _ _) (Or.inl ⟨(wanted_some g4 h3 d3 (by rfl)), fun w' _ => by unfold execOp; rw [p4]; first | rfl | kernel_rfl⟩) s0 ?_
          rw [d4]
          simp only [Act.put, List.setIfInBounds_toArray, List.set_cons_zero, List.set_cons_succ]
          refine wpAnyT_take (i := 5) (v := .int .i64 ix) [5, 8, 9, 10, 11, 12, 13, 14, 15, 16, 17, 18, 19, 20] h5 HNS (by rw [hops]; kernel_rfl) (by rw [hops]; kernel_rfl) (by rw [hops]; kernel_rfl) (fun _ _ _ => NormalOnly.hQ _ _ _) (Or.inl ⟨(wanted_some g5 h3 d3 (by rfl)), fun w' h => run_op_load_cell 3 _ p5 gz 1 (by rfl) (.int .i64 ix) ((HZ.out.keep h).cell 1) _ Tryd.underlying3 rfl⟩) s0 ?_
          rw [d5]
          simp only [Act.put, List.setIfInBounds_toArray, List.set_cons_zero, List.set_cons_succ]
          refine wpAnyT_take (i := 6) (v := .pointer (some ⟨gS, 34, none⟩)) [6, 7, 8, 9, 10, 11, 12, 13, 14, 15, 16, 17, 18, 19, 20] h6 HNS (by rw [hops]; kernel_rfl) (by rw [hops]; kernel_rfl) (by rw [hops]; kernel_rfl) (fun _ _ _ => NormalOnly.hQ _ _ _) (Or.inl ⟨(wanted_some g6 h3 d3 (by rfl)), fun w' _ => by unfold execOp; rw [p6]; first | rfl | kernel_rfl⟩) s0 ?_
          rw [d6]
          simp only [Act.put, List.setIfInBounds_toArray, List.set_cons_zero, List.set_cons_succ]
          refine wpAnyT_take (i := 7) (v := .int .i64 s.mn) [7, 8, 9, 10, 11, 12, 13, 14, 15, 16, 17, 18, 19, 20] h7 HNS (by rw [hops]; kernel_rfl) (by rw [hops]; kernel_rfl) (by rw [hops]; kernel_rfl) (fun _ _ _ => NormalOnly.hQ _ _ _) (Or.inl ⟨(wanted_some g7 h3 d3 (by rfl)), fun w' h => run_op_load_cell 3 _ p7 (gS) (34) (by rfl) (.int .i64 s.mn) (((HS8.out.keep h).cell 34).trans HA33.out) _ Tryd.underlying3 rfl⟩) s0 ?_
          rw [d7]
          simp only [Act.put, List.setIfInBounds_toArray, List.set_cons_zero, List.set_cons_succ]
          refine wpAnyT_take (i := 8) (v := .bool false) [8, 9, 10, 11, 12, 13, 14, 15, 16, 17, 18, 19, 20] h8 HNS (by rw [hops]; kernel_rfl) (by rw [hops]; kernel_rfl) (by rw [hops]; kernel_rfl) (fun _ _ _ => NormalOnly.hQ _ _ _) (Or.inl ⟨(wanted_some g8 h3 d3 (by rfl)), fun w' h => (show _ = Result.ok (.value (.bool (decide (s.mn < ix)))) w' from by unfold execOp; rw [p8]; first | rfl | kernel_rfl).trans (by rw [q2])⟩) s0 ?_
          rw [d8]
          simp only [Act.put, List.setIfInBounds_toArray, List.set_cons_zero, List.set_cons_succ]
          refine wpAnyT_take (i := 9) (v := .bool false) [9, 10, 11, 12, 13, 14, 15, 16, 17, 18, 19, 20] h9 HNS (by rw [hops]; kernel_rfl) (by rw [hops]; kernel_rfl) (by rw [hops]; kernel_rfl) (fun _ _ _ => NormalOnly.hQ _ _ _) (Or.inl ⟨(wanted_none g9), fun w' _ => by unfold execOp; rw [p9]; first | rfl | kernel_rfl⟩) s0 ?_
          rw [d9]
          simp only [Act.put, List.setIfInBounds_toArray, List.set_cons_zero, List.set_cons_succ]
          refine wpAnyT_take (i := 10) (v := .bool false) [10, 11, 12, 13, 14, 15, 16, 17, 18, 19, 20] h10 HNS (by rw [hops]; kernel_rfl) (by rw [hops]; kernel_rfl) (by rw [hops]; kernel_rfl) (fun _ _ _ => NormalOnly.hQ _ _ _) (Or.inl ⟨(wanted_none g10), fun w' _ => by unfold execOp; rw [p10]; first | rfl | kernel_rfl⟩) s0 ?_
          rw [d10]
          simp only [Act.put, List.setIfInBounds_toArray, List.set_cons_zero, List.set_cons_succ]
          refine wpAnyT_take (i := 11) (v := .pointer (some ⟨gS, 35, none⟩)) [11, 12, 16, 17, 19, 20] h11 HNS (by rw [hops]; kernel_rfl) (by rw [hops]; kernel_rfl) (by rw [hops]; kernel_rfl) (fun _ _ _ => NormalOnly.hQ _ _ _) (Or.inl ⟨(wanted_some g11 h10 d10 (by rfl)), fun w' _ => by unfold execOp; rw [p11]; first | rfl | kernel_rfl⟩) s0 ?_
          rw [d11]
          simp only [Act.put, List.setIfInBounds_toArray, List.set_cons_zero, List.set_cons_succ]
          refine wpAnyT_take (i := 12) (v := .slice (some ⟨bm, om, none⟩) m cA) [12, 16, 17, 19, 20] h12 HNS (by rw [hops]; kernel_rfl) (by rw [hops]; kernel_rfl) (by rw [hops]; kernel_rfl) (fun _ _ _ => NormalOnly.hQ _ _ _) (Or.inl ⟨(wanted_some g12 h10 d10 (by rfl)), fun w' h => run_op_load_cell 25 _ p12 (gS) (35) (by rfl) (.slice (some ⟨bm, om, none⟩) m cA) (((HS8.out.keep h).cell 35).trans HA35.out) _ Tryd.underlying25 rfl⟩) s0 ?_
          rw [d12]
          simp only [Act.put, List.setIfInBounds_toArray, List.set_cons_zero, List.set_cons_succ]
          refine wpAnyT_take (i := 13) (v := .pointer (some ⟨gz, 1, none⟩)) [13, 14, 15, 16, 17, 19, 20] h13 HNS (by rw [hops]; kernel_rfl) (by rw [hops]; kernel_rfl) (by rw [hops]; kernel_rfl) (fun _ _ _ => NormalOnly.hQ _ _ _) (Or.inl ⟨(wanted_some g13 h10 d10 (by rfl)), fun w' _ => by unfold execOp; rw [p13]; first | rfl | kernel_rfl⟩) s0 ?_
          rw [d13]
          simp only [Act.put, List.setIfInBounds_toArray, List.set_cons_zero, List.set_cons_succ]
          refine wpAnyT_take (i := 14) (v := .int .i64 ix) [14, 15, 16, 17, 19, 20] h14 HNS (by rw [hops]; kernel_rfl) (by rw [hops]; kernel_rfl) (by rw [hops]; kernel_rfl) (fun _ _ _ => NormalOnly.hQ _ _ _) (Or.inl ⟨(wanted_some g14 h10 d10 (by rfl)), fun w' h => run_op_load_cell 3 _ p14 gz 1 (by rfl) (.int .i64 ix) ((HZ.out.keep h).cell 1) _ Tryd.underlying3 rfl⟩) s0 ?_
          rw [d14]
          simp only [Act.put, List.setIfInBounds_toArray, List.set_cons_zero, List.set_cons_succ]
          refine wpAnyT_take (i := 15) (v := .int .i64 (j : Int)) [15, 16, 17, 19, 20] h15 HNS (by rw [hops]; kernel_rfl) (by rw [hops]; kernel_rfl) (by rw [hops]; kernel_rfl) (fun _ _ _ => NormalOnly.hQ _ _ _) (Or.inl ⟨(wanted_some g15 h10 d10 (by rfl)), fun w' h => (show _ = Result.ok (.value (.int .i64 (IntKind.i64.wrap (ix - 1)))) w' from by unfold execOp; rw [p15]; first | rfl | kernel_rfl).trans (by rw [q3])⟩) s0 ?_
          rw [d15]
          simp only [Act.put, List.setIfInBounds_toArray, List.set_cons_zero, List.set_cons_succ]
          refine wpAnyT_take (i := 16) (v := .pointer (some ⟨bm, om + j * 32, none⟩)) [16, 17, 19, 20] h16 HNS (by rw [hops]; kernel_rfl) (by rw [hops]; kernel_rfl) (by rw [hops]; kernel_rfl) (fun _ _ _ => NormalOnly.hQ _ _ _) (Or.inl ⟨(wanted_some g16 h10 d10 (by rfl)), fun w' h => run_op_index_mid 25 _ _ p16 bm om m cA j (by rfl) (by rfl) hjm 23 32 Tryd.underlying25 Sl.infoD⟩) s0 ?_
          rw [d16]
          simp only [Act.put, List.setIfInBounds_toArray, List.set_cons_zero, List.set_cons_succ]
          refine wpAnyT_take (i := 17) (v := .agg (M.map Dg.b8).toArray) [17, 19, 20] h17 HNS (by rw [hops]; kernel_rfl) (by rw [hops]; kernel_rfl) (by rw [hops]; kernel_rfl) (fun _ _ _ => NormalOnly.hQ _ _ _) (Or.inl ⟨(wanted_some g17 h10 d10 (by rfl)), fun w' h => run_op_load_mid 23 _ p17 bm (om + j * 32) (by rfl) (M.map Dg.b8) _ (MS.out w' h) Tryd.underlying23 rfl (Sl.infoDm _ HM32.out)⟩) s0 ?_
          rw [d17]
          simp only [Act.put, List.setIfInBounds_toArray, List.set_cons_zero, List.set_cons_succ]
          refine wpAnyT_take (i := 18) (v := .agg (D.map Dg.b8).toArray) [18, 19, 20] h18 HNS (by rw [hops]; kernel_rfl) (by rw [hops]; kernel_rfl) (by rw [hops]; kernel_rfl) (fun _ _ _ => NormalOnly.hQ _ _ _) (Or.inl ⟨(wanted_some g18 h10 d10 (by rfl)), fun w' h => run_op_load_mid 23 _ p18 gd 0 (by rfl) (D.map Dg.b8) _ (Sl.at0 (HD8.out.keep h)) Tryd.underlying23 rfl (Sl.infoDm _ HD32.out)⟩) s0 ?_
          rw [d18]
          simp only [Act.put, List.setIfInBounds_toArray, List.set_cons_zero, List.set_cons_succ]
          refine wpAnyT_take (i := 19) (v := .bool (!(M == D))) [19, 20] h19 HNS (by rw [hops]; kernel_rfl) (by rw [hops]; kernel_rfl) (by rw [hops]; kernel_rfl) (fun _ _ _ => NormalOnly.hQ _ _ _) (Or.inl ⟨(wanted_some g19 h10 d10 (by rfl)), fun w' h => run_op_neq_agg 23 23 _ _ p19 _ _ _ (by rfl) (by rfl) (by kernel_rfl) (Sl.neqD _ _ HM32.out HD32.out w')⟩) s0 ?_
          rw [d19]
          simp only [Act.put, List.setIfInBounds_toArray, List.set_cons_zero, List.set_cons_succ]
          refine wpAnyT_take (i := 20) (v := .bool (!(M == D))) [20] h20 HNS (by rw [hops]; kernel_rfl) (by rw [hops]; kernel_rfl) (by rw [hops]; kernel_rfl) (fun _ _ _ => NormalOnly.hQ _ _ _) (Or.inl ⟨(wanted_none g20), fun w' _ => by unfold execOp; rw [p20]; first | rfl | kernel_rfl⟩) s0 ?_
          rw [d20]
          simp only [Act.put, List.setIfInBounds_toArray, List.set_cons_zero, List.set_cons_succ]
          refine wpAnyT_done (by rw [hops]; kernel_rfl) ⟨rfl, ?_⟩ _
          clear HNS hops h0 d0 p0 g0 h1 d1 p1 g1 h2 d2 p2 g2 h3 d3 p3 g3 h4 d4 p4 g4 h5 d5 p5 g5 h6 d6 p6 g6 h7 d7 p7 g7 h8 d8 p8 g8 h9 d9 p9 g9 h10 d10 p10 g10 h11 d11 p11 g11 h12 d12 p12 g12 h13 d13 p13 g13 h14 d14 p14 g14 h15 d15 p15 g15 h16 d16 p16 g16 h17 d17 p17 g17 h18 d18 p18 g18 h19 d19 p19 g19 h20 d20 p20 g20
          replace HBr := Lib.hid HBr.out.drew
          clear HZ HD8 HS8 HA33 HA35 HD32
          clear MS HM32 hjm q3
          cases hq : (!(M == D)) with
          | true =>
            have hbad : Sl.bad s y.s = true := HBM.out.trans hq
            have hat := Sl.alt_at HXV.out hbad
            rw [HL.out, ← HP.out] at hat
            have hpL : p < nL := by rw [← HNL.out]; exact (List.getElem?_eq_some_iff.1 hat).1
            obtain ⟨b5, o5, rfl, hb5, hc5⟩ := HR5.out.2 (by omega)
            have x5 := hc5 p (Sl.iv k) (by rw [List.getElem?_map, hat]; rfl)
            have x6 := (HBr.out.cell (p := ⟨b5, o5 + p, none⟩) hb5).trans x5
            have hpn : p + 1 = (Sl.altp s (Shr.vals xs) (k + 1)).length := by rw [Sl.altp_bad HXV.out hbad, List.length_append, ← HP.out]; rfl
            have HPN := Lib.hid hpn
            change _ = some (Value.int .i64 (k : Int)) at x6
            have i1 : (0 : Int) ≤ (p : Int) := by omega
            have i2 : (p : Int) < (nL : Int) := by omega
            have qk : ((k : Int) != (k : Int)) = false := by simp
            clear hat hb5 hc5 x5 hpn hbad
            go_wp2_with fail
            go_roundw
            case rel => exact ⟨k + 1, p + 1, by omega, by go_num, by go_num, HPN.out, HBr.out⟩
            case measure => simp [intOf]; omega
          | false =>
            have hgood : Sl.bad s y.s = false := HBM.out.trans hq
            have hpn : p = (Sl.altp s (Shr.vals xs) (k + 1)).length := by rw [Sl.altp_good HXV.out hgood, ← HP.out]
            have HPN := Lib.hid hpn
            clear hpn hgood
            go_wp2_with fail
            go_roundw
            case rel => exact ⟨k + 1, p, by omega, by go_num, rfl, HPN.out, HBr.out⟩
            case measure => simp [intOf]; omega
        · obtain rfl : k = n := by omega
          have hp : p = nL := by rw [HP.out, ← HNL.out, ← HL.out]; unfold Sl.alt; rw [HVL.out]
          subst hp
          go_wp2_with fail
          go_ret
          exact ⟨rfl, HB.out.trans (HBr.out.mono HB.out.size)⟩
end Go.Proofs.YtideglpjgplpnaaDoor
