import Derived.Test.YtideglpjgplpnaaDoorMSlK
/- SealsOpened: the walk. -/
namespace Go.Proofs.YtideglpjgplpnaaDoor
open Go.RowKit Go.Shelf
set_option linter.unusedVariables false
set_option linter.unusedSimpArgs false

set_option maxRecDepth 100000 in
set_option maxHeartbeats 16000000 in
theorem Sl.opened_law (s : Sl.W) (Ad : Option Addr) (cd : Nat) (Am : Option Addr) (cA : Nat) (A : Option Addr) (n c : Nat) (xs : List Shr.C) (w : World) (ha : Sl.Arg w s Ad cd Am cA A n c xs) :
    Calls Tryd.prog 3 #[.agg (Sl.row s Ad cd Am cA).toArray, .slice A n c] w fun e w' => e = .returned (.bool true) ∧ Below w.heap.size w w' := by
  have HA := Lib.hid ha
  have HI := Lib.hid (show (Tryd.prog.info? 27).map (·.size) = some (Sl.row s Ad cd Am cA).toArray.size from by rw [List.size_toArray, Sl.row_len ha.s.cl]; exact Sl.infoW)
  have hat := Sl.row_at ha.s.cl Ad cd Am cA
  have HAT := Lib.hid hat
  have HCL := Lib.hid ha.s.cl
  clear hat ha
  obtain ⟨T, hT⟩ : ∃ T, Sl.row s Ad cd Am cA = T := ⟨_, rfl⟩
  have HT := Lib.hid hT.symm
  rw [hT] at HI HAT ⊢
  clear hT
  obtain ⟨W1, hW1⟩ : ∃ W1, W1 = w.alloc (.cells T.toArray 27) := ⟨_, rfl⟩
  have HB := Lib.hid (show Below w.heap.size w W1 from by rw [hW1]; exact (Below.refl _ w).alloc (Nat.le_refl _) _)
  have HS := Lib.hid (show Has W1 w.heap.size 27 T from by rw [hW1]; exact Has.new w _ _)
  go_enter Tryd.func3, Tryd.ntmps3
  go_upto_region 1 with fail
  change Code.wp _ _ _ _ (w.alloc (.cells T.toArray 27))
  rw [← hW1]
  clear hW1
  obtain ⟨gS, hgS⟩ : ∃ gS, gS = w.heap.size := ⟨_, rfl⟩
  rw [← hgS] at HS ⊢
  clear hgS
  go_wp2_with fail
  ((with_reducible refine (Sl.sane_any W1 (HA.out.k.keep HB.out)).mono ?_); rintro e w2 ⟨rfl, hb2⟩)
  replace HB := Lib.hid (HB.out.trans (hb2.mono HB.out.size))
  replace HS := Lib.hid (HS.out.keep hb2)
  clear hb2
  have HSr := Lib.hid (show w2.heap[gS]? = some (.cells T.toArray 27 (0, 0)) from HS.out)
  have HFS := Sl.few_any s Ad cd Am cA w2 HCL.out
  rw [← HT.out] at HFS
  obtain ⟨fs, hfs⟩ : ∃ fs, Sl.fewS s = fs := ⟨_, rfl⟩
  rw [hfs] at HFS
  replace HFS := Lib.hid HFS
  have HFSE := Lib.hid hfs
  clear hfs
  go_wp2_with (with_reducible refine wpList_load_row rfl 27 (.tmp 2) rfl gS rfl 27 T.toArray (0, 0) _ HSr.out Tryd.underlying27 rfl HI.out ?_)
  ((with_reducible refine HFS.out.mono ?_); rintro e w3 ⟨rfl, hb3⟩)
  clear HSr HFS
  replace HB := Lib.hid (HB.out.trans (hb3.mono HB.out.size))
  replace HS := Lib.hid (HS.out.keep hb3)
  clear hb3
  cases fs with
  | false =>
    go_wp2_with fail
    go_ret
    exact ⟨rfl, HB.out⟩
  | true =>
    have HFN := Lib.hid (Shr.few_any A n c xs w3 (HA.out.r.keep HB.out) (Nat.le_trans HA.out.nc HA.out.cm))
    obtain ⟨fl, hfl⟩ : ∃ fl, Shr.fewB (Shr.vals xs) = fl := ⟨_, rfl⟩
    rw [hfl] at HFN
    have HFLE := Lib.hid hfl
    clear hfl
    go_wp2_with fail
    ((with_reducible refine HFN.out.mono ?_); rintro e _ ⟨rfl, rfl⟩)
    clear HFN
    cases fl with
    | false =>
      go_wp2_with fail
      go_ret
      exact ⟨rfl, HB.out⟩
    | true =>
      have HRD := Lib.hid (fun (W : World) (hb : Below w.heap.size w W) => HA.out.rdy HFLE.out hb (HA.out.r.keep hb))
      have HN := Lib.hid (HA.out.few HFLE.out)
      have HO := fun (W : World) (hb : Below w.heap.size w W) (A' : Option Addr) (n' c' : Nat) (hr : Shr.Rds W A' n' xs) (h1 : n' ≤ c') (h2 : c' ≤ maxLen) => Sl.open_any A' n' c' xs s Ad cd Am cA W (HA.out.rdy HFLE.out hb hr) h1 h2
      have HAL := fun (W : World) (hb : Below w.heap.size w W) => Sl.alt_any A n c xs s Ad cd Am cA W (HRD.out W hb)
      have HYES := Lib.hid (fun h => Sl.opn_yes (s := s) (l := Shr.vals xs) h)
      obtain ⟨z, hz⟩ : ∃ z, Sl.opnE s (Shr.vals xs) = z := ⟨_, rfl⟩
      obtain ⟨V, hV⟩ : ∃ V, Sl.opnV s (Shr.vals xs) = V := ⟨_, rfl⟩
      have HNO := Lib.hid (fun (h : z ≠ 0) => (hV.symm.trans (Sl.opn_no hz h)))
      rw [hz, hV] at HYES HO
      rw [← HT.out] at HO HAL
      replace HO := Lib.hid HO
      replace HAL := Lib.hid HAL
      clear hz hV
      have HSr := Lib.hid (show w3.heap[gS]? = some (.cells T.toArray 27 (0, 0)) from HS.out)
      have hnm : n ≤ 10 := HN.out
      go_wp2_with (with_reducible refine wpList_load_row rfl 27 (.tmp 2) rfl gS rfl 27 T.toArray (0, 0) _ HSr.out Tryd.underlying27 rfl HI.out ?_)
      ((with_reducible refine (HO.out w3 HB.out A n c (HA.out.r.keep HB.out) HA.out.nc HA.out.cm).mono ?_); rintro e w4 ⟨A4, c4, rfl, hq4, hr4, hb4⟩)
      clear HSr
      replace HB := Lib.hid (HB.out.trans (hb4.mono HB.out.size))
      replace HS := Lib.hid (HS.out.keep hb4)
      clear hb4
      by_cases h0 : z = 0
      rotate_left
      · obtain rfl := HNO.out h0
        have q : (z != 0) = true := by simpa using h0
        go_wp2_with fail
        go_ret
        exact ⟨rfl, HB.out⟩
      subst h0
      obtain ⟨hy1, hy2, hy3, hy4⟩ := HYES.out rfl
      rw [hy1, hy2] at HAL
      clear HYES HNO hy1 hy2
      have HCM := Lib.hid hy4
      have HV4 := Lib.hid hr4
      have HQ4 := Lib.hid hq4
      obtain ⟨nd, hnd⟩ : ∃ nd, s.d.length = nd := ⟨_, rfl⟩
      rw [hnd] at hy3
      have h32 := HAT.out.1
      rw [hy3] at HV4 ⊢
      rw [hnd] at h32
      have H32 := Lib.hid h32
      have HND := Lib.hid (show nd ≤ 100 from by rw [← hnd]; exact (Sl.fewS_yes HFSE.out).1)
      have HO2 := Lib.hid (fun (W : World) (hb : Below w.heap.size w W) (A' : Option Addr) (n' c' : Nat) (hr : Shr.Rds W A' n' xs) (h1 : n' ≤ c') (h2 : c' ≤ maxLen) => Sl.open_nd (HO.out W hb A' n' c' hr h1 h2) hy3)
      clear hy3 hy4 hr4 hq4 hnd h32 HO
      have HSr := Lib.hid (show w4.heap[gS]? = some (.cells T.toArray 27 (0, 0)) from HS.out)
      go_wp2_with (with_reducible refine wpList_load_row rfl 27 (.tmp 2) rfl gS rfl 27 T.toArray (0, 0) _ HSr.out Tryd.underlying27 rfl HI.out ?_)
      ((with_reducible refine (HAL.out w4 HB.out).mono ?_); rintro e w5 ⟨A5, c5, rfl, _, hb5⟩)
      clear HSr
      replace HB := Lib.hid (HB.out.trans (hb5.mono HB.out.size))
      replace HS := Lib.hid (HS.out.keep hb5)
      replace HV4 := Lib.hid (HV4.out.keep hb5)
      clear hb5
      go_wp2_with fail
      refine Sl.wp_normal ?_
      have s0 : Below w5.heap.size w5 w5.drew := (Below.refl _ w5).drew
      refine wp_region_named (fun ops hops => ?_)
      refine wp_region_T (by kernel_rfl) [] (fun w' => Below w5.heap.size w5 w') ?_
      rw [show ops.size = 10 from by rw [hops]; rfl]
      have HNS : Region.noSelect ops = true := by rw [hops]; kernel_rfl
      obtain ⟨o0, h0, d0, p0, g0⟩ := op_at5 hops 0 rfl (d := some 39) (p := Op.load 27 (Operand.tmp 2)) (g := none) rfl rfl rfl
      obtain ⟨o1, h1, d1, p1, g1⟩ := op_at5 hops 1 rfl (d := some 40) (p := Op.buildSlice 28 0 #[]) (g := none) rfl rfl rfl
      obtain ⟨o2, h2, d2, p2, g2⟩ := op_at5 hops 2 rfl (d := some 41) (p := Op.move (Operand.tmp 1)) (g := none) rfl rfl rfl
      obtain ⟨o3, h3, d3, p3, g3⟩ := op_at5 hops 3 rfl (d := some 42) (p := Op.call { callee := Callee.builtin Builtin.append, args := #[Operand.tmp 40, Operand.tmp 41], argTypes := #[28, 28] }) (g := none) rfl rfl rfl
      obtain ⟨o4, h4, d4, p4, g4⟩ := op_at5 hops 4 rfl (d := some 43) (p := Op.call { callee := Callee.value (Operand.func 13), args := #[Operand.tmp 39, Operand.tmp 42], argTypes := #[27, 28] }) (g := none) rfl rfl rfl
      obtain ⟨o5, h5, d5, p5, g5⟩ := op_at5 hops 5 rfl (d := some 38) (p := Op.move (Operand.tmp 43)) (g := none) rfl rfl rfl
      obtain ⟨o6, h6, d6, p6, g6⟩ := op_at5 hops 6 rfl (d := some 44) (p := Op.extract (Operand.tmp 38) 0) (g := none) rfl rfl rfl
      obtain ⟨o7, h7, d7, p7, g7⟩ := op_at5 hops 7 rfl (d := some 45) (p := Op.extract (Operand.tmp 38) 1) (g := none) rfl rfl rfl
      obtain ⟨o8, h8, d8, p8, g8⟩ := op_at5 hops 8 rfl (d := some 9) (p := Op.assign (Operand.tmp 44)) (g := none) rfl rfl rfl
      obtain ⟨o9, h9, d9, p9, g9⟩ := op_at5 hops 9 rfl (d := some 10) (p := Op.assign (Operand.tmp 45)) (g := none) rfl rfl rfl
      have HE13 := Lib.hid (enters_of Tryd.func13 (by kernel_rfl) rfl)
      refine wpAnyT_take (i := 0) (v := .agg T.toArray) [0, 4, 5, 6, 7, 8, 9] h0 HNS (by rw [hops]; kernel_rfl) (by rw [hops]; kernel_rfl) (by rw [hops]; kernel_rfl) (fun _ _ _ => NormalOnly.hQ _ _ _) (Or.inl ⟨(wanted_none g0), fun w' h => run_op_load_row 27 _ p0 gS (by rfl) 27 _ (0, 0) _ (HS.out.keep h) Tryd.underlying27 rfl HI.out⟩) s0 ?_
      rw [d0]
      simp only [Act.put, List.setIfInBounds_toArray, List.set_cons_zero, List.set_cons_succ]
      refine wpAnyT_take (i := 2) (v := .slice A n c) [2, 3, 4, 5, 6, 7, 8, 9] h2 HNS (by rw [hops]; kernel_rfl) (by rw [hops]; kernel_rfl) (by rw [hops]; kernel_rfl) (fun _ _ _ => NormalOnly.hQ _ _ _) (Or.inl ⟨(wanted_none g2), fun w' _ => by unfold execOp; rw [p2]; first | rfl | kernel_rfl⟩) s0 ?_
      rw [d2]
      simp only [Act.put, List.setIfInBounds_toArray, List.set_cons_zero, List.set_cons_succ]
      refine wpAnyT_one (by rw [hops]; kernel_rfl) h1 (wanted_none g1) (fun K hK => ?_)
      refine wp_runG (w' := w5.drew.alloc (.cells #[] 43)) (v := .slice (some ⟨w5.drew.heap.size, 0, none⟩) 0 0) (by unfold execOp; rw [p1]; first | rfl | kernel_rfl) ?_
      have s1 : Below w5.heap.size w5 (w5.drew.alloc (.cells #[] 43)) := s0.alloc s0.size _
      have ow : (w5.drew.alloc (.cells #[] 43)).ownsRow w5.heap.size 43 5 (.slice (some ⟨w5.drew.heap.size, 0, none⟩) 0 0) 0 [] := World.ownsRow_lit (base := w5.heap.size) (e := 43) (size := 5) w5.drew #[] 0 s0.size (by decide) rfl
      rw [d1]
      simp only [Act.put, List.setIfInBounds_toArray, List.set_cons_zero, List.set_cons_succ]
      refine hK.out _ _ (fun _ => s1) ?_
      clear hK K
      refine wpAnyT_one (by rw [hops]; kernel_rfl) h3 (wanted_none g3) (fun K hK => ?_)
      refine wp_append_rd (.tmp 40) (.tmp 41) p3 elS (by rfl) ow (by rfl) ((HA.out.r.keep HB.out).keep s1).rd (Sl.ones xs) HA.out.nil (by unfold maxLen; omega) (by omega) s1.size (fun v1 w6 hG1 => ?_)
      have s2 : Below w5.heap.size w5 w6 := s1.grown hG1.grown s1.size (fun k e => own_ge ow e)
      obtain ⟨A6, c6, rfl⟩ := own_form hG1.own
      have cap6 := own_cap hG1.own
      have row6 := hG1.own
      rw [List.nil_append] at row6
      have rd6 : Shr.Rds w6 A6 (0 + n) xs := Shr.Rds.of_own row6 (fun x hx => (((HA.out.r.keep HB.out).keep s2).ok x hx))
      clear hG1 ow row6
      rw [Nat.zero_add] at rd6 cap6 ⊢
      rw [d3]
      simp only [Act.put, List.setIfInBounds_toArray, List.set_cons_zero, List.set_cons_succ]
      refine hK.out _ _ (fun _ => s2) ?_
      clear hK K
      refine wpAnyT_one (by rw [hops]; kernel_rfl) h4 (wanted_none g4) (fun K hK => ?_)
      refine wp_call2 13 _ _ _ (.agg T.toArray) (.slice A6 n c6) p4 HE13.out (by rfl) (by rfl) ?_
      (refine (HO2.out w6 (HB.out.trans (s2.mono HB.out.size)) A6 n c6 rd6 cap6.1 cap6.2).mono ?_; rintro e w7 ⟨A7, c7, rfl, hq7, hr7, hb0⟩)
      have s3 : Below w5.heap.size w5 w7 := s2.trans (hb0.mono s2.size)
      clear hb0
      refine ⟨_, rfl, ?_⟩
      rw [d4]
      simp only [Act.put, List.setIfInBounds_toArray, List.set_cons_zero, List.set_cons_succ]
      refine hK.out _ _ (fun _ => s3) ?_
      clear hK K
      refine wpAnyT_take (i := 5) (v := .tuple #[.slice A7 nd c7, .int .i64 0]) [5, 6, 7, 8, 9] h5 HNS (by rw [hops]; kernel_rfl) (by rw [hops]; kernel_rfl) (by rw [hops]; kernel_rfl) (fun _ _ _ => NormalOnly.hQ _ _ _) (Or.inl ⟨(wanted_none g5), fun w' _ => by unfold execOp; rw [p5]; first | rfl | kernel_rfl⟩) s3 ?_
      rw [d5]
      simp only [Act.put, List.setIfInBounds_toArray, List.set_cons_zero, List.set_cons_succ]
      refine wpAnyT_take (i := 6) (v := .slice A7 nd c7) [6, 8, 9] h6 HNS (by rw [hops]; kernel_rfl) (by rw [hops]; kernel_rfl) (by rw [hops]; kernel_rfl) (fun _ _ _ => NormalOnly.hQ _ _ _) (Or.inl ⟨(wanted_none g6), fun w' _ => by unfold execOp; rw [p6]; first | rfl | kernel_rfl⟩) s3 ?_
      rw [d6]
      simp only [Act.put, List.setIfInBounds_toArray, List.set_cons_zero, List.set_cons_succ]
      refine wpAnyT_take (i := 7) (v := .int .i64 0) [7, 9] h7 HNS (by rw [hops]; kernel_rfl) (by rw [hops]; kernel_rfl) (by rw [hops]; kernel_rfl) (fun _ _ _ => NormalOnly.hQ _ _ _) (Or.inl ⟨(wanted_none g7), fun w' _ => by unfold execOp; rw [p7]; first | rfl | kernel_rfl⟩) s3 ?_
      rw [d7]
      simp only [Act.put, List.setIfInBounds_toArray, List.set_cons_zero, List.set_cons_succ]
      refine wpAnyT_take (i := 8) (v := .slice A7 nd c7) [8, 9] h8 HNS (by rw [hops]; kernel_rfl) (by rw [hops]; kernel_rfl) (by rw [hops]; kernel_rfl) (fun _ _ _ => NormalOnly.hQ _ _ _) (Or.inl ⟨(wanted_none g8), fun w' _ => by unfold execOp; rw [p8]; first | rfl | kernel_rfl⟩) s3 ?_
      rw [d8]
      simp only [Act.put, List.setIfInBounds_toArray, List.set_cons_zero, List.set_cons_succ]
      refine wpAnyT_take (i := 9) (v := .int .i64 0) [9] h9 HNS (by rw [hops]; kernel_rfl) (by rw [hops]; kernel_rfl) (by rw [hops]; kernel_rfl) (fun _ _ _ => NormalOnly.hQ _ _ _) (Or.inl ⟨(wanted_none g9), fun w' _ => by unfold execOp; rw [p9]; first | rfl | kernel_rfl⟩) s3 ?_
      rw [d9]
      simp only [Act.put, List.setIfInBounds_toArray, List.set_cons_zero, List.set_cons_succ]
      refine wpAnyT_done (by rw [hops]; kernel_rfl) ⟨rfl, ?_⟩ _
      clear HNS hops h0 d0 p0 g0 h1 d1 p1 g1 h2 d2 p2 g2 h3 d3 p3 g3 h4 d4 p4 g4 h5 d5 p5 g5 h6 d6 p6 g6 h7 d7 p7 g7 h8 d8 p8 g8 h9 d9 p9 g9
      clear s0
      clear s1
      clear s2
      clear HE13 rd6 cap6
      replace HB := Lib.hid (HB.out.trans (s3.mono HB.out.size))
      replace HS := Lib.hid (HS.out.keep s3)
      replace HV4 := Lib.hid (HV4.out.keep s3)
      clear s3
      have HV7 := Lib.hid hr7
      clear hr7
      clear hq7
      go_wp2_with fail
      refine Sl.wp_normal ?_
      have s0 : Below w7.heap.size w7 w7.drew := (Below.refl _ w7).drew
      refine wp_region_named (fun ops hops => ?_)
      refine wp_region_T (by kernel_rfl) [] (fun w' => Below w7.heap.size w7 w') ?_
      rw [show ops.size = 34 from by rw [hops]; rfl]
      have HNS : Region.noSelect ops = true := by rw [hops]; kernel_rfl
      obtain ⟨o0, h0, d0, p0, g0⟩ := op_at5 hops 0 rfl (d := some 46) (p := Op.move (Operand.tmp 8)) (g := none) rfl rfl rfl
      obtain ⟨o1, h1, d1, p1, g1⟩ := op_at5 hops 1 rfl (d := some 47) (p := Op.binOp BinOp.eql 32 (Operand.tmp 46) (Operand.const (Value.int IntKind.i64 0)) 32) (g := none) rfl rfl rfl
      obtain ⟨o2, h2, d2, p2, g2⟩ := op_at5 hops 2 rfl (d := some 48) (p := Op.move (Operand.tmp 47)) (g := none) rfl rfl rfl
      obtain ⟨o3, h3, d3, p3, g3⟩ := op_at5 hops 3 rfl (d := some 49) (p := Op.move (Operand.tmp 7)) (g := some (2, true)) rfl rfl rfl
      obtain ⟨o4, h4, d4, p4, g4⟩ := op_at5 hops 4 rfl (d := some 50) (p := Op.call { callee := Callee.builtin Builtin.len, args := #[Operand.tmp 49], argTypes := #[35] }) (g := some (2, true)) rfl rfl rfl
      obtain ⟨o5, h5, d5, p5, g5⟩ := op_at5 hops 5 rfl (d := some 51) (p := Op.binOp BinOp.eql 3 (Operand.tmp 50) (Operand.const (Value.int IntKind.i64 0)) 3) (g := some (2, true)) rfl rfl rfl
      obtain ⟨o6, h6, d6, p6, g6⟩ := op_at5 hops 6 rfl (d := some 52) (p := Op.pick (Operand.tmp 48) (Operand.tmp 51) (Operand.const (Value.bool false))) (g := none) rfl rfl rfl
      obtain ⟨o7, h7, d7, p7, g7⟩ := op_at5 hops 7 rfl (d := some 53) (p := Op.move (Operand.tmp 52)) (g := none) rfl rfl rfl
      obtain ⟨o8, h8, d8, p8, g8⟩ := op_at5 hops 8 rfl (d := some 54) (p := Op.move (Operand.tmp 5)) (g := some (7, true)) rfl rfl rfl
      obtain ⟨o9, h9, d9, p9, g9⟩ := op_at5 hops 9 rfl (d := some 55) (p := Op.call { callee := Callee.builtin Builtin.len, args := #[Operand.tmp 54], argTypes := #[24] }) (g := some (7, true)) rfl rfl rfl
      obtain ⟨o10, h10, d10, p10, g10⟩ := op_at5 hops 10 rfl (d := some 56) (p := Op.fieldAddr 27 (Operand.tmp 2) 1) (g := some (7, true)) rfl rfl rfl
      obtain ⟨o11, h11, d11, p11, g11⟩ := op_at5 hops 11 rfl (d := some 57) (p := Op.load 24 (Operand.tmp 56)) (g := some (7, true)) rfl rfl rfl
      obtain ⟨o12, h12, d12, p12, g12⟩ := op_at5 hops 12 rfl (d := some 58) (p := Op.call { callee := Callee.builtin Builtin.len, args := #[Operand.tmp 57], argTypes := #[24] }) (g := some (7, true)) rfl rfl rfl
      obtain ⟨o13, h13, d13, p13, g13⟩ := op_at5 hops 13 rfl (d := some 59) (p := Op.binOp BinOp.eql 3 (Operand.tmp 55) (Operand.tmp 58) 3) (g := some (7, true)) rfl rfl rfl
      obtain ⟨o14, h14, d14, p14, g14⟩ := op_at5 hops 14 rfl (d := some 60) (p := Op.pick (Operand.tmp 53) (Operand.tmp 59) (Operand.const (Value.bool false))) (g := none) rfl rfl rfl
      obtain ⟨o15, h15, d15, p15, g15⟩ := op_at5 hops 15 rfl (d := some 61) (p := Op.move (Operand.tmp 60)) (g := none) rfl rfl rfl
      obtain ⟨o16, h16, d16, p16, g16⟩ := op_at5 hops 16 rfl (d := some 62) (p := Op.move (Operand.tmp 5)) (g := some (15, true)) rfl rfl rfl
      obtain ⟨o17, h17, d17, p17, g17⟩ := op_at5 hops 17 rfl (d := some 63) (p := Op.call { callee := Callee.value (Operand.func 15), args := #[Operand.const (Value.string { data := #[99, 111, 109, 109, 105, 116] }), Operand.tmp 62], argTypes := #[9, 24] }) (g := some (15, true)) rfl rfl rfl
      obtain ⟨o18, h18, d18, p18, g18⟩ := op_at5 hops 18 rfl (d := some 64) (p := Op.fieldAddr 27 (Operand.tmp 2) 0) (g := some (15, true)) rfl rfl rfl
      obtain ⟨o19, h19, d19, p19, g19⟩ := op_at5 hops 19 rfl (d := some 65) (p := Op.load 23 (Operand.tmp 64)) (g := some (15, true)) rfl rfl rfl
      obtain ⟨o20, h20, d20, p20, g20⟩ := op_at5 hops 20 rfl (d := some 66) (p := Op.binOp BinOp.eql 23 (Operand.tmp 63) (Operand.tmp 65) 23) (g := some (15, true)) rfl rfl rfl
      obtain ⟨o21, h21, d21, p21, g21⟩ := op_at5 hops 21 rfl (d := some 67) (p := Op.pick (Operand.tmp 61) (Operand.tmp 66) (Operand.const (Value.bool false))) (g := none) rfl rfl rfl
      obtain ⟨o22, h22, d22, p22, g22⟩ := op_at5 hops 22 rfl (d := some 68) (p := Op.move (Operand.tmp 67)) (g := none) rfl rfl rfl
      obtain ⟨o23, h23, d23, p23, g23⟩ := op_at5 hops 23 rfl (d := some 69) (p := Op.move (Operand.tmp 10)) (g := some (22, true)) rfl rfl rfl
      obtain ⟨o24, h24, d24, p24, g24⟩ := op_at5 hops 24 rfl (d := some 70) (p := Op.binOp BinOp.eql 32 (Operand.tmp 69) (Operand.const (Value.int IntKind.i64 0)) 32) (g := some (22, true)) rfl rfl rfl
      obtain ⟨o25, h25, d25, p25, g25⟩ := op_at5 hops 25 rfl (d := some 71) (p := Op.pick (Operand.tmp 68) (Operand.tmp 70) (Operand.const (Value.bool false))) (g := none) rfl rfl rfl
      obtain ⟨o26, h26, d26, p26, g26⟩ := op_at5 hops 26 rfl (d := some 72) (p := Op.move (Operand.tmp 71)) (g := none) rfl rfl rfl
      obtain ⟨o27, h27, d27, p27, g27⟩ := op_at5 hops 27 rfl (d := some 73) (p := Op.move (Operand.tmp 9)) (g := some (26, true)) rfl rfl rfl
      obtain ⟨o28, h28, d28, p28, g28⟩ := op_at5 hops 28 rfl (d := some 74) (p := Op.convert 24 9 (Operand.tmp 73)) (g := some (26, true)) rfl rfl rfl
      obtain ⟨o29, h29, d29, p29, g29⟩ := op_at5 hops 29 rfl (d := some 75) (p := Op.move (Operand.tmp 5)) (g := some (26, true)) rfl rfl rfl
      obtain ⟨o30, h30, d30, p30, g30⟩ := op_at5 hops 30 rfl (d := some 76) (p := Op.convert 24 9 (Operand.tmp 75)) (g := some (26, true)) rfl rfl rfl
      obtain ⟨o31, h31, d31, p31, g31⟩ := op_at5 hops 31 rfl (d := some 77) (p := Op.binOp BinOp.eql 9 (Operand.tmp 74) (Operand.tmp 76) 9) (g := some (26, true)) rfl rfl rfl
      obtain ⟨o32, h32, d32, p32, g32⟩ := op_at5 hops 32 rfl (d := some 78) (p := Op.pick (Operand.tmp 72) (Operand.tmp 77) (Operand.const (Value.bool false))) (g := none) rfl rfl rfl
      obtain ⟨o33, h33, d33, p33, g33⟩ := op_at5 hops 33 rfl (d := some 4) (p := Op.assign (Operand.tmp 78)) (g := none) rfl rfl rfl
      have HE15 := Lib.hid (enters_of Tryd.func15 (by kernel_rfl) rfl)
      refine wpAnyT_take (i := 0) (v := .int .i64 0) [0, 1, 2, 3, 4, 5, 6, 7, 8, 9, 10, 11, 12, 13, 14, 15, 16, 17, 18, 19, 20, 21, 22, 23, 24, 25, 26, 27, 28, 29, 30, 31, 32, 33] h0 HNS (by rw [hops]; kernel_rfl) (by rw [hops]; kernel_rfl) (by rw [hops]; kernel_rfl) (fun _ _ _ => NormalOnly.hQ _ _ _) (Or.inl ⟨(wanted_none g0), fun w' _ => by unfold execOp; rw [p0]; first | rfl | kernel_rfl⟩) s0 ?_
      rw [d0]
      simp only [Act.put, List.setIfInBounds_toArray, List.set_cons_zero, List.set_cons_succ]
      refine wpAnyT_take (i := 1) (v := .bool true) [1, 2, 3, 4, 5, 6, 7, 8, 9, 10, 11, 12, 13, 14, 15, 16, 17, 18, 19, 20, 21, 22, 23, 24, 25, 26, 27, 28, 29, 30, 31, 32, 33] h1 HNS (by rw [hops]; kernel_rfl) (by rw [hops]; kernel_rfl) (by rw [hops]; kernel_rfl) (fun _ _ _ => NormalOnly.hQ _ _ _) (Or.inl ⟨(wanted_none g1), fun w' _ => by unfold execOp; rw [p1]; first | rfl | kernel_rfl⟩) s0 ?_
      rw [d1]
      simp only [Act.put, List.setIfInBounds_toArray, List.set_cons_zero, List.set_cons_succ]
      refine wpAnyT_take (i := 2) (v := .bool true) [2, 3, 4, 5, 6, 7, 8, 9, 10, 11, 12, 13, 14, 15, 16, 17, 18, 19, 20, 21, 22, 23, 24, 25, 26, 27, 28, 29, 30, 31, 32, 33] h2 HNS (by rw [hops]; kernel_rfl) (by rw [hops]; kernel_rfl) (by rw [hops]; kernel_rfl) (fun _ _ _ => NormalOnly.hQ _ _ _) (Or.inl ⟨(wanted_none g2), fun w' _ => by unfold execOp; rw [p2]; first | rfl | kernel_rfl⟩) s0 ?_
      rw [d2]
      simp only [Act.put, List.setIfInBounds_toArray, List.set_cons_zero, List.set_cons_succ]
      refine wpAnyT_take (i := 3) (v := .slice A5 0 c5) [3, 4, 5, 6, 7, 8, 9, 10, 11, 12, 13, 14, 15, 16, 17, 18, 19, 20, 21, 22, 23, 24, 25, 26, 27, 28, 29, 30, 31, 32, 33] h3 HNS (by rw [hops]; kernel_rfl) (by rw [hops]; kernel_rfl) (by rw [hops]; kernel_rfl) (fun _ _ _ => NormalOnly.hQ _ _ _) (Or.inl ⟨(wanted_some g3 h2 d2 (by rfl)), fun w' _ => by unfold execOp; rw [p3]; first | rfl | kernel_rfl⟩) s0 ?_
      rw [d3]
      simp only [Act.put, List.setIfInBounds_toArray, List.set_cons_zero, List.set_cons_succ]
      refine wpAnyT_take (i := 4) (v := .int .i64 0) [4, 5, 6, 7, 8, 9, 10, 11, 12, 13, 14, 15, 16, 17, 18, 19, 20, 21, 22, 23, 24, 25, 26, 27, 28, 29, 30, 31, 32, 33] h4 HNS (by rw [hops]; kernel_rfl) (by rw [hops]; kernel_rfl) (by rw [hops]; kernel_rfl) (fun _ _ _ => NormalOnly.hQ _ _ _) (Or.inl ⟨(wanted_some g4 h2 d2 (by rfl)), fun w' _ => by unfold execOp; rw [p4]; first | rfl | kernel_rfl⟩) s0 ?_
      rw [d4]
      simp only [Act.put, List.setIfInBounds_toArray, List.set_cons_zero, List.set_cons_succ]
      refine wpAnyT_take (i := 5) (v := .bool true) [5, 6, 7, 8, 9, 10, 11, 12, 13, 14, 15, 16, 17, 18, 19, 20, 21, 22, 23, 24, 25, 26, 27, 28, 29, 30, 31, 32, 33] h5 HNS (by rw [hops]; kernel_rfl) (by rw [hops]; kernel_rfl) (by rw [hops]; kernel_rfl) (fun _ _ _ => NormalOnly.hQ _ _ _) (Or.inl ⟨(wanted_some g5 h2 d2 (by rfl)), fun w' _ => by unfold execOp; rw [p5]; first | rfl | kernel_rfl⟩) s0 ?_
      rw [d5]
      simp only [Act.put, List.setIfInBounds_toArray, List.set_cons_zero, List.set_cons_succ]
      refine wpAnyT_take (i := 6) (v := .bool true) [6, 7, 8, 9, 10, 11, 12, 13, 14, 15, 16, 17, 18, 19, 20, 21, 22, 23, 24, 25, 26, 27, 28, 29, 30, 31, 32, 33] h6 HNS (by rw [hops]; kernel_rfl) (by rw [hops]; kernel_rfl) (by rw [hops]; kernel_rfl) (fun _ _ _ => NormalOnly.hQ _ _ _) (Or.inl ⟨(wanted_none g6), fun w' _ => by unfold execOp; rw [p6]; first | rfl | kernel_rfl⟩) s0 ?_
      rw [d6]
      simp only [Act.put, List.setIfInBounds_toArray, List.set_cons_zero, List.set_cons_succ]
      refine wpAnyT_take (i := 7) (v := .bool true) [7, 8, 9, 10, 11, 12, 13, 14, 15, 16, 17, 18, 19, 20, 21, 22, 23, 24, 25, 26, 27, 28, 29, 30, 31, 32, 33] h7 HNS (by rw [hops]; kernel_rfl) (by rw [hops]; kernel_rfl) (by rw [hops]; kernel_rfl) (fun _ _ _ => NormalOnly.hQ _ _ _) (Or.inl ⟨(wanted_none g7), fun w' _ => by unfold execOp; rw [p7]; first | rfl | kernel_rfl⟩) s0 ?_
      rw [d7]
      simp only [Act.put, List.setIfInBounds_toArray, List.set_cons_zero, List.set_cons_succ]
      refine wpAnyT_take (i := 8) (v := .slice A4 nd c4) [8, 9, 13, 14, 15, 16, 17, 18, 19, 20, 21, 22, 23, 24, 25, 26, 27, 28, 29, 30, 31, 32, 33] h8 HNS (by rw [hops]; kernel_rfl) (by rw [hops]; kernel_rfl) (by rw [hops]; kernel_rfl) (fun _ _ _ => NormalOnly.hQ _ _ _) (Or.inl ⟨(wanted_some g8 h7 d7 (by rfl)), fun w' _ => by unfold execOp; rw [p8]; first | rfl | kernel_rfl⟩) s0 ?_
      rw [d8]
      simp only [Act.put, List.setIfInBounds_toArray, List.set_cons_zero, List.set_cons_succ]
      refine wpAnyT_take (i := 9) (v := .int .i64 (nd : Int)) [9, 13, 14, 15, 16, 17, 18, 19, 20, 21, 22, 23, 24, 25, 26, 27, 28, 29, 30, 31, 32, 33] h9 HNS (by rw [hops]; kernel_rfl) (by rw [hops]; kernel_rfl) (by rw [hops]; kernel_rfl) (fun _ _ _ => NormalOnly.hQ _ _ _) (Or.inl ⟨(wanted_some g9 h7 d7 (by rfl)), fun w' _ => by unfold execOp; rw [p9]; first | rfl | kernel_rfl⟩) s0 ?_
      rw [d9]
      simp only [Act.put, List.setIfInBounds_toArray, List.set_cons_zero, List.set_cons_succ]
      refine wpAnyT_take (i := 10) (v := .pointer (some ⟨gS, 32, none⟩)) [10, 11, 12, 13, 14, 15, 16, 17, 18, 19, 20, 21, 22, 23, 24, 25, 26, 27, 28, 29, 30, 31, 32, 33] h10 HNS (by rw [hops]; kernel_rfl) (by rw [hops]; kernel_rfl) (by rw [hops]; kernel_rfl) (fun _ _ _ => NormalOnly.hQ _ _ _) (Or.inl ⟨(wanted_some g10 h7 d7 (by rfl)), fun w' _ => by unfold execOp; rw [p10]; first | rfl | kernel_rfl⟩) s0 ?_
      rw [d10]
      simp only [Act.put, List.setIfInBounds_toArray, List.set_cons_zero, List.set_cons_succ]
      refine wpAnyT_take (i := 11) (v := .slice Ad nd cd) [11, 12, 13, 14, 15, 16, 17, 18, 19, 20, 21, 22, 23, 24, 25, 26, 27, 28, 29, 30, 31, 32, 33] h11 HNS (by rw [hops]; kernel_rfl) (by rw [hops]; kernel_rfl) (by rw [hops]; kernel_rfl) (fun _ _ _ => NormalOnly.hQ _ _ _) (Or.inl ⟨(wanted_some g11 h7 d7 (by rfl)), fun w' h => run_op_load_cell 24 _ p11 (gS) (32) (by rfl) (.slice Ad nd cd) (((HS.out.keep h).cell 32).trans H32.out) _ Tryd.underlying24 rfl⟩) s0 ?_
      rw [d11]
      simp only [Act.put, List.setIfInBounds_toArray, List.set_cons_zero, List.set_cons_succ]
      refine wpAnyT_take (i := 12) (v := .int .i64 (nd : Int)) [12, 13, 14, 15, 16, 17, 18, 19, 20, 21, 22, 23, 24, 25, 26, 27, 28, 29, 30, 31, 32, 33] h12 HNS (by rw [hops]; kernel_rfl) (by rw [hops]; kernel_rfl) (by rw [hops]; kernel_rfl) (fun _ _ _ => NormalOnly.hQ _ _ _) (Or.inl ⟨(wanted_some g12 h7 d7 (by rfl)), fun w' _ => by unfold execOp; rw [p12]; first | rfl | kernel_rfl⟩) s0 ?_
      rw [d12]
      simp only [Act.put, List.setIfInBounds_toArray, List.set_cons_zero, List.set_cons_succ]
      refine wpAnyT_take (i := 13) (v := .bool true) [13, 14, 15, 16, 17, 18, 19, 20, 21, 22, 23, 24, 25, 26, 27, 28, 29, 30, 31, 32, 33] h13 HNS (by rw [hops]; kernel_rfl) (by rw [hops]; kernel_rfl) (by rw [hops]; kernel_rfl) (fun _ _ _ => NormalOnly.hQ _ _ _) (Or.inl ⟨(wanted_some g13 h7 d7 (by rfl)), fun w' h => Sl.run_op_eql_int 3 3 _ _ p13 ((nd : Int)) (by rfl) (by rfl)⟩) s0 ?_
      rw [d13]
      simp only [Act.put, List.setIfInBounds_toArray, List.set_cons_zero, List.set_cons_succ]
      refine wpAnyT_take (i := 14) (v := .bool true) [14, 15, 16, 17, 18, 19, 20, 21, 22, 23, 24, 25, 26, 27, 28, 29, 30, 31, 32, 33] h14 HNS (by rw [hops]; kernel_rfl) (by rw [hops]; kernel_rfl) (by rw [hops]; kernel_rfl) (fun _ _ _ => NormalOnly.hQ _ _ _) (Or.inl ⟨(wanted_none g14), fun w' _ => by unfold execOp; rw [p14]; first | rfl | kernel_rfl⟩) s0 ?_
      rw [d14]
      simp only [Act.put, List.setIfInBounds_toArray, List.set_cons_zero, List.set_cons_succ]
      refine wpAnyT_take (i := 15) (v := .bool true) [15, 16, 17, 18, 19, 20, 21, 22, 23, 24, 25, 26, 27, 28, 29, 30, 31, 32, 33] h15 HNS (by rw [hops]; kernel_rfl) (by rw [hops]; kernel_rfl) (by rw [hops]; kernel_rfl) (fun _ _ _ => NormalOnly.hQ _ _ _) (Or.inl ⟨(wanted_none g15), fun w' _ => by unfold execOp; rw [p15]; first | rfl | kernel_rfl⟩) s0 ?_
      rw [d15]
      simp only [Act.put, List.setIfInBounds_toArray, List.set_cons_zero, List.set_cons_succ]
      refine wpAnyT_take (i := 16) (v := .slice A4 nd c4) [16, 17, 20, 21, 22, 23, 24, 25, 26, 27, 28, 29, 30, 31, 32, 33] h16 HNS (by rw [hops]; kernel_rfl) (by rw [hops]; kernel_rfl) (by rw [hops]; kernel_rfl) (fun _ _ _ => NormalOnly.hQ _ _ _) (Or.inl ⟨(wanted_some g16 h15 d15 (by rfl)), fun w' _ => by unfold execOp; rw [p16]; first | rfl | kernel_rfl⟩) s0 ?_
      rw [d16]
      simp only [Act.put, List.setIfInBounds_toArray, List.set_cons_zero, List.set_cons_succ]
      refine wpAnyT_take (i := 18) (v := .pointer (some ⟨gS, 0, none⟩)) [18, 19, 20, 21, 22, 23, 24, 25, 26, 27, 28, 29, 30, 31, 32, 33] h18 HNS (by rw [hops]; kernel_rfl) (by rw [hops]; kernel_rfl) (by rw [hops]; kernel_rfl) (fun _ _ _ => NormalOnly.hQ _ _ _) (Or.inl ⟨(wanted_some g18 h15 d15 (by rfl)), fun w' _ => by unfold execOp; rw [p18]; first | rfl | kernel_rfl⟩) s0 ?_
      rw [d18]
      simp only [Act.put, List.setIfInBounds_toArray, List.set_cons_zero, List.set_cons_succ]
      refine wpAnyT_take (i := 19) (v := .agg (s.cm.map Dg.b8).toArray) [19, 20, 21, 22, 23, 24, 25, 26, 27, 28, 29, 30, 31, 32, 33] h19 HNS (by rw [hops]; kernel_rfl) (by rw [hops]; kernel_rfl) (by rw [hops]; kernel_rfl) (fun _ _ _ => NormalOnly.hQ _ _ _) (Or.inl ⟨(wanted_some g19 h15 d15 (by rfl)), fun w' h => run_op_load_mid 23 _ p19 gS 0 (by rfl) (s.cm.map Dg.b8) _ (Sl.rowAtH (by have h2 := HS.out.keep h; rw [HT.out] at h2; exact h2)) Tryd.underlying23 rfl (Sl.infoDm _ HCL.out)⟩) s0 ?_
      rw [d19]
      simp only [Act.put, List.setIfInBounds_toArray, List.set_cons_zero, List.set_cons_succ]
      refine wpAnyT_one (by rw [hops]; kernel_rfl) h17 (wanted_some g17 h15 d15 (by rfl)) (fun K hK => ?_)
      refine wp_call2 15 _ _ _ (.string ⟨Sl.tgC.toArray⟩) (.slice A4 nd c4) p17 HE15.out (by rfl) (by rfl) ?_
      (refine (Sl.tag_cm _ A4 nd c4 V s.cm (HV4.out.keep s0) HQ4.out (by have := HND.out; omega) (HA.out.k.keep (HB.out.trans (s0.mono HB.out.size))) HCM.out).mono ?_; rintro e w8 ⟨rfl, hb0⟩)
      have s1 : Below w7.heap.size w7 w8 := s0.trans (hb0.mono s0.size)
      clear hb0
      refine ⟨_, rfl, ?_⟩
      rw [d17]
      simp only [Act.put, List.setIfInBounds_toArray, List.set_cons_zero, List.set_cons_succ]
      refine hK.out _ _ (fun _ => s1) ?_
      clear hK K
      refine wpAnyT_take (i := 20) (v := .bool true) [20, 21, 22, 23, 24, 25, 26, 27, 28, 29, 30, 31, 32, 33] h20 HNS (by rw [hops]; kernel_rfl) (by rw [hops]; kernel_rfl) (by rw [hops]; kernel_rfl) (fun _ _ _ => NormalOnly.hQ _ _ _) (Or.inl ⟨(wanted_some g20 h15 d15 (by rfl)), fun w' h => Sl.run_op_eql_agg 23 23 _ _ p20 _ _ _ (by rfl) (by rfl) (by kernel_rfl) (Sl.eqlD (s.cm) HCL.out w')⟩) s1 ?_
      rw [d20]
      simp only [Act.put, List.setIfInBounds_toArray, List.set_cons_zero, List.set_cons_succ]
      refine wpAnyT_take (i := 21) (v := .bool true) [21, 22, 23, 24, 25, 26, 27, 28, 29, 30, 31, 32, 33] h21 HNS (by rw [hops]; kernel_rfl) (by rw [hops]; kernel_rfl) (by rw [hops]; kernel_rfl) (fun _ _ _ => NormalOnly.hQ _ _ _) (Or.inl ⟨(wanted_none g21), fun w' _ => by unfold execOp; rw [p21]; first | rfl | kernel_rfl⟩) s1 ?_
      rw [d21]
      simp only [Act.put, List.setIfInBounds_toArray, List.set_cons_zero, List.set_cons_succ]
      refine wpAnyT_take (i := 22) (v := .bool true) [22, 23, 24, 25, 26, 27, 28, 29, 30, 31, 32, 33] h22 HNS (by rw [hops]; kernel_rfl) (by rw [hops]; kernel_rfl) (by rw [hops]; kernel_rfl) (fun _ _ _ => NormalOnly.hQ _ _ _) (Or.inl ⟨(wanted_none g22), fun w' _ => by unfold execOp; rw [p22]; first | rfl | kernel_rfl⟩) s1 ?_
      rw [d22]
      simp only [Act.put, List.setIfInBounds_toArray, List.set_cons_zero, List.set_cons_succ]
      refine wpAnyT_take (i := 23) (v := .int .i64 0) [23, 24, 25, 26, 27, 28, 29, 30, 31, 32, 33] h23 HNS (by rw [hops]; kernel_rfl) (by rw [hops]; kernel_rfl) (by rw [hops]; kernel_rfl) (fun _ _ _ => NormalOnly.hQ _ _ _) (Or.inl ⟨(wanted_some g23 h22 d22 (by rfl)), fun w' _ => by unfold execOp; rw [p23]; first | rfl | kernel_rfl⟩) s1 ?_
      rw [d23]
      simp only [Act.put, List.setIfInBounds_toArray, List.set_cons_zero, List.set_cons_succ]
      refine wpAnyT_take (i := 24) (v := .bool true) [24, 25, 26, 27, 28, 29, 30, 31, 32, 33] h24 HNS (by rw [hops]; kernel_rfl) (by rw [hops]; kernel_rfl) (by rw [hops]; kernel_rfl) (fun _ _ _ => NormalOnly.hQ _ _ _) (Or.inl ⟨(wanted_some g24 h22 d22 (by rfl)), fun w' _ => by unfold execOp; rw [p24]; first | rfl | kernel_rfl⟩) s1 ?_
      rw [d24]
      simp only [Act.put, List.setIfInBounds_toArray, List.set_cons_zero, List.set_cons_succ]
      refine wpAnyT_take (i := 25) (v := .bool true) [25, 26, 27, 28, 29, 30, 31, 32, 33] h25 HNS (by rw [hops]; kernel_rfl) (by rw [hops]; kernel_rfl) (by rw [hops]; kernel_rfl) (fun _ _ _ => NormalOnly.hQ _ _ _) (Or.inl ⟨(wanted_none g25), fun w' _ => by unfold execOp; rw [p25]; first | rfl | kernel_rfl⟩) s1 ?_
      rw [d25]
      simp only [Act.put, List.setIfInBounds_toArray, List.set_cons_zero, List.set_cons_succ]
      refine wpAnyT_take (i := 26) (v := .bool true) [26, 27, 28, 29, 30, 31, 32, 33] h26 HNS (by rw [hops]; kernel_rfl) (by rw [hops]; kernel_rfl) (by rw [hops]; kernel_rfl) (fun _ _ _ => NormalOnly.hQ _ _ _) (Or.inl ⟨(wanted_none g26), fun w' _ => by unfold execOp; rw [p26]; first | rfl | kernel_rfl⟩) s1 ?_
      rw [d26]
      simp only [Act.put, List.setIfInBounds_toArray, List.set_cons_zero, List.set_cons_succ]
      refine wpAnyT_take (i := 27) (v := .slice A7 nd c7) [27, 28, 31, 32, 33] h27 HNS (by rw [hops]; kernel_rfl) (by rw [hops]; kernel_rfl) (by rw [hops]; kernel_rfl) (fun _ _ _ => NormalOnly.hQ _ _ _) (Or.inl ⟨(wanted_some g27 h26 d26 (by rfl)), fun w' _ => by unfold execOp; rw [p27]; first | rfl | kernel_rfl⟩) s1 ?_
      rw [d27]
      simp only [Act.put, List.setIfInBounds_toArray, List.set_cons_zero, List.set_cons_succ]
      refine wpAnyT_take (i := 28) (v := .string ⟨(V).toArray⟩) [28, 31, 32, 33] h28 HNS (by rw [hops]; kernel_rfl) (by rw [hops]; kernel_rfl) (by rw [hops]; kernel_rfl) (fun _ _ _ => NormalOnly.hQ _ _ _) (Or.inl ⟨(wanted_some g28 h26 d26 (by rfl)), fun w' h => run_op_convR 24 9 _ p28 _ _ (by rfl) (RdB.str (P := Tryd.prog) (HV7.out.keep h) Tryd.underlying24 Tryd.underlying5 Tryd.underlying9 c7)⟩) s1 ?_
      rw [d28]
      simp only [Act.put, List.setIfInBounds_toArray, List.set_cons_zero, List.set_cons_succ]
      refine wpAnyT_take (i := 29) (v := .slice A4 nd c4) [29, 30, 31, 32, 33] h29 HNS (by rw [hops]; kernel_rfl) (by rw [hops]; kernel_rfl) (by rw [hops]; kernel_rfl) (fun _ _ _ => NormalOnly.hQ _ _ _) (Or.inl ⟨(wanted_some g29 h26 d26 (by rfl)), fun w' _ => by unfold execOp; rw [p29]; first | rfl | kernel_rfl⟩) s1 ?_
      rw [d29]
      simp only [Act.put, List.setIfInBounds_toArray, List.set_cons_zero, List.set_cons_succ]
      refine wpAnyT_take (i := 30) (v := .string ⟨(V).toArray⟩) [30, 31, 32, 33] h30 HNS (by rw [hops]; kernel_rfl) (by rw [hops]; kernel_rfl) (by rw [hops]; kernel_rfl) (fun _ _ _ => NormalOnly.hQ _ _ _) (Or.inl ⟨(wanted_some g30 h26 d26 (by rfl)), fun w' h => run_op_convR 24 9 _ p30 _ _ (by rfl) (RdB.str (P := Tryd.prog) (HV4.out.keep h) Tryd.underlying24 Tryd.underlying5 Tryd.underlying9 c4)⟩) s1 ?_
      rw [d30]
      simp only [Act.put, List.setIfInBounds_toArray, List.set_cons_zero, List.set_cons_succ]
      refine wpAnyT_take (i := 31) (v := .bool true) [31, 32, 33] h31 HNS (by rw [hops]; kernel_rfl) (by rw [hops]; kernel_rfl) (by rw [hops]; kernel_rfl) (fun _ _ _ => NormalOnly.hQ _ _ _) (Or.inl ⟨(wanted_some g31 h26 d26 (by rfl)), fun w' h => Sl.run_op_eql_str 9 9 _ _ p31 (V) (by rfl) (by rfl)⟩) s1 ?_
      rw [d31]
      simp only [Act.put, List.setIfInBounds_toArray, List.set_cons_zero, List.set_cons_succ]
      refine wpAnyT_take (i := 32) (v := .bool true) [32, 33] h32 HNS (by rw [hops]; kernel_rfl) (by rw [hops]; kernel_rfl) (by rw [hops]; kernel_rfl) (fun _ _ _ => NormalOnly.hQ _ _ _) (Or.inl ⟨(wanted_none g32), fun w' _ => by unfold execOp; rw [p32]; first | rfl | kernel_rfl⟩) s1 ?_
      rw [d32]
      simp only [Act.put, List.setIfInBounds_toArray, List.set_cons_zero, List.set_cons_succ]
      refine wpAnyT_take (i := 33) (v := .bool true) [33] h33 HNS (by rw [hops]; kernel_rfl) (by rw [hops]; kernel_rfl) (by rw [hops]; kernel_rfl) (fun _ _ _ => NormalOnly.hQ _ _ _) (Or.inl ⟨(wanted_none g33), fun w' _ => by unfold execOp; rw [p33]; first | rfl | kernel_rfl⟩) s1 ?_
      rw [d33]
      simp only [Act.put, List.setIfInBounds_toArray, List.set_cons_zero, List.set_cons_succ]
      refine wpAnyT_done (by rw [hops]; kernel_rfl) ⟨rfl, ?_⟩ _
      clear HNS hops h0 d0 p0 g0 h1 d1 p1 g1 h2 d2 p2 g2 h3 d3 p3 g3 h4 d4 p4 g4 h5 d5 p5 g5 h6 d6 p6 g6 h7 d7 p7 g7 h8 d8 p8 g8 h9 d9 p9 g9 h10 d10 p10 g10 h11 d11 p11 g11 h12 d12 p12 g12 h13 d13 p13 g13 h14 d14 p14 g14 h15 d15 p15 g15 h16 d16 p16 g16 h17 d17 p17 g17 h18 d18 p18 g18 h19 d19 p19 g19 h20 d20 p20 g20 h21 d21 p21 g21 h22 d22 p22 g22 h23 d23 p23 g23 h24 d24 p24 g24 h25 d25 p25 g25 h26 d26 p26 g26 h27 d27 p27 g27 h28 d28 p28 g28 h29 d29 p29 g29 h30 d30 p30 g30 h31 d31 p31 g31 h32 d32 p32 g32 h33 d33 p33 g33
      clear s0
      clear HE15
      replace HB := Lib.hid (HB.out.trans (s1.mono HB.out.size))
      replace HS := Lib.hid (HS.out.keep s1)
      replace HV4 := Lib.hid (HV4.out.keep s1)
      replace HV7 := Lib.hid (HV7.out.keep s1)
      clear s1
      go_wp2_with fail
      go_ret
      exact ⟨rfl, HB.out⟩
end Go.Proofs.YtideglpjgplpnaaDoor
