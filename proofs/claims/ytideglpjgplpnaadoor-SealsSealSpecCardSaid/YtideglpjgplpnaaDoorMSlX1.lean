import Derived.Test.YtideglpjgplpnaaDoorMSlK
import Derived.Test.YtideglpjgplpnaaDoorMSlR1
/- Contracts of the reference's Check, Combined and altered. -/
namespace Go.Proofs.YtideglpjgplpnaaDoor
open Go.RowKit Go.Shelf
set_option linter.unusedVariables false
set_option linter.unusedSimpArgs false

set_option maxHeartbeats 1000000 in
theorem Sl.rchk_i (nd : Nat) (th mn : Int) (nm : Nat) (Ad : Option Addr) (cd : Nat) (Am : Option Addr) (cA : Nat) (R : List Value) (w : World) (x1 : R[32]? = some (.slice Ad nd cd)) (x2 : R[33]? = some (.int .i64 th)) (x3 : R[34]? = some (.int .i64 mn)) (x4 : R[35]? = some (.slice Am nm cA)) :
    Calls Tryd.prog 22 #[.agg R.toArray] w fun e w' => e = .returned (.int .i64 (if nd < 1 ∨ 64 < nd ∨ th < 1 ∨ mn < th ∨ 8 < mn ∨ (nm : Int) ≠ mn then 500 else 0)) ∧ w.alloc (.cells R.toArray 27) = w' := by
  have hH := Has.new w 27 R
  have y1 := (hH.cell 32).trans x1
  have y2 := (hH.cell 33).trans x2
  have y3 := (hH.cell 34).trans x3
  have y4 := (hH.cell 35).trans x4
  clear hH x1 x2 x3 x4
  obtain ⟨E, hE⟩ : ∃ E : Int, (if nd < 1 ∨ 64 < nd ∨ th < 1 ∨ mn < th ∨ 8 < mn ∨ (nm : Int) ≠ mn then (500 : Int) else 0) = E := ⟨_, rfl⟩
  rw [hE]
  have HE := Lib.hid hE
  clear hE
  go_enter Tryd.func22, Tryd.ntmps22
  by_cases h1 : nd < 1
  · go_wp2_with fail
    go_ret
    exact ⟨by rw [← HE.out, if_pos (.inl h1)]; rfl, rfl⟩
  · by_cases h2 : 64 < nd
    · go_wp2_with fail
      go_ret
      exact ⟨by rw [← HE.out, if_pos (.inr (.inl h2))]; rfl, rfl⟩
    · by_cases h3 : th < 1
      · go_wp2_with fail
        go_ret
        exact ⟨by rw [← HE.out, if_pos (.inr (.inr (.inl h3)))]; rfl, rfl⟩
      · by_cases h4 : mn < th
        · go_wp2_with fail
          go_ret
          exact ⟨by rw [← HE.out, if_pos (.inr (.inr (.inr (.inl h4))))]; rfl, rfl⟩
        · by_cases h5 : 8 < mn
          · go_wp2_with fail
            go_ret
            exact ⟨by rw [← HE.out, if_pos (.inr (.inr (.inr (.inr (.inl h5)))))]; rfl, rfl⟩
          · by_cases h6 : (nm : Int) = mn
            · have q : ((nm : Int) != mn) = false := by simp [h6]
              have H6 := Lib.hid h6
              clear h6
              go_wp2_with fail
              go_ret
              exact ⟨by rw [← HE.out, if_neg (by have := H6.out; omega)]; rfl, rfl⟩
            · have q : ((nm : Int) != mn) = true := by simp [h6]
              have H6 := Lib.hid h6
              clear h6
              go_wp2_with fail
              go_ret
              exact ⟨by rw [← HE.out, if_pos (.inr (.inr (.inr (.inr (.inr H6.out)))))]; rfl, rfl⟩
theorem Sl.rcheck_any (s : Sl.W) (Ad : Option Addr) (cd : Nat) (Am : Option Addr) (cA : Nat) (w : World) (hl : s.cm.length = 32) :
    Calls Tryd.prog 22 #[.agg (Sl.row s Ad cd Am cA).toArray] w fun e w' => e = .returned (.int .i64 (Sl.chk s)) ∧ Below w.heap.size w w' := by
  obtain ⟨x1, x2, x3, x4⟩ := Sl.row_at hl Ad cd Am cA
  refine (Sl.rchk_i s.d.length s.th s.mn s.ms.length Ad cd Am cA _ w x1 x2 x3 x4).mono ?_
  rintro e w' ⟨rfl, rfl⟩
  exact ⟨rfl, (Below.refl _ _).alloc (Nat.le_refl _) _⟩
theorem Sl.at0x {W : World} {g : Nat} {t : TypeId} {cs : List Value} (h : Has W g t cs) : W.rangeAt g 0 cs := fun j v hj => by rw [Nat.zero_add, h.cell j]; exact hj
set_option maxRecDepth 100000 in
set_option maxHeartbeats 4000000 in
theorem Sl.comb_ref (A B : Option Addr) (n ca cb : Nat) (a b : List UInt8) (w : World) (ha : RdB w A n a) (hb : RdB w B n b) (hn : n ≤ 1000) :
    Calls Tryd.prog 40 #[.slice A n ca, .slice B n cb] w fun e w' => ∃ A2 c2, e = .returned (.slice A2 n c2) ∧ w'.ownsRow w.heap.size 5 1 (.slice A2 n c2) n ((Sl.xorl a b).map B8) ∧ Below w.heap.size w w' := by
  have HA := Lib.hid ha
  have HBB := Lib.hid hb
  have hxl : (Sl.xorl a b).length = n := by rw [Sl.xorl_len]; exact ha.len
  have HXL := Lib.hid hxl
  clear ha hb hxl
  go_enter Tryd.func40, Tryd.ntmps40
  go_wp2_with fail
  go_loopw [5, 6] (fun v5 i wr => ∃ k, k ≤ n ∧ i = .int .i64 (k : Int) ∧ wr.ownsRow w.heap.size 5 1 v5 k (((Sl.xorl a b).take k).map B8) ∧ Below w.heap.size w wr) (fun _ i _ => n - (intOf i).toNat)
  case atStart => exact ⟨0, by omega, rfl, World.ownsRow_lit (base := w.heap.size) (e := 5) (size := 1) w #[] 0 (Nat.le_refl _) (by decide) rfl, (Below.refl _ _).alloc (Nat.le_refl _) _⟩
  case round =>
    obtain ⟨k, hk, rfl, hO, hB⟩ := hrel
    obtain ⟨Av, cv, rfl⟩ := own_form hO
    have HO := Lib.hid hO
    have HB := Lib.hid hB
    clear hO hB
    by_cases hlt : k < n
    · obtain ⟨ba, oa, rfl, hba, x0⟩ := (HA.out.keep HB.out).byte k hlt
      obtain ⟨bb, ob, rfl, hbb, y0⟩ := (HBB.out.keep HB.out).byte k hlt
      have hz : (((Sl.xorl a b).take (k + 1)).map B8) = (((Sl.xorl a b).take k).map B8) ++ [B8 (a.getD k 0 ^^^ b.getD k 0)] := by
        have hkl : k < (Sl.xorl a b).length := by rw [HXL.out]; exact hlt
        rw [List.take_add_one, List.getElem?_eq_getElem hkl, List.map_append]
        simp [Sl.xorl]
      have HZ := Lib.hid hz
      clear hz
      generalize a.getD k 0 = x at x0 HZ
      generalize b.getD k 0 = y at y0 HZ
      go_wp2_with fail
      refine Sl.wp_normal ?_
      have s0 : Below wr.heap.size wr wr.drew := (Below.refl _ wr).drew
      refine wp_region_named (fun ops hops => ?_)
      refine wp_region_T (by kernel_rfl) [11, 12] (fun w' => Below wr.heap.size wr w') ?_
      rw [show ops.size = 13 from by rw [hops]; rfl]
      have HNS : Region.noSelect ops = true := by rw [hops]; kernel_rfl
      obtain ⟨o0, h0, d0, p0, g0⟩ := op_at5 hops 0 rfl (d := some 14) (p := Op.move (Operand.tmp 5)) (g := none) rfl rfl rfl
      obtain ⟨o1, h1, d1, p1, g1⟩ := op_at5 hops 1 rfl (d := some 15) (p := Op.move (Operand.tmp 0)) (g := none) rfl rfl rfl
      obtain ⟨o2, h2, d2, p2, g2⟩ := op_at5 hops 2 rfl (d := some 16) (p := Op.move (Operand.tmp 6)) (g := none) rfl rfl rfl
      obtain ⟨o3, h3, d3, p3, g3⟩ := op_at5 hops 3 rfl (d := some 17) (p := Op.indexAddr 24 (Operand.tmp 15) (Operand.tmp 16)) (g := none) rfl rfl rfl
      obtain ⟨o4, h4, d4, p4, g4⟩ := op_at5 hops 4 rfl (d := some 18) (p := Op.load 5 (Operand.tmp 17)) (g := none) rfl rfl rfl
      obtain ⟨o5, h5, d5, p5, g5⟩ := op_at5 hops 5 rfl (d := some 19) (p := Op.move (Operand.tmp 1)) (g := none) rfl rfl rfl
      obtain ⟨o6, h6, d6, p6, g6⟩ := op_at5 hops 6 rfl (d := some 20) (p := Op.move (Operand.tmp 6)) (g := none) rfl rfl rfl
      obtain ⟨o7, h7, d7, p7, g7⟩ := op_at5 hops 7 rfl (d := some 21) (p := Op.indexAddr 24 (Operand.tmp 19) (Operand.tmp 20)) (g := none) rfl rfl rfl
      obtain ⟨o8, h8, d8, p8, g8⟩ := op_at5 hops 8 rfl (d := some 22) (p := Op.load 5 (Operand.tmp 21)) (g := none) rfl rfl rfl
      obtain ⟨o9, h9, d9, p9, g9⟩ := op_at5 hops 9 rfl (d := some 23) (p := Op.binOp BinOp.xor 5 (Operand.tmp 18) (Operand.tmp 22) 5) (g := none) rfl rfl rfl
      obtain ⟨o10, h10, d10, p10, g10⟩ := op_at5 hops 10 rfl (d := some 24) (p := Op.buildSlice 24 1 #[(0, Operand.tmp 23)]) (g := none) rfl rfl rfl
      obtain ⟨o11, h11, d11, p11, g11⟩ := op_at5 hops 11 rfl (d := some 25) (p := Op.call { callee := Callee.builtin Builtin.append, args := #[Operand.tmp 14, Operand.tmp 24], argTypes := #[24, 24] }) (g := none) rfl rfl rfl
      obtain ⟨o12, h12, d12, p12, g12⟩ := op_at5 hops 12 rfl (d := some 5) (p := Op.assign (Operand.tmp 25)) (g := none) rfl rfl rfl
      refine wpAnyT_take (i := 0) (v := .slice Av k cv) [0, 11, 12] h0 HNS (by rw [hops]; kernel_rfl) (by rw [hops]; kernel_rfl) (by rw [hops]; kernel_rfl) (fun _ _ _ => NormalOnly.hQ _ _ _) (Or.inl ⟨(wanted_none g0), fun w' _ => by unfold execOp; rw [p0]; first | rfl | kernel_rfl⟩) s0 ?_
      rw [d0]
      simp only [Act.put, List.setIfInBounds_toArray, List.set_cons_zero, List.set_cons_succ]
      refine wpAnyT_take (i := 1) (v := .slice (some ⟨ba, oa, none⟩) n ca) [1, 3, 4, 9, 10, 11, 12] h1 HNS (by rw [hops]; kernel_rfl) (by rw [hops]; kernel_rfl) (by rw [hops]; kernel_rfl) (fun _ _ _ => NormalOnly.hQ _ _ _) (Or.inl ⟨(wanted_none g1), fun w' _ => by unfold execOp; rw [p1]; first | rfl | kernel_rfl⟩) s0 ?_
      rw [d1]
      simp only [Act.put, List.setIfInBounds_toArray, List.set_cons_zero, List.set_cons_succ]
      refine wpAnyT_take (i := 2) (v := .int .i64 (k : Int)) [2, 3, 4, 9, 10, 11, 12] h2 HNS (by rw [hops]; kernel_rfl) (by rw [hops]; kernel_rfl) (by rw [hops]; kernel_rfl) (fun _ _ _ => NormalOnly.hQ _ _ _) (Or.inl ⟨(wanted_none g2), fun w' _ => by unfold execOp; rw [p2]; first | rfl | kernel_rfl⟩) s0 ?_
      rw [d2]
      simp only [Act.put, List.setIfInBounds_toArray, List.set_cons_zero, List.set_cons_succ]
      refine wpAnyT_take (i := 3) (v := .pointer (some ⟨ba, oa + k * 1, none⟩)) [3, 4, 9, 10, 11, 12] h3 HNS (by rw [hops]; kernel_rfl) (by rw [hops]; kernel_rfl) (by rw [hops]; kernel_rfl) (fun _ _ _ => NormalOnly.hQ _ _ _) (Or.inl ⟨(wanted_none g3), fun w' h => run_op_index_mid 24 _ _ p3 ba oa n ca k (by rfl) (by rfl) hlt 5 1 Tryd.underlying24 (by kernel_rfl)⟩) s0 ?_
      rw [d3]
      simp only [Act.put, List.setIfInBounds_toArray, List.set_cons_zero, List.set_cons_succ]
      refine wpAnyT_take (i := 4) (v := B8 x) [4, 9, 10, 11, 12] h4 HNS (by rw [hops]; kernel_rfl) (by rw [hops]; kernel_rfl) (by rw [hops]; kernel_rfl) (fun _ _ _ => NormalOnly.hQ _ _ _) (Or.inl ⟨(wanted_none g4), fun w' h => run_op_load_cell 5 _ p4 (ba) (oa + k * 1) (by rfl) (B8 x) (by rw [Nat.mul_one]; exact (h.cell (p := ⟨ba, oa + k, none⟩) hba).trans x0) _ Tryd.underlying5 rfl⟩) s0 ?_
      rw [d4]
      simp only [Act.put, List.setIfInBounds_toArray, List.set_cons_zero, List.set_cons_succ]
      refine wpAnyT_take (i := 5) (v := .slice (some ⟨bb, ob, none⟩) n cb) [5, 7, 8, 9, 10, 11, 12] h5 HNS (by rw [hops]; kernel_rfl) (by rw [hops]; kernel_rfl) (by rw [hops]; kernel_rfl) (fun _ _ _ => NormalOnly.hQ _ _ _) (Or.inl ⟨(wanted_none g5), fun w' _ => by unfold execOp; rw [p5]; first | rfl | kernel_rfl⟩) s0 ?_
      rw [d5]
      simp only [Act.put, List.setIfInBounds_toArray, List.set_cons_zero, List.set_cons_succ]
      refine wpAnyT_take (i := 6) (v := .int .i64 (k : Int)) [6, 7, 8, 9, 10, 11, 12] h6 HNS (by rw [hops]; kernel_rfl) (by rw [hops]; kernel_rfl) (by rw [hops]; kernel_rfl) (fun _ _ _ => NormalOnly.hQ _ _ _) (Or.inl ⟨(wanted_none g6), fun w' _ => by unfold execOp; rw [p6]; first | rfl | kernel_rfl⟩) s0 ?_
      rw [d6]
      simp only [Act.put, List.setIfInBounds_toArray, List.set_cons_zero, List.set_cons_succ]
      refine wpAnyT_take (i := 7) (v := .pointer (some ⟨bb, ob + k * 1, none⟩)) [7, 8, 9, 10, 11, 12] h7 HNS (by rw [hops]; kernel_rfl) (by rw [hops]; kernel_rfl) (by rw [hops]; kernel_rfl) (fun _ _ _ => NormalOnly.hQ _ _ _) (Or.inl ⟨(wanted_none g7), fun w' h => run_op_index_mid 24 _ _ p7 bb ob n cb k (by rfl) (by rfl) hlt 5 1 Tryd.underlying24 (by kernel_rfl)⟩) s0 ?_
      rw [d7]
      simp only [Act.put, List.setIfInBounds_toArray, List.set_cons_zero, List.set_cons_succ]
      refine wpAnyT_take (i := 8) (v := B8 y) [8, 9, 10, 11, 12] h8 HNS (by rw [hops]; kernel_rfl) (by rw [hops]; kernel_rfl) (by rw [hops]; kernel_rfl) (fun _ _ _ => NormalOnly.hQ _ _ _) (Or.inl ⟨(wanted_none g8), fun w' h => run_op_load_cell 5 _ p8 (bb) (ob + k * 1) (by rfl) (B8 y) (by rw [Nat.mul_one]; exact (h.cell (p := ⟨bb, ob + k, none⟩) hbb).trans y0) _ Tryd.underlying5 rfl⟩) s0 ?_
      rw [d8]
      simp only [Act.put, List.setIfInBounds_toArray, List.set_cons_zero, List.set_cons_succ]
      refine wpAnyT_take (i := 9) (v := B8 (x ^^^ y)) [9, 10, 11, 12] h9 HNS (by rw [hops]; kernel_rfl) (by rw [hops]; kernel_rfl) (by rw [hops]; kernel_rfl) (fun _ _ _ => NormalOnly.hQ _ _ _) (Or.inl ⟨(wanted_none g9), fun w' h => (show _ = Result.ok (.value (.int .u8 (bits .xor .u8 (x.toNat : Int) (y.toNat : Int)))) w' from by unfold execOp; rw [p9]; first | rfl | kernel_rfl).trans (by rw [Fld.xor8])⟩) s0 ?_
      rw [d9]
      simp only [Act.put, List.setIfInBounds_toArray, List.set_cons_zero, List.set_cons_succ]
      refine wpAnyT_one (by rw [hops]; kernel_rfl) h10 (wanted_none g10) (fun K hK => ?_)
      refine wp_runG (w' := wr.drew.alloc (.cells #[B8 (x ^^^ y)] 5)) (v := .slice (some ⟨wr.drew.heap.size, 0, none⟩) 1 1) (by unfold execOp; rw [p10]; first | rfl | kernel_rfl) ?_
      have s1 : Below wr.heap.size wr (wr.drew.alloc (.cells #[B8 (x ^^^ y)] 5)) := s0.alloc s0.size _
      have hn := rd_new wr.drew 5 1 [B8 (x ^^^ y)] rfl
      have ho1 := own_below HO.out s1
      rw [d10]
      simp only [Act.put, List.setIfInBounds_toArray, List.set_cons_zero, List.set_cons_succ]
      refine hK.out _ _ (fun _ => s1) ?_
      clear hK K
      refine wpAnyT_one (by rw [hops]; kernel_rfl) h11 (wanted_none g11) (fun K hK => ?_)
      refine wp_append_rd (.tmp 14) (.tmp 24) p11 el8 (by rfl) ho1 (by rfl) hn (by simp [Value.oneCell']) (fun e => by cases e) (by unfold maxLen; omega) (by omega) (by have := HB.out.size; have := s1.size; omega) (fun v1 w6 hG1 => ?_)
      obtain ⟨A6, c6, rfl⟩ := own_form hG1.own
      have hB6 : Below w.heap.size w w6 := (HB.out.trans (s1.mono HB.out.size)).grown hG1.grown (HB.out.trans (s1.mono HB.out.size)).size (fun k e => own_ge ho1 e)
      have ho6 := hG1.own
      rw [← HZ.out] at ho6
      clear hG1 ho1 hn
      rw [d11]
      simp only [Act.put, List.setIfInBounds_toArray, List.set_cons_zero, List.set_cons_succ]
      refine hK.out _ _ (fun h => absurd (by decide) h) ?_
      clear hK K
      refine wpAnyT_one (by rw [hops]; kernel_rfl) h12 (wanted_none g12) (fun K hK => ?_)
      refine wp_runG (w' := w6) (v := .slice A6 (k + 1) c6) (by unfold execOp; rw [p12]; first | rfl | kernel_rfl) ?_
      rw [d12]
      simp only [Act.put, List.setIfInBounds_toArray, List.set_cons_zero, List.set_cons_succ]
      refine hK.out _ _ (fun h => absurd (by decide) h) ?_
      clear hK K
      refine wpAnyT_done (by rw [hops]; kernel_rfl) ⟨rfl, ?_⟩ _
      clear HNS hops h0 d0 p0 g0 h1 d1 p1 g1 h2 d2 p2 g2 h3 d3 p3 g3 h4 d4 p4 g4 h5 d5 p5 g5 h6 d6 p6 g6 h7 d7 p7 g7 h8 d8 p8 g8 h9 d9 p9 g9 h10 d10 p10 g10 h11 d11 p11 g11 h12 d12 p12 g12
      clear s0
      have HO6 := Lib.hid ho6
      have HB6 := Lib.hid hB6
      clear ho6 hB6 HO x0 y0 hba hbb
      go_wp2_with fail
      go_roundw
      case rel => exact ⟨k + 1, by omega, by go_num, HO6.out, HB6.out⟩
      case measure => simp [intOf]; omega
    · obtain rfl : k = n := by omega
      have hO := HO.out
      rw [List.take_of_length_le (by rw [HXL.out]; exact Nat.le_refl _)] at hO
      have HO2 := Lib.hid hO
      clear hO HO
      go_wp2_with fail
      go_ret
      exact ⟨_, _, rfl, HO2.out, HB.out⟩

set_option maxRecDepth 100000 in
set_option maxHeartbeats 8000000 in
theorem Sl.altered_ref (x : Shr.S) (A : Option Addr) (c : Nat) (s : Sl.W) (Ad : Option Addr) (cd : Nat) (Am : Option Addr) (cA : Nat) (w : World) (hok : Sl.Ok s w Ad cd Am cA) (hgd : Sl.Good s) (hd : RdB w A x.d.length x.d) (hdl : x.d.length ≤ 10000000) (hg : Sl.rg x) :
    Calls Tryd.prog 43 #[.agg (Sl.row s Ad cd Am cA).toArray, .agg #[.int .i64 x.ep, .int .i64 x.ix, .int .i64 x.th, .int .i64 x.mn, .slice A x.d.length c]] w fun e w' => e = .returned (.bool (Sl.bad s x)) ∧ Below w.heap.size w w' := by
  have h36 := Sl.row_at hok.cl Ad cd Am cA
  have HA34 := Lib.hid h36.2.2.1
  have HA35 := Lib.hid h36.2.2.2
  have HOK := Lib.hid hok
  have HGD := Lib.hid hgd
  have HYR := Lib.hid hd
  have HG := Lib.hid (And.intro hdl hg)
  clear h36 hok hgd hd hdl hg
  obtain ⟨T, hT⟩ : ∃ T, Sl.row s Ad cd Am cA = T := ⟨_, rfl⟩
  rw [hT] at HA34 HA35 ⊢
  clear hT
  obtain ⟨ix, hix⟩ : ∃ ix, x.ix = ix := ⟨_, rfl⟩
  have HIX := Lib.hid hix
  rw [hix]
  clear hix
  have CSe : x.ep = x.ep := rfl
  obtain ⟨W1, hW1⟩ : ∃ W1, W1 = (w.alloc (.cells T.toArray 27)).alloc (.cells #[.int .i64 x.ep, .int .i64 ix, .int .i64 x.th, .int .i64 x.mn, .slice A x.d.length c] 43) := ⟨_, rfl⟩
  have HB1 := Lib.hid (show Below w.heap.size w W1 from by rw [hW1]; exact below_of2 _ _ _)
  have HS1 := Lib.hid (show Has W1 w.heap.size 27 T from by rw [hW1]; exact (Has.new w _ _).alloc _)
  have HZ1 := Lib.hid (show Has W1 (w.heap.size + 1) 43 [.int .i64 x.ep, .int .i64 ix, .int .i64 x.th, .int .i64 x.mn, .slice A x.d.length c] from by rw [hW1]; exact Has.second w _ _ _)
  clear CSe
  go_enter Tryd.func43, Tryd.ntmps43
  go_upto_region 1 with fail
  change Code.wp _ _ _ _ ((w.alloc (.cells T.toArray 27)).alloc (.cells #[.int .i64 x.ep, .int .i64 ix, .int .i64 x.th, .int .i64 x.mn, .slice A x.d.length c] 43))
  rw [← hW1]
  clear hW1
  obtain ⟨gz, hgz⟩ : ∃ gz, gz = w.heap.size + 1 := ⟨_, rfl⟩
  obtain ⟨gS, hgS⟩ : ∃ gS, gS = w.heap.size := ⟨_, rfl⟩
  rw [← hgz] at HZ1 ⊢
  rw [← hgS] at HS1 ⊢
  clear hgz hgS
  by_cases c1 : ix < 1
  · have q1 : decide (ix < 1) = true := decide_eq_true c1
    have HBD := Lib.hid (show Sl.bad s x = true from by unfold Sl.bad; rw [HIX.out, q1]; rfl)
    clear c1
    refine Sl.wp_normal ?_
    have s0 : Below W1.heap.size W1 W1.drew := (Below.refl _ W1).drew
    refine wp_region_named (fun ops hops => ?_)
    refine wp_region_T (by kernel_rfl) [] (fun w' => Below W1.heap.size W1 w') ?_
    rw [show ops.size = 23 from by rw [hops]; rfl]
    have HNS : Region.noSelect ops = true := by rw [hops]; kernel_rfl
    obtain ⟨o0, h0, d0, p0, g0⟩ := op_at5 hops 0 rfl (d := some 5) (p := Op.fieldAddr 43 (Operand.tmp 3) 1) (g := none) rfl rfl rfl
    obtain ⟨o1, h1, d1, p1, g1⟩ := op_at5 hops 1 rfl (d := some 6) (p := Op.load 3 (Operand.tmp 5)) (g := none) rfl rfl rfl
    obtain ⟨o2, h2, d2, p2, g2⟩ := op_at5 hops 2 rfl (d := some 7) (p := Op.binOp BinOp.lss 3 (Operand.tmp 6) (Operand.const (Value.int IntKind.i64 1)) 3) (g := none) rfl rfl rfl
    obtain ⟨o3, h3, d3, p3, g3⟩ := op_at5 hops 3 rfl (d := some 8) (p := Op.move (Operand.tmp 7)) (g := none) rfl rfl rfl
    obtain ⟨o4, h4, d4, p4, g4⟩ := op_at5 hops 4 rfl (d := some 9) (p := Op.fieldAddr 43 (Operand.tmp 3) 1) (g := some (3, false)) rfl rfl rfl
    obtain ⟨o5, h5, d5, p5, g5⟩ := op_at5 hops 5 rfl (d := some 10) (p := Op.load 3 (Operand.tmp 9)) (g := some (3, false)) rfl rfl rfl
    obtain ⟨o6, h6, d6, p6, g6⟩ := op_at5 hops 6 rfl (d := some 11) (p := Op.fieldAddr 27 (Operand.tmp 2) 3) (g := some (3, false)) rfl rfl rfl
    obtain ⟨o7, h7, d7, p7, g7⟩ := op_at5 hops 7 rfl (d := some 12) (p := Op.load 3 (Operand.tmp 11)) (g := some (3, false)) rfl rfl rfl
    obtain ⟨o8, h8, d8, p8, g8⟩ := op_at5 hops 8 rfl (d := some 13) (p := Op.binOp BinOp.gtr 3 (Operand.tmp 10) (Operand.tmp 12) 3) (g := some (3, false)) rfl rfl rfl
    obtain ⟨o9, h9, d9, p9, g9⟩ := op_at5 hops 9 rfl (d := some 14) (p := Op.pick (Operand.tmp 8) (Operand.const (Value.bool true)) (Operand.tmp 13)) (g := none) rfl rfl rfl
    obtain ⟨o10, h10, d10, p10, g10⟩ := op_at5 hops 10 rfl (d := some 15) (p := Op.move (Operand.tmp 14)) (g := none) rfl rfl rfl
    obtain ⟨o11, h11, d11, p11, g11⟩ := op_at5 hops 11 rfl (d := some 16) (p := Op.fieldAddr 27 (Operand.tmp 2) 4) (g := some (10, false)) rfl rfl rfl
    obtain ⟨o12, h12, d12, p12, g12⟩ := op_at5 hops 12 rfl (d := some 17) (p := Op.load 25 (Operand.tmp 16)) (g := some (10, false)) rfl rfl rfl
    obtain ⟨o13, h13, d13, p13, g13⟩ := op_at5 hops 13 rfl (d := some 18) (p := Op.fieldAddr 43 (Operand.tmp 3) 1) (g := some (10, false)) rfl rfl rfl
    obtain ⟨o14, h14, d14, p14, g14⟩ := op_at5 hops 14 rfl (d := some 19) (p := Op.load 3 (Operand.tmp 18)) (g := some (10, false)) rfl rfl rfl
    obtain ⟨o15, h15, d15, p15, g15⟩ := op_at5 hops 15 rfl (d := some 20) (p := Op.binOp BinOp.sub 3 (Operand.tmp 19) (Operand.const (Value.int IntKind.i64 1)) 3) (g := some (10, false)) rfl rfl rfl
    obtain ⟨o16, h16, d16, p16, g16⟩ := op_at5 hops 16 rfl (d := some 21) (p := Op.indexAddr 25 (Operand.tmp 17) (Operand.tmp 20)) (g := some (10, false)) rfl rfl rfl
    obtain ⟨o17, h17, d17, p17, g17⟩ := op_at5 hops 17 rfl (d := some 22) (p := Op.load 23 (Operand.tmp 21)) (g := some (10, false)) rfl rfl rfl
    obtain ⟨o18, h18, d18, p18, g18⟩ := op_at5 hops 18 rfl (d := some 23) (p := Op.load 43 (Operand.tmp 3)) (g := some (10, false)) rfl rfl rfl
    obtain ⟨o19, h19, d19, p19, g19⟩ := op_at5 hops 19 rfl (d := some 24) (p := Op.call { callee := Callee.value (Operand.func 29), args := #[Operand.tmp 23], argTypes := #[43] }) (g := some (10, false)) rfl rfl rfl
    obtain ⟨o20, h20, d20, p20, g20⟩ := op_at5 hops 20 rfl (d := some 25) (p := Op.binOp BinOp.neq 23 (Operand.tmp 22) (Operand.tmp 24) 23) (g := some (10, false)) rfl rfl rfl
    obtain ⟨o21, h21, d21, p21, g21⟩ := op_at5 hops 21 rfl (d := some 26) (p := Op.pick (Operand.tmp 15) (Operand.const (Value.bool true)) (Operand.tmp 25)) (g := none) rfl rfl rfl
    obtain ⟨o22, h22, d22, p22, g22⟩ := op_at5 hops 22 rfl (d := some 4) (p := Op.assign (Operand.tmp 26)) (g := none) rfl rfl rfl
    refine wpAnyT_take (i := 0) (v := .pointer (some ⟨gz, 1, none⟩)) [0, 1, 2, 3, 4, 5, 6, 7, 8, 9, 10, 11, 12, 13, 14, 15, 16, 17, 18, 19, 20, 21, 22] h0 HNS (by rw [hops]; kernel_rfl) (by rw [hops]; kernel_rfl) (by rw [hops]; kernel_rfl) (fun _ _ _ => NormalOnly.hQ _ _ _) (Or.inl ⟨(wanted_none g0), fun w' _ => by unfold execOp; rw [p0]; first | rfl | kernel_rfl⟩) s0 ?_
    rw [d0]
    simp only [Act.put, List.setIfInBounds_toArray, List.set_cons_zero, List.set_cons_succ]
    refine wpAnyT_take (i := 1) (v := .int .i64 ix) [1, 2, 3, 4, 5, 6, 7, 8, 9, 10, 11, 12, 13, 14, 15, 16, 17, 18, 19, 20, 21, 22] h1 HNS (by rw [hops]; kernel_rfl) (by rw [hops]; kernel_rfl) (by rw [hops]; kernel_rfl) (fun _ _ _ => NormalOnly.hQ _ _ _) (Or.inl ⟨(wanted_none g1), fun w' h => run_op_load_cell 3 _ p1 gz 1 (by rfl) (.int .i64 ix) ((HZ1.out.keep h).cell 1) _ Tryd.underlying3 rfl⟩) s0 ?_
    rw [d1]
    simp only [Act.put, List.setIfInBounds_toArray, List.set_cons_zero, List.set_cons_succ]
    refine wpAnyT_take (i := 2) (v := .bool true) [2, 3, 4, 5, 6, 7, 8, 9, 10, 11, 12, 13, 14, 15, 16, 17, 18, 19, 20, 21, 22] h2 HNS (by rw [hops]; kernel_rfl) (by rw [hops]; kernel_rfl) (by rw [hops]; kernel_rfl) (fun _ _ _ => NormalOnly.hQ _ _ _) (Or.inl ⟨(wanted_none g2), fun w' h => (show _ = Result.ok (.value (.bool (decide (ix < 1)))) w' from by unfold execOp; rw [p2]; first | rfl | kernel_rfl).trans (by rw [q1])⟩) s0 ?_
    rw [d2]
    simp only [Act.put, List.setIfInBounds_toArray, List.set_cons_zero, List.set_cons_succ]
    refine wpAnyT_take (i := 3) (v := .bool true) [3, 4, 5, 6, 7, 8, 9, 10, 11, 12, 13, 14, 15, 16, 17, 18, 19, 20, 21, 22] h3 HNS (by rw [hops]; kernel_rfl) (by rw [hops]; kernel_rfl) (by rw [hops]; kernel_rfl) (fun _ _ _ => NormalOnly.hQ _ _ _) (Or.inl ⟨(wanted_none g3), fun w' _ => by unfold execOp; rw [p3]; first | rfl | kernel_rfl⟩) s0 ?_
    rw [d3]
    simp only [Act.put, List.setIfInBounds_toArray, List.set_cons_zero, List.set_cons_succ]
    refine wpAnyT_take (i := 4) (v := undef) [4, 5, 8, 9, 10, 11, 12, 13, 14, 15, 16, 17, 18, 19, 20, 21, 22] h4 HNS (by rw [hops]; kernel_rfl) (by rw [hops]; kernel_rfl) (by rw [hops]; kernel_rfl) (fun _ _ _ => NormalOnly.hQ _ _ _) (Or.inr ⟨(unwanted_some g4 h3 d3 (by rfl)), rfl⟩) s0 ?_
    rw [d4]
    simp only [Act.put, List.setIfInBounds_toArray, List.set_cons_zero, List.set_cons_succ]
    refine wpAnyT_take (i := 5) (v := undef) [5, 8, 9, 10, 11, 12, 13, 14, 15, 16, 17, 18, 19, 20, 21, 22] h5 HNS (by rw [hops]; kernel_rfl) (by rw [hops]; kernel_rfl) (by rw [hops]; kernel_rfl) (fun _ _ _ => NormalOnly.hQ _ _ _) (Or.inr ⟨(unwanted_some g5 h3 d3 (by rfl)), rfl⟩) s0 ?_
    rw [d5]
    simp only [Act.put, List.setIfInBounds_toArray, List.set_cons_zero, List.set_cons_succ]
    refine wpAnyT_take (i := 6) (v := undef) [6, 7, 8, 9, 10, 11, 12, 13, 14, 15, 16, 17, 18, 19, 20, 21, 22] h6 HNS (by rw [hops]; kernel_rfl) (by rw [hops]; kernel_rfl) (by rw [hops]; kernel_rfl) (fun _ _ _ => NormalOnly.hQ _ _ _) (Or.inr ⟨(unwanted_some g6 h3 d3 (by rfl)), rfl⟩) s0 ?_
    rw [d6]
    simp only [Act.put, List.setIfInBounds_toArray, List.set_cons_zero, List.set_cons_succ]
    refine wpAnyT_take (i := 7) (v := undef) [7, 8, 9, 10, 11, 12, 13, 14, 15, 16, 17, 18, 19, 20, 21, 22] h7 HNS (by rw [hops]; kernel_rfl) (by rw [hops]; kernel_rfl) (by rw [hops]; kernel_rfl) (fun _ _ _ => NormalOnly.hQ _ _ _) (Or.inr ⟨(unwanted_some g7 h3 d3 (by rfl)), rfl⟩) s0 ?_
    rw [d7]
    simp only [Act.put, List.setIfInBounds_toArray, List.set_cons_zero, List.set_cons_succ]
    refine wpAnyT_take (i := 8) (v := undef) [8, 9, 10, 11, 12, 13, 14, 15, 16, 17, 18, 19, 20, 21, 22] h8 HNS (by rw [hops]; kernel_rfl) (by rw [hops]; kernel_rfl) (by rw [hops]; kernel_rfl) (fun _ _ _ => NormalOnly.hQ _ _ _) (Or.inr ⟨(unwanted_some g8 h3 d3 (by rfl)), rfl⟩) s0 ?_
    rw [d8]
    simp only [Act.put, List.setIfInBounds_toArray, List.set_cons_zero, List.set_cons_succ]
    refine wpAnyT_take (i := 9) (v := .bool true) [9, 10, 11, 12, 13, 14, 15, 16, 17, 18, 19, 20, 21, 22] h9 HNS (by rw [hops]; kernel_rfl) (by rw [hops]; kernel_rfl) (by rw [hops]; kernel_rfl) (fun _ _ _ => NormalOnly.hQ _ _ _) (Or.inl ⟨(wanted_none g9), fun w' _ => by unfold execOp; rw [p9]; first | rfl | kernel_rfl⟩) s0 ?_
    rw [d9]
    simp only [Act.put, List.setIfInBounds_toArray, List.set_cons_zero, List.set_cons_succ]
    refine wpAnyT_take (i := 10) (v := .bool true) [10, 11, 12, 13, 14, 15, 16, 17, 18, 19, 20, 21, 22] h10 HNS (by rw [hops]; kernel_rfl) (by rw [hops]; kernel_rfl) (by rw [hops]; kernel_rfl) (fun _ _ _ => NormalOnly.hQ _ _ _) (Or.inl ⟨(wanted_none g10), fun w' _ => by unfold execOp; rw [p10]; first | rfl | kernel_rfl⟩) s0 ?_
    rw [d10]
    simp only [Act.put, List.setIfInBounds_toArray, List.set_cons_zero, List.set_cons_succ]
    refine wpAnyT_take (i := 11) (v := undef) [11, 12, 16, 17, 20, 21, 22] h11 HNS (by rw [hops]; kernel_rfl) (by rw [hops]; kernel_rfl) (by rw [hops]; kernel_rfl) (fun _ _ _ => NormalOnly.hQ _ _ _) (Or.inr ⟨(unwanted_some g11 h10 d10 (by rfl)), rfl⟩) s0 ?_
    rw [d11]
    simp only [Act.put, List.setIfInBounds_toArray, List.set_cons_zero, List.set_cons_succ]
    refine wpAnyT_take (i := 12) (v := undef) [12, 16, 17, 20, 21, 22] h12 HNS (by rw [hops]; kernel_rfl) (by rw [hops]; kernel_rfl) (by rw [hops]; kernel_rfl) (fun _ _ _ => NormalOnly.hQ _ _ _) (Or.inr ⟨(unwanted_some g12 h10 d10 (by rfl)), rfl⟩) s0 ?_
    rw [d12]
    simp only [Act.put, List.setIfInBounds_toArray, List.set_cons_zero, List.set_cons_succ]
    refine wpAnyT_take (i := 13) (v := undef) [13, 14, 15, 16, 17, 20, 21, 22] h13 HNS (by rw [hops]; kernel_rfl) (by rw [hops]; kernel_rfl) (by rw [hops]; kernel_rfl) (fun _ _ _ => NormalOnly.hQ _ _ _) (Or.inr ⟨(unwanted_some g13 h10 d10 (by rfl)), rfl⟩) s0 ?_
    rw [d13]
    simp only [Act.put, List.setIfInBounds_toArray, List.set_cons_zero, List.set_cons_succ]
    refine wpAnyT_take (i := 14) (v := undef) [14, 15, 16, 17, 20, 21, 22] h14 HNS (by rw [hops]; kernel_rfl) (by rw [hops]; kernel_rfl) (by rw [hops]; kernel_rfl) (fun _ _ _ => NormalOnly.hQ _ _ _) (Or.inr ⟨(unwanted_some g14 h10 d10 (by rfl)), rfl⟩) s0 ?_
    rw [d14]
    simp only [Act.put, List.setIfInBounds_toArray, List.set_cons_zero, List.set_cons_succ]
    refine wpAnyT_take (i := 15) (v := undef) [15, 16, 17, 20, 21, 22] h15 HNS (by rw [hops]; kernel_rfl) (by rw [hops]; kernel_rfl) (by rw [hops]; kernel_rfl) (fun _ _ _ => NormalOnly.hQ _ _ _) (Or.inr ⟨(unwanted_some g15 h10 d10 (by rfl)), rfl⟩) s0 ?_
    rw [d15]
    simp only [Act.put, List.setIfInBounds_toArray, List.set_cons_zero, List.set_cons_succ]
    refine wpAnyT_take (i := 16) (v := undef) [16, 17, 20, 21, 22] h16 HNS (by rw [hops]; kernel_rfl) (by rw [hops]; kernel_rfl) (by rw [hops]; kernel_rfl) (fun _ _ _ => NormalOnly.hQ _ _ _) (Or.inr ⟨(unwanted_some g16 h10 d10 (by rfl)), rfl⟩) s0 ?_
    rw [d16]
    simp only [Act.put, List.setIfInBounds_toArray, List.set_cons_zero, List.set_cons_succ]
    refine wpAnyT_take (i := 17) (v := undef) [17, 20, 21, 22] h17 HNS (by rw [hops]; kernel_rfl) (by rw [hops]; kernel_rfl) (by rw [hops]; kernel_rfl) (fun _ _ _ => NormalOnly.hQ _ _ _) (Or.inr ⟨(unwanted_some g17 h10 d10 (by rfl)), rfl⟩) s0 ?_
    rw [d17]
    simp only [Act.put, List.setIfInBounds_toArray, List.set_cons_zero, List.set_cons_succ]
    refine wpAnyT_take (i := 18) (v := undef) [18, 19, 20, 21, 22] h18 HNS (by rw [hops]; kernel_rfl) (by rw [hops]; kernel_rfl) (by rw [hops]; kernel_rfl) (fun _ _ _ => NormalOnly.hQ _ _ _) (Or.inr ⟨(unwanted_some g18 h10 d10 (by rfl)), rfl⟩) s0 ?_
    rw [d18]
    simp only [Act.put, List.setIfInBounds_toArray, List.set_cons_zero, List.set_cons_succ]
    refine wpAnyT_skip (by rw [hops]; kernel_rfl) h19 (unwanted_some g19 h10 d10 (by rfl)) (fun _ => s0) ?_
    rw [d19]
    simp only [Act.put, List.setIfInBounds_toArray, List.set_cons_zero, List.set_cons_succ]
    refine wpAnyT_take (i := 20) (v := undef) [20, 21, 22] h20 HNS (by rw [hops]; kernel_rfl) (by rw [hops]; kernel_rfl) (by rw [hops]; kernel_rfl) (fun _ _ _ => NormalOnly.hQ _ _ _) (Or.inr ⟨(unwanted_some g20 h10 d10 (by rfl)), rfl⟩) s0 ?_
    rw [d20]
    simp only [Act.put, List.setIfInBounds_toArray, List.set_cons_zero, List.set_cons_succ]
    refine wpAnyT_take (i := 21) (v := .bool true) [21, 22] h21 HNS (by rw [hops]; kernel_rfl) (by rw [hops]; kernel_rfl) (by rw [hops]; kernel_rfl) (fun _ _ _ => NormalOnly.hQ _ _ _) (Or.inl ⟨(wanted_none g21), fun w' _ => by unfold execOp; rw [p21]; first | rfl | kernel_rfl⟩) s0 ?_
    rw [d21]
    simp only [Act.put, List.setIfInBounds_toArray, List.set_cons_zero, List.set_cons_succ]
    refine wpAnyT_take (i := 22) (v := .bool true) [22] h22 HNS (by rw [hops]; kernel_rfl) (by rw [hops]; kernel_rfl) (by rw [hops]; kernel_rfl) (fun _ _ _ => NormalOnly.hQ _ _ _) (Or.inl ⟨(wanted_none g22), fun w' _ => by unfold execOp; rw [p22]; first | rfl | kernel_rfl⟩) s0 ?_
    rw [d22]
    simp only [Act.put, List.setIfInBounds_toArray, List.set_cons_zero, List.set_cons_succ]
    refine wpAnyT_done (by rw [hops]; kernel_rfl) ⟨rfl, ?_⟩ _
    clear HNS hops h0 d0 p0 g0 h1 d1 p1 g1 h2 d2 p2 g2 h3 d3 p3 g3 h4 d4 p4 g4 h5 d5 p5 g5 h6 d6 p6 g6 h7 d7 p7 g7 h8 d8 p8 g8 h9 d9 p9 g9 h10 d10 p10 g10 h11 d11 p11 g11 h12 d12 p12 g12 h13 d13 p13 g13 h14 d14 p14 g14 h15 d15 p15 g15 h16 d16 p16 g16 h17 d17 p17 g17 h18 d18 p18 g18 h19 d19 p19 g19 h20 d20 p20 g20 h21 d21 p21 g21 h22 d22 p22 g22
    go_wp2_with fail
    go_ret
    exact ⟨by rw [HBD.out]; rfl, HB1.out.drew⟩
  have q1 : decide (ix < 1) = false := decide_eq_false c1
  by_cases c2 : s.mn < ix
  · have q2 : decide (s.mn < ix) = true := decide_eq_true c2
    have HBD := Lib.hid (show Sl.bad s x = true from by unfold Sl.bad; rw [HIX.out, q1, q2]; rfl)
    clear c1 c2
    refine Sl.wp_normal ?_
    have s0 : Below W1.heap.size W1 W1.drew := (Below.refl _ W1).drew
    refine wp_region_named (fun ops hops => ?_)
    refine wp_region_T (by kernel_rfl) [] (fun w' => Below W1.heap.size W1 w') ?_
    rw [show ops.size = 23 from by rw [hops]; rfl]
    have HNS : Region.noSelect ops = true := by rw [hops]; kernel_rfl
    obtain ⟨o0, h0, d0, p0, g0⟩ := op_at5 hops 0 rfl (d := some 5) (p := Op.fieldAddr 43 (Operand.tmp 3) 1) (g := none) rfl rfl rfl
    obtain ⟨o1, h1, d1, p1, g1⟩ := op_at5 hops 1 rfl (d := some 6) (p := Op.load 3 (Operand.tmp 5)) (g := none) rfl rfl rfl
    obtain ⟨o2, h2, d2, p2, g2⟩ := op_at5 hops 2 rfl (d := some 7) (p := Op.binOp BinOp.lss 3 (Operand.tmp 6) (Operand.const (Value.int IntKind.i64 1)) 3) (g := none) rfl rfl rfl
    obtain ⟨o3, h3, d3, p3, g3⟩ := op_at5 hops 3 rfl (d := some 8) (p := Op.move (Operand.tmp 7)) (g := none) rfl rfl rfl
    obtain ⟨o4, h4, d4, p4, g4⟩ := op_at5 hops 4 rfl (d := some 9) (p := Op.fieldAddr 43 (Operand.tmp 3) 1) (g := some (3, false)) rfl rfl rfl
    obtain ⟨o5, h5, d5, p5, g5⟩ := op_at5 hops 5 rfl (d := some 10) (p := Op.load 3 (Operand.tmp 9)) (g := some (3, false)) rfl rfl rfl
    obtain ⟨o6, h6, d6, p6, g6⟩ := op_at5 hops 6 rfl (d := some 11) (p := Op.fieldAddr 27 (Operand.tmp 2) 3) (g := some (3, false)) rfl rfl rfl
    obtain ⟨o7, h7, d7, p7, g7⟩ := op_at5 hops 7 rfl (d := some 12) (p := Op.load 3 (Operand.tmp 11)) (g := some (3, false)) rfl rfl rfl
    obtain ⟨o8, h8, d8, p8, g8⟩ := op_at5 hops 8 rfl (d := some 13) (p := Op.binOp BinOp.gtr 3 (Operand.tmp 10) (Operand.tmp 12) 3) (g := some (3, false)) rfl rfl rfl
    obtain ⟨o9, h9, d9, p9, g9⟩ := op_at5 hops 9 rfl (d := some 14) (p := Op.pick (Operand.tmp 8) (Operand.const (Value.bool true)) (Operand.tmp 13)) (g := none) rfl rfl rfl
    obtain ⟨o10, h10, d10, p10, g10⟩ := op_at5 hops 10 rfl (d := some 15) (p := Op.move (Operand.tmp 14)) (g := none) rfl rfl rfl
    obtain ⟨o11, h11, d11, p11, g11⟩ := op_at5 hops 11 rfl (d := some 16) (p := Op.fieldAddr 27 (Operand.tmp 2) 4) (g := some (10, false)) rfl rfl rfl
    obtain ⟨o12, h12, d12, p12, g12⟩ := op_at5 hops 12 rfl (d := some 17) (p := Op.load 25 (Operand.tmp 16)) (g := some (10, false)) rfl rfl rfl
    obtain ⟨o13, h13, d13, p13, g13⟩ := op_at5 hops 13 rfl (d := some 18) (p := Op.fieldAddr 43 (Operand.tmp 3) 1) (g := some (10, false)) rfl rfl rfl
    obtain ⟨o14, h14, d14, p14, g14⟩ := op_at5 hops 14 rfl (d := some 19) (p := Op.load 3 (Operand.tmp 18)) (g := some (10, false)) rfl rfl rfl
    obtain ⟨o15, h15, d15, p15, g15⟩ := op_at5 hops 15 rfl (d := some 20) (p := Op.binOp BinOp.sub 3 (Operand.tmp 19) (Operand.const (Value.int IntKind.i64 1)) 3) (g := some (10, false)) rfl rfl rfl
    obtain ⟨o16, h16, d16, p16, g16⟩ := op_at5 hops 16 rfl (d := some 21) (p := Op.indexAddr 25 (Operand.tmp 17) (Operand.tmp 20)) (g := some (10, false)) rfl rfl rfl
    obtain ⟨o17, h17, d17, p17, g17⟩ := op_at5 hops 17 rfl (d := some 22) (p := Op.load 23 (Operand.tmp 21)) (g := some (10, false)) rfl rfl rfl
    obtain ⟨o18, h18, d18, p18, g18⟩ := op_at5 hops 18 rfl (d := some 23) (p := Op.load 43 (Operand.tmp 3)) (g := some (10, false)) rfl rfl rfl
    obtain ⟨o19, h19, d19, p19, g19⟩ := op_at5 hops 19 rfl (d := some 24) (p := Op.call { callee := Callee.value (Operand.func 29), args := #[Operand.tmp 23], argTypes := #[43] }) (g := some (10, false)) rfl rfl rfl
    obtain ⟨o20, h20, d20, p20, g20⟩ := op_at5 hops 20 rfl (d := some 25) (p := Op.binOp BinOp.neq 23 (Operand.tmp 22) (Operand.tmp 24) 23) (g := some (10, false)) rfl rfl rfl
    obtain ⟨o21, h21, d21, p21, g21⟩ := op_at5 hops 21 rfl (d := some 26) (p := Op.pick (Operand.tmp 15) (Operand.const (Value.bool true)) (Operand.tmp 25)) (g := none) rfl rfl rfl
    obtain ⟨o22, h22, d22, p22, g22⟩ := op_at5 hops 22 rfl (d := some 4) (p := Op.assign (Operand.tmp 26)) (g := none) rfl rfl rfl
    refine wpAnyT_take (i := 0) (v := .pointer (some ⟨gz, 1, none⟩)) [0, 1, 2, 3, 4, 5, 6, 7, 8, 9, 10, 11, 12, 13, 14, 15, 16, 17, 18, 19, 20, 21, 22] h0 HNS (by rw [hops]; kernel_rfl) (by rw [hops]; kernel_rfl) (by rw [hops]; kernel_rfl) (fun _ _ _ => NormalOnly.hQ _ _ _) (Or.inl ⟨(wanted_none g0), fun w' _ => by unfold execOp; rw [p0]; first | rfl | kernel_rfl⟩) s0 ?_
    rw [d0]
    simp only [Act.put, List.setIfInBounds_toArray, List.set_cons_zero, List.set_cons_succ]
    refine wpAnyT_take (i := 1) (v := .int .i64 ix) [1, 2, 3, 4, 5, 6, 7, 8, 9, 10, 11, 12, 13, 14, 15, 16, 17, 18, 19, 20, 21, 22] h1 HNS (by rw [hops]; kernel_rfl) (by rw [hops]; kernel_rfl) (by rw [hops]; kernel_rfl) (fun _ _ _ => NormalOnly.hQ _ _ _) (Or.inl ⟨(wanted_none g1), fun w' h => run_op_load_cell 3 _ p1 gz 1 (by rfl) (.int .i64 ix) ((HZ1.out.keep h).cell 1) _ Tryd.underlying3 rfl⟩) s0 ?_
    rw [d1]
    simp only [Act.put, List.setIfInBounds_toArray, List.set_cons_zero, List.set_cons_succ]
    refine wpAnyT_take (i := 2) (v := .bool false) [2, 3, 4, 5, 6, 7, 8, 9, 10, 11, 12, 13, 14, 15, 16, 17, 18, 19, 20, 21, 22] h2 HNS (by rw [hops]; kernel_rfl) (by rw [hops]; kernel_rfl) (by rw [hops]; kernel_rfl) (fun _ _ _ => NormalOnly.hQ _ _ _) (Or.inl ⟨(wanted_none g2), fun w' h => (show _ = Result.ok (.value (.bool (decide (ix < 1)))) w' from by unfold execOp; rw [p2]; first | rfl | kernel_rfl).trans (by rw [q1])⟩) s0 ?_
    rw [d2]
    simp only [Act.put, List.setIfInBounds_toArray, List.set_cons_zero, List.set_cons_succ]
    refine wpAnyT_take (i := 3) (v := .bool false) [3, 4, 5, 6, 7, 8, 9, 10, 11, 12, 13, 14, 15, 16, 17, 18, 19, 20, 21, 22] h3 HNS (by rw [hops]; kernel_rfl) (by rw [hops]; kernel_rfl) (by rw [hops]; kernel_rfl) (fun _ _ _ => NormalOnly.hQ _ _ _) (Or.inl ⟨(wanted_none g3), fun w' _ => by unfold execOp; rw [p3]; first | rfl | kernel_rfl⟩) s0 ?_
    rw [d3]
    simp only [Act.put, List.setIfInBounds_toArray, List.set_cons_zero, List.set_cons_succ]
    refine wpAnyT_take (i := 4) (v := .pointer (some ⟨gz, 1, none⟩)) [4, 5, 8, 9, 10, 11, 12, 13, 14, 15, 16, 17, 18, 19, 20, 21, 22] h4 HNS (by rw [hops]; kernel_rfl) (by rw [hops]; kernel_rfl) (by rw [hops]; kernel_rfl) (fun _ _ _ => NormalOnly.hQ _ _ _) (Or.inl ⟨(wanted_some g4 h3 d3 (by rfl)), fun w' _ => by unfold execOp; rw [p4]; first | rfl | kernel_rfl⟩) s0 ?_
    rw [d4]
    simp only [Act.put, List.setIfInBounds_toArray, List.set_cons_zero, List.set_cons_succ]
    refine wpAnyT_take (i := 5) (v := .int .i64 ix) [5, 8, 9, 10, 11, 12, 13, 14, 15, 16, 17, 18, 19, 20, 21, 22] h5 HNS (by rw [hops]; kernel_rfl) (by rw [hops]; kernel_rfl) (by rw [hops]; kernel_rfl) (fun _ _ _ => NormalOnly.hQ _ _ _) (Or.inl ⟨(wanted_some g5 h3 d3 (by rfl)), fun w' h => run_op_load_cell 3 _ p5 gz 1 (by rfl) (.int .i64 ix) ((HZ1.out.keep h).cell 1) _ Tryd.underlying3 rfl⟩) s0 ?_
    rw [d5]
    simp only [Act.put, List.setIfInBounds_toArray, List.set_cons_zero, List.set_cons_succ]
    refine wpAnyT_take (i := 6) (v := .pointer (some ⟨gS, 34, none⟩)) [6, 7, 8, 9, 10, 11, 12, 13, 14, 15, 16, 17, 18, 19, 20, 21, 22] h6 HNS (by rw [hops]; kernel_rfl) (by rw [hops]; kernel_rfl) (by rw [hops]; kernel_rfl) (fun _ _ _ => NormalOnly.hQ _ _ _) (Or.inl ⟨(wanted_some g6 h3 d3 (by rfl)), fun w' _ => by unfold execOp; rw [p6]; first | rfl | kernel_rfl⟩) s0 ?_
    rw [d6]
    simp only [Act.put, List.setIfInBounds_toArray, List.set_cons_zero, List.set_cons_succ]
    refine wpAnyT_take (i := 7) (v := .int .i64 s.mn) [7, 8, 9, 10, 11, 12, 13, 14, 15, 16, 17, 18, 19, 20, 21, 22] h7 HNS (by rw [hops]; kernel_rfl) (by rw [hops]; kernel_rfl) (by rw [hops]; kernel_rfl) (fun _ _ _ => NormalOnly.hQ _ _ _) (Or.inl ⟨(wanted_some g7 h3 d3 (by rfl)), fun w' h => run_op_load_cell 3 _ p7 (gS) (34) (by rfl) (.int .i64 s.mn) (((HS1.out.keep h).cell 34).trans HA34.out) _ Tryd.underlying3 rfl⟩) s0 ?_
    rw [d7]
    simp only [Act.put, List.setIfInBounds_toArray, List.set_cons_zero, List.set_cons_succ]
    refine wpAnyT_take (i := 8) (v := .bool true) [8, 9, 10, 11, 12, 13, 14, 15, 16, 17, 18, 19, 20, 21, 22] h8 HNS (by rw [hops]; kernel_rfl) (by rw [hops]; kernel_rfl) (by rw [hops]; kernel_rfl) (fun _ _ _ => NormalOnly.hQ _ _ _) (Or.inl ⟨(wanted_some g8 h3 d3 (by rfl)), fun w' h => (show _ = Result.ok (.value (.bool (decide (s.mn < ix)))) w' from by unfold execOp; rw [p8]; first | rfl | kernel_rfl).trans (by rw [q2])⟩) s0 ?_
    rw [d8]
    simp only [Act.put, List.setIfInBounds_toArray, List.set_cons_zero, List.set_cons_succ]
    refine wpAnyT_take (i := 9) (v := .bool true) [9, 10, 11, 12, 13, 14, 15, 16, 17, 18, 19, 20, 21, 22] h9 HNS (by rw [hops]; kernel_rfl) (by rw [hops]; kernel_rfl) (by rw [hops]; kernel_rfl) (fun _ _ _ => NormalOnly.hQ _ _ _) (Or.inl ⟨(wanted_none g9), fun w' _ => by unfold execOp; rw [p9]; first | rfl | kernel_rfl⟩) s0 ?_
    rw [d9]
    simp only [Act.put, List.setIfInBounds_toArray, List.set_cons_zero, List.set_cons_succ]
    refine wpAnyT_take (i := 10) (v := .bool true) [10, 11, 12, 13, 14, 15, 16, 17, 18, 19, 20, 21, 22] h10 HNS (by rw [hops]; kernel_rfl) (by rw [hops]; kernel_rfl) (by rw [hops]; kernel_rfl) (fun _ _ _ => NormalOnly.hQ _ _ _) (Or.inl ⟨(wanted_none g10), fun w' _ => by unfold execOp; rw [p10]; first | rfl | kernel_rfl⟩) s0 ?_
    rw [d10]
    simp only [Act.put, List.setIfInBounds_toArray, List.set_cons_zero, List.set_cons_succ]
    refine wpAnyT_take (i := 11) (v := undef) [11, 12, 16, 17, 20, 21, 22] h11 HNS (by rw [hops]; kernel_rfl) (by rw [hops]; kernel_rfl) (by rw [hops]; kernel_rfl) (fun _ _ _ => NormalOnly.hQ _ _ _) (Or.inr ⟨(unwanted_some g11 h10 d10 (by rfl)), rfl⟩) s0 ?_
    rw [d11]
    simp only [Act.put, List.setIfInBounds_toArray, List.set_cons_zero, List.set_cons_succ]
    refine wpAnyT_take (i := 12) (v := undef) [12, 16, 17, 20, 21, 22] h12 HNS (by rw [hops]; kernel_rfl) (by rw [hops]; kernel_rfl) (by rw [hops]; kernel_rfl) (fun _ _ _ => NormalOnly.hQ _ _ _) (Or.inr ⟨(unwanted_some g12 h10 d10 (by rfl)), rfl⟩) s0 ?_
    rw [d12]
    simp only [Act.put, List.setIfInBounds_toArray, List.set_cons_zero, List.set_cons_succ]
    refine wpAnyT_take (i := 13) (v := undef) [13, 14, 15, 16, 17, 20, 21, 22] h13 HNS (by rw [hops]; kernel_rfl) (by rw [hops]; kernel_rfl) (by rw [hops]; kernel_rfl) (fun _ _ _ => NormalOnly.hQ _ _ _) (Or.inr ⟨(unwanted_some g13 h10 d10 (by rfl)), rfl⟩) s0 ?_
    rw [d13]
    simp only [Act.put, List.setIfInBounds_toArray, List.set_cons_zero, List.set_cons_succ]
    refine wpAnyT_take (i := 14) (v := undef) [14, 15, 16, 17, 20, 21, 22] h14 HNS (by rw [hops]; kernel_rfl) (by rw [hops]; kernel_rfl) (by rw [hops]; kernel_rfl) (fun _ _ _ => NormalOnly.hQ _ _ _) (Or.inr ⟨(unwanted_some g14 h10 d10 (by rfl)), rfl⟩) s0 ?_
    rw [d14]
    simp only [Act.put, List.setIfInBounds_toArray, List.set_cons_zero, List.set_cons_succ]
    refine wpAnyT_take (i := 15) (v := undef) [15, 16, 17, 20, 21, 22] h15 HNS (by rw [hops]; kernel_rfl) (by rw [hops]; kernel_rfl) (by rw [hops]; kernel_rfl) (fun _ _ _ => NormalOnly.hQ _ _ _) (Or.inr ⟨(unwanted_some g15 h10 d10 (by rfl)), rfl⟩) s0 ?_
    rw [d15]
    simp only [Act.put, List.setIfInBounds_toArray, List.set_cons_zero, List.set_cons_succ]
    refine wpAnyT_take (i := 16) (v := undef) [16, 17, 20, 21, 22] h16 HNS (by rw [hops]; kernel_rfl) (by rw [hops]; kernel_rfl) (by rw [hops]; kernel_rfl) (fun _ _ _ => NormalOnly.hQ _ _ _) (Or.inr ⟨(unwanted_some g16 h10 d10 (by rfl)), rfl⟩) s0 ?_
    rw [d16]
    simp only [Act.put, List.setIfInBounds_toArray, List.set_cons_zero, List.set_cons_succ]
    refine wpAnyT_take (i := 17) (v := undef) [17, 20, 21, 22] h17 HNS (by rw [hops]; kernel_rfl) (by rw [hops]; kernel_rfl) (by rw [hops]; kernel_rfl) (fun _ _ _ => NormalOnly.hQ _ _ _) (Or.inr ⟨(unwanted_some g17 h10 d10 (by rfl)), rfl⟩) s0 ?_
    rw [d17]
    simp only [Act.put, List.setIfInBounds_toArray, List.set_cons_zero, List.set_cons_succ]
    refine wpAnyT_take (i := 18) (v := undef) [18, 19, 20, 21, 22] h18 HNS (by rw [hops]; kernel_rfl) (by rw [hops]; kernel_rfl) (by rw [hops]; kernel_rfl) (fun _ _ _ => NormalOnly.hQ _ _ _) (Or.inr ⟨(unwanted_some g18 h10 d10 (by rfl)), rfl⟩) s0 ?_
    rw [d18]
    simp only [Act.put, List.setIfInBounds_toArray, List.set_cons_zero, List.set_cons_succ]
    refine wpAnyT_skip (by rw [hops]; kernel_rfl) h19 (unwanted_some g19 h10 d10 (by rfl)) (fun _ => s0) ?_
    rw [d19]
    simp only [Act.put, List.setIfInBounds_toArray, List.set_cons_zero, List.set_cons_succ]
    refine wpAnyT_take (i := 20) (v := undef) [20, 21, 22] h20 HNS (by rw [hops]; kernel_rfl) (by rw [hops]; kernel_rfl) (by rw [hops]; kernel_rfl) (fun _ _ _ => NormalOnly.hQ _ _ _) (Or.inr ⟨(unwanted_some g20 h10 d10 (by rfl)), rfl⟩) s0 ?_
    rw [d20]
    simp only [Act.put, List.setIfInBounds_toArray, List.set_cons_zero, List.set_cons_succ]
    refine wpAnyT_take (i := 21) (v := .bool true) [21, 22] h21 HNS (by rw [hops]; kernel_rfl) (by rw [hops]; kernel_rfl) (by rw [hops]; kernel_rfl) (fun _ _ _ => NormalOnly.hQ _ _ _) (Or.inl ⟨(wanted_none g21), fun w' _ => by unfold execOp; rw [p21]; first | rfl | kernel_rfl⟩) s0 ?_
    rw [d21]
    simp only [Act.put, List.setIfInBounds_toArray, List.set_cons_zero, List.set_cons_succ]
    refine wpAnyT_take (i := 22) (v := .bool true) [22] h22 HNS (by rw [hops]; kernel_rfl) (by rw [hops]; kernel_rfl) (by rw [hops]; kernel_rfl) (fun _ _ _ => NormalOnly.hQ _ _ _) (Or.inl ⟨(wanted_none g22), fun w' _ => by unfold execOp; rw [p22]; first | rfl | kernel_rfl⟩) s0 ?_
    rw [d22]
    simp only [Act.put, List.setIfInBounds_toArray, List.set_cons_zero, List.set_cons_succ]
    refine wpAnyT_done (by rw [hops]; kernel_rfl) ⟨rfl, ?_⟩ _
    clear HNS hops h0 d0 p0 g0 h1 d1 p1 g1 h2 d2 p2 g2 h3 d3 p3 g3 h4 d4 p4 g4 h5 d5 p5 g5 h6 d6 p6 g6 h7 d7 p7 g7 h8 d8 p8 g8 h9 d9 p9 g9 h10 d10 p10 g10 h11 d11 p11 g11 h12 d12 p12 g12 h13 d13 p13 g13 h14 d14 p14 g14 h15 d15 p15 g15 h16 d16 p16 g16 h17 d17 p17 g17 h18 d18 p18 g18 h19 d19 p19 g19 h20 d20 p20 g20 h21 d21 p21 g21 h22 d22 p22 g22
    go_wp2_with fail
    go_ret
    exact ⟨by rw [HBD.out]; rfl, HB1.out.drew⟩
  have q2 : decide (s.mn < ix) = false := decide_eq_false c2
  obtain ⟨j, hj⟩ := Int.eq_ofNat_of_zero_le (show 0 ≤ ix - 1 by omega)
  obtain ⟨m, hm⟩ : ∃ m, s.ms.length = m := ⟨_, rfl⟩
  have hjm : j < m := by have h1 := HGD.out.mkl; omega
  have hjs : j < s.ms.length := by rw [hm]; exact hjm
  have q3 : IntKind.i64.wrap (ix - 1) = (j : Int) := (IntWalk.i64_in _ (by have h1 := HGD.out.mn8; omega)).trans hj
  obtain ⟨bm, om, e0, _⟩ := HOK.out.mark j hjs
  subst e0
  rw [hm] at HA35
  obtain ⟨M, hM⟩ : ∃ M, s.ms.getD j [] = M := ⟨_, rfl⟩
  obtain ⟨D, hD⟩ : ∃ D, Sl.mark x = D := ⟨_, rfl⟩
  have HD32 := Lib.hid (show D.length = 32 from by rw [← hD]; exact Sl.mark_len _)
  have hmr := fun (W : World) (hb : Below W1.heap.size W1 W) => Sl.mark_ref x A c W ((HYR.out.keep HB1.out).keep hb) HG.out.1 HG.out.2.1 HG.out.2.2.1 HG.out.2.2.2.1 HG.out.2.2.2.2
  rw [HIX.out, hD] at hmr
  have HMR := Lib.hid hmr
  have HBM := Lib.hid (show Sl.bad s x = !(M == D) from by
    unfold Sl.bad
    rw [HIX.out, q1, q2, hj, Int.toNat_natCast, hM, hD]
    rfl)
  have MS := Lib.hid (fun (W : World) (hb : Below W1.heap.size W1 W) => (show W.rangeAt bm (om + j * 32) (M.map Dg.b8) from by
    obtain ⟨b', o', e', _, hr', _⟩ := ((HOK.out.keep HB1.out).keep hb).mark j hjs
    injection e' with e'
    injection e' with e1 e2
    subst e1 e2
    rw [← hM]
    exact hr'))
  have HM32 := Lib.hid (show M.length = 32 from by obtain ⟨_, _, _, _, _, h⟩ := HOK.out.mark j hjs; rw [← hM]; exact h)
  clear hj hm hjs hM hD hmr c1 c2
  refine Sl.wp_normal ?_
  have s0 : Below W1.heap.size W1 W1.drew := (Below.refl _ W1).drew
  refine wp_region_named (fun ops hops => ?_)
  refine wp_region_T (by kernel_rfl) [] (fun w' => Below W1.heap.size W1 w') ?_
  rw [show ops.size = 23 from by rw [hops]; rfl]
  have HNS : Region.noSelect ops = true := by rw [hops]; kernel_rfl
  obtain ⟨o0, h0, d0, p0, g0⟩ := op_at5 hops 0 rfl (d := some 5) (p := Op.fieldAddr 43 (Operand.tmp 3) 1) (g := none) rfl rfl rfl
  obtain ⟨o1, h1, d1, p1, g1⟩ := op_at5 hops 1 rfl (d := some 6) (p := Op.load 3 (Operand.tmp 5)) (g := none) rfl rfl rfl
  obtain ⟨o2, h2, d2, p2, g2⟩ := op_at5 hops 2 rfl (d := some 7) (p := Op.binOp BinOp.lss 3 (Operand.tmp 6) (Operand.const (Value.int IntKind.i64 1)) 3) (g := none) rfl rfl rfl
  obtain ⟨o3, h3, d3, p3, g3⟩ := op_at5 hops 3 rfl (d := some 8) (p := Op.move (Operand.tmp 7)) (g := none) rfl rfl rfl
  obtain ⟨o4, h4, d4, p4, g4⟩ := op_at5 hops 4 rfl (d := some 9) (p := Op.fieldAddr 43 (Operand.tmp 3) 1) (g := some (3, false)) rfl rfl rfl
  obtain ⟨o5, h5, d5, p5, g5⟩ := op_at5 hops 5 rfl (d := some 10) (p := Op.load 3 (Operand.tmp 9)) (g := some (3, false)) rfl rfl rfl
  obtain ⟨o6, h6, d6, p6, g6⟩ := op_at5 hops 6 rfl (d := some 11) (p := Op.fieldAddr 27 (Operand.tmp 2) 3) (g := some (3, false)) rfl rfl rfl
  obtain ⟨o7, h7, d7, p7, g7⟩ := op_at5 hops 7 rfl (d := some 12) (p := Op.load 3 (Operand.tmp 11)) (g := some (3, false)) rfl rfl rfl
  obtain ⟨o8, h8, d8, p8, g8⟩ := op_at5 hops 8 rfl (d := some 13) (p := Op.binOp BinOp.gtr 3 (Operand.tmp 10) (Operand.tmp 12) 3) (g := some (3, false)) rfl rfl rfl
  obtain ⟨o9, h9, d9, p9, g9⟩ := op_at5 hops 9 rfl (d := some 14) (p := Op.pick (Operand.tmp 8) (Operand.const (Value.bool true)) (Operand.tmp 13)) (g := none) rfl rfl rfl
  obtain ⟨o10, h10, d10, p10, g10⟩ := op_at5 hops 10 rfl (d := some 15) (p := Op.move (Operand.tmp 14)) (g := none) rfl rfl rfl
  obtain ⟨o11, h11, d11, p11, g11⟩ := op_at5 hops 11 rfl (d := some 16) (p := Op.fieldAddr 27 (Operand.tmp 2) 4) (g := some (10, false)) rfl rfl rfl
  obtain ⟨o12, h12, d12, p12, g12⟩ := op_at5 hops 12 rfl (d := some 17) (p := Op.load 25 (Operand.tmp 16)) (g := some (10, false)) rfl rfl rfl
  obtain ⟨o13, h13, d13, p13, g13⟩ := op_at5 hops 13 rfl (d := some 18) (p := Op.fieldAddr 43 (Operand.tmp 3) 1) (g := some (10, false)) rfl rfl rfl
  obtain ⟨o14, h14, d14, p14, g14⟩ := op_at5 hops 14 rfl (d := some 19) (p := Op.load 3 (Operand.tmp 18)) (g := some (10, false)) rfl rfl rfl
  obtain ⟨o15, h15, d15, p15, g15⟩ := op_at5 hops 15 rfl (d := some 20) (p := Op.binOp BinOp.sub 3 (Operand.tmp 19) (Operand.const (Value.int IntKind.i64 1)) 3) (g := some (10, false)) rfl rfl rfl
  obtain ⟨o16, h16, d16, p16, g16⟩ := op_at5 hops 16 rfl (d := some 21) (p := Op.indexAddr 25 (Operand.tmp 17) (Operand.tmp 20)) (g := some (10, false)) rfl rfl rfl
  obtain ⟨o17, h17, d17, p17, g17⟩ := op_at5 hops 17 rfl (d := some 22) (p := Op.load 23 (Operand.tmp 21)) (g := some (10, false)) rfl rfl rfl
  obtain ⟨o18, h18, d18, p18, g18⟩ := op_at5 hops 18 rfl (d := some 23) (p := Op.load 43 (Operand.tmp 3)) (g := some (10, false)) rfl rfl rfl
  obtain ⟨o19, h19, d19, p19, g19⟩ := op_at5 hops 19 rfl (d := some 24) (p := Op.call { callee := Callee.value (Operand.func 29), args := #[Operand.tmp 23], argTypes := #[43] }) (g := some (10, false)) rfl rfl rfl
  obtain ⟨o20, h20, d20, p20, g20⟩ := op_at5 hops 20 rfl (d := some 25) (p := Op.binOp BinOp.neq 23 (Operand.tmp 22) (Operand.tmp 24) 23) (g := some (10, false)) rfl rfl rfl
  obtain ⟨o21, h21, d21, p21, g21⟩ := op_at5 hops 21 rfl (d := some 26) (p := Op.pick (Operand.tmp 15) (Operand.const (Value.bool true)) (Operand.tmp 25)) (g := none) rfl rfl rfl
  obtain ⟨o22, h22, d22, p22, g22⟩ := op_at5 hops 22 rfl (d := some 4) (p := Op.assign (Operand.tmp 26)) (g := none) rfl rfl rfl
  refine wpAnyT_take (i := 0) (v := .pointer (some ⟨gz, 1, none⟩)) [0, 1, 2, 3, 4, 5, 6, 7, 8, 9, 10, 11, 12, 13, 14, 15, 16, 17, 18, 19, 20, 21, 22] h0 HNS (by rw [hops]; kernel_rfl) (by rw [hops]; kernel_rfl) (by rw [hops]; kernel_rfl) (fun _ _ _ => NormalOnly.hQ _ _ _) (Or.inl ⟨(wanted_none g0), fun w' _ => by unfold execOp; rw [p0]; first | rfl | kernel_rfl⟩) s0 ?_
  rw [d0]
  simp only [Act.put, List.setIfInBounds_toArray, List.set_cons_zero, List.set_cons_succ]
  refine wpAnyT_take (i := 1) (v := .int .i64 ix) [1, 2, 3, 4, 5, 6, 7, 8, 9, 10, 11, 12, 13, 14, 15, 16, 17, 18, 19, 20, 21, 22] h1 HNS (by rw [hops]; kernel_rfl) (by rw [hops]; kernel_rfl) (by rw [hops]; kernel_rfl) (fun _ _ _ => NormalOnly.hQ _ _ _) (Or.inl ⟨(wanted_none g1), fun w' h => run_op_load_cell 3 _ p1 gz 1 (by rfl) (.int .i64 ix) ((HZ1.out.keep h).cell 1) _ Tryd.underlying3 rfl⟩) s0 ?_
  rw [d1]
  simp only [Act.put, List.setIfInBounds_toArray, List.set_cons_zero, List.set_cons_succ]
  refine wpAnyT_take (i := 2) (v := .bool false) [2, 3, 4, 5, 6, 7, 8, 9, 10, 11, 12, 13, 14, 15, 16, 17, 18, 19, 20, 21, 22] h2 HNS (by rw [hops]; kernel_rfl) (by rw [hops]; kernel_rfl) (by rw [hops]; kernel_rfl) (fun _ _ _ => NormalOnly.hQ _ _ _) (Or.inl ⟨(wanted_none g2), fun w' h => (show _ = Result.ok (.value (.bool (decide (ix < 1)))) w' from by unfold execOp; rw [p2]; first | rfl | kernel_rfl).trans (by rw [q1])⟩) s0 ?_
  rw [d2]
  simp only [Act.put, List.setIfInBounds_toArray, List.set_cons_zero, List.set_cons_succ]
  refine wpAnyT_take (i := 3) (v := .bool false) [3, 4, 5, 6, 7, 8, 9, 10, 11, 12, 13, 14, 15, 16, 17, 18, 19, 20, 21, 22] h3 HNS (by rw [hops]; kernel_rfl) (by rw [hops]; kernel_rfl) (by rw [hops]; kernel_rfl) (fun _ _ _ => NormalOnly.hQ _ _ _) (Or.inl ⟨(wanted_none g3), fun w' _ => by unfold execOp; rw [p3]; first | rfl | kernel_rfl⟩) s0 ?_
  rw [d3]
  simp only [Act.put, List.setIfInBounds_toArray, List.set_cons_zero, List.set_cons_succ]
  refine wpAnyT_take (i := 4) (v := .pointer (some ⟨gz, 1, none⟩)) [4, 5, 8, 9, 10, 11, 12, 13, 14, 15, 16, 17, 18, 19, 20, 21, 22] h4 HNS (by rw [hops]; kernel_rfl) (by rw [hops]; kernel_rfl) (by rw [hops]; kernel_rfl) (fun _ _ _ => NormalOnly.hQ _ _ _) (Or.inl ⟨(wanted_some g4 h3 d3 (by rfl)), fun w' _ => by unfold execOp; rw [p4]; first | rfl | kernel_rfl⟩) s0 ?_
  rw [d4]
  simp only [Act.put, List.setIfInBounds_toArray, List.set_cons_zero, List.set_cons_succ]
  refine wpAnyT_take (i := 5) (v := .int .i64 ix) [5, 8, 9, 10, 11, 12, 13, 14, 15, 16, 17, 18, 19, 20, 21, 22] h5 HNS (by rw [hops]; kernel_rfl) (by rw [hops]; kernel_rfl) (by rw [hops]; kernel_rfl) (fun _ _ _ => NormalOnly.hQ _ _ _) (Or.inl ⟨(wanted_some g5 h3 d3 (by rfl)), fun w' h => run_op_load_cell 3 _ p5 gz 1 (by rfl) (.int .i64 ix) ((HZ1.out.keep h).cell 1) _ Tryd.underlying3 rfl⟩) s0 ?_
  rw [d5]
  simp only [Act.put, List.setIfInBounds_toArray, List.set_cons_zero, List.set_cons_succ]
  refine wpAnyT_take (i := 6) (v := .pointer (some ⟨gS, 34, none⟩)) [6, 7, 8, 9, 10, 11, 12, 13, 14, 15, 16, 17, 18, 19, 20, 21, 22] h6 HNS (by rw [hops]; kernel_rfl) (by rw [hops]; kernel_rfl) (by rw [hops]; kernel_rfl) (fun _ _ _ => NormalOnly.hQ _ _ _) (Or.inl ⟨(wanted_some g6 h3 d3 (by rfl)), fun w' _ => by unfold execOp; rw [p6]; first | rfl | kernel_rfl⟩) s0 ?_
  rw [d6]
  simp only [Act.put, List.setIfInBounds_toArray, List.set_cons_zero, List.set_cons_succ]
  refine wpAnyT_take (i := 7) (v := .int .i64 s.mn) [7, 8, 9, 10, 11, 12, 13, 14, 15, 16, 17, 18, 19, 20, 21, 22] h7 HNS (by rw [hops]; kernel_rfl) (by rw [hops]; kernel_rfl) (by rw [hops]; kernel_rfl) (fun _ _ _ => NormalOnly.hQ _ _ _) (Or.inl ⟨(wanted_some g7 h3 d3 (by rfl)), fun w' h => run_op_load_cell 3 _ p7 (gS) (34) (by rfl) (.int .i64 s.mn) (((HS1.out.keep h).cell 34).trans HA34.out) _ Tryd.underlying3 rfl⟩) s0 ?_
  rw [d7]
  simp only [Act.put, List.setIfInBounds_toArray, List.set_cons_zero, List.set_cons_succ]
  refine wpAnyT_take (i := 8) (v := .bool false) [8, 9, 10, 11, 12, 13, 14, 15, 16, 17, 18, 19, 20, 21, 22] h8 HNS (by rw [hops]; kernel_rfl) (by rw [hops]; kernel_rfl) (by rw [hops]; kernel_rfl) (fun _ _ _ => NormalOnly.hQ _ _ _) (Or.inl ⟨(wanted_some g8 h3 d3 (by rfl)), fun w' h => (show _ = Result.ok (.value (.bool (decide (s.mn < ix)))) w' from by unfold execOp; rw [p8]; first | rfl | kernel_rfl).trans (by rw [q2])⟩) s0 ?_
  rw [d8]
  simp only [Act.put, List.setIfInBounds_toArray, List.set_cons_zero, List.set_cons_succ]
  refine wpAnyT_take (i := 9) (v := .bool false) [9, 10, 11, 12, 13, 14, 15, 16, 17, 18, 19, 20, 21, 22] h9 HNS (by rw [hops]; kernel_rfl) (by rw [hops]; kernel_rfl) (by rw [hops]; kernel_rfl) (fun _ _ _ => NormalOnly.hQ _ _ _) (Or.inl ⟨(wanted_none g9), fun w' _ => by unfold execOp; rw [p9]; first | rfl | kernel_rfl⟩) s0 ?_
  rw [d9]
  simp only [Act.put, List.setIfInBounds_toArray, List.set_cons_zero, List.set_cons_succ]
  refine wpAnyT_take (i := 10) (v := .bool false) [10, 11, 12, 13, 14, 15, 16, 17, 18, 19, 20, 21, 22] h10 HNS (by rw [hops]; kernel_rfl) (by rw [hops]; kernel_rfl) (by rw [hops]; kernel_rfl) (fun _ _ _ => NormalOnly.hQ _ _ _) (Or.inl ⟨(wanted_none g10), fun w' _ => by unfold execOp; rw [p10]; first | rfl | kernel_rfl⟩) s0 ?_
  rw [d10]
  simp only [Act.put, List.setIfInBounds_toArray, List.set_cons_zero, List.set_cons_succ]
  refine wpAnyT_take (i := 11) (v := .pointer (some ⟨gS, 35, none⟩)) [11, 12, 16, 17, 20, 21, 22] h11 HNS (by rw [hops]; kernel_rfl) (by rw [hops]; kernel_rfl) (by rw [hops]; kernel_rfl) (fun _ _ _ => NormalOnly.hQ _ _ _) (Or.inl ⟨(wanted_some g11 h10 d10 (by rfl)), fun w' _ => by unfold execOp; rw [p11]; first | rfl | kernel_rfl⟩) s0 ?_
  rw [d11]
  simp only [Act.put, List.setIfInBounds_toArray, List.set_cons_zero, List.set_cons_succ]
  have HE29 := Lib.hid (enters_of Tryd.func29 (by kernel_rfl) rfl)
  refine wpAnyT_take (i := 12) (v := .slice (some ⟨bm, om, none⟩) m cA) [12, 16, 17, 20, 21, 22] h12 HNS (by rw [hops]; kernel_rfl) (by rw [hops]; kernel_rfl) (by rw [hops]; kernel_rfl) (fun _ _ _ => NormalOnly.hQ _ _ _) (Or.inl ⟨(wanted_some g12 h10 d10 (by rfl)), fun w' h => run_op_load_cell 25 _ p12 (gS) (35) (by rfl) (.slice (some ⟨bm, om, none⟩) m cA) (((HS1.out.keep h).cell 35).trans HA35.out) _ Tryd.underlying25 rfl⟩) s0 ?_
  rw [d12]
  simp only [Act.put, List.setIfInBounds_toArray, List.set_cons_zero, List.set_cons_succ]
  refine wpAnyT_take (i := 13) (v := .pointer (some ⟨gz, 1, none⟩)) [13, 14, 15, 16, 17, 20, 21, 22] h13 HNS (by rw [hops]; kernel_rfl) (by rw [hops]; kernel_rfl) (by rw [hops]; kernel_rfl) (fun _ _ _ => NormalOnly.hQ _ _ _) (Or.inl ⟨(wanted_some g13 h10 d10 (by rfl)), fun w' _ => by unfold execOp; rw [p13]; first | rfl | kernel_rfl⟩) s0 ?_
  rw [d13]
  simp only [Act.put, List.setIfInBounds_toArray, List.set_cons_zero, List.set_cons_succ]
  refine wpAnyT_take (i := 14) (v := .int .i64 ix) [14, 15, 16, 17, 20, 21, 22] h14 HNS (by rw [hops]; kernel_rfl) (by rw [hops]; kernel_rfl) (by rw [hops]; kernel_rfl) (fun _ _ _ => NormalOnly.hQ _ _ _) (Or.inl ⟨(wanted_some g14 h10 d10 (by rfl)), fun w' h => run_op_load_cell 3 _ p14 gz 1 (by rfl) (.int .i64 ix) ((HZ1.out.keep h).cell 1) _ Tryd.underlying3 rfl⟩) s0 ?_
  rw [d14]
  simp only [Act.put, List.setIfInBounds_toArray, List.set_cons_zero, List.set_cons_succ]
  refine wpAnyT_take (i := 15) (v := .int .i64 (j : Int)) [15, 16, 17, 20, 21, 22] h15 HNS (by rw [hops]; kernel_rfl) (by rw [hops]; kernel_rfl) (by rw [hops]; kernel_rfl) (fun _ _ _ => NormalOnly.hQ _ _ _) (Or.inl ⟨(wanted_some g15 h10 d10 (by rfl)), fun w' h => (show _ = Result.ok (.value (.int .i64 (IntKind.i64.wrap (ix - 1)))) w' from by unfold execOp; rw [p15]; first | rfl | kernel_rfl).trans (by rw [q3])⟩) s0 ?_
  rw [d15]
  simp only [Act.put, List.setIfInBounds_toArray, List.set_cons_zero, List.set_cons_succ]
  refine wpAnyT_take (i := 16) (v := .pointer (some ⟨bm, om + j * 32, none⟩)) [16, 17, 20, 21, 22] h16 HNS (by rw [hops]; kernel_rfl) (by rw [hops]; kernel_rfl) (by rw [hops]; kernel_rfl) (fun _ _ _ => NormalOnly.hQ _ _ _) (Or.inl ⟨(wanted_some g16 h10 d10 (by rfl)), fun w' h => run_op_index_mid 25 _ _ p16 bm om m cA j (by rfl) (by rfl) hjm 23 32 Tryd.underlying25 Sl.infoD⟩) s0 ?_
  rw [d16]
  simp only [Act.put, List.setIfInBounds_toArray, List.set_cons_zero, List.set_cons_succ]
  refine wpAnyT_take (i := 17) (v := .agg (M.map Dg.b8).toArray) [17, 20, 21, 22] h17 HNS (by rw [hops]; kernel_rfl) (by rw [hops]; kernel_rfl) (by rw [hops]; kernel_rfl) (fun _ _ _ => NormalOnly.hQ _ _ _) (Or.inl ⟨(wanted_some g17 h10 d10 (by rfl)), fun w' h => run_op_load_mid 23 _ p17 bm (om + j * 32) (by rfl) (M.map Dg.b8) _ (MS.out w' h) Tryd.underlying23 rfl (Sl.infoDm _ HM32.out)⟩) s0 ?_
  rw [d17]
  simp only [Act.put, List.setIfInBounds_toArray, List.set_cons_zero, List.set_cons_succ]
  refine wpAnyT_take (i := 18) (v := .agg ([.int .i64 x.ep, .int .i64 ix, .int .i64 x.th, .int .i64 x.mn, .slice A x.d.length c] : List Value).toArray) [18, 19, 20, 21, 22] h18 HNS (by rw [hops]; kernel_rfl) (by rw [hops]; kernel_rfl) (by rw [hops]; kernel_rfl) (fun _ _ _ => NormalOnly.hQ _ _ _) (Or.inl ⟨(wanted_some g18 h10 d10 (by rfl)), fun w' h => run_op_load_mid 43 _ p18 gz 0 (by rfl) [.int .i64 x.ep, .int .i64 ix, .int .i64 x.th, .int .i64 x.mn, .slice A x.d.length c] _ (Sl.at0x (HZ1.out.keep h)) Tryd.underlying43 rfl Sl.info5⟩) s0 ?_
  rw [d18]
  simp only [Act.put, List.setIfInBounds_toArray, List.set_cons_zero, List.set_cons_succ]
  refine wpAnyT_one (by rw [hops]; kernel_rfl) h19 (wanted_some g19 h10 d10 (by rfl)) (fun K hK => ?_)
  refine wp_call1 29 _ _ (.agg ([.int .i64 x.ep, .int .i64 ix, .int .i64 x.th, .int .i64 x.mn, .slice A x.d.length c] : List Value).toArray) p19 HE29.out (by rfl) ?_
  (refine (HMR.out _ s0).mono ?_; rintro e w5 ⟨rfl, hb0⟩)
  have s1 : Below W1.heap.size W1 w5 := s0.trans (hb0.mono s0.size)
  clear hb0
  refine ⟨_, rfl, ?_⟩
  rw [d19]
  simp only [Act.put, List.setIfInBounds_toArray, List.set_cons_zero, List.set_cons_succ]
  refine hK.out _ _ (fun _ => s1) ?_
  clear hK K
  refine wpAnyT_take (i := 20) (v := .bool (!(M == D))) [20, 21, 22] h20 HNS (by rw [hops]; kernel_rfl) (by rw [hops]; kernel_rfl) (by rw [hops]; kernel_rfl) (fun _ _ _ => NormalOnly.hQ _ _ _) (Or.inl ⟨(wanted_some g20 h10 d10 (by rfl)), fun w' h => run_op_neq_agg 23 23 _ _ p20 _ _ _ (by rfl) (by rfl) (by kernel_rfl) (Sl.neqD _ _ HM32.out HD32.out w')⟩) s1 ?_
  rw [d20]
  simp only [Act.put, List.setIfInBounds_toArray, List.set_cons_zero, List.set_cons_succ]
  refine wpAnyT_take (i := 21) (v := .bool (!(M == D))) [21, 22] h21 HNS (by rw [hops]; kernel_rfl) (by rw [hops]; kernel_rfl) (by rw [hops]; kernel_rfl) (fun _ _ _ => NormalOnly.hQ _ _ _) (Or.inl ⟨(wanted_none g21), fun w' _ => by unfold execOp; rw [p21]; first | rfl | kernel_rfl⟩) s1 ?_
  rw [d21]
  simp only [Act.put, List.setIfInBounds_toArray, List.set_cons_zero, List.set_cons_succ]
  refine wpAnyT_take (i := 22) (v := .bool (!(M == D))) [22] h22 HNS (by rw [hops]; kernel_rfl) (by rw [hops]; kernel_rfl) (by rw [hops]; kernel_rfl) (fun _ _ _ => NormalOnly.hQ _ _ _) (Or.inl ⟨(wanted_none g22), fun w' _ => by unfold execOp; rw [p22]; first | rfl | kernel_rfl⟩) s1 ?_
  rw [d22]
  simp only [Act.put, List.setIfInBounds_toArray, List.set_cons_zero, List.set_cons_succ]
  refine wpAnyT_done (by rw [hops]; kernel_rfl) ⟨rfl, ?_⟩ _
  clear HNS hops h0 d0 p0 g0 h1 d1 p1 g1 h2 d2 p2 g2 h3 d3 p3 g3 h4 d4 p4 g4 h5 d5 p5 g5 h6 d6 p6 g6 h7 d7 p7 g7 h8 d8 p8 g8 h9 d9 p9 g9 h10 d10 p10 g10 h11 d11 p11 g11 h12 d12 p12 g12 h13 d13 p13 g13 h14 d14 p14 g14 h15 d15 p15 g15 h16 d16 p16 g16 h17 d17 p17 g17 h18 d18 p18 g18 h19 d19 p19 g19 h20 d20 p20 g20 h21 d21 p21 g21 h22 d22 p22 g22
  clear s0
  clear HE29
  go_wp2_with fail
  go_ret
  exact ⟨by rw [HBM.out]; rfl, HB1.out.trans (s1.mono HB1.out.size)⟩
end Go.Proofs.YtideglpjgplpnaaDoor
