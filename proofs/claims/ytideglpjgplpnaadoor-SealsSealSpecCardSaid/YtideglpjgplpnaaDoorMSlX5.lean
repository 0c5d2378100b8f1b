import Derived.Test.YtideglpjgplpnaaDoorMSlX1
import Derived.Test.YtideglpjgplpnaaDoorMSlW4
import Derived.Test.YtideglpjgplpnaaDoorMShR3
/- Contract of the reference's Seal. -/
namespace Go.Proofs.YtideglpjgplpnaaDoor
open Go.RowKit Go.Shelf
set_option linter.unusedVariables false
set_option linter.unusedSimpArgs false

set_option maxRecDepth 100000 in
set_option maxHeartbeats 16000000 in
theorem Sl.rseal_yes (Ab Ak Ac : Option Addr) (n cb ck nc cc t m : Nat) (body key coins : List UInt8) (w : World) (hb : RdB w Ab n body) (hk : RdB w Ak n key) (hco : RdB w Ac nc coins)
    (hbn : Ab = none → cb = 0) (hcc : nc ≤ cc) (hccm : cc ≤ maxLen) (hnil : Ac = none → cc = 0) (hn1 : 1 ≤ n) (hn64 : n ≤ 64) (ht1 : 1 ≤ t) (htm : t ≤ m) (hm8 : m ≤ 8) (hnc : nc = n * (t - 1)) :
    Calls Tryd.prog 18 #[.slice Ab n cb, .slice Ak n ck, .int .i64 t, .int .i64 m, .slice Ac nc cc] w (Sl.RetSl w (Sl.selW body key t m coins) (Sl.selS key t m coins) 0) := by
  have HBY := Lib.hid hb
  have HKY := Lib.hid hk
  have HCO := Lib.hid hco
  have HCC := Lib.hid (And.intro hcc (And.intro hccm hnil))
  have HBN := Lib.hid hbn
  have HNC := Lib.hid hnc
  have HLB := Lib.hid hb.len
  have HLK := Lib.hid hk.len
  have HIW := Lib.hid (show (Tryd.prog.info? 27).map (·.size) = some Sl.z36.toArray.size from Sl.infoW)
  obtain ⟨W1, hW1⟩ : ∃ W1, W1 = w.alloc (.cells Sl.z36.toArray 27) := ⟨_, rfl⟩
  have HB := Lib.hid (show Below w.heap.size w W1 from by rw [hW1]; exact (Below.refl _ w).alloc (Nat.le_refl _) _)
  have HS := Lib.hid (show Has W1 w.heap.size 27 Sl.z36 from by rw [hW1]; exact Has.new w _ _)
  have q1 : ((n : Int) != (n : Int)) = false := by simp
  clear hb hk hco hcc hccm hnil hbn hnc
  go_enter Tryd.func18, Tryd.ntmps18
  go_upto_region 1 with fail
  change Code.wp _ _ _ _ (w.alloc (.cells Sl.z36.toArray 27))
  rw [← hW1]
  clear hW1
  go_wp2_with fail
  ((with_reducible refine (Shr.rsplit_yes Ak Ac n ck nc cc 0 t m key coins W1 (HKY.out.keep HB.out) (HCO.out.keep HB.out) HCC.out.1 HCC.out.2.1 HCC.out.2.2 hn64 ht1 htm hm8 (by omega) (by omega) HNC.out).mono ?_); rintro e w5 ⟨v5, zs, rfl, hO5, hfr5, hv5, hb5⟩)
  obtain ⟨A5, c5, rfl⟩ := own_form hO5.row
  have HR := Lib.hid hO5.rds
  have HC5 := Lib.hid (own_cap hO5.row)
  have HFA := Lib.hid (own_fresh hO5.row)
  have HF5 := Lib.hid hfr5
  have HV5 := Lib.hid hv5
  have HW1 := Lib.hid HS.out.lt
  clear hO5 hfr5 hv5 q1
  replace HB := Lib.hid (HB.out.trans (hb5.mono HB.out.size))
  replace HS := Lib.hid (HS.out.keep hb5)
  clear hb5
  have HCM := Lib.hid (Sl.commit_ref Ab n cb body w5 (HBY.out.keep HB.out) HBN.out (by omega))
  have HD32 := Lib.hid (Sl.com_len body)
  have HDE := Lib.hid (show Sl.com body = (Sl.selW body key t m coins).cm from rfl)
  generalize Sl.com body = D at HCM HD32 HDE
  go_wp2_with fail
  ((with_reducible refine HCM.out.mono ?_); rintro e w6 ⟨rfl, hb6⟩)
  clear HCM
  replace HB := Lib.hid (HB.out.trans (hb6.mono HB.out.size))
  replace HS := Lib.hid (HS.out.keep hb6)
  replace HR := Lib.hid (HR.out.keep hb6)
  clear hb6
  go_wp2_with fail
  ((with_reducible refine (Sl.comb_ref Ab Ak n cb ck body key w6 (HBY.out.keep HB.out) (HKY.out.keep HB.out) (by omega)).mono ?_); rintro e w7 ⟨A7, c7, rfl, ho7, hb7⟩)
  have HO7 := Lib.hid ho7
  have HW6 := Lib.hid HS.out.lt
  clear ho7
  replace HB := Lib.hid (HB.out.trans (hb7.mono HB.out.size))
  replace HS := Lib.hid (HS.out.keep hb7)
  replace HR := Lib.hid (HR.out.keep hb7)
  clear hb7
  have HI7 := Lib.hid (show (Tryd.prog.info? 27).map (·.size) = some (Sl.rowV D (.slice A7 n c7) t m (.slice none 0 0)).toArray.size from by rw [List.size_toArray, Sl.rowV_len HD32.out]; exact Sl.infoW)
  have HZ7 := Lib.hid (show Sl.z36.toArray.size = (Sl.rowV D (.slice A7 n c7) t m (.slice none 0 0)).toArray.size from by rw [List.size_toArray, List.size_toArray, Sl.rowV_len HD32.out]; rfl)
  have H17 := Lib.hid (show (Sl.rowV D (.slice A7 n c7) t m (.slice none 0 0)).toArray.all (·.oneCell') = true from all_oneCell_toArray (Sl.rowV_one _ _ _ _ _ _ _ _ _))
  have hml : zs.length = m := by have h := HV5.out; rw [← Shr.vals_len, h, Shr.spl_len]
  have HML := Lib.hid hml
  clear hml
  go_wp2_with (first
    | (refine wpList_buildR (o := ⟨some 52, _, _, _, _, _⟩) rfl 27 _ rfl [(0, .agg (D.map Dg.b8).toArray), (1, .slice A7 n c7), (2, .int .i64 t), (3, .int .i64 m)] rfl (.agg (Sl.rowV D (.slice A7 n c7) t m (.slice none 0 0)).toArray) _ (Sl.bld _ (by rw [List.length_map]; exact HD32.out) _ _ _ _ _ _) ?_)
    | ((refine wpList_store_row (o := ⟨none, .store 27 (.tmp 15) (.tmp 52), _, _, _, _⟩) rfl 27 (.tmp 15) (.tmp 52) rfl w7.heap.size (Sl.rowV D (.slice A7 n c7) t m (.slice none 0 0)).toArray rfl rfl 27 Sl.z36.toArray (World.alloc_heap_new w7 _) HI7.out HZ7.out H17.out ?_)
       obtain ⟨W8, hW8⟩ : ∃ W8, W8 = (w7.alloc (.cells Sl.z36.toArray 27)).setRow w7.heap.size (Sl.rowV D (.slice A7 n c7) t m (.slice none 0 0)).toArray := ⟨_, rfl⟩
       change wpList _ _ _ _ _ ((w7.alloc (.cells Sl.z36.toArray 27)).setRow w7.heap.size (Sl.rowV D (.slice A7 n c7) t m (.slice none 0 0)).toArray)
       have HS8 := Lib.hid (show Has W8 w7.heap.size 27 (Sl.rowV D (.slice A7 n c7) t m (.slice none 0 0)) from by rw [hW8]; exact setRow_heap _ w7.heap.size _ _ 27 (0, 0) (World.alloc_heap_new w7 _))
       have HB8 := Lib.hid (show Below w7.heap.size w7 W8 from by rw [hW8]; exact below_setRow ((Below.refl _ w7).alloc (Nat.le_refl _) _) (Nat.le_refl _) _)
       rw [← hW8]
       clear hW8))
  have HGS := Lib.hid HS8.out.lt
  obtain ⟨gs, hgs⟩ : ∃ gs, gs = w7.heap.size := ⟨_, rfl⟩
  have HGE := Lib.hid (show w7.heap.size ≤ gs from by rw [hgs]; exact Nat.le_refl _)
  rw [← hgs] at HS8 HGS ⊢
  clear hgs HI7 HZ7 H17
  go_loopw [16] (fun i wr => ∃ (k : Nat) (V : Value), k ≤ m ∧ i = .int .i64 k ∧ Has wr gs 27 (Sl.rowV D (.slice A7 n c7) t m V) ∧ wr.ownsRow W8.heap.size 23 32 V k (Sl.mcs (((Shr.vals zs).map Sl.mark).take k)) ∧ Below w7.heap.size w7 wr ∧ W8.heap.size ≤ wr.heap.size) (fun i _ => m - (intOf i).toNat)
  case atStart => exact ⟨0, .slice none 0 0, by omega, rfl, HS8.out, ⟨by simp [Sl.mcs], .inl ⟨rfl, rfl⟩⟩, HB8.out, Nat.le_refl _⟩
  case round =>
    clear HS8
    obtain ⟨k, V, hk, rfl, hS, hO, hBr, hsz⟩ := hrel
    obtain ⟨Av, cv, rfl⟩ := own_form hO
    have HSr := Lib.hid hS
    have HOV := Lib.hid hO
    have HBr := Lib.hid hBr
    have HSZ := Lib.hid hsz
    clear hS hO hBr hsz
    by_cases hlt : k < m
    · obtain ⟨x, hx⟩ : ∃ x, zs[k]? = some x := ⟨_, List.getElem?_eq_getElem (by rw [HML.out]; exact hlt)⟩
      obtain ⟨hok, bl, ol, rfl, hbl, hrx⟩ := (HR.out.keep HBr.out).get k x hx
      have HOK := Lib.hid hok
      have HRX := Lib.hid hrx
      have HMS := Lib.hid (show ((Shr.vals zs).map Sl.mark).take (k + 1) = ((Shr.vals zs).map Sl.mark).take k ++ [Sl.mark x.s] from by
        have hvx : ((Shr.vals zs).map Sl.mark)[k]? = some (Sl.mark x.s) := by rw [Shr.vals, List.getElem?_map, List.getElem?_map, hx]; rfl
        rw [List.take_add_one, hvx]
        rfl)
      have HM32 := Lib.hid (Sl.mark_len x.s)
      have hxm : x.s ∈ Shr.spl key 0 t m coins := by rw [← HV5.out]; exact List.mem_map.2 ⟨x, List.mem_of_getElem? hx, rfl⟩
      have HXM := Lib.hid (Sl.spl_mem hxm)
      have HMA := Lib.hid (fun (w' : World) (h : Below wr.heap.size wr w') => (Sl.mark_ref x.s x.A x.c w' (HOK.out.rd.keep h) (by have := HXM.out.2.2.2.2.2; have := HLK.out; omega) (by have := HXM.out.1; unfold Rc.in64; omega) (by have := HXM.out.2.1; have := HXM.out.2.2.1; unfold Rc.in64; omega) (by have := HXM.out.2.2.2.1; unfold Rc.in64; omega) (by have := HXM.out.2.2.2.2.1; unfold Rc.in64; omega)))
      clear hok hrx hx hxm
      go_wp2_with fail
      refine Sl.wp_normal ?_
      have s0 : Below wr.heap.size wr wr.drew := (Below.refl _ wr).drew
      refine wp_region_named (fun ops hops => ?_)
      refine wp_region_T (by kernel_rfl) [8, 9, 10] (fun w' => Below wr.heap.size wr w') ?_
      rw [show ops.size = 11 from by rw [hops]; rfl]
      have HNS : Region.noSelect ops = true := by rw [hops]; kernel_rfl
      obtain ⟨o0, h0, d0, p0, g0⟩ := op_at5 hops 0 rfl (d := some 59) (p := Op.fieldAddr 27 (Operand.tmp 15) 4) (g := none) rfl rfl rfl
      obtain ⟨o1, h1, d1, p1, g1⟩ := op_at5 hops 1 rfl (d := some 60) (p := Op.load 25 (Operand.tmp 59)) (g := none) rfl rfl rfl
      obtain ⟨o2, h2, d2, p2, g2⟩ := op_at5 hops 2 rfl (d := some 61) (p := Op.move (Operand.tmp 13)) (g := none) rfl rfl rfl
      obtain ⟨o3, h3, d3, p3, g3⟩ := op_at5 hops 3 rfl (d := some 62) (p := Op.move (Operand.tmp 16)) (g := none) rfl rfl rfl
      obtain ⟨o4, h4, d4, p4, g4⟩ := op_at5 hops 4 rfl (d := some 63) (p := Op.indexAddr 28 (Operand.tmp 61) (Operand.tmp 62)) (g := none) rfl rfl rfl
      obtain ⟨o5, h5, d5, p5, g5⟩ := op_at5 hops 5 rfl (d := some 64) (p := Op.load 43 (Operand.tmp 63)) (g := none) rfl rfl rfl
      obtain ⟨o6, h6, d6, p6, g6⟩ := op_at5 hops 6 rfl (d := some 65) (p := Op.call { callee := Callee.value (Operand.func 29), args := #[Operand.tmp 64], argTypes := #[43] }) (g := none) rfl rfl rfl
      obtain ⟨o7, h7, d7, p7, g7⟩ := op_at5 hops 7 rfl (d := some 66) (p := Op.buildSlice 25 1 #[(0, Operand.tmp 65)]) (g := none) rfl rfl rfl
      obtain ⟨o8, h8, d8, p8, g8⟩ := op_at5 hops 8 rfl (d := some 67) (p := Op.call { callee := Callee.builtin Builtin.append, args := #[Operand.tmp 60, Operand.tmp 66], argTypes := #[25, 25] }) (g := none) rfl rfl rfl
      obtain ⟨o9, h9, d9, p9, g9⟩ := op_at5 hops 9 rfl (d := some 68) (p := Op.fieldAddr 27 (Operand.tmp 15) 4) (g := none) rfl rfl rfl
      obtain ⟨o10, h10, d10, p10, g10⟩ := op_at5 hops 10 rfl (d := none) (p := Op.store 25 (Operand.tmp 68) (Operand.tmp 67)) (g := none) rfl rfl rfl
      have HE29 := Lib.hid (enters_of Tryd.func29 (by kernel_rfl) rfl)
      refine wpAnyT_take (i := 0) (v := .pointer (some ⟨gs, 35, none⟩)) [0, 1, 8, 9, 10] h0 HNS (by rw [hops]; kernel_rfl) (by rw [hops]; kernel_rfl) (by rw [hops]; kernel_rfl) (fun _ _ _ => NormalOnly.hQ _ _ _) (Or.inl ⟨(wanted_none g0), fun w' _ => by unfold execOp; rw [p0]; first | rfl | kernel_rfl⟩) s0 ?_
      rw [d0]
      simp only [Act.put, List.setIfInBounds_toArray, List.set_cons_zero, List.set_cons_succ]
      refine wpAnyT_take (i := 1) (v := .slice Av k cv) [1, 8, 9, 10] h1 HNS (by rw [hops]; kernel_rfl) (by rw [hops]; kernel_rfl) (by rw [hops]; kernel_rfl) (fun _ _ _ => NormalOnly.hQ _ _ _) (Or.inl ⟨(wanted_none g1), fun w' h => run_op_load_cell 25 _ p1 (gs) (35) (by rfl) (.slice Av k cv) (((HSr.out.keep h).cell 35).trans (Sl.rowV_at HD32.out _ _ _ _)) _ Tryd.underlying25 rfl⟩) s0 ?_
      rw [d1]
      simp only [Act.put, List.setIfInBounds_toArray, List.set_cons_zero, List.set_cons_succ]
      refine wpAnyT_take (i := 2) (v := .slice (some ⟨bl, ol, none⟩) m c5) [2, 4, 5, 6, 7, 8, 9, 10] h2 HNS (by rw [hops]; kernel_rfl) (by rw [hops]; kernel_rfl) (by rw [hops]; kernel_rfl) (fun _ _ _ => NormalOnly.hQ _ _ _) (Or.inl ⟨(wanted_none g2), fun w' _ => by unfold execOp; rw [p2]; first | rfl | kernel_rfl⟩) s0 ?_
      rw [d2]
      simp only [Act.put, List.setIfInBounds_toArray, List.set_cons_zero, List.set_cons_succ]
      refine wpAnyT_take (i := 3) (v := .int .i64 (k : Int)) [3, 4, 5, 6, 7, 8, 9, 10] h3 HNS (by rw [hops]; kernel_rfl) (by rw [hops]; kernel_rfl) (by rw [hops]; kernel_rfl) (fun _ _ _ => NormalOnly.hQ _ _ _) (Or.inl ⟨(wanted_none g3), fun w' _ => by unfold execOp; rw [p3]; first | rfl | kernel_rfl⟩) s0 ?_
      rw [d3]
      simp only [Act.put, List.setIfInBounds_toArray, List.set_cons_zero, List.set_cons_succ]
      refine wpAnyT_take (i := 4) (v := .pointer (some ⟨bl, ol + k * 5, none⟩)) [4, 5, 6, 7, 8, 9, 10] h4 HNS (by rw [hops]; kernel_rfl) (by rw [hops]; kernel_rfl) (by rw [hops]; kernel_rfl) (fun _ _ _ => NormalOnly.hQ _ _ _) (Or.inl ⟨(wanted_none g4), fun w' h => run_op_index_mid 28 _ _ p4 bl ol m c5 k (by rfl) (by rfl) hlt 43 5 Tryd.underlying28 Sl.info5⟩) s0 ?_
      rw [d4]
      simp only [Act.put, List.setIfInBounds_toArray, List.set_cons_zero, List.set_cons_succ]
      refine wpAnyT_take (i := 5) (v := .agg x.cells.toArray) [5, 6, 7, 8, 9, 10] h5 HNS (by rw [hops]; kernel_rfl) (by rw [hops]; kernel_rfl) (by rw [hops]; kernel_rfl) (fun _ _ _ => NormalOnly.hQ _ _ _) (Or.inl ⟨(wanted_none g5), fun w' h => run_op_load_mid 43 _ p5 bl (ol + k * 5) (by rfl) x.cells _ (fun j v hj => (h.cell (p := ⟨bl, ol + k * 5 + j, none⟩) hbl).trans (HRX.out j v hj)) Tryd.underlying43 rfl Sl.info5⟩) s0 ?_
      rw [d5]
      simp only [Act.put, List.setIfInBounds_toArray, List.set_cons_zero, List.set_cons_succ]
      refine wpAnyT_one (by rw [hops]; kernel_rfl) h6 (wanted_none g6) (fun K hK => ?_)
      refine wp_call1 29 _ _ (.agg x.cells.toArray) p6 HE29.out (by rfl) ?_
      (refine (HMA.out _ s0).mono ?_; rintro e w9 ⟨rfl, hb0⟩)
      have s1 : Below wr.heap.size wr w9 := s0.trans (hb0.mono s0.size)
      clear hb0
      refine ⟨_, rfl, ?_⟩
      rw [d6]
      simp only [Act.put, List.setIfInBounds_toArray, List.set_cons_zero, List.set_cons_succ]
      refine hK.out _ _ (fun _ => s1) ?_
      clear hK K
      generalize Sl.mark x.s = M at HM32 HMS ⊢
      refine wpAnyT_one (by rw [hops]; kernel_rfl) h7 (wanted_none g7) (fun K hK => ?_)
      refine wp_runG (run_op_buildSliceR 25 1 _ p7 [(0, .agg (M.map Dg.b8).toArray)] (by rfl) (.slice (some ⟨w9.heap.size, 0, none⟩) 1 1) (w9.alloc (.cells (M.map Dg.b8).toArray 23)) (Sl.bs1 _ (by rw [List.length_map]; exact HM32.out) _)) ?_
      have s2 : Below wr.heap.size wr (w9.alloc (.cells (M.map Dg.b8).toArray 23)) := s1.alloc s1.size _
      have ho1 := own_below HOV.out s2
      rw [d7]
      simp only [Act.put, List.setIfInBounds_toArray, List.set_cons_zero, List.set_cons_succ]
      refine hK.out _ _ (fun _ => s2) ?_
      clear hK K
      refine wpAnyT_one (by rw [hops]; kernel_rfl) h8 (wanted_none g8) (fun K hK => ?_)
      refine wp_append_rd (.tmp 60) (.tmp 66) p8 Sl.elD (by rfl) ho1 (by rfl) (rd_new w9 23 32 (M.map Dg.b8) (by rw [List.length_map]; exact HM32.out)) (one_bytes _) (fun e => by cases e) (by unfold maxLen; omega) (by omega) (Nat.le_trans HSZ.out s2.size) (fun v' w11 hGr => ?_)
      obtain ⟨A11, c11, rfl⟩ := own_form hGr.own
      have hS11 := (HSr.out.keep s2).grown hGr.grown (fun e => by have h1 := (ho1.lt _ e).1; have h2 := HGS.out; omega)
      have hB11 : Below w7.heap.size w7 w11 := (HBr.out.trans (s2.mono HBr.out.size)).grown hGr.grown (HBr.out.trans (s2.mono HBr.out.size)).size (fun g e => by have h1 := (ho1.lt _ e).1; have h2 := HGS.out; have h3 := HGE.out; omega)
      have hO11 := hGr.own
      rw [← Sl.mcs_snoc, ← HMS.out] at hO11
      have hZ11 : W8.heap.size ≤ w11.heap.size := Nat.le_trans (Nat.le_trans HSZ.out s2.size) hGr.grown.size
      clear hGr ho1
      rw [d8]
      simp only [Act.put, List.setIfInBounds_toArray, List.set_cons_zero, List.set_cons_succ]
      refine hK.out _ _ (fun h => absurd (by decide) h) ?_
      clear hK K
      refine wpAnyT_one (by rw [hops]; kernel_rfl) h9 (wanted_none g9) (fun K hK => ?_)
      refine wp_runG (w' := w11) (v := .pointer (some ⟨gs, 35, none⟩)) (by unfold execOp; rw [p9]; first | rfl | kernel_rfl) ?_
      rw [d9]
      simp only [Act.put, List.setIfInBounds_toArray, List.set_cons_zero, List.set_cons_succ]
      refine hK.out _ _ (fun h => absurd (by decide) h) ?_
      clear hK K
      refine wpAnyT_one (by rw [hops]; kernel_rfl) h10 (wanted_none g10) (fun K hK => ?_)
      refine wp_runS (w' := w11.setCell ⟨gs, 35, none⟩ (.slice A11 (k + 1) c11)) (run_op_store_cell 25 _ _ p10 gs 35 (by rfl) A11 (k + 1) c11 (by rfl) _ ((hS11.cell 35).trans (Sl.rowV_at HD32.out _ _ _ _)) (hS11.frozen 35) (by kernel_rfl)) ?_
      rw [d10]
      simp only [Act.put, List.setIfInBounds_toArray, List.set_cons_zero, List.set_cons_succ]
      refine hK.out _ _ (fun h => absurd (by decide) h) ?_
      clear hK K
      refine wpAnyT_done (by rw [hops]; kernel_rfl) ⟨rfl, ?_⟩ _
      clear HNS hops h0 d0 p0 g0 h1 d1 p1 g1 h2 d2 p2 g2 h3 d3 p3 g3 h4 d4 p4 g4 h5 d5 p5 g5 h6 d6 p6 g6 h7 d7 p7 g7 h8 d8 p8 g8 h9 d9 p9 g9 h10 d10 p10 g10
      clear s0
      clear s1
      have hS12 := hS11.set 35 (.slice A11 (k + 1) c11)
      rw [Sl.rowV_set HD32.out] at hS12
      have hO12 := own_far hO11 (p := ⟨gs, 35, none⟩) HGS.out (.slice A11 (k + 1) c11)
      have hB12 := hB11.setCell (p := ⟨gs, 35, none⟩) HGE.out (.slice A11 (k + 1) c11)
      have hZ12 : W8.heap.size ≤ (w11.setCell ⟨gs, 35, none⟩ (.slice A11 (k + 1) c11)).heap.size := by simpa using hZ11
      obtain ⟨w12, hw12⟩ : ∃ w12, w11.setCell ⟨gs, 35, none⟩ (.slice A11 (k + 1) c11) = w12 := ⟨_, rfl⟩
      rw [hw12] at hS12 hO12 hB12 hZ12 ⊢
      have HS12 := Lib.hid hS12
      have HO12 := Lib.hid hO12
      have HB12 := Lib.hid hB12
      have HZ12 := Lib.hid hZ12
      clear hw12 hS12 hO12 hB12 hZ12 hS11 hO11 hB11 hZ11 HE29 hbl
      go_wp2_with fail
      go_roundw
      case rel => exact ⟨k + 1, _, by omega, by go_num, HS12.out, HO12.out, HB12.out, HZ12.out⟩
      case measure => simp [intOf]; omega
    · obtain rfl : k = m := by omega
      have hrow : Sl.rowV D (.slice A7 n c7) t k (.slice Av k cv) = (Sl.row (Sl.selW body key t k coins) A7 c7 Av cv) := by
        unfold Sl.rowV Sl.row
        rw [HDE.out]
        simp [Sl.selW, Sl.selS, Shr.spl_len, Sl.xorl_len, HLB.out]
      have hS := HSr.out
      rw [hrow] at hS
      obtain ⟨R, hR⟩ : ∃ R, (Sl.row (Sl.selW body key t k coins) A7 c7 Av cv) = R := ⟨_, rfl⟩
      have hi36 : R.length = 36 := by rw [← hR]; exact Sl.row_len (by rw [← HDE.out]; exact HD32.out) _ _ _ _
      have HRW := Lib.hid hR
      have H19 := Lib.hid (show R.toArray.all (·.oneCell') = true from by rw [← hR]; exact all_oneCell_toArray (Sl.row_one _ _ _ _ _))
      rw [hR] at hS
      have HI9 := Lib.hid (show (Tryd.prog.info? 27).map (·.size) = some R.toArray.size from by rw [List.size_toArray, hi36]; exact Sl.infoW)
      have HZ9 := Lib.hid (show Sl.z36.toArray.size = R.toArray.size from by rw [List.size_toArray, List.size_toArray, hi36]; rfl)
      have HS9 := Lib.hid (show wr.heap[gs]? = some (.cells R.toArray 27 (0, 0)) from hS)
      have HT9 := Lib.hid (show wr.heap[w.heap.size]? = some (.cells Sl.z36.toArray 27 (0, 0)) from HS.out.keep HBr.out)
      clear hS hR hi36 hrow HSr
      go_wp2_with (first
        | (with_reducible refine wpList_load_row rfl 27 (.tmp 15) rfl gs rfl 27 R.toArray (0, 0) _ HS9.out Tryd.underlying27 rfl HI9.out ?_)
        | ((refine wpList_store_row (o := ⟨none, .store 27 (.tmp 10) (.tmp 69), _, _, _, _⟩) rfl 27 (.tmp 10) (.tmp 69) rfl w.heap.size R.toArray rfl rfl 27 Sl.z36.toArray HT9.out HI9.out HZ9.out H19.out ?_)
           obtain ⟨W9, hW9⟩ : ∃ W9, W9 = wr.setRow w.heap.size R.toArray := ⟨_, rfl⟩
           change wpList _ _ _ _ _ (wr.setRow w.heap.size R.toArray)
           have HSA := Lib.hid (show Has W9 w.heap.size 27 R from by rw [hW9]; exact setRow_heap wr w.heap.size _ _ 27 (0, 0) HT9.out)
           have HGA := Lib.hid (show wr.grownBy W9 (some w.heap.size) from by rw [hW9]; exact grown_row _ _ _)
           rw [← hW9]
           clear hW9))
      refine bodyPost_ret (results_cell_row3 rfl _ _ w.heap.size 27 R.toArray (0, 0) _ rfl HSA.out Tryd.underlying27 rfl HI9.out) rfl ?_
      have hsl : (Sl.selS key t k coins).length = k := by unfold Sl.selS; exact Shr.spl_len _ _ _ _ _
      have hRW := HRW.out
      have hw01 : w.heap.size < w6.heap.size := HW6.out
      have hmk : (((Shr.vals zs).map Sl.mark).take k) = (Sl.selW body key t k coins).ms := by
        rw [List.take_of_length_le (by rw [List.length_map, Shr.vals_len, HML.out]; exact Nat.le_refl _), HV5.out]
        rfl
      have hms : (Sl.selW body key t k coins).ms.length = k := by simp [Sl.selW, Sl.selS, Shr.spl_len]
      refine ⟨A7, c7, Av, cv, A5, c5, ?_, ?_, ?_, ?_, ?_, ?_⟩
      · rw [hsl, hRW]; rfl
      · refine ⟨by rw [← HDE.out]; exact HD32.out, fun M hM => ?_, ?_, ?_, ?_, ?_, own_nil HO7.out⟩
        · obtain ⟨y, _, rfl⟩ := List.mem_map.1 hM
          exact Sl.mark_len y
        · have h1 := own_other (own_below HO7.out HBr.out) HGA.out (fun g e => by have h3 := own_ge HO7.out e; intro e2; injection e2 with e2; omega)
          have h2 := rd_of_own h1
          have h3 : (Sl.selW body key t k coins).d.length = n := by show (Sl.xorl body key).length = n; rw [Sl.xorl_len, HLB.out]
          rw [h3]
          exact h2
        · rw [hms]
          have h1 := rd_of_own (own_other HOV.out HGA.out (fun g e => by have h3 := own_ge HOV.out e; have h4 := HGS.out; have h5 := HGE.out; have h6 := HS.out.lt; intro e2; injection e2 with e2; omega))
          rw [hmk] at h1
          exact h1
        · show (Sl.xorl body key).length ≤ _
          rw [Sl.xorl_len, HLB.out]; unfold maxLen; omega
        · rw [hms]; unfold maxLen; omega
      · rw [hsl]
        refine ⟨zs, (HR.out.keep HBr.out).kept HGA.out (fun b off e e2 => by have h1 := HFA.out b off e; have h2 := HW1.out; injection e2 with e2; omega) (fun x hx b off e e2 => by have h1 := HF5.out x hx b off e; have h2 := HW1.out; injection e2 with e2; omega), HV5.out⟩
      · rw [hsl]; exact HC5.out.1
      · exact HC5.out.2
      · exact (HB.out.trans (HBr.out.mono HB.out.size)).grown HGA.out (HB.out.trans (HBr.out.mono HB.out.size)).size (fun g e => by injection e with e; omega)
end Go.Proofs.YtideglpjgplpnaaDoor
