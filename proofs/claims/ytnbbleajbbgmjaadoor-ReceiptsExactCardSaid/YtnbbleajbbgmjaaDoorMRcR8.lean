import Derived.Test.YtnbbleajbbgmjaaDoorMRcR6
import Derived.Test.YtnbbleajbbgmjaaDoorMRcS1
import Derived.Test.YtnbbleajbbgmjaaDoorMUtil
/- Contract of the reference's Conflict, from valid's. -/
namespace Go.Proofs.YtnbbleajbbgmjaaDoor
open Go.RowKit
set_option linter.unusedVariables false

theorem run_op_store_row {P : Program} {o : Oper} {a : Act} {w : World} (ty : TypeId) (x y : Operand) (ho : o.op = .store ty x y)
    (g : Nat) (cells : Array Value) (hx : a.eval x = .pointer (some ⟨g, 0, none⟩)) (hy : a.eval y = .agg cells)
    (t : TypeId) (old : Array Value) (hg : w.heap[g]? = some (.cells old t (0, 0))) (hi : (P.info? ty).map (·.size) = some cells.size)
    (hold : old.size = cells.size) (h1 : cells.all (·.oneCell') = true) : (execOp a.eval o).run P w = .ok .skip (w.setRow g cells) := by
  simp [execOp, ho, hx, hy, Instr.storeAt, Instr.sureAddr, run_storeVar_row w g t ty old cells hg hi hold h1, Result.andThen]
theorem wp_runS {P : Program} {o : Oper} {a : Act} {w : World} {K : Act → World → Prop} {Q : Exit → Act → World → Prop} {w' : World} (hr : (execOp a.eval o).run P w = .ok .skip w') (h : K (a.put o.dst undef) w') : Oper.wp P o a w K Q := by
  unfold Oper.wp
  rw [hr]
  exact h
/-- behind the two calls: each range lies in a block of its own -/
def Rc.midC (W2 : World) (v0 v1 v2 v3 v8 v9 v10 v11 v12 v13 v14 v17 v18 v19 v20 v21 v22 v23 v24 v25 v26 v27 v28 v29 v30 v31 v32 : Value) (a b c d : Int) : Exit → Act → World → Prop := fun e a' W' => e = .normal ∧ ∃ (ra rb : Nat) (u33 u34 u35 u36 u37 u38 u39 u40 u41 u42 u43 u44 u45 u46 u47 u48 u49 u50 u51 u52 u53 u54 u55 u56 u57 u58 u59 u60 u61 u62 u63 u64 u65 u66 u67 u68 u69 u70 u71 u72 u73 u74 u75 u76 u77 u78 u79 u80 : Value),
  a' = { tmps := #[v0, v1, v2, v3, undef, undef, undef, undef, v8, v9, v10, v11, v12, v13, v14, .pointer (some ⟨ra, 0, none⟩), .pointer (some ⟨rb, 0, none⟩), v17, v18, v19, v20, v21, v22, v23, v24, v25, v26, v27, v28, v29, v30, v31, v32, u33, u34, u35, u36, u37, u38, u39, u40, u41, u42, u43, u44, u45, u46, u47, u48, u49, u50, u51, u52, u53, u54, u55, u56, u57, u58, u59, u60, u61, u62, u63, u64, u65, u66, u67, u68, u69, u70, u71, u72, u73, u74, u75, u76, u77, u78, u79, u80], defers := [] } ∧ Has W' ra 38 [Rc.i a, Rc.i b] ∧ Has W' rb 38 [Rc.i c, Rc.i d] ∧ Below W2.heap.size W2 W'

set_option maxRecDepth 100000 in
set_option maxHeartbeats 16000000 in
theorem Rc.rconf_of (Ac As Al : Option Addr) (nc cc ns cs nl cl : Nat) (c : List Rc.C) (subs : List Rc.Sb) (l : List Rc.R) (no : Int) (E : Int) (w : World) (hE : Rc.Ev w w.heap.size Ac As Al nc ns nl c subs l)
    (hV : Calls Tryd.prog 46 #[.slice Ac nc cc, .slice As ns cs, .slice Al nl cl, Rc.i no] w fun e w'' => e = .returned (.int .i64 E) ∧ Below w.heap.size w w'')
    (hrf : E = 0 → ∀ x ∈ l, 0 ≤ x.rf ∧ x.rf < nc) :
    Calls Tryd.prog 19 #[.slice Ac nc cc, .slice As ns cs, .slice Al nl cl, Rc.i no] w fun e w' => e = .returned (Rc.confV E (Rc.ofs c l no)) ∧ Below w.heap.size w w' := by
  have HC := Lib.hid hV
  have HEV := Lib.hid hE
  have hll := hE.l.len
  have hnl := hE.ml
  unfold maxLen at hnl
  clear hV hE
  by_cases hE0 : E = 0
  · subst hE0
    have HRF := Lib.hid (hrf rfl)
    clear hrf
    go_enter Tryd.func19, Tryd.ntmps19
    go_wp2_with fail
    ((with_reducible refine HC.out.mono ?_); rintro e w2 ⟨rfl, hb2⟩)
    have HB2 := Lib.hid hb2
    clear hb2
    go_wp2_with fail
    go_loopw [13] (fun i wr => ∃ k : Nat, k ≤ nl ∧ i = .int .i64 k ∧ (∀ a' b', a' < k → a' < b' → b' < l.length → Rc.bd c l no a' b' = false) ∧ Below w.heap.size w wr) (fun i _ => nl - (intOf i).toNat)
    case atStart => exact ⟨0, by omega, rfl, fun _ _ h => absurd h (by omega), HB2.out⟩
    case round =>
      clear HB2
      obtain ⟨k, hk, rfl, ha, hB⟩ := hrel
      have HA := Lib.hid ha
      have HB := Lib.hid hB
      clear ha hB
      by_cases hlt : k < nl
      · go_wp2_with fail
        generalize hwa : wr = wa at HB
        clear hwa
        go_loopw [14] (fun i wr => ∃ j : Nat, k < j ∧ j ≤ nl ∧ i = .int .i64 j ∧ (∀ b', k < b' → b' < j → Rc.bd c l no k b' = false) ∧ Below w.heap.size w wr) (fun i _ => nl - (intOf i).toNat)
        case atStart => exact ⟨k + 1, by omega, by omega, by go_num, fun _ h1 h2 => absurd h1 (by omega), HB.out⟩
        case round =>
          clear HB
          obtain ⟨j, hkj, hj, rfl, hb, hB⟩ := hrel
          have HBJ := Lib.hid hb
          have HB := Lib.hid hB
          clear hb hB
          by_cases hjl : j < nl
          · obtain ⟨x, hx⟩ : ∃ x, l[k]? = some x := ⟨_, List.getElem?_eq_getElem (by omega)⟩
            obtain ⟨y, hy⟩ : ∃ y, l[j]? = some y := ⟨_, List.getElem?_eq_getElem (by omega)⟩
            obtain ⟨hx32, bl, ol, rfl, hbl, hrx⟩ := (HEV.out.l.keep HB.out).get k x hx
            obtain ⟨hy32, bl', ol', he, hbl', hry⟩ := (HEV.out.l.keep HB.out).get j y hy
            injection he with he
            injection he with he1 he2 _
            subst he1 he2
            have hbw : bl < wr.heap.size := by have := HB.out.size; omega
            have HBD := Lib.hid (Rc.bd_eq (c := c) (no := no) hx hy)
            have HNX := Lib.hid (show Rc.bd c l no k j = false → ∀ b', k < b' → b' < j + 1 → Rc.bd c l no k b' = false from fun h b' h1 h2 => by
              by_cases he : b' = j
              · rw [he]; exact h
              · exact HBJ.out b' h1 (by omega))
            have HYS := Lib.hid (show Rc.bd c l no k j = true → Rc.confV 0 (Rc.ofs c l no) = .tuple #[.int .i64 (k : Int), .int .i64 (j : Int), .bool true, .int .i64 0] from fun h => Rc.confV_yes (Rc.conf_yes HA.out HBJ.out hkj (by omega) h))
            generalize Rc.bd c l no k j = bad at HBD HNX HYS
            have HXM := Lib.hid (HRF.out x (List.mem_of_getElem? hx))
            have HYM := Lib.hid (HRF.out y (List.mem_of_getElem? hy))
            have HRX := Lib.hid hrx
            have HRY := Lib.hid hry
            have HX32 := Lib.hid hx32
            have HY32 := Lib.hid hy32
            have c1 : wr.cell? ⟨bl, ol + k * 35 + 1, none⟩ = some (Rc.i x.no) := hrx 1 _ rfl
            have c2 : wr.cell? ⟨bl, ol + j * 35 + 1, none⟩ = some (Rc.i y.no) := hry 1 _ rfl
            clear hbl' hrx hry hx hy hx32 hy32
            by_cases hxn : x.no = no
            · have hq1 : (x.no == no) = true := by simpa using hxn
              by_cases hyn : y.no = no
              · have hq2 : (y.no == no) = true := by simpa using hyn
                have HBE := Lib.hid (show bad = (decide (Rc.spH c x < Rc.spL c y) || decide (Rc.spH c y < Rc.spL c x)) from by rw [HBD.out, decide_eq_true hxn, decide_eq_true hyn, Bool.true_and, Bool.true_and])
                clear hxn hyn HBD
                go_upto_region 11 with fail
                have hc35x : x.cells.length = 35 := Rc.R.cells_len HX32.out
                have hc35y : y.cells.length = 35 := Rc.R.cells_len HY32.out
                have HI47x := Lib.hid (show (Tryd.prog.info? 47).map (·.size) = some x.cells.length from by rw [hc35x]; exact Rc.info47)
                have HI47y := Lib.hid (show (Tryd.prog.info? 47).map (·.size) = some y.cells.length from by rw [hc35y]; exact Rc.info47)
                have HTX := Lib.hid (fun (w' : World) (h : Below wr.heap.size wr w') => Rc.rtimes_any Ac nc cc c x w' ((HEV.out.c.keep (HB.out.trans (h.mono HB.out.size))).more (HB.out.trans (h.mono HB.out.size)).size) HEV.out.mc HXM.out.1 HXM.out.2 HX32.out)
                have HTY := Lib.hid (fun (w' : World) (h : Below wr.heap.size wr w') => Rc.rtimes_any Ac nc cc c y w' ((HEV.out.c.keep (HB.out.trans (h.mono HB.out.size))).more (HB.out.trans (h.mono HB.out.size)).size) HEV.out.mc HYM.out.1 HYM.out.2 HY32.out)
                generalize Rc.spL c x = xa at HTX HBE
                generalize Rc.spH c x = xb at HTX HBE
                generalize Rc.spL c y = ya at HTY HBE
                generalize Rc.spH c y = yb at HTY HBE
                have KP := Lib.hid (fun (w' : World) (h : Below wr.heap.size wr w') => (⟨fun jj v hj => (h.cell (p := ⟨bl, ol + k * 35 + jj, none⟩) hbw).trans (HRX.out jj v hj), fun jj v hj => (h.cell (p := ⟨bl, ol + j * 35 + jj, none⟩) hbw).trans (HRY.out jj v hj), h⟩ : w'.rangeAt bl (ol + k * 35) x.cells ∧ w'.rangeAt bl (ol + j * 35) y.cells ∧ Below wr.heap.size wr w'))
                clear hc35x hc35y c1 c2 HRX HRY
                have HEAT := Lib.hid (enters_of Tryd.func47 (by kernel_rfl) rfl)
                have HS24 := Lib.hid Rc.info47
                refine Code.wp_mono (Q := Rc.midC wr (.slice Ac nc cc) (.slice As ns cs) (.slice (some ⟨bl, ol, none⟩) nl cl) (Rc.i no) u8 u9 u10 u11 (.int .i64 0) (.int .i64 (k : Int)) (.int .i64 (j : Int)) (.slice Ac nc cc) (.slice As ns cs) (.slice (some ⟨bl, ol, none⟩) nl cl) (Rc.i no) (.int .i64 0) (.int .i64 0) (.bool false) undef (.int .i64 (k : Int)) (.slice (some ⟨bl, ol, none⟩) nl cl) (.int .i64 (nl : Int)) (.bool true) u29 u30 (.int .i64 (k : Int)) (.int .i64 ((k : Int) + 1)) xa xb ya yb) ?tail ?region
                case region =>
                  have s0 : Below wr.heap.size wr wr.drew := (Below.refl _ wr).drew
                  refine wp_region_named (fun ops hops => ?_)
                  refine wp_region_noPanic ?_
                  refine wp_region_held_drew (S := (fun w' => w'.rangeAt bl (ol + k * 35) x.cells ∧ w'.rangeAt bl (ol + j * 35) y.cells ∧ Below wr.heap.size wr w')) (by kernel_rfl) (KP.out _ s0) (fun hHeld => ?_)
                  rw [show ops.size = 16 from by rw [hops]; rfl]
                  change wpAnyH _ _ _ _ _ _ _ _ wr.drew
                  have HNS : Region.noSelect ops = true := by rw [hops]; kernel_rfl
                  obtain ⟨o0, h0, d0, p0, g0⟩ := op_at5 hops 0 rfl (d := some 55) (p := .move (.tmp 0)) (g := none) rfl rfl rfl
                  obtain ⟨o1, h1, d1, p1, g1⟩ := op_at5 hops 1 rfl (d := some 56) (p := .move (.tmp 2)) (g := none) rfl rfl rfl
                  obtain ⟨o2, h2, d2, p2, g2⟩ := op_at5 hops 2 rfl (d := some 57) (p := .move (.tmp 13)) (g := none) rfl rfl rfl
                  obtain ⟨o3, h3, d3, p3, g3⟩ := op_at5 hops 3 rfl (d := some 58) (p := .indexAddr 24 (.tmp 56) (.tmp 57)) (g := none) rfl rfl rfl
                  obtain ⟨o4, h4, d4, p4, g4⟩ := op_at5 hops 4 rfl (d := some 59) (p := .load 47 (.tmp 58)) (g := none) rfl rfl rfl
                  obtain ⟨o5, h5, d5, p5, g5⟩ := op_at5 hops 5 rfl (d := some 60) (p := .call { callee := .value (.func 47), args := #[(.tmp 55), (.tmp 59)], argTypes := #[22, 47] }) (g := none) rfl rfl rfl
                  obtain ⟨o6, h6, d6, p6, g6⟩ := op_at5 hops 6 rfl (d := some 61) (p := .move (.tmp 0)) (g := none) rfl rfl rfl
                  obtain ⟨o7, h7, d7, p7, g7⟩ := op_at5 hops 7 rfl (d := some 62) (p := .move (.tmp 2)) (g := none) rfl rfl rfl
                  obtain ⟨o8, h8, d8, p8, g8⟩ := op_at5 hops 8 rfl (d := some 63) (p := .move (.tmp 14)) (g := none) rfl rfl rfl
                  obtain ⟨o9, h9, d9, p9, g9⟩ := op_at5 hops 9 rfl (d := some 64) (p := .indexAddr 24 (.tmp 62) (.tmp 63)) (g := none) rfl rfl rfl
                  obtain ⟨o10, h10, d10, p10, g10⟩ := op_at5 hops 10 rfl (d := some 65) (p := .load 47 (.tmp 64)) (g := none) rfl rfl rfl
                  obtain ⟨o11, h11, d11, p11, g11⟩ := op_at5 hops 11 rfl (d := some 66) (p := .call { callee := .value (.func 47), args := #[(.tmp 61), (.tmp 65)], argTypes := #[22, 47] }) (g := none) rfl rfl rfl
                  obtain ⟨o12, h12, d12, p12, g12⟩ := op_at5 hops 12 rfl (d := some 15) (p := .alloc 38) (g := none) rfl rfl rfl
                  obtain ⟨o13, h13, d13, p13, g13⟩ := op_at5 hops 13 rfl (d := some 16) (p := .alloc 38) (g := none) rfl rfl rfl
                  obtain ⟨o14, h14, d14, p14, g14⟩ := op_at5 hops 14 rfl (d := none) (p := .store 38 (.tmp 15) (.tmp 60)) (g := none) rfl rfl rfl
                  obtain ⟨o15, h15, d15, p15, g15⟩ := op_at5 hops 15 rfl (d := none) (p := .store 38 (.tmp 16) (.tmp 66)) (g := none) rfl rfl rfl
                  refine wpAnyH_take (i := 0) (v := .slice Ac nc cc) h0 HNS (by rw [hops]; kernel_rfl) (by rw [hops]; kernel_rfl) (fun _ _ _ h => h) (Or.inl ⟨(wanted_none g0), fun w' _ => by unfold execOp; rw [p0]; first | rfl | kernel_rfl⟩) hHeld ?_
                  rw [d0]
                  simp only [Act.put, List.setIfInBounds_toArray, List.set_cons_zero, List.set_cons_succ]
                  refine wpAnyH_take (i := 1) (v := .slice (some ⟨bl, ol, none⟩) nl cl) h1 HNS (by rw [hops]; kernel_rfl) (by rw [hops]; kernel_rfl) (fun _ _ _ h => h) (Or.inl ⟨(wanted_none g1), fun w' _ => by unfold execOp; rw [p1]; first | rfl | kernel_rfl⟩) hHeld ?_
                  rw [d1]
                  simp only [Act.put, List.setIfInBounds_toArray, List.set_cons_zero, List.set_cons_succ]
                  refine wpAnyH_take (i := 2) (v := .int .i64 (k : Int)) h2 HNS (by rw [hops]; kernel_rfl) (by rw [hops]; kernel_rfl) (fun _ _ _ h => h) (Or.inl ⟨(wanted_none g2), fun w' _ => by unfold execOp; rw [p2]; first | rfl | kernel_rfl⟩) hHeld ?_
                  rw [d2]
                  simp only [Act.put, List.setIfInBounds_toArray, List.set_cons_zero, List.set_cons_succ]
                  refine wpAnyH_take (i := 3) (v := .pointer (some ⟨bl, ol + k * 35, none⟩)) h3 HNS (by rw [hops]; kernel_rfl) (by rw [hops]; kernel_rfl) (fun _ _ _ h => h) (Or.inl ⟨(wanted_none g3), fun w' _ => run_op_index_mid 24 _ _ p3 bl ol nl cl k (by rfl) (by rfl) hlt 47 35 Tryd.underlying24 HS24.out⟩) hHeld ?_
                  rw [d3]
                  simp only [Act.put, List.setIfInBounds_toArray, List.set_cons_zero, List.set_cons_succ]
                  refine wpAnyH_take (i := 4) (v := .agg x.cells.toArray) h4 HNS (by rw [hops]; kernel_rfl) (by rw [hops]; kernel_rfl) (fun _ _ _ h => h) (Or.inl ⟨(wanted_none g4), fun w' h => run_op_load_mid 47 _ p4 bl (ol + k * 35) (by rfl) x.cells _ h.1 Tryd.underlying47 rfl HI47x.out⟩) hHeld ?_
                  rw [d4]
                  simp only [Act.put, List.setIfInBounds_toArray, List.set_cons_zero, List.set_cons_succ]
                  refine wpAnyH_take (i := 6) (v := .slice Ac nc cc) h6 HNS (by rw [hops]; kernel_rfl) (by rw [hops]; kernel_rfl) (fun _ _ _ h => h) (Or.inl ⟨(wanted_none g6), fun w' _ => by unfold execOp; rw [p6]; first | rfl | kernel_rfl⟩) hHeld ?_
                  rw [d6]
                  simp only [Act.put, List.setIfInBounds_toArray, List.set_cons_zero, List.set_cons_succ]
                  refine wpAnyH_take (i := 7) (v := .slice (some ⟨bl, ol, none⟩) nl cl) h7 HNS (by rw [hops]; kernel_rfl) (by rw [hops]; kernel_rfl) (fun _ _ _ h => h) (Or.inl ⟨(wanted_none g7), fun w' _ => by unfold execOp; rw [p7]; first | rfl | kernel_rfl⟩) hHeld ?_
                  rw [d7]
                  simp only [Act.put, List.setIfInBounds_toArray, List.set_cons_zero, List.set_cons_succ]
                  refine wpAnyH_take (i := 8) (v := .int .i64 (j : Int)) h8 HNS (by rw [hops]; kernel_rfl) (by rw [hops]; kernel_rfl) (fun _ _ _ h => h) (Or.inl ⟨(wanted_none g8), fun w' _ => by unfold execOp; rw [p8]; first | rfl | kernel_rfl⟩) hHeld ?_
                  rw [d8]
                  simp only [Act.put, List.setIfInBounds_toArray, List.set_cons_zero, List.set_cons_succ]
                  refine wpAnyH_take (i := 9) (v := .pointer (some ⟨bl, ol + j * 35, none⟩)) h9 HNS (by rw [hops]; kernel_rfl) (by rw [hops]; kernel_rfl) (fun _ _ _ h => h) (Or.inl ⟨(wanted_none g9), fun w' _ => run_op_index_mid 24 _ _ p9 bl ol nl cl j (by rfl) (by rfl) hjl 47 35 Tryd.underlying24 HS24.out⟩) hHeld ?_
                  rw [d9]
                  simp only [Act.put, List.setIfInBounds_toArray, List.set_cons_zero, List.set_cons_succ]
                  refine wpAnyH_take (i := 10) (v := .agg y.cells.toArray) h10 HNS (by rw [hops]; kernel_rfl) (by rw [hops]; kernel_rfl) (fun _ _ _ h => h) (Or.inl ⟨(wanted_none g10), fun w' h => run_op_load_mid 47 _ p10 bl (ol + j * 35) (by rfl) y.cells _ h.2.1 Tryd.underlying47 rfl HI47y.out⟩) hHeld ?_
                  rw [d10]
                  simp only [Act.put, List.setIfInBounds_toArray, List.set_cons_zero, List.set_cons_succ]
                  refine wpAnyH_ready (rs := [5, 12, 13]) (by rw [hops]; kernel_rfl) (by simp) ?_
                  refine (AllReadyH.cons h5 (fun K hK => ?_) (AllReadyH.cons h12 (fun K hK => ?_) (AllReadyH.cons h13 (fun K hK => ?_) AllReadyH.nil)))
                  · rw [if_pos (wanted_none g5)]
                    refine wp_call2 47 _ _ _ (.slice Ac nc cc) (.agg x.cells.toArray) p5 HEAT.out (by rfl) (by rfl) ?_
                    ((refine (HTX.out _ s0).mono ?_); rintro e w1x ⟨rfl, hb⟩)
                    refine ⟨_, rfl, ?_⟩
                    have s1x : Below wr.heap.size wr w1x := s0.trans (hb.mono s0.size)
                    clear hb
                    rw [d5]
                    simp only [Act.put, List.setIfInBounds_toArray, List.set_cons_zero, List.set_cons_succ]
                    refine hK.out _ _ (KP.out _ s1x) (fun hHeld => ?_)
                    clear hK K
                    refine wpAnyH_ready (rs := [11, 12, 13]) (by rw [hops]; kernel_rfl) (by simp) ?_
                    refine (AllReadyH.cons h11 (fun K hK => ?_) (AllReadyH.cons h12 (fun K hK => ?_) (AllReadyH.cons h13 (fun K hK => ?_) AllReadyH.nil)))
                    · rw [if_pos (wanted_none g11)]
                      refine wp_call2 47 _ _ _ (.slice Ac nc cc) (.agg y.cells.toArray) p11 HEAT.out (by rfl) (by rfl) ?_
                      ((refine (HTY.out _ s1x).mono ?_); rintro e w2x ⟨rfl, hb⟩)
                      refine ⟨_, rfl, ?_⟩
                      have s2x : Below wr.heap.size wr w2x := s1x.trans (hb.mono s1x.size)
                      clear hb
                      rw [d11]
                      simp only [Act.put, List.setIfInBounds_toArray, List.set_cons_zero, List.set_cons_succ]
                      refine hK.out _ _ (KP.out _ s2x) (fun hHeld => ?_)
                      clear hK K
                      refine wpAnyH_ready (rs := [12, 13]) (by rw [hops]; kernel_rfl) (by simp) ?_
                      refine (AllReadyH.cons h12 (fun K hK => ?_) (AllReadyH.cons h13 (fun K hK => ?_) AllReadyH.nil))
                      · rw [if_pos (wanted_none g12)]
                        refine wp_runG (v := .pointer (some ⟨w2x.heap.size, 0, none⟩)) (w' := w2x.alloc (.cells #[.int .i64 0, .int .i64 0] 38)) (by unfold execOp; rw [p12]; first | rfl | kernel_rfl) ?_
                        obtain ⟨w3x, hw3x⟩ : ∃ w3x, w3x = w2x.alloc (.cells #[.int .i64 0, .int .i64 0] 38) := ⟨_, rfl⟩
                        have hb : Below w2x.heap.size w2x w3x := by rw [hw3x]; exact (Below.refl _ w2x).alloc (Nat.le_refl _) _
                        have s3x : Below wr.heap.size wr w3x := s2x.trans (hb.mono s2x.size)
                        have b12x3 : Has w3x w2x.heap.size 38 [.int .i64 0, .int .i64 0] := by rw [hw3x]; exact Has.new w2x _ _
                        have l12x : wr.heap.size ≤ w2x.heap.size := s2x.size
                        rw [← hw3x]
                        clear hb hw3x
                        obtain ⟨g12x3, hg12x3⟩ : ∃ g12x3, w2x.heap.size = g12x3 := ⟨_, rfl⟩
                        rw [hg12x3] at b12x3 l12x  ⊢
                        clear hg12x3
                        rw [d12]
                        simp only [Act.put, List.setIfInBounds_toArray, List.set_cons_zero, List.set_cons_succ]
                        refine hK.out _ _ (KP.out _ s3x) (fun hHeld => ?_)
                        clear hK K
                        refine wpAnyH_ready (rs := [13]) (by rw [hops]; kernel_rfl) (by simp) ?_
                        refine (AllReadyH.cons h13 (fun K hK => ?_) AllReadyH.nil)
                        · rw [if_pos (wanted_none g13)]
                          refine wp_runG (v := .pointer (some ⟨w3x.heap.size, 0, none⟩)) (w' := w3x.alloc (.cells #[.int .i64 0, .int .i64 0] 38)) (by unfold execOp; rw [p13]; first | rfl | kernel_rfl) ?_
                          obtain ⟨w4x, hw4x⟩ : ∃ w4x, w4x = w3x.alloc (.cells #[.int .i64 0, .int .i64 0] 38) := ⟨_, rfl⟩
                          have hb : Below w3x.heap.size w3x w4x := by rw [hw4x]; exact (Below.refl _ w3x).alloc (Nat.le_refl _) _
                          have s4x : Below wr.heap.size wr w4x := s3x.trans (hb.mono s3x.size)
                          have b13x4 : Has w4x w3x.heap.size 38 [.int .i64 0, .int .i64 0] := by rw [hw4x]; exact Has.new w3x _ _
                          have l13x : wr.heap.size ≤ w3x.heap.size := s3x.size
                          have ne12x : g12x3 ≠ w3x.heap.size := by have := b12x3.lt; omega
                          have b12x4 := b12x3.keep hb
                          rw [← hw4x]
                          clear hb hw4x
                          obtain ⟨g13x4, hg13x4⟩ : ∃ g13x4, w3x.heap.size = g13x4 := ⟨_, rfl⟩
                          rw [hg13x4] at b13x4 l13x ne12x ⊢
                          clear hg13x4
                          rw [d13]
                          simp only [Act.put, List.setIfInBounds_toArray, List.set_cons_zero, List.set_cons_succ]
                          refine hK.out _ _ (KP.out _ s4x) (fun hHeld => ?_)
                          clear hK K
                          refine wpAnyH_ready (rs := [14]) (by rw [hops]; kernel_rfl) (by simp) ?_
                          refine (AllReadyH.cons h14 (fun K hK => ?_) AllReadyH.nil)
                          · rw [if_pos (wanted_none g14)]
                            refine wp_runS (run_op_store_row 38 _ _ p14 g12x3 #[.int .i64 xa, .int .i64 xb] (by rfl) (by rfl) 38 #[.int .i64 0, .int .i64 0] b12x4 Rc.info38 rfl (by simp [Value.oneCell'])) ?_
                            obtain ⟨w5x, hw5x⟩ : ∃ w5x, w5x = w4x.setRow g12x3 #[.int .i64 xa, .int .i64 xb] := ⟨_, rfl⟩
                            have s5x : Below wr.heap.size wr w5x := by rw [hw5x]; exact below_setRow s4x l12x _
                            have b12x5 : Has w5x g12x3 38 [.int .i64 xa, .int .i64 xb] := by rw [hw5x]; exact setRow_heap _ g12x3 _ _ 38 (0, 0) b12x4
                            have b13x5 : Has w5x g13x4 38 [.int .i64 0, .int .i64 0] := by rw [hw5x]; exact (setRow_other _ g12x3 g13x4 _ ne12x.symm).trans b13x4
                            rw [← hw5x]
                            clear hw5x
                            rw [d14]
                            simp only [Act.put]
                            refine hK.out _ _ (KP.out _ s5x) (fun hHeld => ?_)
                            clear hK K
                            refine wpAnyH_ready (rs := [15]) (by rw [hops]; kernel_rfl) (by simp) ?_
                            refine (AllReadyH.cons h15 (fun K hK => ?_) AllReadyH.nil)
                            · rw [if_pos (wanted_none g15)]
                              refine wp_runS (run_op_store_row 38 _ _ p15 g13x4 #[.int .i64 ya, .int .i64 yb] (by rfl) (by rfl) 38 #[.int .i64 0, .int .i64 0] b13x5 Rc.info38 rfl (by simp [Value.oneCell'])) ?_
                              obtain ⟨w6x, hw6x⟩ : ∃ w6x, w6x = w5x.setRow g13x4 #[.int .i64 ya, .int .i64 yb] := ⟨_, rfl⟩
                              have s6x : Below wr.heap.size wr w6x := by rw [hw6x]; exact below_setRow s5x l13x _
                              have b13x6 : Has w6x g13x4 38 [.int .i64 ya, .int .i64 yb] := by rw [hw6x]; exact setRow_heap _ g13x4 _ _ 38 (0, 0) b13x5
                              have b12x6 : Has w6x g12x3 38 [.int .i64 xa, .int .i64 xb] := by rw [hw6x]; exact (setRow_other _ g13x4 g12x3 _ ne12x).trans b12x5
                              rw [← hw6x]
                              clear hw6x
                              rw [d15]
                              simp only [Act.put]
                              refine hK.out _ _ (KP.out _ s6x) (fun hHeld => ?_)
                              clear hK K
                              refine wpAnyH_done (by rw [hops]; kernel_rfl) (NoPanic.normal ?_) _
                              exact ⟨rfl, g12x3, g13x4, _, _, _, _, _, _, _, _, _, _, _, _, _, _, _, _, _, _, _, _, _, _, _, _, _, _, _, _, _, _, _, _, _, _, _, _, _, _, _, _, _, _, _, _, _, _, _, _, rfl, b12x6, b13x6, s6x⟩
                      · rw [if_pos (wanted_none g13)]
                        refine wp_runG (v := .pointer (some ⟨w2x.heap.size, 0, none⟩)) (w' := w2x.alloc (.cells #[.int .i64 0, .int .i64 0] 38)) (by unfold execOp; rw [p13]; first | rfl | kernel_rfl) ?_
                        obtain ⟨w7x, hw7x⟩ : ∃ w7x, w7x = w2x.alloc (.cells #[.int .i64 0, .int .i64 0] 38) := ⟨_, rfl⟩
                        have hb : Below w2x.heap.size w2x w7x := by rw [hw7x]; exact (Below.refl _ w2x).alloc (Nat.le_refl _) _
                        have s7x : Below wr.heap.size wr w7x := s2x.trans (hb.mono s2x.size)
                        have b13x7 : Has w7x w2x.heap.size 38 [.int .i64 0, .int .i64 0] := by rw [hw7x]; exact Has.new w2x _ _
                        have l13x : wr.heap.size ≤ w2x.heap.size := s2x.size
                        rw [← hw7x]
                        clear hb hw7x
                        obtain ⟨g13x7, hg13x7⟩ : ∃ g13x7, w2x.heap.size = g13x7 := ⟨_, rfl⟩
                        rw [hg13x7] at b13x7 l13x  ⊢
                        clear hg13x7
                        rw [d13]
                        simp only [Act.put, List.setIfInBounds_toArray, List.set_cons_zero, List.set_cons_succ]
                        refine hK.out _ _ (KP.out _ s7x) (fun hHeld => ?_)
                        clear hK K
                        refine wpAnyH_ready (rs := [12]) (by rw [hops]; kernel_rfl) (by simp) ?_
                        refine (AllReadyH.cons h12 (fun K hK => ?_) AllReadyH.nil)
                        · rw [if_pos (wanted_none g12)]
                          refine wp_runG (v := .pointer (some ⟨w7x.heap.size, 0, none⟩)) (w' := w7x.alloc (.cells #[.int .i64 0, .int .i64 0] 38)) (by unfold execOp; rw [p12]; first | rfl | kernel_rfl) ?_
                          obtain ⟨w8x, hw8x⟩ : ∃ w8x, w8x = w7x.alloc (.cells #[.int .i64 0, .int .i64 0] 38) := ⟨_, rfl⟩
                          have hb : Below w7x.heap.size w7x w8x := by rw [hw8x]; exact (Below.refl _ w7x).alloc (Nat.le_refl _) _
                          have s8x : Below wr.heap.size wr w8x := s7x.trans (hb.mono s7x.size)
                          have b12x8 : Has w8x w7x.heap.size 38 [.int .i64 0, .int .i64 0] := by rw [hw8x]; exact Has.new w7x _ _
                          have l12x : wr.heap.size ≤ w7x.heap.size := s7x.size
                          have ne13x : g13x7 ≠ w7x.heap.size := by have := b13x7.lt; omega
                          have b13x8 := b13x7.keep hb
                          rw [← hw8x]
                          clear hb hw8x
                          obtain ⟨g12x8, hg12x8⟩ : ∃ g12x8, w7x.heap.size = g12x8 := ⟨_, rfl⟩
                          rw [hg12x8] at b12x8 l12x ne13x ⊢
                          clear hg12x8
                          rw [d12]
                          simp only [Act.put, List.setIfInBounds_toArray, List.set_cons_zero, List.set_cons_succ]
                          refine hK.out _ _ (KP.out _ s8x) (fun hHeld => ?_)
                          clear hK K
                          refine wpAnyH_ready (rs := [14]) (by rw [hops]; kernel_rfl) (by simp) ?_
                          refine (AllReadyH.cons h14 (fun K hK => ?_) AllReadyH.nil)
                          · rw [if_pos (wanted_none g14)]
                            refine wp_runS (run_op_store_row 38 _ _ p14 g12x8 #[.int .i64 xa, .int .i64 xb] (by rfl) (by rfl) 38 #[.int .i64 0, .int .i64 0] b12x8 Rc.info38 rfl (by simp [Value.oneCell'])) ?_
                            obtain ⟨w9x, hw9x⟩ : ∃ w9x, w9x = w8x.setRow g12x8 #[.int .i64 xa, .int .i64 xb] := ⟨_, rfl⟩
                            have s9x : Below wr.heap.size wr w9x := by rw [hw9x]; exact below_setRow s8x l12x _
                            have b12x9 : Has w9x g12x8 38 [.int .i64 xa, .int .i64 xb] := by rw [hw9x]; exact setRow_heap _ g12x8 _ _ 38 (0, 0) b12x8
                            have b13x9 : Has w9x g13x7 38 [.int .i64 0, .int .i64 0] := by rw [hw9x]; exact (setRow_other _ g12x8 g13x7 _ ne13x).trans b13x8
                            rw [← hw9x]
                            clear hw9x
                            rw [d14]
                            simp only [Act.put]
                            refine hK.out _ _ (KP.out _ s9x) (fun hHeld => ?_)
                            clear hK K
                            refine wpAnyH_ready (rs := [15]) (by rw [hops]; kernel_rfl) (by simp) ?_
                            refine (AllReadyH.cons h15 (fun K hK => ?_) AllReadyH.nil)
                            · rw [if_pos (wanted_none g15)]
                              refine wp_runS (run_op_store_row 38 _ _ p15 g13x7 #[.int .i64 ya, .int .i64 yb] (by rfl) (by rfl) 38 #[.int .i64 0, .int .i64 0] b13x9 Rc.info38 rfl (by simp [Value.oneCell'])) ?_
                              obtain ⟨w10x, hw10x⟩ : ∃ w10x, w10x = w9x.setRow g13x7 #[.int .i64 ya, .int .i64 yb] := ⟨_, rfl⟩
                              have s10x : Below wr.heap.size wr w10x := by rw [hw10x]; exact below_setRow s9x l13x _
                              have b13x10 : Has w10x g13x7 38 [.int .i64 ya, .int .i64 yb] := by rw [hw10x]; exact setRow_heap _ g13x7 _ _ 38 (0, 0) b13x9
                              have b12x10 : Has w10x g12x8 38 [.int .i64 xa, .int .i64 xb] := by rw [hw10x]; exact (setRow_other _ g13x7 g12x8 _ ne13x.symm).trans b12x9
                              rw [← hw10x]
                              clear hw10x
                              rw [d15]
                              simp only [Act.put]
                              refine hK.out _ _ (KP.out _ s10x) (fun hHeld => ?_)
                              clear hK K
                              refine wpAnyH_done (by rw [hops]; kernel_rfl) (NoPanic.normal ?_) _
                              exact ⟨rfl, g12x8, g13x7, _, _, _, _, _, _, _, _, _, _, _, _, _, _, _, _, _, _, _, _, _, _, _, _, _, _, _, _, _, _, _, _, _, _, _, _, _, _, _, _, _, _, _, _, _, _, _, _, rfl, b12x10, b13x10, s10x⟩
                    · rw [if_pos (wanted_none g12)]
                      refine wp_runG (v := .pointer (some ⟨w1x.heap.size, 0, none⟩)) (w' := w1x.alloc (.cells #[.int .i64 0, .int .i64 0] 38)) (by unfold execOp; rw [p12]; first | rfl | kernel_rfl) ?_
                      obtain ⟨w11x, hw11x⟩ : ∃ w11x, w11x = w1x.alloc (.cells #[.int .i64 0, .int .i64 0] 38) := ⟨_, rfl⟩
                      have hb : Below w1x.heap.size w1x w11x := by rw [hw11x]; exact (Below.refl _ w1x).alloc (Nat.le_refl _) _
                      have s11x : Below wr.heap.size wr w11x := s1x.trans (hb.mono s1x.size)
                      have b12x11 : Has w11x w1x.heap.size 38 [.int .i64 0, .int .i64 0] := by rw [hw11x]; exact Has.new w1x _ _
                      have l12x : wr.heap.size ≤ w1x.heap.size := s1x.size
                      rw [← hw11x]
                      clear hb hw11x
                      obtain ⟨g12x11, hg12x11⟩ : ∃ g12x11, w1x.heap.size = g12x11 := ⟨_, rfl⟩
                      rw [hg12x11] at b12x11 l12x  ⊢
                      clear hg12x11
                      rw [d12]
                      simp only [Act.put, List.setIfInBounds_toArray, List.set_cons_zero, List.set_cons_succ]
                      refine hK.out _ _ (KP.out _ s11x) (fun hHeld => ?_)
                      clear hK K
                      refine wpAnyH_ready (rs := [11, 13]) (by rw [hops]; kernel_rfl) (by simp) ?_
                      refine (AllReadyH.cons h11 (fun K hK => ?_) (AllReadyH.cons h13 (fun K hK => ?_) AllReadyH.nil))
                      · rw [if_pos (wanted_none g11)]
                        refine wp_call2 47 _ _ _ (.slice Ac nc cc) (.agg y.cells.toArray) p11 HEAT.out (by rfl) (by rfl) ?_
                        ((refine (HTY.out _ s11x).mono ?_); rintro e w12x ⟨rfl, hb⟩)
                        refine ⟨_, rfl, ?_⟩
                        have s12x : Below wr.heap.size wr w12x := s11x.trans (hb.mono s11x.size)
                        have b12x12 := b12x11.keep hb
                        clear hb
                        rw [d11]
                        simp only [Act.put, List.setIfInBounds_toArray, List.set_cons_zero, List.set_cons_succ]
                        refine hK.out _ _ (KP.out _ s12x) (fun hHeld => ?_)
                        clear hK K
                        refine wpAnyH_ready (rs := [13]) (by rw [hops]; kernel_rfl) (by simp) ?_
                        refine (AllReadyH.cons h13 (fun K hK => ?_) AllReadyH.nil)
                        · rw [if_pos (wanted_none g13)]
                          refine wp_runG (v := .pointer (some ⟨w12x.heap.size, 0, none⟩)) (w' := w12x.alloc (.cells #[.int .i64 0, .int .i64 0] 38)) (by unfold execOp; rw [p13]; first | rfl | kernel_rfl) ?_
                          obtain ⟨w13x, hw13x⟩ : ∃ w13x, w13x = w12x.alloc (.cells #[.int .i64 0, .int .i64 0] 38) := ⟨_, rfl⟩
                          have hb : Below w12x.heap.size w12x w13x := by rw [hw13x]; exact (Below.refl _ w12x).alloc (Nat.le_refl _) _
                          have s13x : Below wr.heap.size wr w13x := s12x.trans (hb.mono s12x.size)
                          have b13x13 : Has w13x w12x.heap.size 38 [.int .i64 0, .int .i64 0] := by rw [hw13x]; exact Has.new w12x _ _
                          have l13x : wr.heap.size ≤ w12x.heap.size := s12x.size
                          have ne12x : g12x11 ≠ w12x.heap.size := by have := b12x12.lt; omega
                          have b12x13 := b12x12.keep hb
                          rw [← hw13x]
                          clear hb hw13x
                          obtain ⟨g13x13, hg13x13⟩ : ∃ g13x13, w12x.heap.size = g13x13 := ⟨_, rfl⟩
                          rw [hg13x13] at b13x13 l13x ne12x ⊢
                          clear hg13x13
                          rw [d13]
                          simp only [Act.put, List.setIfInBounds_toArray, List.set_cons_zero, List.set_cons_succ]
                          refine hK.out _ _ (KP.out _ s13x) (fun hHeld => ?_)
                          clear hK K
                          refine wpAnyH_ready (rs := [14]) (by rw [hops]; kernel_rfl) (by simp) ?_
                          refine (AllReadyH.cons h14 (fun K hK => ?_) AllReadyH.nil)
                          · rw [if_pos (wanted_none g14)]
                            refine wp_runS (run_op_store_row 38 _ _ p14 g12x11 #[.int .i64 xa, .int .i64 xb] (by rfl) (by rfl) 38 #[.int .i64 0, .int .i64 0] b12x13 Rc.info38 rfl (by simp [Value.oneCell'])) ?_
                            obtain ⟨w14x, hw14x⟩ : ∃ w14x, w14x = w13x.setRow g12x11 #[.int .i64 xa, .int .i64 xb] := ⟨_, rfl⟩
                            have s14x : Below wr.heap.size wr w14x := by rw [hw14x]; exact below_setRow s13x l12x _
                            have b12x14 : Has w14x g12x11 38 [.int .i64 xa, .int .i64 xb] := by rw [hw14x]; exact setRow_heap _ g12x11 _ _ 38 (0, 0) b12x13
                            have b13x14 : Has w14x g13x13 38 [.int .i64 0, .int .i64 0] := by rw [hw14x]; exact (setRow_other _ g12x11 g13x13 _ ne12x.symm).trans b13x13
                            rw [← hw14x]
                            clear hw14x
                            rw [d14]
                            simp only [Act.put]
                            refine hK.out _ _ (KP.out _ s14x) (fun hHeld => ?_)
                            clear hK K
                            refine wpAnyH_ready (rs := [15]) (by rw [hops]; kernel_rfl) (by simp) ?_
                            refine (AllReadyH.cons h15 (fun K hK => ?_) AllReadyH.nil)
                            · rw [if_pos (wanted_none g15)]
                              refine wp_runS (run_op_store_row 38 _ _ p15 g13x13 #[.int .i64 ya, .int .i64 yb] (by rfl) (by rfl) 38 #[.int .i64 0, .int .i64 0] b13x14 Rc.info38 rfl (by simp [Value.oneCell'])) ?_
                              obtain ⟨w15x, hw15x⟩ : ∃ w15x, w15x = w14x.setRow g13x13 #[.int .i64 ya, .int .i64 yb] := ⟨_, rfl⟩
                              have s15x : Below wr.heap.size wr w15x := by rw [hw15x]; exact below_setRow s14x l13x _
                              have b13x15 : Has w15x g13x13 38 [.int .i64 ya, .int .i64 yb] := by rw [hw15x]; exact setRow_heap _ g13x13 _ _ 38 (0, 0) b13x14
                              have b12x15 : Has w15x g12x11 38 [.int .i64 xa, .int .i64 xb] := by rw [hw15x]; exact (setRow_other _ g13x13 g12x11 _ ne12x).trans b12x14
                              rw [← hw15x]
                              clear hw15x
                              rw [d15]
                              simp only [Act.put]
                              refine hK.out _ _ (KP.out _ s15x) (fun hHeld => ?_)
                              clear hK K
                              refine wpAnyH_done (by rw [hops]; kernel_rfl) (NoPanic.normal ?_) _
                              exact ⟨rfl, g12x11, g13x13, _, _, _, _, _, _, _, _, _, _, _, _, _, _, _, _, _, _, _, _, _, _, _, _, _, _, _, _, _, _, _, _, _, _, _, _, _, _, _, _, _, _, _, _, _, _, _, _, rfl, b12x15, b13x15, s15x⟩
                      · rw [if_pos (wanted_none g13)]
                        refine wp_runG (v := .pointer (some ⟨w11x.heap.size, 0, none⟩)) (w' := w11x.alloc (.cells #[.int .i64 0, .int .i64 0] 38)) (by unfold execOp; rw [p13]; first | rfl | kernel_rfl) ?_
                        obtain ⟨w16x, hw16x⟩ : ∃ w16x, w16x = w11x.alloc (.cells #[.int .i64 0, .int .i64 0] 38) := ⟨_, rfl⟩
                        have hb : Below w11x.heap.size w11x w16x := by rw [hw16x]; exact (Below.refl _ w11x).alloc (Nat.le_refl _) _
                        have s16x : Below wr.heap.size wr w16x := s11x.trans (hb.mono s11x.size)
                        have b13x16 : Has w16x w11x.heap.size 38 [.int .i64 0, .int .i64 0] := by rw [hw16x]; exact Has.new w11x _ _
                        have l13x : wr.heap.size ≤ w11x.heap.size := s11x.size
                        have ne12x : g12x11 ≠ w11x.heap.size := by have := b12x11.lt; omega
                        have b12x16 := b12x11.keep hb
                        rw [← hw16x]
                        clear hb hw16x
                        obtain ⟨g13x16, hg13x16⟩ : ∃ g13x16, w11x.heap.size = g13x16 := ⟨_, rfl⟩
                        rw [hg13x16] at b13x16 l13x ne12x ⊢
                        clear hg13x16
                        rw [d13]
                        simp only [Act.put, List.setIfInBounds_toArray, List.set_cons_zero, List.set_cons_succ]
                        refine hK.out _ _ (KP.out _ s16x) (fun hHeld => ?_)
                        clear hK K
                        refine wpAnyH_ready (rs := [11]) (by rw [hops]; kernel_rfl) (by simp) ?_
                        refine (AllReadyH.cons h11 (fun K hK => ?_) AllReadyH.nil)
                        · rw [if_pos (wanted_none g11)]
                          refine wp_call2 47 _ _ _ (.slice Ac nc cc) (.agg y.cells.toArray) p11 HEAT.out (by rfl) (by rfl) ?_
                          ((refine (HTY.out _ s16x).mono ?_); rintro e w17x ⟨rfl, hb⟩)
                          refine ⟨_, rfl, ?_⟩
                          have s17x : Below wr.heap.size wr w17x := s16x.trans (hb.mono s16x.size)
                          have b12x17 := b12x16.keep hb
                          have b13x17 := b13x16.keep hb
                          clear hb
                          rw [d11]
                          simp only [Act.put, List.setIfInBounds_toArray, List.set_cons_zero, List.set_cons_succ]
                          refine hK.out _ _ (KP.out _ s17x) (fun hHeld => ?_)
                          clear hK K
                          refine wpAnyH_ready (rs := [14]) (by rw [hops]; kernel_rfl) (by simp) ?_
                          refine (AllReadyH.cons h14 (fun K hK => ?_) AllReadyH.nil)
                          · rw [if_pos (wanted_none g14)]
                            refine wp_runS (run_op_store_row 38 _ _ p14 g12x11 #[.int .i64 xa, .int .i64 xb] (by rfl) (by rfl) 38 #[.int .i64 0, .int .i64 0] b12x17 Rc.info38 rfl (by simp [Value.oneCell'])) ?_
                            obtain ⟨w18x, hw18x⟩ : ∃ w18x, w18x = w17x.setRow g12x11 #[.int .i64 xa, .int .i64 xb] := ⟨_, rfl⟩
                            have s18x : Below wr.heap.size wr w18x := by rw [hw18x]; exact below_setRow s17x l12x _
                            have b12x18 : Has w18x g12x11 38 [.int .i64 xa, .int .i64 xb] := by rw [hw18x]; exact setRow_heap _ g12x11 _ _ 38 (0, 0) b12x17
                            have b13x18 : Has w18x g13x16 38 [.int .i64 0, .int .i64 0] := by rw [hw18x]; exact (setRow_other _ g12x11 g13x16 _ ne12x.symm).trans b13x17
                            rw [← hw18x]
                            clear hw18x
                            rw [d14]
                            simp only [Act.put]
                            refine hK.out _ _ (KP.out _ s18x) (fun hHeld => ?_)
                            clear hK K
                            refine wpAnyH_ready (rs := [15]) (by rw [hops]; kernel_rfl) (by simp) ?_
                            refine (AllReadyH.cons h15 (fun K hK => ?_) AllReadyH.nil)
                            · rw [if_pos (wanted_none g15)]
                              refine wp_runS (run_op_store_row 38 _ _ p15 g13x16 #[.int .i64 ya, .int .i64 yb] (by rfl) (by rfl) 38 #[.int .i64 0, .int .i64 0] b13x18 Rc.info38 rfl (by simp [Value.oneCell'])) ?_
                              obtain ⟨w19x, hw19x⟩ : ∃ w19x, w19x = w18x.setRow g13x16 #[.int .i64 ya, .int .i64 yb] := ⟨_, rfl⟩
                              have s19x : Below wr.heap.size wr w19x := by rw [hw19x]; exact below_setRow s18x l13x _
                              have b13x19 : Has w19x g13x16 38 [.int .i64 ya, .int .i64 yb] := by rw [hw19x]; exact setRow_heap _ g13x16 _ _ 38 (0, 0) b13x18
                              have b12x19 : Has w19x g12x11 38 [.int .i64 xa, .int .i64 xb] := by rw [hw19x]; exact (setRow_other _ g13x16 g12x11 _ ne12x).trans b12x18
                              rw [← hw19x]
                              clear hw19x
                              rw [d15]
                              simp only [Act.put]
                              refine hK.out _ _ (KP.out _ s19x) (fun hHeld => ?_)
                              clear hK K
                              refine wpAnyH_done (by rw [hops]; kernel_rfl) (NoPanic.normal ?_) _
                              exact ⟨rfl, g12x11, g13x16, _, _, _, _, _, _, _, _, _, _, _, _, _, _, _, _, _, _, _, _, _, _, _, _, _, _, _, _, _, _, _, _, _, _, _, _, _, _, _, _, _, _, _, _, _, _, _, _, rfl, b12x19, b13x19, s19x⟩
                    · rw [if_pos (wanted_none g13)]
                      refine wp_runG (v := .pointer (some ⟨w1x.heap.size, 0, none⟩)) (w' := w1x.alloc (.cells #[.int .i64 0, .int .i64 0] 38)) (by unfold execOp; rw [p13]; first | rfl | kernel_rfl) ?_
                      obtain ⟨w20x, hw20x⟩ : ∃ w20x, w20x = w1x.alloc (.cells #[.int .i64 0, .int .i64 0] 38) := ⟨_, rfl⟩
                      have hb : Below w1x.heap.size w1x w20x := by rw [hw20x]; exact (Below.refl _ w1x).alloc (Nat.le_refl _) _
                      have s20x : Below wr.heap.size wr w20x := s1x.trans (hb.mono s1x.size)
                      have b13x20 : Has w20x w1x.heap.size 38 [.int .i64 0, .int .i64 0] := by rw [hw20x]; exact Has.new w1x _ _
                      have l13x : wr.heap.size ≤ w1x.heap.size := s1x.size
                      rw [← hw20x]
                      clear hb hw20x
                      obtain ⟨g13x20, hg13x20⟩ : ∃ g13x20, w1x.heap.size = g13x20 := ⟨_, rfl⟩
                      rw [hg13x20] at b13x20 l13x  ⊢
                      clear hg13x20
                      rw [d13]
                      simp only [Act.put, List.setIfInBounds_toArray, List.set_cons_zero, List.set_cons_succ]
                      refine hK.out _ _ (KP.out _ s20x) (fun hHeld => ?_)
                      clear hK K
                      refine wpAnyH_ready (rs := [11, 12]) (by rw [hops]; kernel_rfl) (by simp) ?_
                      refine (AllReadyH.cons h11 (fun K hK => ?_) (AllReadyH.cons h12 (fun K hK => ?_) AllReadyH.nil))
                      · rw [if_pos (wanted_none g11)]
                        refine wp_call2 47 _ _ _ (.slice Ac nc cc) (.agg y.cells.toArray) p11 HEAT.out (by rfl) (by rfl) ?_
                        ((refine (HTY.out _ s20x).mono ?_); rintro e w21x ⟨rfl, hb⟩)
                        refine ⟨_, rfl, ?_⟩
                        have s21x : Below wr.heap.size wr w21x := s20x.trans (hb.mono s20x.size)
                        have b13x21 := b13x20.keep hb
                        clear hb
                        rw [d11]
                        simp only [Act.put, List.setIfInBounds_toArray, List.set_cons_zero, List.set_cons_succ]
                        refine hK.out _ _ (KP.out _ s21x) (fun hHeld => ?_)
                        clear hK K
                        refine wpAnyH_ready (rs := [12]) (by rw [hops]; kernel_rfl) (by simp) ?_
                        refine (AllReadyH.cons h12 (fun K hK => ?_) AllReadyH.nil)
                        · rw [if_pos (wanted_none g12)]
                          refine wp_runG (v := .pointer (some ⟨w21x.heap.size, 0, none⟩)) (w' := w21x.alloc (.cells #[.int .i64 0, .int .i64 0] 38)) (by unfold execOp; rw [p12]; first | rfl | kernel_rfl) ?_
                          obtain ⟨w22x, hw22x⟩ : ∃ w22x, w22x = w21x.alloc (.cells #[.int .i64 0, .int .i64 0] 38) := ⟨_, rfl⟩
                          have hb : Below w21x.heap.size w21x w22x := by rw [hw22x]; exact (Below.refl _ w21x).alloc (Nat.le_refl _) _
                          have s22x : Below wr.heap.size wr w22x := s21x.trans (hb.mono s21x.size)
                          have b12x22 : Has w22x w21x.heap.size 38 [.int .i64 0, .int .i64 0] := by rw [hw22x]; exact Has.new w21x _ _
                          have l12x : wr.heap.size ≤ w21x.heap.size := s21x.size
                          have ne13x : g13x20 ≠ w21x.heap.size := by have := b13x21.lt; omega
                          have b13x22 := b13x21.keep hb
                          rw [← hw22x]
                          clear hb hw22x
                          obtain ⟨g12x22, hg12x22⟩ : ∃ g12x22, w21x.heap.size = g12x22 := ⟨_, rfl⟩
                          rw [hg12x22] at b12x22 l12x ne13x ⊢
                          clear hg12x22
                          rw [d12]
                          simp only [Act.put, List.setIfInBounds_toArray, List.set_cons_zero, List.set_cons_succ]
                          refine hK.out _ _ (KP.out _ s22x) (fun hHeld => ?_)
                          clear hK K
                          refine wpAnyH_ready (rs := [14]) (by rw [hops]; kernel_rfl) (by simp) ?_
                          refine (AllReadyH.cons h14 (fun K hK => ?_) AllReadyH.nil)
                          · rw [if_pos (wanted_none g14)]
                            refine wp_runS (run_op_store_row 38 _ _ p14 g12x22 #[.int .i64 xa, .int .i64 xb] (by rfl) (by rfl) 38 #[.int .i64 0, .int .i64 0] b12x22 Rc.info38 rfl (by simp [Value.oneCell'])) ?_
                            obtain ⟨w23x, hw23x⟩ : ∃ w23x, w23x = w22x.setRow g12x22 #[.int .i64 xa, .int .i64 xb] := ⟨_, rfl⟩
                            have s23x : Below wr.heap.size wr w23x := by rw [hw23x]; exact below_setRow s22x l12x _
                            have b12x23 : Has w23x g12x22 38 [.int .i64 xa, .int .i64 xb] := by rw [hw23x]; exact setRow_heap _ g12x22 _ _ 38 (0, 0) b12x22
                            have b13x23 : Has w23x g13x20 38 [.int .i64 0, .int .i64 0] := by rw [hw23x]; exact (setRow_other _ g12x22 g13x20 _ ne13x).trans b13x22
                            rw [← hw23x]
                            clear hw23x
                            rw [d14]
                            simp only [Act.put]
                            refine hK.out _ _ (KP.out _ s23x) (fun hHeld => ?_)
                            clear hK K
                            refine wpAnyH_ready (rs := [15]) (by rw [hops]; kernel_rfl) (by simp) ?_
                            refine (AllReadyH.cons h15 (fun K hK => ?_) AllReadyH.nil)
                            · rw [if_pos (wanted_none g15)]
                              refine wp_runS (run_op_store_row 38 _ _ p15 g13x20 #[.int .i64 ya, .int .i64 yb] (by rfl) (by rfl) 38 #[.int .i64 0, .int .i64 0] b13x23 Rc.info38 rfl (by simp [Value.oneCell'])) ?_
                              obtain ⟨w24x, hw24x⟩ : ∃ w24x, w24x = w23x.setRow g13x20 #[.int .i64 ya, .int .i64 yb] := ⟨_, rfl⟩
                              have s24x : Below wr.heap.size wr w24x := by rw [hw24x]; exact below_setRow s23x l13x _
                              have b13x24 : Has w24x g13x20 38 [.int .i64 ya, .int .i64 yb] := by rw [hw24x]; exact setRow_heap _ g13x20 _ _ 38 (0, 0) b13x23
                              have b12x24 : Has w24x g12x22 38 [.int .i64 xa, .int .i64 xb] := by rw [hw24x]; exact (setRow_other _ g13x20 g12x22 _ ne13x.symm).trans b12x23
                              rw [← hw24x]
                              clear hw24x
                              rw [d15]
                              simp only [Act.put]
                              refine hK.out _ _ (KP.out _ s24x) (fun hHeld => ?_)
                              clear hK K
                              refine wpAnyH_done (by rw [hops]; kernel_rfl) (NoPanic.normal ?_) _
                              exact ⟨rfl, g12x22, g13x20, _, _, _, _, _, _, _, _, _, _, _, _, _, _, _, _, _, _, _, _, _, _, _, _, _, _, _, _, _, _, _, _, _, _, _, _, _, _, _, _, _, _, _, _, _, _, _, _, rfl, b12x24, b13x24, s24x⟩
                      · rw [if_pos (wanted_none g12)]
                        refine wp_runG (v := .pointer (some ⟨w20x.heap.size, 0, none⟩)) (w' := w20x.alloc (.cells #[.int .i64 0, .int .i64 0] 38)) (by unfold execOp; rw [p12]; first | rfl | kernel_rfl) ?_
                        obtain ⟨w25x, hw25x⟩ : ∃ w25x, w25x = w20x.alloc (.cells #[.int .i64 0, .int .i64 0] 38) := ⟨_, rfl⟩
                        have hb : Below w20x.heap.size w20x w25x := by rw [hw25x]; exact (Below.refl _ w20x).alloc (Nat.le_refl _) _
                        have s25x : Below wr.heap.size wr w25x := s20x.trans (hb.mono s20x.size)
                        have b12x25 : Has w25x w20x.heap.size 38 [.int .i64 0, .int .i64 0] := by rw [hw25x]; exact Has.new w20x _ _
                        have l12x : wr.heap.size ≤ w20x.heap.size := s20x.size
                        have ne13x : g13x20 ≠ w20x.heap.size := by have := b13x20.lt; omega
                        have b13x25 := b13x20.keep hb
                        rw [← hw25x]
                        clear hb hw25x
                        obtain ⟨g12x25, hg12x25⟩ : ∃ g12x25, w20x.heap.size = g12x25 := ⟨_, rfl⟩
                        rw [hg12x25] at b12x25 l12x ne13x ⊢
                        clear hg12x25
                        rw [d12]
                        simp only [Act.put, List.setIfInBounds_toArray, List.set_cons_zero, List.set_cons_succ]
                        refine hK.out _ _ (KP.out _ s25x) (fun hHeld => ?_)
                        clear hK K
                        refine wpAnyH_ready (rs := [11]) (by rw [hops]; kernel_rfl) (by simp) ?_
                        refine (AllReadyH.cons h11 (fun K hK => ?_) AllReadyH.nil)
                        · rw [if_pos (wanted_none g11)]
                          refine wp_call2 47 _ _ _ (.slice Ac nc cc) (.agg y.cells.toArray) p11 HEAT.out (by rfl) (by rfl) ?_
                          ((refine (HTY.out _ s25x).mono ?_); rintro e w26x ⟨rfl, hb⟩)
                          refine ⟨_, rfl, ?_⟩
                          have s26x : Below wr.heap.size wr w26x := s25x.trans (hb.mono s25x.size)
                          have b13x26 := b13x25.keep hb
                          have b12x26 := b12x25.keep hb
                          clear hb
                          rw [d11]
                          simp only [Act.put, List.setIfInBounds_toArray, List.set_cons_zero, List.set_cons_succ]
                          refine hK.out _ _ (KP.out _ s26x) (fun hHeld => ?_)
                          clear hK K
                          refine wpAnyH_ready (rs := [14]) (by rw [hops]; kernel_rfl) (by simp) ?_
                          refine (AllReadyH.cons h14 (fun K hK => ?_) AllReadyH.nil)
                          · rw [if_pos (wanted_none g14)]
                            refine wp_runS (run_op_store_row 38 _ _ p14 g12x25 #[.int .i64 xa, .int .i64 xb] (by rfl) (by rfl) 38 #[.int .i64 0, .int .i64 0] b12x26 Rc.info38 rfl (by simp [Value.oneCell'])) ?_
                            obtain ⟨w27x, hw27x⟩ : ∃ w27x, w27x = w26x.setRow g12x25 #[.int .i64 xa, .int .i64 xb] := ⟨_, rfl⟩
                            have s27x : Below wr.heap.size wr w27x := by rw [hw27x]; exact below_setRow s26x l12x _
                            have b12x27 : Has w27x g12x25 38 [.int .i64 xa, .int .i64 xb] := by rw [hw27x]; exact setRow_heap _ g12x25 _ _ 38 (0, 0) b12x26
                            have b13x27 : Has w27x g13x20 38 [.int .i64 0, .int .i64 0] := by rw [hw27x]; exact (setRow_other _ g12x25 g13x20 _ ne13x).trans b13x26
                            rw [← hw27x]
                            clear hw27x
                            rw [d14]
                            simp only [Act.put]
                            refine hK.out _ _ (KP.out _ s27x) (fun hHeld => ?_)
                            clear hK K
                            refine wpAnyH_ready (rs := [15]) (by rw [hops]; kernel_rfl) (by simp) ?_
                            refine (AllReadyH.cons h15 (fun K hK => ?_) AllReadyH.nil)
                            · rw [if_pos (wanted_none g15)]
                              refine wp_runS (run_op_store_row 38 _ _ p15 g13x20 #[.int .i64 ya, .int .i64 yb] (by rfl) (by rfl) 38 #[.int .i64 0, .int .i64 0] b13x27 Rc.info38 rfl (by simp [Value.oneCell'])) ?_
                              obtain ⟨w28x, hw28x⟩ : ∃ w28x, w28x = w27x.setRow g13x20 #[.int .i64 ya, .int .i64 yb] := ⟨_, rfl⟩
                              have s28x : Below wr.heap.size wr w28x := by rw [hw28x]; exact below_setRow s27x l13x _
                              have b13x28 : Has w28x g13x20 38 [.int .i64 ya, .int .i64 yb] := by rw [hw28x]; exact setRow_heap _ g13x20 _ _ 38 (0, 0) b13x27
                              have b12x28 : Has w28x g12x25 38 [.int .i64 xa, .int .i64 xb] := by rw [hw28x]; exact (setRow_other _ g13x20 g12x25 _ ne13x.symm).trans b12x27
                              rw [← hw28x]
                              clear hw28x
                              rw [d15]
                              simp only [Act.put]
                              refine hK.out _ _ (KP.out _ s28x) (fun hHeld => ?_)
                              clear hK K
                              refine wpAnyH_done (by rw [hops]; kernel_rfl) (NoPanic.normal ?_) _
                              exact ⟨rfl, g12x25, g13x20, _, _, _, _, _, _, _, _, _, _, _, _, _, _, _, _, _, _, _, _, _, _, _, _, _, _, _, _, _, _, _, _, _, _, _, _, _, _, _, _, _, _, _, _, _, _, _, _, rfl, b12x28, b13x28, s28x⟩
                  · rw [if_pos (wanted_none g12)]
                    refine wp_runG (v := .pointer (some ⟨wr.drew.heap.size, 0, none⟩)) (w' := wr.drew.alloc (.cells #[.int .i64 0, .int .i64 0] 38)) (by unfold execOp; rw [p12]; first | rfl | kernel_rfl) ?_
                    obtain ⟨w29x, hw29x⟩ : ∃ w29x, w29x = wr.drew.alloc (.cells #[.int .i64 0, .int .i64 0] 38) := ⟨_, rfl⟩
                    have hb : Below wr.drew.heap.size wr.drew w29x := by rw [hw29x]; exact (Below.refl _ wr.drew).alloc (Nat.le_refl _) _
                    have s29x : Below wr.heap.size wr w29x := s0.trans (hb.mono s0.size)
                    have b12x29 : Has w29x wr.drew.heap.size 38 [.int .i64 0, .int .i64 0] := by rw [hw29x]; exact Has.new wr.drew _ _
                    have l12x : wr.heap.size ≤ wr.drew.heap.size := s0.size
                    rw [← hw29x]
                    clear hb hw29x
                    obtain ⟨g12x29, hg12x29⟩ : ∃ g12x29, wr.drew.heap.size = g12x29 := ⟨_, rfl⟩
                    rw [hg12x29] at b12x29 l12x  ⊢
                    clear hg12x29
                    rw [d12]
                    simp only [Act.put, List.setIfInBounds_toArray, List.set_cons_zero, List.set_cons_succ]
                    refine hK.out _ _ (KP.out _ s29x) (fun hHeld => ?_)
                    clear hK K
                    refine wpAnyH_ready (rs := [5, 13]) (by rw [hops]; kernel_rfl) (by simp) ?_
                    refine (AllReadyH.cons h5 (fun K hK => ?_) (AllReadyH.cons h13 (fun K hK => ?_) AllReadyH.nil))
                    · rw [if_pos (wanted_none g5)]
                      refine wp_call2 47 _ _ _ (.slice Ac nc cc) (.agg x.cells.toArray) p5 HEAT.out (by rfl) (by rfl) ?_
                      ((refine (HTX.out _ s29x).mono ?_); rintro e w30x ⟨rfl, hb⟩)
                      refine ⟨_, rfl, ?_⟩
                      have s30x : Below wr.heap.size wr w30x := s29x.trans (hb.mono s29x.size)
                      have b12x30 := b12x29.keep hb
                      clear hb
                      rw [d5]
                      simp only [Act.put, List.setIfInBounds_toArray, List.set_cons_zero, List.set_cons_succ]
                      refine hK.out _ _ (KP.out _ s30x) (fun hHeld => ?_)
                      clear hK K
                      refine wpAnyH_ready (rs := [11, 13]) (by rw [hops]; kernel_rfl) (by simp) ?_
                      refine (AllReadyH.cons h11 (fun K hK => ?_) (AllReadyH.cons h13 (fun K hK => ?_) AllReadyH.nil))
                      · rw [if_pos (wanted_none g11)]
                        refine wp_call2 47 _ _ _ (.slice Ac nc cc) (.agg y.cells.toArray) p11 HEAT.out (by rfl) (by rfl) ?_
                        ((refine (HTY.out _ s30x).mono ?_); rintro e w31x ⟨rfl, hb⟩)
                        refine ⟨_, rfl, ?_⟩
                        have s31x : Below wr.heap.size wr w31x := s30x.trans (hb.mono s30x.size)
                        have b12x31 := b12x30.keep hb
                        clear hb
                        rw [d11]
                        simp only [Act.put, List.setIfInBounds_toArray, List.set_cons_zero, List.set_cons_succ]
                        refine hK.out _ _ (KP.out _ s31x) (fun hHeld => ?_)
                        clear hK K
                        refine wpAnyH_ready (rs := [13]) (by rw [hops]; kernel_rfl) (by simp) ?_
                        refine (AllReadyH.cons h13 (fun K hK => ?_) AllReadyH.nil)
                        · rw [if_pos (wanted_none g13)]
                          refine wp_runG (v := .pointer (some ⟨w31x.heap.size, 0, none⟩)) (w' := w31x.alloc (.cells #[.int .i64 0, .int .i64 0] 38)) (by unfold execOp; rw [p13]; first | rfl | kernel_rfl) ?_
                          obtain ⟨w32x, hw32x⟩ : ∃ w32x, w32x = w31x.alloc (.cells #[.int .i64 0, .int .i64 0] 38) := ⟨_, rfl⟩
                          have hb : Below w31x.heap.size w31x w32x := by rw [hw32x]; exact (Below.refl _ w31x).alloc (Nat.le_refl _) _
                          have s32x : Below wr.heap.size wr w32x := s31x.trans (hb.mono s31x.size)
                          have b13x32 : Has w32x w31x.heap.size 38 [.int .i64 0, .int .i64 0] := by rw [hw32x]; exact Has.new w31x _ _
                          have l13x : wr.heap.size ≤ w31x.heap.size := s31x.size
                          have ne12x : g12x29 ≠ w31x.heap.size := by have := b12x31.lt; omega
                          have b12x32 := b12x31.keep hb
                          rw [← hw32x]
                          clear hb hw32x
                          obtain ⟨g13x32, hg13x32⟩ : ∃ g13x32, w31x.heap.size = g13x32 := ⟨_, rfl⟩
                          rw [hg13x32] at b13x32 l13x ne12x ⊢
                          clear hg13x32
                          rw [d13]
                          simp only [Act.put, List.setIfInBounds_toArray, List.set_cons_zero, List.set_cons_succ]
                          refine hK.out _ _ (KP.out _ s32x) (fun hHeld => ?_)
                          clear hK K
                          refine wpAnyH_ready (rs := [14]) (by rw [hops]; kernel_rfl) (by simp) ?_
                          refine (AllReadyH.cons h14 (fun K hK => ?_) AllReadyH.nil)
                          · rw [if_pos (wanted_none g14)]
                            refine wp_runS (run_op_store_row 38 _ _ p14 g12x29 #[.int .i64 xa, .int .i64 xb] (by rfl) (by rfl) 38 #[.int .i64 0, .int .i64 0] b12x32 Rc.info38 rfl (by simp [Value.oneCell'])) ?_
                            obtain ⟨w33x, hw33x⟩ : ∃ w33x, w33x = w32x.setRow g12x29 #[.int .i64 xa, .int .i64 xb] := ⟨_, rfl⟩
                            have s33x : Below wr.heap.size wr w33x := by rw [hw33x]; exact below_setRow s32x l12x _
                            have b12x33 : Has w33x g12x29 38 [.int .i64 xa, .int .i64 xb] := by rw [hw33x]; exact setRow_heap _ g12x29 _ _ 38 (0, 0) b12x32
                            have b13x33 : Has w33x g13x32 38 [.int .i64 0, .int .i64 0] := by rw [hw33x]; exact (setRow_other _ g12x29 g13x32 _ ne12x.symm).trans b13x32
                            rw [← hw33x]
                            clear hw33x
                            rw [d14]
                            simp only [Act.put]
                            refine hK.out _ _ (KP.out _ s33x) (fun hHeld => ?_)
                            clear hK K
                            refine wpAnyH_ready (rs := [15]) (by rw [hops]; kernel_rfl) (by simp) ?_
                            refine (AllReadyH.cons h15 (fun K hK => ?_) AllReadyH.nil)
                            · rw [if_pos (wanted_none g15)]
                              refine wp_runS (run_op_store_row 38 _ _ p15 g13x32 #[.int .i64 ya, .int .i64 yb] (by rfl) (by rfl) 38 #[.int .i64 0, .int .i64 0] b13x33 Rc.info38 rfl (by simp [Value.oneCell'])) ?_
                              obtain ⟨w34x, hw34x⟩ : ∃ w34x, w34x = w33x.setRow g13x32 #[.int .i64 ya, .int .i64 yb] := ⟨_, rfl⟩
                              have s34x : Below wr.heap.size wr w34x := by rw [hw34x]; exact below_setRow s33x l13x _
                              have b13x34 : Has w34x g13x32 38 [.int .i64 ya, .int .i64 yb] := by rw [hw34x]; exact setRow_heap _ g13x32 _ _ 38 (0, 0) b13x33
                              have b12x34 : Has w34x g12x29 38 [.int .i64 xa, .int .i64 xb] := by rw [hw34x]; exact (setRow_other _ g13x32 g12x29 _ ne12x).trans b12x33
                              rw [← hw34x]
                              clear hw34x
                              rw [d15]
                              simp only [Act.put]
                              refine hK.out _ _ (KP.out _ s34x) (fun hHeld => ?_)
                              clear hK K
                              refine wpAnyH_done (by rw [hops]; kernel_rfl) (NoPanic.normal ?_) _
                              exact ⟨rfl, g12x29, g13x32, _, _, _, _, _, _, _, _, _, _, _, _, _, _, _, _, _, _, _, _, _, _, _, _, _, _, _, _, _, _, _, _, _, _, _, _, _, _, _, _, _, _, _, _, _, _, _, _, rfl, b12x34, b13x34, s34x⟩
                      · rw [if_pos (wanted_none g13)]
                        refine wp_runG (v := .pointer (some ⟨w30x.heap.size, 0, none⟩)) (w' := w30x.alloc (.cells #[.int .i64 0, .int .i64 0] 38)) (by unfold execOp; rw [p13]; first | rfl | kernel_rfl) ?_
                        obtain ⟨w35x, hw35x⟩ : ∃ w35x, w35x = w30x.alloc (.cells #[.int .i64 0, .int .i64 0] 38) := ⟨_, rfl⟩
                        have hb : Below w30x.heap.size w30x w35x := by rw [hw35x]; exact (Below.refl _ w30x).alloc (Nat.le_refl _) _
                        have s35x : Below wr.heap.size wr w35x := s30x.trans (hb.mono s30x.size)
                        have b13x35 : Has w35x w30x.heap.size 38 [.int .i64 0, .int .i64 0] := by rw [hw35x]; exact Has.new w30x _ _
                        have l13x : wr.heap.size ≤ w30x.heap.size := s30x.size
                        have ne12x : g12x29 ≠ w30x.heap.size := by have := b12x30.lt; omega
                        have b12x35 := b12x30.keep hb
                        rw [← hw35x]
                        clear hb hw35x
                        obtain ⟨g13x35, hg13x35⟩ : ∃ g13x35, w30x.heap.size = g13x35 := ⟨_, rfl⟩
                        rw [hg13x35] at b13x35 l13x ne12x ⊢
                        clear hg13x35
                        rw [d13]
                        simp only [Act.put, List.setIfInBounds_toArray, List.set_cons_zero, List.set_cons_succ]
                        refine hK.out _ _ (KP.out _ s35x) (fun hHeld => ?_)
                        clear hK K
                        refine wpAnyH_ready (rs := [11]) (by rw [hops]; kernel_rfl) (by simp) ?_
                        refine (AllReadyH.cons h11 (fun K hK => ?_) AllReadyH.nil)
                        · rw [if_pos (wanted_none g11)]
                          refine wp_call2 47 _ _ _ (.slice Ac nc cc) (.agg y.cells.toArray) p11 HEAT.out (by rfl) (by rfl) ?_
                          ((refine (HTY.out _ s35x).mono ?_); rintro e w36x ⟨rfl, hb⟩)
                          refine ⟨_, rfl, ?_⟩
                          have s36x : Below wr.heap.size wr w36x := s35x.trans (hb.mono s35x.size)
                          have b12x36 := b12x35.keep hb
                          have b13x36 := b13x35.keep hb
                          clear hb
                          rw [d11]
                          simp only [Act.put, List.setIfInBounds_toArray, List.set_cons_zero, List.set_cons_succ]
                          refine hK.out _ _ (KP.out _ s36x) (fun hHeld => ?_)
                          clear hK K
                          refine wpAnyH_ready (rs := [14]) (by rw [hops]; kernel_rfl) (by simp) ?_
                          refine (AllReadyH.cons h14 (fun K hK => ?_) AllReadyH.nil)
                          · rw [if_pos (wanted_none g14)]
                            refine wp_runS (run_op_store_row 38 _ _ p14 g12x29 #[.int .i64 xa, .int .i64 xb] (by rfl) (by rfl) 38 #[.int .i64 0, .int .i64 0] b12x36 Rc.info38 rfl (by simp [Value.oneCell'])) ?_
                            obtain ⟨w37x, hw37x⟩ : ∃ w37x, w37x = w36x.setRow g12x29 #[.int .i64 xa, .int .i64 xb] := ⟨_, rfl⟩
                            have s37x : Below wr.heap.size wr w37x := by rw [hw37x]; exact below_setRow s36x l12x _
                            have b12x37 : Has w37x g12x29 38 [.int .i64 xa, .int .i64 xb] := by rw [hw37x]; exact setRow_heap _ g12x29 _ _ 38 (0, 0) b12x36
                            have b13x37 : Has w37x g13x35 38 [.int .i64 0, .int .i64 0] := by rw [hw37x]; exact (setRow_other _ g12x29 g13x35 _ ne12x.symm).trans b13x36
                            rw [← hw37x]
                            clear hw37x
                            rw [d14]
                            simp only [Act.put]
                            refine hK.out _ _ (KP.out _ s37x) (fun hHeld => ?_)
                            clear hK K
                            refine wpAnyH_ready (rs := [15]) (by rw [hops]; kernel_rfl) (by simp) ?_
                            refine (AllReadyH.cons h15 (fun K hK => ?_) AllReadyH.nil)
                            · rw [if_pos (wanted_none g15)]
                              refine wp_runS (run_op_store_row 38 _ _ p15 g13x35 #[.int .i64 ya, .int .i64 yb] (by rfl) (by rfl) 38 #[.int .i64 0, .int .i64 0] b13x37 Rc.info38 rfl (by simp [Value.oneCell'])) ?_
                              obtain ⟨w38x, hw38x⟩ : ∃ w38x, w38x = w37x.setRow g13x35 #[.int .i64 ya, .int .i64 yb] := ⟨_, rfl⟩
                              have s38x : Below wr.heap.size wr w38x := by rw [hw38x]; exact below_setRow s37x l13x _
                              have b13x38 : Has w38x g13x35 38 [.int .i64 ya, .int .i64 yb] := by rw [hw38x]; exact setRow_heap _ g13x35 _ _ 38 (0, 0) b13x37
                              have b12x38 : Has w38x g12x29 38 [.int .i64 xa, .int .i64 xb] := by rw [hw38x]; exact (setRow_other _ g13x35 g12x29 _ ne12x).trans b12x37
                              rw [← hw38x]
                              clear hw38x
                              rw [d15]
                              simp only [Act.put]
                              refine hK.out _ _ (KP.out _ s38x) (fun hHeld => ?_)
                              clear hK K
                              refine wpAnyH_done (by rw [hops]; kernel_rfl) (NoPanic.normal ?_) _
                              exact ⟨rfl, g12x29, g13x35, _, _, _, _, _, _, _, _, _, _, _, _, _, _, _, _, _, _, _, _, _, _, _, _, _, _, _, _, _, _, _, _, _, _, _, _, _, _, _, _, _, _, _, _, _, _, _, _, rfl, b12x38, b13x38, s38x⟩
                    · rw [if_pos (wanted_none g13)]
                      refine wp_runG (v := .pointer (some ⟨w29x.heap.size, 0, none⟩)) (w' := w29x.alloc (.cells #[.int .i64 0, .int .i64 0] 38)) (by unfold execOp; rw [p13]; first | rfl | kernel_rfl) ?_
                      obtain ⟨w39x, hw39x⟩ : ∃ w39x, w39x = w29x.alloc (.cells #[.int .i64 0, .int .i64 0] 38) := ⟨_, rfl⟩
                      have hb : Below w29x.heap.size w29x w39x := by rw [hw39x]; exact (Below.refl _ w29x).alloc (Nat.le_refl _) _
                      have s39x : Below wr.heap.size wr w39x := s29x.trans (hb.mono s29x.size)
                      have b13x39 : Has w39x w29x.heap.size 38 [.int .i64 0, .int .i64 0] := by rw [hw39x]; exact Has.new w29x _ _
                      have l13x : wr.heap.size ≤ w29x.heap.size := s29x.size
                      have ne12x : g12x29 ≠ w29x.heap.size := by have := b12x29.lt; omega
                      have b12x39 := b12x29.keep hb
                      rw [← hw39x]
                      clear hb hw39x
                      obtain ⟨g13x39, hg13x39⟩ : ∃ g13x39, w29x.heap.size = g13x39 := ⟨_, rfl⟩
                      rw [hg13x39] at b13x39 l13x ne12x ⊢
                      clear hg13x39
                      rw [d13]
                      simp only [Act.put, List.setIfInBounds_toArray, List.set_cons_zero, List.set_cons_succ]
                      refine hK.out _ _ (KP.out _ s39x) (fun hHeld => ?_)
                      clear hK K
                      refine wpAnyH_ready (rs := [5]) (by rw [hops]; kernel_rfl) (by simp) ?_
                      refine (AllReadyH.cons h5 (fun K hK => ?_) AllReadyH.nil)
                      · rw [if_pos (wanted_none g5)]
                        refine wp_call2 47 _ _ _ (.slice Ac nc cc) (.agg x.cells.toArray) p5 HEAT.out (by rfl) (by rfl) ?_
                        ((refine (HTX.out _ s39x).mono ?_); rintro e w40x ⟨rfl, hb⟩)
                        refine ⟨_, rfl, ?_⟩
                        have s40x : Below wr.heap.size wr w40x := s39x.trans (hb.mono s39x.size)
                        have b12x40 := b12x39.keep hb
                        have b13x40 := b13x39.keep hb
                        clear hb
                        rw [d5]
                        simp only [Act.put, List.setIfInBounds_toArray, List.set_cons_zero, List.set_cons_succ]
                        refine hK.out _ _ (KP.out _ s40x) (fun hHeld => ?_)
                        clear hK K
                        refine wpAnyH_ready (rs := [11]) (by rw [hops]; kernel_rfl) (by simp) ?_
                        refine (AllReadyH.cons h11 (fun K hK => ?_) AllReadyH.nil)
                        · rw [if_pos (wanted_none g11)]
                          refine wp_call2 47 _ _ _ (.slice Ac nc cc) (.agg y.cells.toArray) p11 HEAT.out (by rfl) (by rfl) ?_
                          ((refine (HTY.out _ s40x).mono ?_); rintro e w41x ⟨rfl, hb⟩)
                          refine ⟨_, rfl, ?_⟩
                          have s41x : Below wr.heap.size wr w41x := s40x.trans (hb.mono s40x.size)
                          have b12x41 := b12x40.keep hb
                          have b13x41 := b13x40.keep hb
                          clear hb
                          rw [d11]
                          simp only [Act.put, List.setIfInBounds_toArray, List.set_cons_zero, List.set_cons_succ]
                          refine hK.out _ _ (KP.out _ s41x) (fun hHeld => ?_)
                          clear hK K
                          refine wpAnyH_ready (rs := [14]) (by rw [hops]; kernel_rfl) (by simp) ?_
                          refine (AllReadyH.cons h14 (fun K hK => ?_) AllReadyH.nil)
                          · rw [if_pos (wanted_none g14)]
                            refine wp_runS (run_op_store_row 38 _ _ p14 g12x29 #[.int .i64 xa, .int .i64 xb] (by rfl) (by rfl) 38 #[.int .i64 0, .int .i64 0] b12x41 Rc.info38 rfl (by simp [Value.oneCell'])) ?_
                            obtain ⟨w42x, hw42x⟩ : ∃ w42x, w42x = w41x.setRow g12x29 #[.int .i64 xa, .int .i64 xb] := ⟨_, rfl⟩
                            have s42x : Below wr.heap.size wr w42x := by rw [hw42x]; exact below_setRow s41x l12x _
                            have b12x42 : Has w42x g12x29 38 [.int .i64 xa, .int .i64 xb] := by rw [hw42x]; exact setRow_heap _ g12x29 _ _ 38 (0, 0) b12x41
                            have b13x42 : Has w42x g13x39 38 [.int .i64 0, .int .i64 0] := by rw [hw42x]; exact (setRow_other _ g12x29 g13x39 _ ne12x.symm).trans b13x41
                            rw [← hw42x]
                            clear hw42x
                            rw [d14]
                            simp only [Act.put]
                            refine hK.out _ _ (KP.out _ s42x) (fun hHeld => ?_)
                            clear hK K
                            refine wpAnyH_ready (rs := [15]) (by rw [hops]; kernel_rfl) (by simp) ?_
                            refine (AllReadyH.cons h15 (fun K hK => ?_) AllReadyH.nil)
                            · rw [if_pos (wanted_none g15)]
                              refine wp_runS (run_op_store_row 38 _ _ p15 g13x39 #[.int .i64 ya, .int .i64 yb] (by rfl) (by rfl) 38 #[.int .i64 0, .int .i64 0] b13x42 Rc.info38 rfl (by simp [Value.oneCell'])) ?_
                              obtain ⟨w43x, hw43x⟩ : ∃ w43x, w43x = w42x.setRow g13x39 #[.int .i64 ya, .int .i64 yb] := ⟨_, rfl⟩
                              have s43x : Below wr.heap.size wr w43x := by rw [hw43x]; exact below_setRow s42x l13x _
                              have b13x43 : Has w43x g13x39 38 [.int .i64 ya, .int .i64 yb] := by rw [hw43x]; exact setRow_heap _ g13x39 _ _ 38 (0, 0) b13x42
                              have b12x43 : Has w43x g12x29 38 [.int .i64 xa, .int .i64 xb] := by rw [hw43x]; exact (setRow_other _ g13x39 g12x29 _ ne12x).trans b12x42
                              rw [← hw43x]
                              clear hw43x
                              rw [d15]
                              simp only [Act.put]
                              refine hK.out _ _ (KP.out _ s43x) (fun hHeld => ?_)
                              clear hK K
                              refine wpAnyH_done (by rw [hops]; kernel_rfl) (NoPanic.normal ?_) _
                              exact ⟨rfl, g12x29, g13x39, _, _, _, _, _, _, _, _, _, _, _, _, _, _, _, _, _, _, _, _, _, _, _, _, _, _, _, _, _, _, _, _, _, _, _, _, _, _, _, _, _, _, _, _, _, _, _, _, rfl, b12x43, b13x43, s43x⟩
                  · rw [if_pos (wanted_none g13)]
                    refine wp_runG (v := .pointer (some ⟨wr.drew.heap.size, 0, none⟩)) (w' := wr.drew.alloc (.cells #[.int .i64 0, .int .i64 0] 38)) (by unfold execOp; rw [p13]; first | rfl | kernel_rfl) ?_
                    obtain ⟨w44x, hw44x⟩ : ∃ w44x, w44x = wr.drew.alloc (.cells #[.int .i64 0, .int .i64 0] 38) := ⟨_, rfl⟩
                    have hb : Below wr.drew.heap.size wr.drew w44x := by rw [hw44x]; exact (Below.refl _ wr.drew).alloc (Nat.le_refl _) _
                    have s44x : Below wr.heap.size wr w44x := s0.trans (hb.mono s0.size)
                    have b13x44 : Has w44x wr.drew.heap.size 38 [.int .i64 0, .int .i64 0] := by rw [hw44x]; exact Has.new wr.drew _ _
                    have l13x : wr.heap.size ≤ wr.drew.heap.size := s0.size
                    rw [← hw44x]
                    clear hb hw44x
                    obtain ⟨g13x44, hg13x44⟩ : ∃ g13x44, wr.drew.heap.size = g13x44 := ⟨_, rfl⟩
                    rw [hg13x44] at b13x44 l13x  ⊢
                    clear hg13x44
                    rw [d13]
                    simp only [Act.put, List.setIfInBounds_toArray, List.set_cons_zero, List.set_cons_succ]
                    refine hK.out _ _ (KP.out _ s44x) (fun hHeld => ?_)
                    clear hK K
                    refine wpAnyH_ready (rs := [5, 12]) (by rw [hops]; kernel_rfl) (by simp) ?_
                    refine (AllReadyH.cons h5 (fun K hK => ?_) (AllReadyH.cons h12 (fun K hK => ?_) AllReadyH.nil))
                    · rw [if_pos (wanted_none g5)]
                      refine wp_call2 47 _ _ _ (.slice Ac nc cc) (.agg x.cells.toArray) p5 HEAT.out (by rfl) (by rfl) ?_
                      ((refine (HTX.out _ s44x).mono ?_); rintro e w45x ⟨rfl, hb⟩)
                      refine ⟨_, rfl, ?_⟩
                      have s45x : Below wr.heap.size wr w45x := s44x.trans (hb.mono s44x.size)
                      have b13x45 := b13x44.keep hb
                      clear hb
                      rw [d5]
                      simp only [Act.put, List.setIfInBounds_toArray, List.set_cons_zero, List.set_cons_succ]
                      refine hK.out _ _ (KP.out _ s45x) (fun hHeld => ?_)
                      clear hK K
                      refine wpAnyH_ready (rs := [11, 12]) (by rw [hops]; kernel_rfl) (by simp) ?_
                      refine (AllReadyH.cons h11 (fun K hK => ?_) (AllReadyH.cons h12 (fun K hK => ?_) AllReadyH.nil))
                      · rw [if_pos (wanted_none g11)]
                        refine wp_call2 47 _ _ _ (.slice Ac nc cc) (.agg y.cells.toArray) p11 HEAT.out (by rfl) (by rfl) ?_
                        ((refine (HTY.out _ s45x).mono ?_); rintro e w46x ⟨rfl, hb⟩)
                        refine ⟨_, rfl, ?_⟩
                        have s46x : Below wr.heap.size wr w46x := s45x.trans (hb.mono s45x.size)
                        have b13x46 := b13x45.keep hb
                        clear hb
                        rw [d11]
                        simp only [Act.put, List.setIfInBounds_toArray, List.set_cons_zero, List.set_cons_succ]
                        refine hK.out _ _ (KP.out _ s46x) (fun hHeld => ?_)
                        clear hK K
                        refine wpAnyH_ready (rs := [12]) (by rw [hops]; kernel_rfl) (by simp) ?_
                        refine (AllReadyH.cons h12 (fun K hK => ?_) AllReadyH.nil)
                        · rw [if_pos (wanted_none g12)]
                          refine wp_runG (v := .pointer (some ⟨w46x.heap.size, 0, none⟩)) (w' := w46x.alloc (.cells #[.int .i64 0, .int .i64 0] 38)) (by unfold execOp; rw [p12]; first | rfl | kernel_rfl) ?_
                          obtain ⟨w47x, hw47x⟩ : ∃ w47x, w47x = w46x.alloc (.cells #[.int .i64 0, .int .i64 0] 38) := ⟨_, rfl⟩
                          have hb : Below w46x.heap.size w46x w47x := by rw [hw47x]; exact (Below.refl _ w46x).alloc (Nat.le_refl _) _
                          have s47x : Below wr.heap.size wr w47x := s46x.trans (hb.mono s46x.size)
                          have b12x47 : Has w47x w46x.heap.size 38 [.int .i64 0, .int .i64 0] := by rw [hw47x]; exact Has.new w46x _ _
                          have l12x : wr.heap.size ≤ w46x.heap.size := s46x.size
                          have ne13x : g13x44 ≠ w46x.heap.size := by have := b13x46.lt; omega
                          have b13x47 := b13x46.keep hb
                          rw [← hw47x]
                          clear hb hw47x
                          obtain ⟨g12x47, hg12x47⟩ : ∃ g12x47, w46x.heap.size = g12x47 := ⟨_, rfl⟩
                          rw [hg12x47] at b12x47 l12x ne13x ⊢
                          clear hg12x47
                          rw [d12]
                          simp only [Act.put, List.setIfInBounds_toArray, List.set_cons_zero, List.set_cons_succ]
                          refine hK.out _ _ (KP.out _ s47x) (fun hHeld => ?_)
                          clear hK K
                          refine wpAnyH_ready (rs := [14]) (by rw [hops]; kernel_rfl) (by simp) ?_
                          refine (AllReadyH.cons h14 (fun K hK => ?_) AllReadyH.nil)
                          · rw [if_pos (wanted_none g14)]
                            refine wp_runS (run_op_store_row 38 _ _ p14 g12x47 #[.int .i64 xa, .int .i64 xb] (by rfl) (by rfl) 38 #[.int .i64 0, .int .i64 0] b12x47 Rc.info38 rfl (by simp [Value.oneCell'])) ?_
                            obtain ⟨w48x, hw48x⟩ : ∃ w48x, w48x = w47x.setRow g12x47 #[.int .i64 xa, .int .i64 xb] := ⟨_, rfl⟩
                            have s48x : Below wr.heap.size wr w48x := by rw [hw48x]; exact below_setRow s47x l12x _
                            have b12x48 : Has w48x g12x47 38 [.int .i64 xa, .int .i64 xb] := by rw [hw48x]; exact setRow_heap _ g12x47 _ _ 38 (0, 0) b12x47
                            have b13x48 : Has w48x g13x44 38 [.int .i64 0, .int .i64 0] := by rw [hw48x]; exact (setRow_other _ g12x47 g13x44 _ ne13x).trans b13x47
                            rw [← hw48x]
                            clear hw48x
                            rw [d14]
                            simp only [Act.put]
                            refine hK.out _ _ (KP.out _ s48x) (fun hHeld => ?_)
                            clear hK K
                            refine wpAnyH_ready (rs := [15]) (by rw [hops]; kernel_rfl) (by simp) ?_
                            refine (AllReadyH.cons h15 (fun K hK => ?_) AllReadyH.nil)
                            · rw [if_pos (wanted_none g15)]
                              refine wp_runS (run_op_store_row 38 _ _ p15 g13x44 #[.int .i64 ya, .int .i64 yb] (by rfl) (by rfl) 38 #[.int .i64 0, .int .i64 0] b13x48 Rc.info38 rfl (by simp [Value.oneCell'])) ?_
                              obtain ⟨w49x, hw49x⟩ : ∃ w49x, w49x = w48x.setRow g13x44 #[.int .i64 ya, .int .i64 yb] := ⟨_, rfl⟩
                              have s49x : Below wr.heap.size wr w49x := by rw [hw49x]; exact below_setRow s48x l13x _
                              have b13x49 : Has w49x g13x44 38 [.int .i64 ya, .int .i64 yb] := by rw [hw49x]; exact setRow_heap _ g13x44 _ _ 38 (0, 0) b13x48
                              have b12x49 : Has w49x g12x47 38 [.int .i64 xa, .int .i64 xb] := by rw [hw49x]; exact (setRow_other _ g13x44 g12x47 _ ne13x.symm).trans b12x48
                              rw [← hw49x]
                              clear hw49x
                              rw [d15]
                              simp only [Act.put]
                              refine hK.out _ _ (KP.out _ s49x) (fun hHeld => ?_)
                              clear hK K
                              refine wpAnyH_done (by rw [hops]; kernel_rfl) (NoPanic.normal ?_) _
                              exact ⟨rfl, g12x47, g13x44, _, _, _, _, _, _, _, _, _, _, _, _, _, _, _, _, _, _, _, _, _, _, _, _, _, _, _, _, _, _, _, _, _, _, _, _, _, _, _, _, _, _, _, _, _, _, _, _, rfl, b12x49, b13x49, s49x⟩
                      · rw [if_pos (wanted_none g12)]
                        refine wp_runG (v := .pointer (some ⟨w45x.heap.size, 0, none⟩)) (w' := w45x.alloc (.cells #[.int .i64 0, .int .i64 0] 38)) (by unfold execOp; rw [p12]; first | rfl | kernel_rfl) ?_
                        obtain ⟨w50x, hw50x⟩ : ∃ w50x, w50x = w45x.alloc (.cells #[.int .i64 0, .int .i64 0] 38) := ⟨_, rfl⟩
                        have hb : Below w45x.heap.size w45x w50x := by rw [hw50x]; exact (Below.refl _ w45x).alloc (Nat.le_refl _) _
                        have s50x : Below wr.heap.size wr w50x := s45x.trans (hb.mono s45x.size)
                        have b12x50 : Has w50x w45x.heap.size 38 [.int .i64 0, .int .i64 0] := by rw [hw50x]; exact Has.new w45x _ _
                        have l12x : wr.heap.size ≤ w45x.heap.size := s45x.size
                        have ne13x : g13x44 ≠ w45x.heap.size := by have := b13x45.lt; omega
                        have b13x50 := b13x45.keep hb
                        rw [← hw50x]
                        clear hb hw50x
                        obtain ⟨g12x50, hg12x50⟩ : ∃ g12x50, w45x.heap.size = g12x50 := ⟨_, rfl⟩
                        rw [hg12x50] at b12x50 l12x ne13x ⊢
                        clear hg12x50
                        rw [d12]
                        simp only [Act.put, List.setIfInBounds_toArray, List.set_cons_zero, List.set_cons_succ]
                        refine hK.out _ _ (KP.out _ s50x) (fun hHeld => ?_)
                        clear hK K
                        refine wpAnyH_ready (rs := [11]) (by rw [hops]; kernel_rfl) (by simp) ?_
                        refine (AllReadyH.cons h11 (fun K hK => ?_) AllReadyH.nil)
                        · rw [if_pos (wanted_none g11)]
                          refine wp_call2 47 _ _ _ (.slice Ac nc cc) (.agg y.cells.toArray) p11 HEAT.out (by rfl) (by rfl) ?_
                          ((refine (HTY.out _ s50x).mono ?_); rintro e w51x ⟨rfl, hb⟩)
                          refine ⟨_, rfl, ?_⟩
                          have s51x : Below wr.heap.size wr w51x := s50x.trans (hb.mono s50x.size)
                          have b13x51 := b13x50.keep hb
                          have b12x51 := b12x50.keep hb
                          clear hb
                          rw [d11]
                          simp only [Act.put, List.setIfInBounds_toArray, List.set_cons_zero, List.set_cons_succ]
                          refine hK.out _ _ (KP.out _ s51x) (fun hHeld => ?_)
                          clear hK K
                          refine wpAnyH_ready (rs := [14]) (by rw [hops]; kernel_rfl) (by simp) ?_
                          refine (AllReadyH.cons h14 (fun K hK => ?_) AllReadyH.nil)
                          · rw [if_pos (wanted_none g14)]
                            refine wp_runS (run_op_store_row 38 _ _ p14 g12x50 #[.int .i64 xa, .int .i64 xb] (by rfl) (by rfl) 38 #[.int .i64 0, .int .i64 0] b12x51 Rc.info38 rfl (by simp [Value.oneCell'])) ?_
                            obtain ⟨w52x, hw52x⟩ : ∃ w52x, w52x = w51x.setRow g12x50 #[.int .i64 xa, .int .i64 xb] := ⟨_, rfl⟩
                            have s52x : Below wr.heap.size wr w52x := by rw [hw52x]; exact below_setRow s51x l12x _
                            have b12x52 : Has w52x g12x50 38 [.int .i64 xa, .int .i64 xb] := by rw [hw52x]; exact setRow_heap _ g12x50 _ _ 38 (0, 0) b12x51
                            have b13x52 : Has w52x g13x44 38 [.int .i64 0, .int .i64 0] := by rw [hw52x]; exact (setRow_other _ g12x50 g13x44 _ ne13x).trans b13x51
                            rw [← hw52x]
                            clear hw52x
                            rw [d14]
                            simp only [Act.put]
                            refine hK.out _ _ (KP.out _ s52x) (fun hHeld => ?_)
                            clear hK K
                            refine wpAnyH_ready (rs := [15]) (by rw [hops]; kernel_rfl) (by simp) ?_
                            refine (AllReadyH.cons h15 (fun K hK => ?_) AllReadyH.nil)
                            · rw [if_pos (wanted_none g15)]
                              refine wp_runS (run_op_store_row 38 _ _ p15 g13x44 #[.int .i64 ya, .int .i64 yb] (by rfl) (by rfl) 38 #[.int .i64 0, .int .i64 0] b13x52 Rc.info38 rfl (by simp [Value.oneCell'])) ?_
                              obtain ⟨w53x, hw53x⟩ : ∃ w53x, w53x = w52x.setRow g13x44 #[.int .i64 ya, .int .i64 yb] := ⟨_, rfl⟩
                              have s53x : Below wr.heap.size wr w53x := by rw [hw53x]; exact below_setRow s52x l13x _
                              have b13x53 : Has w53x g13x44 38 [.int .i64 ya, .int .i64 yb] := by rw [hw53x]; exact setRow_heap _ g13x44 _ _ 38 (0, 0) b13x52
                              have b12x53 : Has w53x g12x50 38 [.int .i64 xa, .int .i64 xb] := by rw [hw53x]; exact (setRow_other _ g13x44 g12x50 _ ne13x.symm).trans b12x52
                              rw [← hw53x]
                              clear hw53x
                              rw [d15]
                              simp only [Act.put]
                              refine hK.out _ _ (KP.out _ s53x) (fun hHeld => ?_)
                              clear hK K
                              refine wpAnyH_done (by rw [hops]; kernel_rfl) (NoPanic.normal ?_) _
                              exact ⟨rfl, g12x50, g13x44, _, _, _, _, _, _, _, _, _, _, _, _, _, _, _, _, _, _, _, _, _, _, _, _, _, _, _, _, _, _, _, _, _, _, _, _, _, _, _, _, _, _, _, _, _, _, _, _, rfl, b12x53, b13x53, s53x⟩
                    · rw [if_pos (wanted_none g12)]
                      refine wp_runG (v := .pointer (some ⟨w44x.heap.size, 0, none⟩)) (w' := w44x.alloc (.cells #[.int .i64 0, .int .i64 0] 38)) (by unfold execOp; rw [p12]; first | rfl | kernel_rfl) ?_
                      obtain ⟨w54x, hw54x⟩ : ∃ w54x, w54x = w44x.alloc (.cells #[.int .i64 0, .int .i64 0] 38) := ⟨_, rfl⟩
                      have hb : Below w44x.heap.size w44x w54x := by rw [hw54x]; exact (Below.refl _ w44x).alloc (Nat.le_refl _) _
                      have s54x : Below wr.heap.size wr w54x := s44x.trans (hb.mono s44x.size)
                      have b12x54 : Has w54x w44x.heap.size 38 [.int .i64 0, .int .i64 0] := by rw [hw54x]; exact Has.new w44x _ _
                      have l12x : wr.heap.size ≤ w44x.heap.size := s44x.size
                      have ne13x : g13x44 ≠ w44x.heap.size := by have := b13x44.lt; omega
                      have b13x54 := b13x44.keep hb
                      rw [← hw54x]
                      clear hb hw54x
                      obtain ⟨g12x54, hg12x54⟩ : ∃ g12x54, w44x.heap.size = g12x54 := ⟨_, rfl⟩
                      rw [hg12x54] at b12x54 l12x ne13x ⊢
                      clear hg12x54
                      rw [d12]
                      simp only [Act.put, List.setIfInBounds_toArray, List.set_cons_zero, List.set_cons_succ]
                      refine hK.out _ _ (KP.out _ s54x) (fun hHeld => ?_)
                      clear hK K
                      refine wpAnyH_ready (rs := [5]) (by rw [hops]; kernel_rfl) (by simp) ?_
                      refine (AllReadyH.cons h5 (fun K hK => ?_) AllReadyH.nil)
                      · rw [if_pos (wanted_none g5)]
                        refine wp_call2 47 _ _ _ (.slice Ac nc cc) (.agg x.cells.toArray) p5 HEAT.out (by rfl) (by rfl) ?_
                        ((refine (HTX.out _ s54x).mono ?_); rintro e w55x ⟨rfl, hb⟩)
                        refine ⟨_, rfl, ?_⟩
                        have s55x : Below wr.heap.size wr w55x := s54x.trans (hb.mono s54x.size)
                        have b13x55 := b13x54.keep hb
                        have b12x55 := b12x54.keep hb
                        clear hb
                        rw [d5]
                        simp only [Act.put, List.setIfInBounds_toArray, List.set_cons_zero, List.set_cons_succ]
                        refine hK.out _ _ (KP.out _ s55x) (fun hHeld => ?_)
                        clear hK K
                        refine wpAnyH_ready (rs := [11]) (by rw [hops]; kernel_rfl) (by simp) ?_
                        refine (AllReadyH.cons h11 (fun K hK => ?_) AllReadyH.nil)
                        · rw [if_pos (wanted_none g11)]
                          refine wp_call2 47 _ _ _ (.slice Ac nc cc) (.agg y.cells.toArray) p11 HEAT.out (by rfl) (by rfl) ?_
                          ((refine (HTY.out _ s55x).mono ?_); rintro e w56x ⟨rfl, hb⟩)
                          refine ⟨_, rfl, ?_⟩
                          have s56x : Below wr.heap.size wr w56x := s55x.trans (hb.mono s55x.size)
                          have b13x56 := b13x55.keep hb
                          have b12x56 := b12x55.keep hb
                          clear hb
                          rw [d11]
                          simp only [Act.put, List.setIfInBounds_toArray, List.set_cons_zero, List.set_cons_succ]
                          refine hK.out _ _ (KP.out _ s56x) (fun hHeld => ?_)
                          clear hK K
                          refine wpAnyH_ready (rs := [14]) (by rw [hops]; kernel_rfl) (by simp) ?_
                          refine (AllReadyH.cons h14 (fun K hK => ?_) AllReadyH.nil)
                          · rw [if_pos (wanted_none g14)]
                            refine wp_runS (run_op_store_row 38 _ _ p14 g12x54 #[.int .i64 xa, .int .i64 xb] (by rfl) (by rfl) 38 #[.int .i64 0, .int .i64 0] b12x56 Rc.info38 rfl (by simp [Value.oneCell'])) ?_
                            obtain ⟨w57x, hw57x⟩ : ∃ w57x, w57x = w56x.setRow g12x54 #[.int .i64 xa, .int .i64 xb] := ⟨_, rfl⟩
                            have s57x : Below wr.heap.size wr w57x := by rw [hw57x]; exact below_setRow s56x l12x _
                            have b12x57 : Has w57x g12x54 38 [.int .i64 xa, .int .i64 xb] := by rw [hw57x]; exact setRow_heap _ g12x54 _ _ 38 (0, 0) b12x56
                            have b13x57 : Has w57x g13x44 38 [.int .i64 0, .int .i64 0] := by rw [hw57x]; exact (setRow_other _ g12x54 g13x44 _ ne13x).trans b13x56
                            rw [← hw57x]
                            clear hw57x
                            rw [d14]
                            simp only [Act.put]
                            refine hK.out _ _ (KP.out _ s57x) (fun hHeld => ?_)
                            clear hK K
                            refine wpAnyH_ready (rs := [15]) (by rw [hops]; kernel_rfl) (by simp) ?_
                            refine (AllReadyH.cons h15 (fun K hK => ?_) AllReadyH.nil)
                            · rw [if_pos (wanted_none g15)]
                              refine wp_runS (run_op_store_row 38 _ _ p15 g13x44 #[.int .i64 ya, .int .i64 yb] (by rfl) (by rfl) 38 #[.int .i64 0, .int .i64 0] b13x57 Rc.info38 rfl (by simp [Value.oneCell'])) ?_
                              obtain ⟨w58x, hw58x⟩ : ∃ w58x, w58x = w57x.setRow g13x44 #[.int .i64 ya, .int .i64 yb] := ⟨_, rfl⟩
                              have s58x : Below wr.heap.size wr w58x := by rw [hw58x]; exact below_setRow s57x l13x _
                              have b13x58 : Has w58x g13x44 38 [.int .i64 ya, .int .i64 yb] := by rw [hw58x]; exact setRow_heap _ g13x44 _ _ 38 (0, 0) b13x57
                              have b12x58 : Has w58x g12x54 38 [.int .i64 xa, .int .i64 xb] := by rw [hw58x]; exact (setRow_other _ g13x44 g12x54 _ ne13x.symm).trans b12x57
                              rw [← hw58x]
                              clear hw58x
                              rw [d15]
                              simp only [Act.put]
                              refine hK.out _ _ (KP.out _ s58x) (fun hHeld => ?_)
                              clear hK K
                              refine wpAnyH_done (by rw [hops]; kernel_rfl) (NoPanic.normal ?_) _
                              exact ⟨rfl, g12x54, g13x44, _, _, _, _, _, _, _, _, _, _, _, _, _, _, _, _, _, _, _, _, _, _, _, _, _, _, _, _, _, _, _, _, _, _, _, _, _, _, _, _, _, _, _, _, _, _, _, _, rfl, b12x58, b13x58, s58x⟩
                case tail =>
                  rintro e a' W5 ⟨rfl, ga, gb, u33x, u34x, u35x, u36x, u37x, u38x, u39x, u40x, u41x, u42x, u43x, u44x, u45x, u46x, u47x, u48x, u49x, u50x, u51x, u52x, u53x, u54x, u55x, u56x, u57x, u58x, u59x, u60x, u61x, u62x, u63x, u64x, u65x, u66x, u67x, u68x, u69x, u70x, u71x, u72x, u73x, u74x, u75x, u76x, u77x, u78x, u79x, u80x, rfl, hA, hBk, hB5⟩
                  obtain ⟨za, a0, a1⟩ := hA.r2
                  obtain ⟨zb, b0, b1⟩ := hBk.r2
                  have HB5 := Lib.hid (HB.out.trans (hB5.mono HB.out.size))
                  clear hA hBk hB5 HTX HTY KP HEAT HS24 HI47x HI47y
                  by_cases h1 : xb < ya
                  · have hd1 : decide (xb < ya) = true := decide_eq_true h1
                    have HW := Lib.hid (HYS.out (by rw [HBE.out, decide_eq_true h1]; rfl))
                    clear h1
                    go_wp2_with fail
                    refine bodyPost_ret (v := .tuple #[.int .i64 (k : Int), .int .i64 (j : Int), .bool true, .int .i64 0]) (by simp [results, Tryd.results19, go_sem]) rfl ⟨by rw [HW.out], HB5.out⟩
                  · have hd1 : decide (xb < ya) = false := decide_eq_false h1
                    by_cases h2 : yb < xa
                    · have hd2 : decide (yb < xa) = true := decide_eq_true h2
                      have HW := Lib.hid (HYS.out (by rw [HBE.out, decide_eq_true h2, Bool.or_true]))
                      clear h1 h2
                      go_wp2_with fail
                      refine bodyPost_ret (v := .tuple #[.int .i64 (k : Int), .int .i64 (j : Int), .bool true, .int .i64 0]) (by simp [results, Tryd.results19, go_sem]) rfl ⟨by rw [HW.out], HB5.out⟩
                    · have hd2 : decide (yb < xa) = false := decide_eq_false h2
                      have HX2 := Lib.hid (HNX.out (by rw [HBE.out, decide_eq_false h1, decide_eq_false h2]; rfl))
                      clear h1 h2
                      go_wp2_with fail
                      exact ⟨⟨j + 1, by omega, by omega, by go_num, HX2.out, HB5.out⟩, by simp [intOf]; omega⟩
              · have hq2 : (y.no == no) = false := by simpa using hyn
                have HX2 := Lib.hid (HNX.out (by rw [HBD.out, decide_eq_false hyn, Bool.false_and, Bool.and_false]))
                clear hxn hyn HBD
                go_wp2_with fail
                exact ⟨⟨j + 1, by omega, by omega, by go_num, HX2.out, HB.out⟩, by simp [intOf]; omega⟩
            · have hq1 : (x.no == no) = false := by simpa using hxn
              have HX2 := Lib.hid (HNX.out (by rw [HBD.out, decide_eq_false hxn, Bool.false_and]))
              clear hxn HBD
              go_wp2_with fail
              exact ⟨⟨j + 1, by omega, by omega, by go_num, HX2.out, HB.out⟩, by simp [intOf]; omega⟩
          · obtain rfl : j = nl := by omega
            have HA2 := Lib.hid (show ∀ a' b', a' < k + 1 → a' < b' → b' < l.length → Rc.bd c l no a' b' = false from fun a' b' h1 h2 h3 => by
              by_cases he : a' = k
              · subst he; exact HBJ.out b' h2 (by omega)
              · exact HA.out a' b' (by omega) h2 h3)
            go_wp2_with fail
            exact ⟨⟨k + 1, by omega, by go_num, HA2.out, HB.out⟩, by simp [intOf]; omega⟩
      · obtain rfl : k = nl := by omega
        have HW := Lib.hid (Rc.confV_no (Rc.conf_no (c := c) (l := l) (no := no) (fun a b h1 h2 => HA.out a b (by omega) h1 h2)))
        clear HA
        go_wp2_with fail
        refine bodyPost_ret (v := .tuple #[.int .i64 0, .int .i64 0, .bool false, .int .i64 0]) (by simp [results, Tryd.results19, go_sem]) rfl ⟨by rw [HW.out], HB.out⟩
  · have hd : (E != 0) = true := by simpa using hE0
    have HW := Lib.hid (Rc.confV_err (Rc.ofs c l no) hE0)
    clear hrf hE0
    go_enter Tryd.func19, Tryd.ntmps19
    go_wp2_with fail
    ((with_reducible refine HC.out.mono ?_); rintro e w2 ⟨rfl, hb2⟩)
    have HB2 := Lib.hid hb2
    clear hb2
    go_wp2_with fail
    refine bodyPost_ret (v := .tuple #[.int .i64 0, .int .i64 0, .bool false, .int .i64 E]) (by simp [results, Tryd.results19, go_sem]) rfl ⟨by rw [HW.out], HB2.out⟩
end Go.Proofs.YtnbbleajbbgmjaaDoor
