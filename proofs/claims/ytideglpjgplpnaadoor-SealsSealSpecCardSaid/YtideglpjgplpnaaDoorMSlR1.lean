import Derived.Test.YtideglpjgplpnaaDoorMSlW5
import Derived.Test.YtideglpjgplpnaaDoorMSlW1
import Derived.Test.YtideglpjgplpnaaDoorMCdW7o
import Derived.Test.YtideglpjgplpnaaDoorMDgR3
/- The reference's Mark and Commit. -/
namespace Go.Proofs.YtideglpjgplpnaaDoor
open Go.RowKit Go.Shelf
set_option linter.unusedVariables false
set_option linter.unusedSimpArgs false

/-- either of two operations may come up -/
theorem wpAnyT_two {P : Program} {ops : Array Oper} {Q : Exit → Act → World → Prop} {md : Region.Mode} {S : World → Prop} {T : List Nat} {fuel : Nat} {listed : Array Bool} {a : Act} {w : World} {i j : Nat} {oi oj : Oper} (hr : Region.ready md ops listed = [i, j]) (hi : ops[i]? = some oi) (hj : ops[j]? = some oj) (gi : oi.guard = none) (gj : oj.guard = none)
    (h : ∀ K' : Act → World → Prop, Shut (∀ a w, (i ∉ T → S w) → wpAnyT P md ops Q S T fuel (listed.setIfInBounds i true) a w → K' a w) → Oper.wp P oi a w K' Q)
    (h' : ∀ K' : Act → World → Prop, Shut (∀ a w, (j ∉ T → S w) → wpAnyT P md ops Q S T fuel (listed.setIfInBounds j true) a w → K' a w) → Oper.wp P oj a w K' Q) : wpAnyT P md ops Q S T (fuel + 1) listed a w := by
  refine ⟨fun h0 => (by rw [h0] at hr; cases hr), fun k hk => ?_⟩
  rw [hr] at hk
  simp only [List.mem_cons, List.not_mem_nil, or_false] at hk
  rcases hk with rfl | rfl
  · refine wpOp_step hi (fun K' hK => ?_)
    rw [if_pos (wanted_none gi)]
    exact h K' (fun a w hS hW => hK a w ⟨hS, hW⟩)
  · refine wpOp_step hj (fun K' hK => ?_)
    rw [if_pos (wanted_none gj)]
    exact h' K' (fun a w hS hW => hK a w ⟨hS, hW⟩)
theorem Sl.cell_val2 {w : World} {A : Option Addr} {x : Shr.S} (h : Rd w w.heap.size 4 A 5 (Rc.ics (Sl.ics x) ++ Sl.tcs x.d)) (hA : A ≠ none) (hd : x.d.length ≤ maxLen)
    (h1 : Rc.in64 x.ep) (h2 : Rc.in64 x.ix) (h3 : Rc.in64 x.th) (h4 : Rc.in64 x.mn) :
    Cd.CellB w w.heap.size (Sl.val x) [.int .i64 3, .int .i64 0, .string ⟨#[]⟩, .slice A 5 5] := by
  exact .mk 3 0 [] [Rc.int x.ep, Rc.int x.ix, Rc.int x.th, Rc.int x.mn, Sl.txt x.d] A 5 [Rc.ic x.ep, Rc.ic x.ix, Rc.ic x.th, Rc.ic x.mn, Sl.tcs x.d] rfl (fun i hi => by
    match i, hi with
    | 0, _ => exact Rc.cell_ic w _ _ h1
    | 1, _ => exact Rc.cell_ic w _ _ h2
    | 2, _ => exact Rc.cell_ic w _ _ h3
    | 3, _ => exact Rc.cell_ic w _ _ h4
    | 4, _ => exact Sl.cell_txt w _ _ hd) (by
      have hx : [Rc.ic x.ep, Rc.ic x.ix, Rc.ic x.th, Rc.ic x.mn, Sl.tcs x.d].flatten = Rc.ics (Sl.ics x) ++ Sl.tcs x.d := by simp [Rc.ics, Sl.ics]
      rw [hx]
      exact h) (fun e => absurd e hA) (by simp [maxLen]) (by simp) (by omega) (by omega)
theorem Sl.bs5 (x : Shr.S) (W : World) : (Instr.buildSlice 75 5 #[(0, .agg (Rc.ic x.ep).toArray), (1, .agg (Rc.ic x.ix).toArray), (2, .agg (Rc.ic x.th).toArray), (3, .agg (Rc.ic x.mn).toArray), (4, .agg (Sl.tcs x.d).toArray)]).run Tryd.prog W = .ok (.slice (some ⟨W.heap.size, 0, none⟩) 5 5) (W.alloc (.cells (Rc.ics (Sl.ics x) ++ Sl.tcs x.d).toArray 77)) := by kernel_rfl
/-- what the region's ends have in common -/
def Sl.RM (x : Shr.S) (W2 W' : World) (gv gb : Nat) : Prop := Has W' gv 77 [.int .i64 3, .int .i64 0, .string ⟨#[]⟩, .slice (some ⟨gb, 0, none⟩) 5 5] ∧ Has W' gb 77 (Rc.ics (Sl.ics x) ++ Sl.tcs x.d) ∧ Below W2.heap.size W2 W'
theorem Sl.row_far {W : World} {gv gb : Nat} {t t' : TypeId} {cv cs : List Value} {V : Array Value} (hv : Has W gv t cv) (hb : Has W gb t' cs) (hl : cv.length = 4) (hne : cs.length ≠ 4 := by simp [Rc.ics, Sl.ics]) : Has (W.setRow gv V) gb t' cs := by
  refine (setRow_other W gv gb V (fun e => ?_)).trans hb
  subst e
  have h := hv.symm.trans hb
  injection h with h
  injection h with h
  apply hne
  rw [← hl, ← List.size_toArray, ← List.size_toArray, h]
theorem run_op_convR {P : Program} {o : Oper} {a : Act} {w : World} (s d : TypeId) (x : Operand) (ho : o.op = .convert s d x) (vx v : Value) (hx : a.eval x = vx) (hr : (convert s d vx).run P w = .ok v w) : (execOp a.eval o).run P w = .ok (.value v) w := by
  unfold execOp
  simp only [ho, hx, Sem.run_bind, hr, Result.andThen_ok]
  rfl
theorem Sl.commit_ref (A : Option Addr) (n c : Nat) (l : List UInt8) (w : World) (hr : RdB w A n l) (hq : A = none → c = 0) (hn : n ≤ 1000000) :
    Calls Tryd.prog 30 #[.slice A n c] w fun e w' => e = .returned (.agg ((Sl.com l).map Dg.b8).toArray) ∧ Below w.heap.size w w' := by
  obtain ⟨W1, hW1⟩ : ∃ W1, W1 = w.alloc (.cells Dg.z32.toArray 23) := ⟨_, rfl⟩
  have HB1 := Lib.hid (show Below w.heap.size w W1 from by rw [hW1]; exact (Below.refl _ w).alloc (Nat.le_refl _) _)
  have HD1 := Lib.hid (show Has W1 w.heap.size 23 Dg.z32 from by rw [hW1]; exact Has.new w _ _)
  have HTG := Lib.hid (Dg.rtag_any W1 Sl.tgC A n c l (hr.keep HB1.out) hq (by omega) (by decide))
  rw [show Dg.tagged Rc.K0 Rc.I0 Sl.tgC l = Sl.com l from rfl] at HTG
  obtain ⟨D, hD⟩ : ∃ D, ((Sl.com l).map Dg.b8).toArray = D := ⟨_, rfl⟩
  rw [hD] at HTG ⊢
  have hds : D.size = 32 := by rw [← hD]; simp [Sl.com_len]
  have H1 := Lib.hid (show D.all (·.oneCell') = true from by rw [← hD]; exact all_oneCell_toArray (one_bytes _))
  have HI := Lib.hid (show (Tryd.prog.info? 23).map (·.size) = some D.size from by rw [hds]; exact Sl.infoD)
  have HS := Lib.hid (show Dg.z32.toArray.size = D.size from by rw [hds]; rfl)
  clear hD hds hr hq
  go_enter Tryd.func30, Tryd.ntmps30
  go_upto_region 1 with fail
  change Code.wp _ _ _ _ (w.alloc (.cells Dg.z32.toArray 23))
  rw [← hW1]
  clear hW1
  go_wp2_with fail
  ((with_reducible refine HTG.out.mono ?_); rintro e w2 ⟨rfl, hb2⟩)
  have HB2 := Lib.hid (HB1.out.trans (hb2.mono HB1.out.size))
  have HD2 := Lib.hid (show w2.heap[w.heap.size]? = some (.cells Dg.z32.toArray 23 (0, 0)) from HD1.out.keep hb2)
  clear hb2
  go_wp2_with (first
    | (refine wpList_store_row (o := ⟨none, .store 23 (.tmp 2) (.tmp 4), _, _, _, _⟩) rfl 23 (.tmp 2) (.tmp 4) rfl w.heap.size D rfl rfl 23 Dg.z32.toArray HD2.out HI.out HS.out H1.out ?_))
  have HF2 := Lib.hid (setRow_heap w2 w.heap.size _ D 23 (0, 0) HD2.out)
  refine bodyPost_ret (results_cell_row rfl _ _ w.heap.size 23 D (0, 0) _ rfl HF2.out Tryd.underlying23 rfl HI.out) rfl ?_
  exact ⟨rfl, below_setRow HB2.out (Nat.le_refl _) _⟩

set_option maxRecDepth 100000 in
set_option maxHeartbeats 16000000 in
theorem Sl.mark_ref (x : Shr.S) (A : Option Addr) (c : Nat) (w : World) (hd : RdB w A x.d.length x.d) (hdl : x.d.length ≤ 10000000)
    (h1 : Rc.in64 x.ep) (h2 : Rc.in64 x.ix) (h3 : Rc.in64 x.th) (h4 : Rc.in64 x.mn) :
    Calls Tryd.prog 29 #[.agg #[.int .i64 x.ep, .int .i64 x.ix, .int .i64 x.th, .int .i64 x.mn, .slice A x.d.length c]] w fun e w' => e = .returned (.agg ((Sl.mark x).map Dg.b8).toArray) ∧ Below w.heap.size w w' := by
  have HR := Lib.hid hd
  have HDL := Lib.hid hdl
  have HI64 := Lib.hid (And.intro h1 (And.intro h2 (And.intro h3 h4)))
  obtain ⟨W1, hW1⟩ : ∃ W1, W1 = (w.alloc (.cells #[.int .i64 x.ep, .int .i64 x.ix, .int .i64 x.th, .int .i64 x.mn, .slice A x.d.length c] 43)).alloc (.cells Dg.z32.toArray 23) := ⟨_, rfl⟩
  have HB1 := Lib.hid (show Below w.heap.size w W1 from by rw [hW1]; exact ((Below.refl _ w).alloc (Nat.le_refl _) _).alloc (by simp) _)
  have HX1 := Lib.hid (show Has W1 w.heap.size 43 [.int .i64 x.ep, .int .i64 x.ix, .int .i64 x.th, .int .i64 x.mn, .slice A x.d.length c] from by rw [hW1]; exact (Has.new w _ _).alloc _)
  have HD1 := Lib.hid (show Has W1 (w.heap.size + 1) 23 Dg.z32 from by rw [hW1]; exact Has.second w _ _ _)
  clear hd hdl h1 h2 h3 h4
  obtain ⟨D, hD⟩ : ∃ D, ((Sl.mark x).map Dg.b8).toArray = D := ⟨_, rfl⟩
  rw [hD]
  have HDZ := Lib.hid hD.symm
  clear hD
  go_enter Tryd.func29, Tryd.ntmps29
  go_upto_region 1 with fail
  change Code.wp _ _ _ _ ((w.alloc (.cells #[.int .i64 x.ep, .int .i64 x.ix, .int .i64 x.th, .int .i64 x.mn, .slice A x.d.length c] 43)).alloc (.cells Dg.z32.toArray 23))
  rw [← hW1]
  clear hW1
  have x0 := HX1.out.cell 0
  have x1 := HX1.out.cell 1
  have x2 := HX1.out.cell 2
  have x3 := HX1.out.cell 3
  have x4 := HX1.out.cell 4
  simp only [List.getElem?_cons_succ, List.getElem?_cons_zero] at x0 x1 x2 x3 x4
  have s0 : Below W1.heap.size W1 W1.drew := (Below.refl _ W1).drew
  have KP := Lib.hid (fun (w' : World) (h : Below W1.heap.size W1 w') => (⟨(h.cell (p := ⟨w.heap.size, 0, none⟩) HX1.out.lt).trans x0, (h.cell (p := ⟨w.heap.size, 1, none⟩) HX1.out.lt).trans x1, (h.cell (p := ⟨w.heap.size, 2, none⟩) HX1.out.lt).trans x2, (h.cell (p := ⟨w.heap.size, 3, none⟩) HX1.out.lt).trans x3, (h.cell (p := ⟨w.heap.size, 4, none⟩) HX1.out.lt).trans x4, h⟩ : w'.cell? ⟨w.heap.size, 0, none⟩ = some (.int .i64 x.ep) ∧ w'.cell? ⟨w.heap.size, 1, none⟩ = some (.int .i64 x.ix) ∧ w'.cell? ⟨w.heap.size, 2, none⟩ = some (.int .i64 x.th) ∧ w'.cell? ⟨w.heap.size, 3, none⟩ = some (.int .i64 x.mn) ∧ w'.cell? ⟨w.heap.size, 4, none⟩ = some (.slice A x.d.length c) ∧ Below W1.heap.size W1 w'))
  have HE50 := Lib.hid (enters_of Tryd.func50 (by kernel_rfl) rfl)
  have HE51 := Lib.hid (enters_of Tryd.func51 (by kernel_rfl) rfl)
  have HE49 := Lib.hid (enters_of Tryd.func49 (by kernel_rfl) rfl)
  clear x0 x1 x2 x3 x4
  refine Code.wp_mono (Q := NormalOnly (fun a' W' => ∃ (gv gb : Nat) (u6 u7 u8 u9 u10 u11 u12 u13 u14 u15 u16 u17 u18 u19 u20 u21 u22 u23 : Value), a' = { tmps := #[.agg #[.int .i64 x.ep, .int .i64 x.ix, .int .i64 x.th, .int .i64 x.mn, .slice A x.d.length c], .pointer (some ⟨w.heap.size, 0, none⟩), .pointer (some ⟨w.heap.size + 1, 0, none⟩), .pointer (some ⟨gv, 0, none⟩), undef, undef, u6, u7, u8, u9, u10, u11, u12, u13, u14, u15, u16, u17, u18, u19, u20, u21, u22, u23, undef, undef, undef, undef, undef, undef, undef], defers := [] } ∧ Sl.RM x W1 W' gv gb)) ?tail ?region
  case region =>
    refine wp_region_named (fun ops hops => ?_)
    refine wp_region_T (by kernel_rfl) [19] (fun w' => w'.cell? ⟨w.heap.size, 0, none⟩ = some (.int .i64 x.ep) ∧ w'.cell? ⟨w.heap.size, 1, none⟩ = some (.int .i64 x.ix) ∧ w'.cell? ⟨w.heap.size, 2, none⟩ = some (.int .i64 x.th) ∧ w'.cell? ⟨w.heap.size, 3, none⟩ = some (.int .i64 x.mn) ∧ w'.cell? ⟨w.heap.size, 4, none⟩ = some (.slice A x.d.length c) ∧ Below W1.heap.size W1 w') ?_
    rw [show ops.size = 20 from by rw [hops]; rfl]
    have HNS : Region.noSelect ops = true := by rw [hops]; kernel_rfl
    have hHeld := KP.out _ s0
    obtain ⟨o0, h0, d0, p0, g0⟩ := op_at5 hops 0 rfl (d := some 6) (p := Op.fieldAddr 43 (Operand.tmp 1) 0) (g := none) rfl rfl rfl
    obtain ⟨o1, h1, d1, p1, g1⟩ := op_at5 hops 1 rfl (d := some 7) (p := Op.load 3 (Operand.tmp 6)) (g := none) rfl rfl rfl
    obtain ⟨o2, h2, d2, p2, g2⟩ := op_at5 hops 2 rfl (d := some 8) (p := Op.call { callee := Callee.value (Operand.func 50), args := #[Operand.tmp 7], argTypes := #[3] }) (g := none) rfl rfl rfl
    obtain ⟨o3, h3, d3, p3, g3⟩ := op_at5 hops 3 rfl (d := some 9) (p := Op.fieldAddr 43 (Operand.tmp 1) 1) (g := none) rfl rfl rfl
    obtain ⟨o4, h4, d4, p4, g4⟩ := op_at5 hops 4 rfl (d := some 10) (p := Op.load 3 (Operand.tmp 9)) (g := none) rfl rfl rfl
    obtain ⟨o5, h5, d5, p5, g5⟩ := op_at5 hops 5 rfl (d := some 11) (p := Op.call { callee := Callee.value (Operand.func 50), args := #[Operand.tmp 10], argTypes := #[3] }) (g := none) rfl rfl rfl
    obtain ⟨o6, h6, d6, p6, g6⟩ := op_at5 hops 6 rfl (d := some 12) (p := Op.fieldAddr 43 (Operand.tmp 1) 2) (g := none) rfl rfl rfl
    obtain ⟨o7, h7, d7, p7, g7⟩ := op_at5 hops 7 rfl (d := some 13) (p := Op.load 3 (Operand.tmp 12)) (g := none) rfl rfl rfl
    obtain ⟨o8, h8, d8, p8, g8⟩ := op_at5 hops 8 rfl (d := some 14) (p := Op.call { callee := Callee.value (Operand.func 50), args := #[Operand.tmp 13], argTypes := #[3] }) (g := none) rfl rfl rfl
    obtain ⟨o9, h9, d9, p9, g9⟩ := op_at5 hops 9 rfl (d := some 15) (p := Op.fieldAddr 43 (Operand.tmp 1) 3) (g := none) rfl rfl rfl
    obtain ⟨o10, h10, d10, p10, g10⟩ := op_at5 hops 10 rfl (d := some 16) (p := Op.load 3 (Operand.tmp 15)) (g := none) rfl rfl rfl
    obtain ⟨o11, h11, d11, p11, g11⟩ := op_at5 hops 11 rfl (d := some 17) (p := Op.call { callee := Callee.value (Operand.func 50), args := #[Operand.tmp 16], argTypes := #[3] }) (g := none) rfl rfl rfl
    obtain ⟨o12, h12, d12, p12, g12⟩ := op_at5 hops 12 rfl (d := some 18) (p := Op.fieldAddr 43 (Operand.tmp 1) 4) (g := none) rfl rfl rfl
    obtain ⟨o13, h13, d13, p13, g13⟩ := op_at5 hops 13 rfl (d := some 19) (p := Op.load 24 (Operand.tmp 18)) (g := none) rfl rfl rfl
    obtain ⟨o14, h14, d14, p14, g14⟩ := op_at5 hops 14 rfl (d := some 20) (p := Op.convert 24 9 (Operand.tmp 19)) (g := none) rfl rfl rfl
    obtain ⟨o15, h15, d15, p15, g15⟩ := op_at5 hops 15 rfl (d := some 21) (p := Op.call { callee := Callee.value (Operand.func 51), args := #[Operand.tmp 20], argTypes := #[9] }) (g := none) rfl rfl rfl
    obtain ⟨o16, h16, d16, p16, g16⟩ := op_at5 hops 16 rfl (d := some 22) (p := Op.buildSlice 75 5 #[(0, Operand.tmp 8), (1, Operand.tmp 11), (2, Operand.tmp 14), (3, Operand.tmp 17), (4, Operand.tmp 21)]) (g := none) rfl rfl rfl
    obtain ⟨o17, h17, d17, p17, g17⟩ := op_at5 hops 17 rfl (d := some 23) (p := Op.call { callee := Callee.value (Operand.func 49), args := #[Operand.tmp 22], argTypes := #[75] }) (g := none) rfl rfl rfl
    obtain ⟨o18, h18, d18, p18, g18⟩ := op_at5 hops 18 rfl (d := some 3) (p := Op.alloc 77) (g := none) rfl rfl rfl
    obtain ⟨o19, h19, d19, p19, g19⟩ := op_at5 hops 19 rfl (d := none) (p := Op.store 77 (Operand.tmp 3) (Operand.tmp 23)) (g := none) rfl rfl rfl
    refine wpAnyT_take (i := 0) (v := .pointer (some ⟨w.heap.size, 0, none⟩)) [0, 1, 2, 5, 8, 11, 15, 16, 17, 19] h0 HNS (by rw [hops]; kernel_rfl) (by rw [hops]; kernel_rfl) (by rw [hops]; kernel_rfl) (fun _ _ _ => NormalOnly.hQ _ _ _) (Or.inl ⟨(wanted_none g0), fun w' _ => by unfold execOp; rw [p0]; first | rfl | kernel_rfl⟩) hHeld ?_
    rw [d0]
    simp only [Act.put, List.setIfInBounds_toArray, List.set_cons_zero, List.set_cons_succ]
    refine wpAnyT_take (i := 1) (v := .int .i64 x.ep) [1, 2, 5, 8, 11, 15, 16, 17, 19] h1 HNS (by rw [hops]; kernel_rfl) (by rw [hops]; kernel_rfl) (by rw [hops]; kernel_rfl) (fun _ _ _ => NormalOnly.hQ _ _ _) (Or.inl ⟨(wanted_none g1), fun w' h => run_op_load_cell 3 _ p1 w.heap.size 0 (by rfl) _ h.1 _ Tryd.underlying3 rfl⟩) hHeld ?_
    rw [d1]
    simp only [Act.put, List.setIfInBounds_toArray, List.set_cons_zero, List.set_cons_succ]
    refine wpAnyT_take (i := 3) (v := .pointer (some ⟨w.heap.size, 1, none⟩)) [3, 4, 5, 8, 11, 15, 16, 17, 19] h3 HNS (by rw [hops]; kernel_rfl) (by rw [hops]; kernel_rfl) (by rw [hops]; kernel_rfl) (fun _ _ _ => NormalOnly.hQ _ _ _) (Or.inl ⟨(wanted_none g3), fun w' _ => by unfold execOp; rw [p3]; first | rfl | kernel_rfl⟩) hHeld ?_
    rw [d3]
    simp only [Act.put, List.setIfInBounds_toArray, List.set_cons_zero, List.set_cons_succ]
    refine wpAnyT_take (i := 4) (v := .int .i64 x.ix) [4, 5, 8, 11, 15, 16, 17, 19] h4 HNS (by rw [hops]; kernel_rfl) (by rw [hops]; kernel_rfl) (by rw [hops]; kernel_rfl) (fun _ _ _ => NormalOnly.hQ _ _ _) (Or.inl ⟨(wanted_none g4), fun w' h => run_op_load_cell 3 _ p4 w.heap.size 1 (by rfl) _ h.2.1 _ Tryd.underlying3 rfl⟩) hHeld ?_
    rw [d4]
    simp only [Act.put, List.setIfInBounds_toArray, List.set_cons_zero, List.set_cons_succ]
    refine wpAnyT_take (i := 6) (v := .pointer (some ⟨w.heap.size, 2, none⟩)) [6, 7, 8, 11, 15, 16, 17, 19] h6 HNS (by rw [hops]; kernel_rfl) (by rw [hops]; kernel_rfl) (by rw [hops]; kernel_rfl) (fun _ _ _ => NormalOnly.hQ _ _ _) (Or.inl ⟨(wanted_none g6), fun w' _ => by unfold execOp; rw [p6]; first | rfl | kernel_rfl⟩) hHeld ?_
    rw [d6]
    simp only [Act.put, List.setIfInBounds_toArray, List.set_cons_zero, List.set_cons_succ]
    refine wpAnyT_take (i := 7) (v := .int .i64 x.th) [7, 8, 11, 15, 16, 17, 19] h7 HNS (by rw [hops]; kernel_rfl) (by rw [hops]; kernel_rfl) (by rw [hops]; kernel_rfl) (fun _ _ _ => NormalOnly.hQ _ _ _) (Or.inl ⟨(wanted_none g7), fun w' h => run_op_load_cell 3 _ p7 w.heap.size 2 (by rfl) _ h.2.2.1 _ Tryd.underlying3 rfl⟩) hHeld ?_
    rw [d7]
    simp only [Act.put, List.setIfInBounds_toArray, List.set_cons_zero, List.set_cons_succ]
    refine wpAnyT_take (i := 9) (v := .pointer (some ⟨w.heap.size, 3, none⟩)) [9, 10, 11, 15, 16, 17, 19] h9 HNS (by rw [hops]; kernel_rfl) (by rw [hops]; kernel_rfl) (by rw [hops]; kernel_rfl) (fun _ _ _ => NormalOnly.hQ _ _ _) (Or.inl ⟨(wanted_none g9), fun w' _ => by unfold execOp; rw [p9]; first | rfl | kernel_rfl⟩) hHeld ?_
    rw [d9]
    simp only [Act.put, List.setIfInBounds_toArray, List.set_cons_zero, List.set_cons_succ]
    refine wpAnyT_take (i := 10) (v := .int .i64 x.mn) [10, 11, 15, 16, 17, 19] h10 HNS (by rw [hops]; kernel_rfl) (by rw [hops]; kernel_rfl) (by rw [hops]; kernel_rfl) (fun _ _ _ => NormalOnly.hQ _ _ _) (Or.inl ⟨(wanted_none g10), fun w' h => run_op_load_cell 3 _ p10 w.heap.size 3 (by rfl) _ h.2.2.2.1 _ Tryd.underlying3 rfl⟩) hHeld ?_
    rw [d10]
    simp only [Act.put, List.setIfInBounds_toArray, List.set_cons_zero, List.set_cons_succ]
    refine wpAnyT_take (i := 12) (v := .pointer (some ⟨w.heap.size, 4, none⟩)) [12, 13, 14, 15, 16, 17, 19] h12 HNS (by rw [hops]; kernel_rfl) (by rw [hops]; kernel_rfl) (by rw [hops]; kernel_rfl) (fun _ _ _ => NormalOnly.hQ _ _ _) (Or.inl ⟨(wanted_none g12), fun w' _ => by unfold execOp; rw [p12]; first | rfl | kernel_rfl⟩) hHeld ?_
    rw [d12]
    simp only [Act.put, List.setIfInBounds_toArray, List.set_cons_zero, List.set_cons_succ]
    refine wpAnyT_take (i := 13) (v := .slice A x.d.length c) [13, 14, 15, 16, 17, 19] h13 HNS (by rw [hops]; kernel_rfl) (by rw [hops]; kernel_rfl) (by rw [hops]; kernel_rfl) (fun _ _ _ => NormalOnly.hQ _ _ _) (Or.inl ⟨(wanted_none g13), fun w' h => run_op_load_cell 24 _ p13 w.heap.size 4 (by rfl) _ h.2.2.2.2.1 _ Tryd.underlying24 rfl⟩) hHeld ?_
    rw [d13]
    simp only [Act.put, List.setIfInBounds_toArray, List.set_cons_zero, List.set_cons_succ]
    refine wpAnyT_take (i := 14) (v := .string ⟨x.d.toArray⟩) [14, 15, 16, 17, 19] h14 HNS (by rw [hops]; kernel_rfl) (by rw [hops]; kernel_rfl) (by rw [hops]; kernel_rfl) (fun _ _ _ => NormalOnly.hQ _ _ _) (Or.inl ⟨(wanted_none g14), fun w' h => run_op_convR 24 9 _ p14 _ _ (by rfl) (((HR.out.keep HB1.out).keep h.2.2.2.2.2).str (P := Tryd.prog) Tryd.underlying24 Tryd.underlying5 Tryd.underlying9 c)⟩) hHeld ?_
    rw [d14]
    simp only [Act.put, List.setIfInBounds_toArray, List.set_cons_zero, List.set_cons_succ]
    refine wpAnyT_two (by rw [hops]; kernel_rfl) h2 h18 g2 g18 (fun K hK => ?_) (fun K hK => ?_)
    rotate_left
    · refine wp_runG (w' := W1.drew.alloc (.cells #[.int .i64 0, .int .i64 0, .string ⟨#[]⟩, .slice none 0 0] 77)) (v := .pointer (some ⟨W1.drew.heap.size, 0, none⟩)) (by unfold execOp; rw [p18]; first | rfl | kernel_rfl) ?_
      have s0b_1 : Below W1.heap.size W1 (W1.drew.alloc (.cells #[.int .i64 0, .int .i64 0, .string ⟨#[]⟩, .slice none 0 0] 77)) := s0.alloc s0.size _
      have as0b_1 := Has.new W1.drew 77 [.int .i64 0, .int .i64 0, .string ⟨#[]⟩, .slice none 0 0]
      have gs0b_1 : W1.heap.size ≤ W1.drew.heap.size := s0.size
      rw [d18]
      simp only [Act.put, List.setIfInBounds_toArray, List.set_cons_zero, List.set_cons_succ]
      refine hK.out _ _ (fun _ => KP.out _ s0b_1) ?_
      clear hK K
      refine wpAnyT_one (by rw [hops]; kernel_rfl) h2 (wanted_none g2) (fun K hK => ?_)
      refine wp_call1 50 _ _ (.int .i64 x.ep) p2 HE50.out (by rfl) ?_
      (refine (Cd.rint_any x.ep (W1.drew.alloc (.cells #[.int .i64 0, .int .i64 0, .string ⟨#[]⟩, .slice none 0 0] 77))).mono ?_; rintro e v0b_2 ⟨rfl, hb⟩)
      have s0b_2 : Below W1.heap.size W1 v0b_2 := s0b_1.trans (hb.mono s0b_1.size)
      have as0b_2 := as0b_1.keep hb
      clear hb
      refine ⟨_, rfl, ?_⟩
      rw [d2]
      simp only [Act.put, List.setIfInBounds_toArray, List.set_cons_zero, List.set_cons_succ]
      refine hK.out _ _ (fun _ => KP.out _ s0b_2) ?_
      clear hK K
      refine wpAnyT_one (by rw [hops]; kernel_rfl) h5 (wanted_none g5) (fun K hK => ?_)
      refine wp_call1 50 _ _ (.int .i64 x.ix) p5 HE50.out (by rfl) ?_
      (refine (Cd.rint_any x.ix v0b_2).mono ?_; rintro e v0b_3 ⟨rfl, hb⟩)
      have s0b_3 : Below W1.heap.size W1 v0b_3 := s0b_2.trans (hb.mono s0b_2.size)
      have as0b_3 := as0b_2.keep hb
      clear hb
      refine ⟨_, rfl, ?_⟩
      rw [d5]
      simp only [Act.put, List.setIfInBounds_toArray, List.set_cons_zero, List.set_cons_succ]
      refine hK.out _ _ (fun _ => KP.out _ s0b_3) ?_
      clear hK K
      refine wpAnyT_one (by rw [hops]; kernel_rfl) h8 (wanted_none g8) (fun K hK => ?_)
      refine wp_call1 50 _ _ (.int .i64 x.th) p8 HE50.out (by rfl) ?_
      (refine (Cd.rint_any x.th v0b_3).mono ?_; rintro e v0b_4 ⟨rfl, hb⟩)
      have s0b_4 : Below W1.heap.size W1 v0b_4 := s0b_3.trans (hb.mono s0b_3.size)
      have as0b_4 := as0b_3.keep hb
      clear hb
      refine ⟨_, rfl, ?_⟩
      rw [d8]
      simp only [Act.put, List.setIfInBounds_toArray, List.set_cons_zero, List.set_cons_succ]
      refine hK.out _ _ (fun _ => KP.out _ s0b_4) ?_
      clear hK K
      refine wpAnyT_one (by rw [hops]; kernel_rfl) h11 (wanted_none g11) (fun K hK => ?_)
      refine wp_call1 50 _ _ (.int .i64 x.mn) p11 HE50.out (by rfl) ?_
      (refine (Cd.rint_any x.mn v0b_4).mono ?_; rintro e v0b_5 ⟨rfl, hb⟩)
      have s0b_5 : Below W1.heap.size W1 v0b_5 := s0b_4.trans (hb.mono s0b_4.size)
      have as0b_5 := as0b_4.keep hb
      clear hb
      refine ⟨_, rfl, ?_⟩
      rw [d11]
      simp only [Act.put, List.setIfInBounds_toArray, List.set_cons_zero, List.set_cons_succ]
      refine hK.out _ _ (fun _ => KP.out _ s0b_5) ?_
      clear hK K
      refine wpAnyT_one (by rw [hops]; kernel_rfl) h15 (wanted_none g15) (fun K hK => ?_)
      refine wp_call1 51 _ _ (.string ⟨x.d.toArray⟩) p15 HE51.out (by rfl) ?_
      (refine (Cd.rtext_any ⟨x.d.toArray⟩ v0b_5).mono ?_; rintro e v0b_6 ⟨rfl, hb⟩)
      have s0b_6 : Below W1.heap.size W1 v0b_6 := s0b_5.trans (hb.mono s0b_5.size)
      have as0b_6 := as0b_5.keep hb
      clear hb
      refine ⟨_, rfl, ?_⟩
      rw [d15]
      simp only [Act.put, List.setIfInBounds_toArray, List.set_cons_zero, List.set_cons_succ]
      refine hK.out _ _ (fun _ => KP.out _ s0b_6) ?_
      clear hK K
      refine wpAnyT_one (by rw [hops]; kernel_rfl) h16 (wanted_none g16) (fun K hK => ?_)
      refine wp_runG (run_op_buildSliceR 75 5 _ p16 [(0, .agg (Rc.ic x.ep).toArray), (1, .agg (Rc.ic x.ix).toArray), (2, .agg (Rc.ic x.th).toArray), (3, .agg (Rc.ic x.mn).toArray), (4, .agg (Sl.tcs x.d).toArray)] (by rfl) (.slice (some ⟨v0b_6.heap.size, 0, none⟩) 5 5) (v0b_6.alloc (.cells (Rc.ics (Sl.ics x) ++ Sl.tcs x.d).toArray 77)) (Sl.bs5 x v0b_6)) ?_
      have s0b_7 : Below W1.heap.size W1 (v0b_6.alloc (.cells (Rc.ics (Sl.ics x) ++ Sl.tcs x.d).toArray 77)) := s0b_6.alloc s0b_6.size _
      have bs0b_7 := Has.new v0b_6 77 (Rc.ics (Sl.ics x) ++ Sl.tcs x.d)
      have as0b_7 := as0b_6.alloc (.cells (Rc.ics (Sl.ics x) ++ Sl.tcs x.d).toArray 77)
      rw [d16]
      simp only [Act.put, List.setIfInBounds_toArray, List.set_cons_zero, List.set_cons_succ]
      refine hK.out _ _ (fun _ => KP.out _ s0b_7) ?_
      clear hK K
      refine wpAnyT_one (by rw [hops]; kernel_rfl) h17 (wanted_none g17) (fun K hK => ?_)
      refine wp_call1 49 _ _ (.slice (some ⟨v0b_6.heap.size, 0, none⟩) 5 5) p17 HE49.out (by rfl) ?_
      (refine (Cd.rlist_any (some ⟨v0b_6.heap.size, 0, none⟩) 5 5 (v0b_6.alloc (.cells (Rc.ics (Sl.ics x) ++ Sl.tcs x.d).toArray 77))).mono ?_; rintro e v0b_8 ⟨rfl, hb⟩)
      have s0b_8 : Below W1.heap.size W1 v0b_8 := s0b_7.trans (hb.mono s0b_7.size)
      have bs0b_8 := bs0b_7.keep hb
      have as0b_8 := as0b_7.keep hb
      clear hb
      refine ⟨_, rfl, ?_⟩
      rw [d17]
      simp only [Act.put, List.setIfInBounds_toArray, List.set_cons_zero, List.set_cons_succ]
      refine hK.out _ _ (fun _ => KP.out _ s0b_8) ?_
      clear hK K
      refine wpAnyT_one (by rw [hops]; kernel_rfl) h19 (wanted_none g19) (fun K hK => ?_)
      refine wp_runS (w' := v0b_8.setRow W1.drew.heap.size #[.int .i64 3, .int .i64 0, .string ⟨#[]⟩, .slice (some ⟨v0b_6.heap.size, 0, none⟩) 5 5]) (run_op_store_row 77 _ _ p19 W1.drew.heap.size #[.int .i64 3, .int .i64 0, .string ⟨#[]⟩, .slice (some ⟨v0b_6.heap.size, 0, none⟩) 5 5] (by rfl) (by rfl) 77 #[.int .i64 0, .int .i64 0, .string ⟨#[]⟩, .slice none 0 0] as0b_8 (by kernel_rfl) rfl (by simp [Value.oneCell'])) ?_
      rw [d19]
      simp only [Act.put, List.setIfInBounds_toArray, List.set_cons_zero, List.set_cons_succ]
      refine hK.out _ _ (fun h => absurd (by decide) h) ?_
      refine wpAnyT_done (by rw [hops]; kernel_rfl) ⟨rfl, _, _, _, _, _, _, _, _, _, _, _, _, _, _, _, _, _, _, _, _, rfl, setRow_heap v0b_8 W1.drew.heap.size _ #[.int .i64 3, .int .i64 0, .string ⟨#[]⟩, .slice (some ⟨v0b_6.heap.size, 0, none⟩) 5 5] 77 (0, 0) as0b_8, Sl.row_far as0b_8 bs0b_8 rfl, below_setRow s0b_8 gs0b_1 _⟩ _
    refine wp_call1 50 _ _ (.int .i64 x.ep) p2 HE50.out (by rfl) ?_
    (refine (Cd.rint_any x.ep W1.drew).mono ?_; rintro e vm_1 ⟨rfl, hb⟩)
    have sm_1 : Below W1.heap.size W1 vm_1 := s0.trans (hb.mono s0.size)
    clear hb
    refine ⟨_, rfl, ?_⟩
    rw [d2]
    simp only [Act.put, List.setIfInBounds_toArray, List.set_cons_zero, List.set_cons_succ]
    refine hK.out _ _ (fun _ => KP.out _ sm_1) ?_
    clear hK K
    refine wpAnyT_two (by rw [hops]; kernel_rfl) h5 h18 g5 g18 (fun K hK => ?_) (fun K hK => ?_)
    rotate_left
    · refine wp_runG (w' := vm_1.alloc (.cells #[.int .i64 0, .int .i64 0, .string ⟨#[]⟩, .slice none 0 0] 77)) (v := .pointer (some ⟨vm_1.heap.size, 0, none⟩)) (by unfold execOp; rw [p18]; first | rfl | kernel_rfl) ?_
      have s1b_1 : Below W1.heap.size W1 (vm_1.alloc (.cells #[.int .i64 0, .int .i64 0, .string ⟨#[]⟩, .slice none 0 0] 77)) := sm_1.alloc sm_1.size _
      have as1b_1 := Has.new vm_1 77 [.int .i64 0, .int .i64 0, .string ⟨#[]⟩, .slice none 0 0]
      have gs1b_1 : W1.heap.size ≤ vm_1.heap.size := sm_1.size
      rw [d18]
      simp only [Act.put, List.setIfInBounds_toArray, List.set_cons_zero, List.set_cons_succ]
      refine hK.out _ _ (fun _ => KP.out _ s1b_1) ?_
      clear hK K
      refine wpAnyT_one (by rw [hops]; kernel_rfl) h5 (wanted_none g5) (fun K hK => ?_)
      refine wp_call1 50 _ _ (.int .i64 x.ix) p5 HE50.out (by rfl) ?_
      (refine (Cd.rint_any x.ix (vm_1.alloc (.cells #[.int .i64 0, .int .i64 0, .string ⟨#[]⟩, .slice none 0 0] 77))).mono ?_; rintro e v1b_2 ⟨rfl, hb⟩)
      have s1b_2 : Below W1.heap.size W1 v1b_2 := s1b_1.trans (hb.mono s1b_1.size)
      have as1b_2 := as1b_1.keep hb
      clear hb
      refine ⟨_, rfl, ?_⟩
      rw [d5]
      simp only [Act.put, List.setIfInBounds_toArray, List.set_cons_zero, List.set_cons_succ]
      refine hK.out _ _ (fun _ => KP.out _ s1b_2) ?_
      clear hK K
      refine wpAnyT_one (by rw [hops]; kernel_rfl) h8 (wanted_none g8) (fun K hK => ?_)
      refine wp_call1 50 _ _ (.int .i64 x.th) p8 HE50.out (by rfl) ?_
      (refine (Cd.rint_any x.th v1b_2).mono ?_; rintro e v1b_3 ⟨rfl, hb⟩)
      have s1b_3 : Below W1.heap.size W1 v1b_3 := s1b_2.trans (hb.mono s1b_2.size)
      have as1b_3 := as1b_2.keep hb
      clear hb
      refine ⟨_, rfl, ?_⟩
      rw [d8]
      simp only [Act.put, List.setIfInBounds_toArray, List.set_cons_zero, List.set_cons_succ]
      refine hK.out _ _ (fun _ => KP.out _ s1b_3) ?_
      clear hK K
      refine wpAnyT_one (by rw [hops]; kernel_rfl) h11 (wanted_none g11) (fun K hK => ?_)
      refine wp_call1 50 _ _ (.int .i64 x.mn) p11 HE50.out (by rfl) ?_
      (refine (Cd.rint_any x.mn v1b_3).mono ?_; rintro e v1b_4 ⟨rfl, hb⟩)
      have s1b_4 : Below W1.heap.size W1 v1b_4 := s1b_3.trans (hb.mono s1b_3.size)
      have as1b_4 := as1b_3.keep hb
      clear hb
      refine ⟨_, rfl, ?_⟩
      rw [d11]
      simp only [Act.put, List.setIfInBounds_toArray, List.set_cons_zero, List.set_cons_succ]
      refine hK.out _ _ (fun _ => KP.out _ s1b_4) ?_
      clear hK K
      refine wpAnyT_one (by rw [hops]; kernel_rfl) h15 (wanted_none g15) (fun K hK => ?_)
      refine wp_call1 51 _ _ (.string ⟨x.d.toArray⟩) p15 HE51.out (by rfl) ?_
      (refine (Cd.rtext_any ⟨x.d.toArray⟩ v1b_4).mono ?_; rintro e v1b_5 ⟨rfl, hb⟩)
      have s1b_5 : Below W1.heap.size W1 v1b_5 := s1b_4.trans (hb.mono s1b_4.size)
      have as1b_5 := as1b_4.keep hb
      clear hb
      refine ⟨_, rfl, ?_⟩
      rw [d15]
      simp only [Act.put, List.setIfInBounds_toArray, List.set_cons_zero, List.set_cons_succ]
      refine hK.out _ _ (fun _ => KP.out _ s1b_5) ?_
      clear hK K
      refine wpAnyT_one (by rw [hops]; kernel_rfl) h16 (wanted_none g16) (fun K hK => ?_)
      refine wp_runG (run_op_buildSliceR 75 5 _ p16 [(0, .agg (Rc.ic x.ep).toArray), (1, .agg (Rc.ic x.ix).toArray), (2, .agg (Rc.ic x.th).toArray), (3, .agg (Rc.ic x.mn).toArray), (4, .agg (Sl.tcs x.d).toArray)] (by rfl) (.slice (some ⟨v1b_5.heap.size, 0, none⟩) 5 5) (v1b_5.alloc (.cells (Rc.ics (Sl.ics x) ++ Sl.tcs x.d).toArray 77)) (Sl.bs5 x v1b_5)) ?_
      have s1b_6 : Below W1.heap.size W1 (v1b_5.alloc (.cells (Rc.ics (Sl.ics x) ++ Sl.tcs x.d).toArray 77)) := s1b_5.alloc s1b_5.size _
      have bs1b_6 := Has.new v1b_5 77 (Rc.ics (Sl.ics x) ++ Sl.tcs x.d)
      have as1b_6 := as1b_5.alloc (.cells (Rc.ics (Sl.ics x) ++ Sl.tcs x.d).toArray 77)
      rw [d16]
      simp only [Act.put, List.setIfInBounds_toArray, List.set_cons_zero, List.set_cons_succ]
      refine hK.out _ _ (fun _ => KP.out _ s1b_6) ?_
      clear hK K
      refine wpAnyT_one (by rw [hops]; kernel_rfl) h17 (wanted_none g17) (fun K hK => ?_)
      refine wp_call1 49 _ _ (.slice (some ⟨v1b_5.heap.size, 0, none⟩) 5 5) p17 HE49.out (by rfl) ?_
      (refine (Cd.rlist_any (some ⟨v1b_5.heap.size, 0, none⟩) 5 5 (v1b_5.alloc (.cells (Rc.ics (Sl.ics x) ++ Sl.tcs x.d).toArray 77))).mono ?_; rintro e v1b_7 ⟨rfl, hb⟩)
      have s1b_7 : Below W1.heap.size W1 v1b_7 := s1b_6.trans (hb.mono s1b_6.size)
      have bs1b_7 := bs1b_6.keep hb
      have as1b_7 := as1b_6.keep hb
      clear hb
      refine ⟨_, rfl, ?_⟩
      rw [d17]
      simp only [Act.put, List.setIfInBounds_toArray, List.set_cons_zero, List.set_cons_succ]
      refine hK.out _ _ (fun _ => KP.out _ s1b_7) ?_
      clear hK K
      refine wpAnyT_one (by rw [hops]; kernel_rfl) h19 (wanted_none g19) (fun K hK => ?_)
      refine wp_runS (w' := v1b_7.setRow vm_1.heap.size #[.int .i64 3, .int .i64 0, .string ⟨#[]⟩, .slice (some ⟨v1b_5.heap.size, 0, none⟩) 5 5]) (run_op_store_row 77 _ _ p19 vm_1.heap.size #[.int .i64 3, .int .i64 0, .string ⟨#[]⟩, .slice (some ⟨v1b_5.heap.size, 0, none⟩) 5 5] (by rfl) (by rfl) 77 #[.int .i64 0, .int .i64 0, .string ⟨#[]⟩, .slice none 0 0] as1b_7 (by kernel_rfl) rfl (by simp [Value.oneCell'])) ?_
      rw [d19]
      simp only [Act.put, List.setIfInBounds_toArray, List.set_cons_zero, List.set_cons_succ]
      refine hK.out _ _ (fun h => absurd (by decide) h) ?_
      refine wpAnyT_done (by rw [hops]; kernel_rfl) ⟨rfl, _, _, _, _, _, _, _, _, _, _, _, _, _, _, _, _, _, _, _, _, rfl, setRow_heap v1b_7 vm_1.heap.size _ #[.int .i64 3, .int .i64 0, .string ⟨#[]⟩, .slice (some ⟨v1b_5.heap.size, 0, none⟩) 5 5] 77 (0, 0) as1b_7, Sl.row_far as1b_7 bs1b_7 rfl, below_setRow s1b_7 gs1b_1 _⟩ _
    refine wp_call1 50 _ _ (.int .i64 x.ix) p5 HE50.out (by rfl) ?_
    (refine (Cd.rint_any x.ix vm_1).mono ?_; rintro e vm_2 ⟨rfl, hb⟩)
    have sm_2 : Below W1.heap.size W1 vm_2 := sm_1.trans (hb.mono sm_1.size)
    clear hb
    refine ⟨_, rfl, ?_⟩
    rw [d5]
    simp only [Act.put, List.setIfInBounds_toArray, List.set_cons_zero, List.set_cons_succ]
    refine hK.out _ _ (fun _ => KP.out _ sm_2) ?_
    clear hK K
    refine wpAnyT_two (by rw [hops]; kernel_rfl) h8 h18 g8 g18 (fun K hK => ?_) (fun K hK => ?_)
    rotate_left
    · refine wp_runG (w' := vm_2.alloc (.cells #[.int .i64 0, .int .i64 0, .string ⟨#[]⟩, .slice none 0 0] 77)) (v := .pointer (some ⟨vm_2.heap.size, 0, none⟩)) (by unfold execOp; rw [p18]; first | rfl | kernel_rfl) ?_
      have s2b_1 : Below W1.heap.size W1 (vm_2.alloc (.cells #[.int .i64 0, .int .i64 0, .string ⟨#[]⟩, .slice none 0 0] 77)) := sm_2.alloc sm_2.size _
      have as2b_1 := Has.new vm_2 77 [.int .i64 0, .int .i64 0, .string ⟨#[]⟩, .slice none 0 0]
      have gs2b_1 : W1.heap.size ≤ vm_2.heap.size := sm_2.size
      rw [d18]
      simp only [Act.put, List.setIfInBounds_toArray, List.set_cons_zero, List.set_cons_succ]
      refine hK.out _ _ (fun _ => KP.out _ s2b_1) ?_
      clear hK K
      refine wpAnyT_one (by rw [hops]; kernel_rfl) h8 (wanted_none g8) (fun K hK => ?_)
      refine wp_call1 50 _ _ (.int .i64 x.th) p8 HE50.out (by rfl) ?_
      (refine (Cd.rint_any x.th (vm_2.alloc (.cells #[.int .i64 0, .int .i64 0, .string ⟨#[]⟩, .slice none 0 0] 77))).mono ?_; rintro e v2b_2 ⟨rfl, hb⟩)
      have s2b_2 : Below W1.heap.size W1 v2b_2 := s2b_1.trans (hb.mono s2b_1.size)
      have as2b_2 := as2b_1.keep hb
      clear hb
      refine ⟨_, rfl, ?_⟩
      rw [d8]
      simp only [Act.put, List.setIfInBounds_toArray, List.set_cons_zero, List.set_cons_succ]
      refine hK.out _ _ (fun _ => KP.out _ s2b_2) ?_
      clear hK K
      refine wpAnyT_one (by rw [hops]; kernel_rfl) h11 (wanted_none g11) (fun K hK => ?_)
      refine wp_call1 50 _ _ (.int .i64 x.mn) p11 HE50.out (by rfl) ?_
      (refine (Cd.rint_any x.mn v2b_2).mono ?_; rintro e v2b_3 ⟨rfl, hb⟩)
      have s2b_3 : Below W1.heap.size W1 v2b_3 := s2b_2.trans (hb.mono s2b_2.size)
      have as2b_3 := as2b_2.keep hb
      clear hb
      refine ⟨_, rfl, ?_⟩
      rw [d11]
      simp only [Act.put, List.setIfInBounds_toArray, List.set_cons_zero, List.set_cons_succ]
      refine hK.out _ _ (fun _ => KP.out _ s2b_3) ?_
      clear hK K
      refine wpAnyT_one (by rw [hops]; kernel_rfl) h15 (wanted_none g15) (fun K hK => ?_)
      refine wp_call1 51 _ _ (.string ⟨x.d.toArray⟩) p15 HE51.out (by rfl) ?_
      (refine (Cd.rtext_any ⟨x.d.toArray⟩ v2b_3).mono ?_; rintro e v2b_4 ⟨rfl, hb⟩)
      have s2b_4 : Below W1.heap.size W1 v2b_4 := s2b_3.trans (hb.mono s2b_3.size)
      have as2b_4 := as2b_3.keep hb
      clear hb
      refine ⟨_, rfl, ?_⟩
      rw [d15]
      simp only [Act.put, List.setIfInBounds_toArray, List.set_cons_zero, List.set_cons_succ]
      refine hK.out _ _ (fun _ => KP.out _ s2b_4) ?_
      clear hK K
      refine wpAnyT_one (by rw [hops]; kernel_rfl) h16 (wanted_none g16) (fun K hK => ?_)
      refine wp_runG (run_op_buildSliceR 75 5 _ p16 [(0, .agg (Rc.ic x.ep).toArray), (1, .agg (Rc.ic x.ix).toArray), (2, .agg (Rc.ic x.th).toArray), (3, .agg (Rc.ic x.mn).toArray), (4, .agg (Sl.tcs x.d).toArray)] (by rfl) (.slice (some ⟨v2b_4.heap.size, 0, none⟩) 5 5) (v2b_4.alloc (.cells (Rc.ics (Sl.ics x) ++ Sl.tcs x.d).toArray 77)) (Sl.bs5 x v2b_4)) ?_
      have s2b_5 : Below W1.heap.size W1 (v2b_4.alloc (.cells (Rc.ics (Sl.ics x) ++ Sl.tcs x.d).toArray 77)) := s2b_4.alloc s2b_4.size _
      have bs2b_5 := Has.new v2b_4 77 (Rc.ics (Sl.ics x) ++ Sl.tcs x.d)
      have as2b_5 := as2b_4.alloc (.cells (Rc.ics (Sl.ics x) ++ Sl.tcs x.d).toArray 77)
      rw [d16]
      simp only [Act.put, List.setIfInBounds_toArray, List.set_cons_zero, List.set_cons_succ]
      refine hK.out _ _ (fun _ => KP.out _ s2b_5) ?_
      clear hK K
      refine wpAnyT_one (by rw [hops]; kernel_rfl) h17 (wanted_none g17) (fun K hK => ?_)
      refine wp_call1 49 _ _ (.slice (some ⟨v2b_4.heap.size, 0, none⟩) 5 5) p17 HE49.out (by rfl) ?_
      (refine (Cd.rlist_any (some ⟨v2b_4.heap.size, 0, none⟩) 5 5 (v2b_4.alloc (.cells (Rc.ics (Sl.ics x) ++ Sl.tcs x.d).toArray 77))).mono ?_; rintro e v2b_6 ⟨rfl, hb⟩)
      have s2b_6 : Below W1.heap.size W1 v2b_6 := s2b_5.trans (hb.mono s2b_5.size)
      have bs2b_6 := bs2b_5.keep hb
      have as2b_6 := as2b_5.keep hb
      clear hb
      refine ⟨_, rfl, ?_⟩
      rw [d17]
      simp only [Act.put, List.setIfInBounds_toArray, List.set_cons_zero, List.set_cons_succ]
      refine hK.out _ _ (fun _ => KP.out _ s2b_6) ?_
      clear hK K
      refine wpAnyT_one (by rw [hops]; kernel_rfl) h19 (wanted_none g19) (fun K hK => ?_)
      refine wp_runS (w' := v2b_6.setRow vm_2.heap.size #[.int .i64 3, .int .i64 0, .string ⟨#[]⟩, .slice (some ⟨v2b_4.heap.size, 0, none⟩) 5 5]) (run_op_store_row 77 _ _ p19 vm_2.heap.size #[.int .i64 3, .int .i64 0, .string ⟨#[]⟩, .slice (some ⟨v2b_4.heap.size, 0, none⟩) 5 5] (by rfl) (by rfl) 77 #[.int .i64 0, .int .i64 0, .string ⟨#[]⟩, .slice none 0 0] as2b_6 (by kernel_rfl) rfl (by simp [Value.oneCell'])) ?_
      rw [d19]
      simp only [Act.put, List.setIfInBounds_toArray, List.set_cons_zero, List.set_cons_succ]
      refine hK.out _ _ (fun h => absurd (by decide) h) ?_
      refine wpAnyT_done (by rw [hops]; kernel_rfl) ⟨rfl, _, _, _, _, _, _, _, _, _, _, _, _, _, _, _, _, _, _, _, _, rfl, setRow_heap v2b_6 vm_2.heap.size _ #[.int .i64 3, .int .i64 0, .string ⟨#[]⟩, .slice (some ⟨v2b_4.heap.size, 0, none⟩) 5 5] 77 (0, 0) as2b_6, Sl.row_far as2b_6 bs2b_6 rfl, below_setRow s2b_6 gs2b_1 _⟩ _
    refine wp_call1 50 _ _ (.int .i64 x.th) p8 HE50.out (by rfl) ?_
    (refine (Cd.rint_any x.th vm_2).mono ?_; rintro e vm_3 ⟨rfl, hb⟩)
    have sm_3 : Below W1.heap.size W1 vm_3 := sm_2.trans (hb.mono sm_2.size)
    clear hb
    refine ⟨_, rfl, ?_⟩
    rw [d8]
    simp only [Act.put, List.setIfInBounds_toArray, List.set_cons_zero, List.set_cons_succ]
    refine hK.out _ _ (fun _ => KP.out _ sm_3) ?_
    clear hK K
    refine wpAnyT_two (by rw [hops]; kernel_rfl) h11 h18 g11 g18 (fun K hK => ?_) (fun K hK => ?_)
    rotate_left
    · refine wp_runG (w' := vm_3.alloc (.cells #[.int .i64 0, .int .i64 0, .string ⟨#[]⟩, .slice none 0 0] 77)) (v := .pointer (some ⟨vm_3.heap.size, 0, none⟩)) (by unfold execOp; rw [p18]; first | rfl | kernel_rfl) ?_
      have s3b_1 : Below W1.heap.size W1 (vm_3.alloc (.cells #[.int .i64 0, .int .i64 0, .string ⟨#[]⟩, .slice none 0 0] 77)) := sm_3.alloc sm_3.size _
      have as3b_1 := Has.new vm_3 77 [.int .i64 0, .int .i64 0, .string ⟨#[]⟩, .slice none 0 0]
      have gs3b_1 : W1.heap.size ≤ vm_3.heap.size := sm_3.size
      rw [d18]
      simp only [Act.put, List.setIfInBounds_toArray, List.set_cons_zero, List.set_cons_succ]
      refine hK.out _ _ (fun _ => KP.out _ s3b_1) ?_
      clear hK K
      refine wpAnyT_one (by rw [hops]; kernel_rfl) h11 (wanted_none g11) (fun K hK => ?_)
      refine wp_call1 50 _ _ (.int .i64 x.mn) p11 HE50.out (by rfl) ?_
      (refine (Cd.rint_any x.mn (vm_3.alloc (.cells #[.int .i64 0, .int .i64 0, .string ⟨#[]⟩, .slice none 0 0] 77))).mono ?_; rintro e v3b_2 ⟨rfl, hb⟩)
      have s3b_2 : Below W1.heap.size W1 v3b_2 := s3b_1.trans (hb.mono s3b_1.size)
      have as3b_2 := as3b_1.keep hb
      clear hb
      refine ⟨_, rfl, ?_⟩
      rw [d11]
      simp only [Act.put, List.setIfInBounds_toArray, List.set_cons_zero, List.set_cons_succ]
      refine hK.out _ _ (fun _ => KP.out _ s3b_2) ?_
      clear hK K
      refine wpAnyT_one (by rw [hops]; kernel_rfl) h15 (wanted_none g15) (fun K hK => ?_)
      refine wp_call1 51 _ _ (.string ⟨x.d.toArray⟩) p15 HE51.out (by rfl) ?_
      (refine (Cd.rtext_any ⟨x.d.toArray⟩ v3b_2).mono ?_; rintro e v3b_3 ⟨rfl, hb⟩)
      have s3b_3 : Below W1.heap.size W1 v3b_3 := s3b_2.trans (hb.mono s3b_2.size)
      have as3b_3 := as3b_2.keep hb
      clear hb
      refine ⟨_, rfl, ?_⟩
      rw [d15]
      simp only [Act.put, List.setIfInBounds_toArray, List.set_cons_zero, List.set_cons_succ]
      refine hK.out _ _ (fun _ => KP.out _ s3b_3) ?_
      clear hK K
      refine wpAnyT_one (by rw [hops]; kernel_rfl) h16 (wanted_none g16) (fun K hK => ?_)
      refine wp_runG (run_op_buildSliceR 75 5 _ p16 [(0, .agg (Rc.ic x.ep).toArray), (1, .agg (Rc.ic x.ix).toArray), (2, .agg (Rc.ic x.th).toArray), (3, .agg (Rc.ic x.mn).toArray), (4, .agg (Sl.tcs x.d).toArray)] (by rfl) (.slice (some ⟨v3b_3.heap.size, 0, none⟩) 5 5) (v3b_3.alloc (.cells (Rc.ics (Sl.ics x) ++ Sl.tcs x.d).toArray 77)) (Sl.bs5 x v3b_3)) ?_
      have s3b_4 : Below W1.heap.size W1 (v3b_3.alloc (.cells (Rc.ics (Sl.ics x) ++ Sl.tcs x.d).toArray 77)) := s3b_3.alloc s3b_3.size _
      have bs3b_4 := Has.new v3b_3 77 (Rc.ics (Sl.ics x) ++ Sl.tcs x.d)
      have as3b_4 := as3b_3.alloc (.cells (Rc.ics (Sl.ics x) ++ Sl.tcs x.d).toArray 77)
      rw [d16]
      simp only [Act.put, List.setIfInBounds_toArray, List.set_cons_zero, List.set_cons_succ]
      refine hK.out _ _ (fun _ => KP.out _ s3b_4) ?_
      clear hK K
      refine wpAnyT_one (by rw [hops]; kernel_rfl) h17 (wanted_none g17) (fun K hK => ?_)
      refine wp_call1 49 _ _ (.slice (some ⟨v3b_3.heap.size, 0, none⟩) 5 5) p17 HE49.out (by rfl) ?_
      (refine (Cd.rlist_any (some ⟨v3b_3.heap.size, 0, none⟩) 5 5 (v3b_3.alloc (.cells (Rc.ics (Sl.ics x) ++ Sl.tcs x.d).toArray 77))).mono ?_; rintro e v3b_5 ⟨rfl, hb⟩)
      have s3b_5 : Below W1.heap.size W1 v3b_5 := s3b_4.trans (hb.mono s3b_4.size)
      have bs3b_5 := bs3b_4.keep hb
      have as3b_5 := as3b_4.keep hb
      clear hb
      refine ⟨_, rfl, ?_⟩
      rw [d17]
      simp only [Act.put, List.setIfInBounds_toArray, List.set_cons_zero, List.set_cons_succ]
      refine hK.out _ _ (fun _ => KP.out _ s3b_5) ?_
      clear hK K
      refine wpAnyT_one (by rw [hops]; kernel_rfl) h19 (wanted_none g19) (fun K hK => ?_)
      refine wp_runS (w' := v3b_5.setRow vm_3.heap.size #[.int .i64 3, .int .i64 0, .string ⟨#[]⟩, .slice (some ⟨v3b_3.heap.size, 0, none⟩) 5 5]) (run_op_store_row 77 _ _ p19 vm_3.heap.size #[.int .i64 3, .int .i64 0, .string ⟨#[]⟩, .slice (some ⟨v3b_3.heap.size, 0, none⟩) 5 5] (by rfl) (by rfl) 77 #[.int .i64 0, .int .i64 0, .string ⟨#[]⟩, .slice none 0 0] as3b_5 (by kernel_rfl) rfl (by simp [Value.oneCell'])) ?_
      rw [d19]
      simp only [Act.put, List.setIfInBounds_toArray, List.set_cons_zero, List.set_cons_succ]
      refine hK.out _ _ (fun h => absurd (by decide) h) ?_
      refine wpAnyT_done (by rw [hops]; kernel_rfl) ⟨rfl, _, _, _, _, _, _, _, _, _, _, _, _, _, _, _, _, _, _, _, _, rfl, setRow_heap v3b_5 vm_3.heap.size _ #[.int .i64 3, .int .i64 0, .string ⟨#[]⟩, .slice (some ⟨v3b_3.heap.size, 0, none⟩) 5 5] 77 (0, 0) as3b_5, Sl.row_far as3b_5 bs3b_5 rfl, below_setRow s3b_5 gs3b_1 _⟩ _
    refine wp_call1 50 _ _ (.int .i64 x.mn) p11 HE50.out (by rfl) ?_
    (refine (Cd.rint_any x.mn vm_3).mono ?_; rintro e vm_4 ⟨rfl, hb⟩)
    have sm_4 : Below W1.heap.size W1 vm_4 := sm_3.trans (hb.mono sm_3.size)
    clear hb
    refine ⟨_, rfl, ?_⟩
    rw [d11]
    simp only [Act.put, List.setIfInBounds_toArray, List.set_cons_zero, List.set_cons_succ]
    refine hK.out _ _ (fun _ => KP.out _ sm_4) ?_
    clear hK K
    refine wpAnyT_two (by rw [hops]; kernel_rfl) h15 h18 g15 g18 (fun K hK => ?_) (fun K hK => ?_)
    rotate_left
    · refine wp_runG (w' := vm_4.alloc (.cells #[.int .i64 0, .int .i64 0, .string ⟨#[]⟩, .slice none 0 0] 77)) (v := .pointer (some ⟨vm_4.heap.size, 0, none⟩)) (by unfold execOp; rw [p18]; first | rfl | kernel_rfl) ?_
      have s4b_1 : Below W1.heap.size W1 (vm_4.alloc (.cells #[.int .i64 0, .int .i64 0, .string ⟨#[]⟩, .slice none 0 0] 77)) := sm_4.alloc sm_4.size _
      have as4b_1 := Has.new vm_4 77 [.int .i64 0, .int .i64 0, .string ⟨#[]⟩, .slice none 0 0]
      have gs4b_1 : W1.heap.size ≤ vm_4.heap.size := sm_4.size
      rw [d18]
      simp only [Act.put, List.setIfInBounds_toArray, List.set_cons_zero, List.set_cons_succ]
      refine hK.out _ _ (fun _ => KP.out _ s4b_1) ?_
      clear hK K
      refine wpAnyT_one (by rw [hops]; kernel_rfl) h15 (wanted_none g15) (fun K hK => ?_)
      refine wp_call1 51 _ _ (.string ⟨x.d.toArray⟩) p15 HE51.out (by rfl) ?_
      (refine (Cd.rtext_any ⟨x.d.toArray⟩ (vm_4.alloc (.cells #[.int .i64 0, .int .i64 0, .string ⟨#[]⟩, .slice none 0 0] 77))).mono ?_; rintro e v4b_2 ⟨rfl, hb⟩)
      have s4b_2 : Below W1.heap.size W1 v4b_2 := s4b_1.trans (hb.mono s4b_1.size)
      have as4b_2 := as4b_1.keep hb
      clear hb
      refine ⟨_, rfl, ?_⟩
      rw [d15]
      simp only [Act.put, List.setIfInBounds_toArray, List.set_cons_zero, List.set_cons_succ]
      refine hK.out _ _ (fun _ => KP.out _ s4b_2) ?_
      clear hK K
      refine wpAnyT_one (by rw [hops]; kernel_rfl) h16 (wanted_none g16) (fun K hK => ?_)
      refine wp_runG (run_op_buildSliceR 75 5 _ p16 [(0, .agg (Rc.ic x.ep).toArray), (1, .agg (Rc.ic x.ix).toArray), (2, .agg (Rc.ic x.th).toArray), (3, .agg (Rc.ic x.mn).toArray), (4, .agg (Sl.tcs x.d).toArray)] (by rfl) (.slice (some ⟨v4b_2.heap.size, 0, none⟩) 5 5) (v4b_2.alloc (.cells (Rc.ics (Sl.ics x) ++ Sl.tcs x.d).toArray 77)) (Sl.bs5 x v4b_2)) ?_
      have s4b_3 : Below W1.heap.size W1 (v4b_2.alloc (.cells (Rc.ics (Sl.ics x) ++ Sl.tcs x.d).toArray 77)) := s4b_2.alloc s4b_2.size _
      have bs4b_3 := Has.new v4b_2 77 (Rc.ics (Sl.ics x) ++ Sl.tcs x.d)
      have as4b_3 := as4b_2.alloc (.cells (Rc.ics (Sl.ics x) ++ Sl.tcs x.d).toArray 77)
      rw [d16]
      simp only [Act.put, List.setIfInBounds_toArray, List.set_cons_zero, List.set_cons_succ]
      refine hK.out _ _ (fun _ => KP.out _ s4b_3) ?_
      clear hK K
      refine wpAnyT_one (by rw [hops]; kernel_rfl) h17 (wanted_none g17) (fun K hK => ?_)
      refine wp_call1 49 _ _ (.slice (some ⟨v4b_2.heap.size, 0, none⟩) 5 5) p17 HE49.out (by rfl) ?_
      (refine (Cd.rlist_any (some ⟨v4b_2.heap.size, 0, none⟩) 5 5 (v4b_2.alloc (.cells (Rc.ics (Sl.ics x) ++ Sl.tcs x.d).toArray 77))).mono ?_; rintro e v4b_4 ⟨rfl, hb⟩)
      have s4b_4 : Below W1.heap.size W1 v4b_4 := s4b_3.trans (hb.mono s4b_3.size)
      have bs4b_4 := bs4b_3.keep hb
      have as4b_4 := as4b_3.keep hb
      clear hb
      refine ⟨_, rfl, ?_⟩
      rw [d17]
      simp only [Act.put, List.setIfInBounds_toArray, List.set_cons_zero, List.set_cons_succ]
      refine hK.out _ _ (fun _ => KP.out _ s4b_4) ?_
      clear hK K
      refine wpAnyT_one (by rw [hops]; kernel_rfl) h19 (wanted_none g19) (fun K hK => ?_)
      refine wp_runS (w' := v4b_4.setRow vm_4.heap.size #[.int .i64 3, .int .i64 0, .string ⟨#[]⟩, .slice (some ⟨v4b_2.heap.size, 0, none⟩) 5 5]) (run_op_store_row 77 _ _ p19 vm_4.heap.size #[.int .i64 3, .int .i64 0, .string ⟨#[]⟩, .slice (some ⟨v4b_2.heap.size, 0, none⟩) 5 5] (by rfl) (by rfl) 77 #[.int .i64 0, .int .i64 0, .string ⟨#[]⟩, .slice none 0 0] as4b_4 (by kernel_rfl) rfl (by simp [Value.oneCell'])) ?_
      rw [d19]
      simp only [Act.put, List.setIfInBounds_toArray, List.set_cons_zero, List.set_cons_succ]
      refine hK.out _ _ (fun h => absurd (by decide) h) ?_
      refine wpAnyT_done (by rw [hops]; kernel_rfl) ⟨rfl, _, _, _, _, _, _, _, _, _, _, _, _, _, _, _, _, _, _, _, _, rfl, setRow_heap v4b_4 vm_4.heap.size _ #[.int .i64 3, .int .i64 0, .string ⟨#[]⟩, .slice (some ⟨v4b_2.heap.size, 0, none⟩) 5 5] 77 (0, 0) as4b_4, Sl.row_far as4b_4 bs4b_4 rfl, below_setRow s4b_4 gs4b_1 _⟩ _
    refine wp_call1 51 _ _ (.string ⟨x.d.toArray⟩) p15 HE51.out (by rfl) ?_
    (refine (Cd.rtext_any ⟨x.d.toArray⟩ vm_4).mono ?_; rintro e vm_5 ⟨rfl, hb⟩)
    have sm_5 : Below W1.heap.size W1 vm_5 := sm_4.trans (hb.mono sm_4.size)
    clear hb
    refine ⟨_, rfl, ?_⟩
    rw [d15]
    simp only [Act.put, List.setIfInBounds_toArray, List.set_cons_zero, List.set_cons_succ]
    refine hK.out _ _ (fun _ => KP.out _ sm_5) ?_
    clear hK K
    refine wpAnyT_two (by rw [hops]; kernel_rfl) h16 h18 g16 g18 (fun K hK => ?_) (fun K hK => ?_)
    rotate_left
    · refine wp_runG (w' := vm_5.alloc (.cells #[.int .i64 0, .int .i64 0, .string ⟨#[]⟩, .slice none 0 0] 77)) (v := .pointer (some ⟨vm_5.heap.size, 0, none⟩)) (by unfold execOp; rw [p18]; first | rfl | kernel_rfl) ?_
      have s5b_1 : Below W1.heap.size W1 (vm_5.alloc (.cells #[.int .i64 0, .int .i64 0, .string ⟨#[]⟩, .slice none 0 0] 77)) := sm_5.alloc sm_5.size _
      have as5b_1 := Has.new vm_5 77 [.int .i64 0, .int .i64 0, .string ⟨#[]⟩, .slice none 0 0]
      have gs5b_1 : W1.heap.size ≤ vm_5.heap.size := sm_5.size
      rw [d18]
      simp only [Act.put, List.setIfInBounds_toArray, List.set_cons_zero, List.set_cons_succ]
      refine hK.out _ _ (fun _ => KP.out _ s5b_1) ?_
      clear hK K
      refine wpAnyT_one (by rw [hops]; kernel_rfl) h16 (wanted_none g16) (fun K hK => ?_)
      refine wp_runG (run_op_buildSliceR 75 5 _ p16 [(0, .agg (Rc.ic x.ep).toArray), (1, .agg (Rc.ic x.ix).toArray), (2, .agg (Rc.ic x.th).toArray), (3, .agg (Rc.ic x.mn).toArray), (4, .agg (Sl.tcs x.d).toArray)] (by rfl) (.slice (some ⟨(vm_5.alloc (.cells #[.int .i64 0, .int .i64 0, .string ⟨#[]⟩, .slice none 0 0] 77)).heap.size, 0, none⟩) 5 5) ((vm_5.alloc (.cells #[.int .i64 0, .int .i64 0, .string ⟨#[]⟩, .slice none 0 0] 77)).alloc (.cells (Rc.ics (Sl.ics x) ++ Sl.tcs x.d).toArray 77)) (Sl.bs5 x (vm_5.alloc (.cells #[.int .i64 0, .int .i64 0, .string ⟨#[]⟩, .slice none 0 0] 77)))) ?_
      have s5b_2 : Below W1.heap.size W1 ((vm_5.alloc (.cells #[.int .i64 0, .int .i64 0, .string ⟨#[]⟩, .slice none 0 0] 77)).alloc (.cells (Rc.ics (Sl.ics x) ++ Sl.tcs x.d).toArray 77)) := s5b_1.alloc s5b_1.size _
      have bs5b_2 := Has.new (vm_5.alloc (.cells #[.int .i64 0, .int .i64 0, .string ⟨#[]⟩, .slice none 0 0] 77)) 77 (Rc.ics (Sl.ics x) ++ Sl.tcs x.d)
      have as5b_2 := as5b_1.alloc (.cells (Rc.ics (Sl.ics x) ++ Sl.tcs x.d).toArray 77)
      rw [d16]
      simp only [Act.put, List.setIfInBounds_toArray, List.set_cons_zero, List.set_cons_succ]
      refine hK.out _ _ (fun _ => KP.out _ s5b_2) ?_
      clear hK K
      refine wpAnyT_one (by rw [hops]; kernel_rfl) h17 (wanted_none g17) (fun K hK => ?_)
      refine wp_call1 49 _ _ (.slice (some ⟨(vm_5.alloc (.cells #[.int .i64 0, .int .i64 0, .string ⟨#[]⟩, .slice none 0 0] 77)).heap.size, 0, none⟩) 5 5) p17 HE49.out (by rfl) ?_
      (refine (Cd.rlist_any (some ⟨(vm_5.alloc (.cells #[.int .i64 0, .int .i64 0, .string ⟨#[]⟩, .slice none 0 0] 77)).heap.size, 0, none⟩) 5 5 ((vm_5.alloc (.cells #[.int .i64 0, .int .i64 0, .string ⟨#[]⟩, .slice none 0 0] 77)).alloc (.cells (Rc.ics (Sl.ics x) ++ Sl.tcs x.d).toArray 77))).mono ?_; rintro e v5b_3 ⟨rfl, hb⟩)
      have s5b_3 : Below W1.heap.size W1 v5b_3 := s5b_2.trans (hb.mono s5b_2.size)
      have bs5b_3 := bs5b_2.keep hb
      have as5b_3 := as5b_2.keep hb
      clear hb
      refine ⟨_, rfl, ?_⟩
      rw [d17]
      simp only [Act.put, List.setIfInBounds_toArray, List.set_cons_zero, List.set_cons_succ]
      refine hK.out _ _ (fun _ => KP.out _ s5b_3) ?_
      clear hK K
      refine wpAnyT_one (by rw [hops]; kernel_rfl) h19 (wanted_none g19) (fun K hK => ?_)
      refine wp_runS (w' := v5b_3.setRow vm_5.heap.size #[.int .i64 3, .int .i64 0, .string ⟨#[]⟩, .slice (some ⟨(vm_5.alloc (.cells #[.int .i64 0, .int .i64 0, .string ⟨#[]⟩, .slice none 0 0] 77)).heap.size, 0, none⟩) 5 5]) (run_op_store_row 77 _ _ p19 vm_5.heap.size #[.int .i64 3, .int .i64 0, .string ⟨#[]⟩, .slice (some ⟨(vm_5.alloc (.cells #[.int .i64 0, .int .i64 0, .string ⟨#[]⟩, .slice none 0 0] 77)).heap.size, 0, none⟩) 5 5] (by rfl) (by rfl) 77 #[.int .i64 0, .int .i64 0, .string ⟨#[]⟩, .slice none 0 0] as5b_3 (by kernel_rfl) rfl (by simp [Value.oneCell'])) ?_
      rw [d19]
      simp only [Act.put, List.setIfInBounds_toArray, List.set_cons_zero, List.set_cons_succ]
      refine hK.out _ _ (fun h => absurd (by decide) h) ?_
      refine wpAnyT_done (by rw [hops]; kernel_rfl) ⟨rfl, _, _, _, _, _, _, _, _, _, _, _, _, _, _, _, _, _, _, _, _, rfl, setRow_heap v5b_3 vm_5.heap.size _ #[.int .i64 3, .int .i64 0, .string ⟨#[]⟩, .slice (some ⟨(vm_5.alloc (.cells #[.int .i64 0, .int .i64 0, .string ⟨#[]⟩, .slice none 0 0] 77)).heap.size, 0, none⟩) 5 5] 77 (0, 0) as5b_3, Sl.row_far as5b_3 bs5b_3 rfl, below_setRow s5b_3 gs5b_1 _⟩ _
    refine wp_runG (run_op_buildSliceR 75 5 _ p16 [(0, .agg (Rc.ic x.ep).toArray), (1, .agg (Rc.ic x.ix).toArray), (2, .agg (Rc.ic x.th).toArray), (3, .agg (Rc.ic x.mn).toArray), (4, .agg (Sl.tcs x.d).toArray)] (by rfl) (.slice (some ⟨vm_5.heap.size, 0, none⟩) 5 5) (vm_5.alloc (.cells (Rc.ics (Sl.ics x) ++ Sl.tcs x.d).toArray 77)) (Sl.bs5 x vm_5)) ?_
    have sm_6 : Below W1.heap.size W1 (vm_5.alloc (.cells (Rc.ics (Sl.ics x) ++ Sl.tcs x.d).toArray 77)) := sm_5.alloc sm_5.size _
    have bsm_6 := Has.new vm_5 77 (Rc.ics (Sl.ics x) ++ Sl.tcs x.d)
    rw [d16]
    simp only [Act.put, List.setIfInBounds_toArray, List.set_cons_zero, List.set_cons_succ]
    refine hK.out _ _ (fun _ => KP.out _ sm_6) ?_
    clear hK K
    refine wpAnyT_two (by rw [hops]; kernel_rfl) h17 h18 g17 g18 (fun K hK => ?_) (fun K hK => ?_)
    rotate_left
    · refine wp_runG (w' := (vm_5.alloc (.cells (Rc.ics (Sl.ics x) ++ Sl.tcs x.d).toArray 77)).alloc (.cells #[.int .i64 0, .int .i64 0, .string ⟨#[]⟩, .slice none 0 0] 77)) (v := .pointer (some ⟨(vm_5.alloc (.cells (Rc.ics (Sl.ics x) ++ Sl.tcs x.d).toArray 77)).heap.size, 0, none⟩)) (by unfold execOp; rw [p18]; first | rfl | kernel_rfl) ?_
      have s6b_1 : Below W1.heap.size W1 ((vm_5.alloc (.cells (Rc.ics (Sl.ics x) ++ Sl.tcs x.d).toArray 77)).alloc (.cells #[.int .i64 0, .int .i64 0, .string ⟨#[]⟩, .slice none 0 0] 77)) := sm_6.alloc sm_6.size _
      have as6b_1 := Has.new (vm_5.alloc (.cells (Rc.ics (Sl.ics x) ++ Sl.tcs x.d).toArray 77)) 77 [.int .i64 0, .int .i64 0, .string ⟨#[]⟩, .slice none 0 0]
      have gs6b_1 : W1.heap.size ≤ (vm_5.alloc (.cells (Rc.ics (Sl.ics x) ++ Sl.tcs x.d).toArray 77)).heap.size := sm_6.size
      have bs6b_1 := bsm_6.alloc (.cells #[.int .i64 0, .int .i64 0, .string ⟨#[]⟩, .slice none 0 0] 77)
      rw [d18]
      simp only [Act.put, List.setIfInBounds_toArray, List.set_cons_zero, List.set_cons_succ]
      refine hK.out _ _ (fun _ => KP.out _ s6b_1) ?_
      clear hK K
      refine wpAnyT_one (by rw [hops]; kernel_rfl) h17 (wanted_none g17) (fun K hK => ?_)
      refine wp_call1 49 _ _ (.slice (some ⟨vm_5.heap.size, 0, none⟩) 5 5) p17 HE49.out (by rfl) ?_
      (refine (Cd.rlist_any (some ⟨vm_5.heap.size, 0, none⟩) 5 5 ((vm_5.alloc (.cells (Rc.ics (Sl.ics x) ++ Sl.tcs x.d).toArray 77)).alloc (.cells #[.int .i64 0, .int .i64 0, .string ⟨#[]⟩, .slice none 0 0] 77))).mono ?_; rintro e v6b_2 ⟨rfl, hb⟩)
      have s6b_2 : Below W1.heap.size W1 v6b_2 := s6b_1.trans (hb.mono s6b_1.size)
      have bs6b_2 := bs6b_1.keep hb
      have as6b_2 := as6b_1.keep hb
      clear hb
      refine ⟨_, rfl, ?_⟩
      rw [d17]
      simp only [Act.put, List.setIfInBounds_toArray, List.set_cons_zero, List.set_cons_succ]
      refine hK.out _ _ (fun _ => KP.out _ s6b_2) ?_
      clear hK K
      refine wpAnyT_one (by rw [hops]; kernel_rfl) h19 (wanted_none g19) (fun K hK => ?_)
      refine wp_runS (w' := v6b_2.setRow (vm_5.alloc (.cells (Rc.ics (Sl.ics x) ++ Sl.tcs x.d).toArray 77)).heap.size #[.int .i64 3, .int .i64 0, .string ⟨#[]⟩, .slice (some ⟨vm_5.heap.size, 0, none⟩) 5 5]) (run_op_store_row 77 _ _ p19 (vm_5.alloc (.cells (Rc.ics (Sl.ics x) ++ Sl.tcs x.d).toArray 77)).heap.size #[.int .i64 3, .int .i64 0, .string ⟨#[]⟩, .slice (some ⟨vm_5.heap.size, 0, none⟩) 5 5] (by rfl) (by rfl) 77 #[.int .i64 0, .int .i64 0, .string ⟨#[]⟩, .slice none 0 0] as6b_2 (by kernel_rfl) rfl (by simp [Value.oneCell'])) ?_
      rw [d19]
      simp only [Act.put, List.setIfInBounds_toArray, List.set_cons_zero, List.set_cons_succ]
      refine hK.out _ _ (fun h => absurd (by decide) h) ?_
      refine wpAnyT_done (by rw [hops]; kernel_rfl) ⟨rfl, _, _, _, _, _, _, _, _, _, _, _, _, _, _, _, _, _, _, _, _, rfl, setRow_heap v6b_2 (vm_5.alloc (.cells (Rc.ics (Sl.ics x) ++ Sl.tcs x.d).toArray 77)).heap.size _ #[.int .i64 3, .int .i64 0, .string ⟨#[]⟩, .slice (some ⟨vm_5.heap.size, 0, none⟩) 5 5] 77 (0, 0) as6b_2, Sl.row_far as6b_2 bs6b_2 rfl, below_setRow s6b_2 gs6b_1 _⟩ _
    refine wp_call1 49 _ _ (.slice (some ⟨vm_5.heap.size, 0, none⟩) 5 5) p17 HE49.out (by rfl) ?_
    (refine (Cd.rlist_any (some ⟨vm_5.heap.size, 0, none⟩) 5 5 (vm_5.alloc (.cells (Rc.ics (Sl.ics x) ++ Sl.tcs x.d).toArray 77))).mono ?_; rintro e vm_7 ⟨rfl, hb⟩)
    have sm_7 : Below W1.heap.size W1 vm_7 := sm_6.trans (hb.mono sm_6.size)
    have bsm_7 := bsm_6.keep hb
    clear hb
    refine ⟨_, rfl, ?_⟩
    rw [d17]
    simp only [Act.put, List.setIfInBounds_toArray, List.set_cons_zero, List.set_cons_succ]
    refine hK.out _ _ (fun _ => KP.out _ sm_7) ?_
    clear hK K
    refine wpAnyT_one (by rw [hops]; kernel_rfl) h18 (wanted_none g18) (fun K hK => ?_)
    refine wp_runG (w' := vm_7.alloc (.cells #[.int .i64 0, .int .i64 0, .string ⟨#[]⟩, .slice none 0 0] 77)) (v := .pointer (some ⟨vm_7.heap.size, 0, none⟩)) (by unfold execOp; rw [p18]; first | rfl | kernel_rfl) ?_
    have sm_8 : Below W1.heap.size W1 (vm_7.alloc (.cells #[.int .i64 0, .int .i64 0, .string ⟨#[]⟩, .slice none 0 0] 77)) := sm_7.alloc sm_7.size _
    have asm_8 := Has.new vm_7 77 [.int .i64 0, .int .i64 0, .string ⟨#[]⟩, .slice none 0 0]
    have gsm_8 : W1.heap.size ≤ vm_7.heap.size := sm_7.size
    have bsm_8 := bsm_7.alloc (.cells #[.int .i64 0, .int .i64 0, .string ⟨#[]⟩, .slice none 0 0] 77)
    rw [d18]
    simp only [Act.put, List.setIfInBounds_toArray, List.set_cons_zero, List.set_cons_succ]
    refine hK.out _ _ (fun _ => KP.out _ sm_8) ?_
    clear hK K
    refine wpAnyT_one (by rw [hops]; kernel_rfl) h19 (wanted_none g19) (fun K hK => ?_)
    refine wp_runS (w' := (vm_7.alloc (.cells #[.int .i64 0, .int .i64 0, .string ⟨#[]⟩, .slice none 0 0] 77)).setRow vm_7.heap.size #[.int .i64 3, .int .i64 0, .string ⟨#[]⟩, .slice (some ⟨vm_5.heap.size, 0, none⟩) 5 5]) (run_op_store_row 77 _ _ p19 vm_7.heap.size #[.int .i64 3, .int .i64 0, .string ⟨#[]⟩, .slice (some ⟨vm_5.heap.size, 0, none⟩) 5 5] (by rfl) (by rfl) 77 #[.int .i64 0, .int .i64 0, .string ⟨#[]⟩, .slice none 0 0] asm_8 (by kernel_rfl) rfl (by simp [Value.oneCell'])) ?_
    rw [d19]
    simp only [Act.put, List.setIfInBounds_toArray, List.set_cons_zero, List.set_cons_succ]
    refine hK.out _ _ (fun h => absurd (by decide) h) ?_
    refine wpAnyT_done (by rw [hops]; kernel_rfl) ⟨rfl, _, _, _, _, _, _, _, _, _, _, _, _, _, _, _, _, _, _, _, _, rfl, setRow_heap (vm_7.alloc (.cells #[.int .i64 0, .int .i64 0, .string ⟨#[]⟩, .slice none 0 0] 77)) vm_7.heap.size _ #[.int .i64 3, .int .i64 0, .string ⟨#[]⟩, .slice (some ⟨vm_5.heap.size, 0, none⟩) 5 5] 77 (0, 0) asm_8, Sl.row_far asm_8 bsm_8 rfl, below_setRow sm_8 gsm_8 _⟩ _

  case tail =>
    rintro e a' W5 ⟨rfl, gv, gb, v6, v7, v8, v9, v10, v11, v12, v13, v14, v15, v16, v17, v18, v19, v20, v21, v22, v23, rfl, hv, hbb, hb5⟩
    have HB5 := Lib.hid (HB1.out.trans (hb5.mono HB1.out.size))
    have HD5 := Lib.hid (HD1.out.keep hb5)
    have c0 := hv.cell 0
    have c1 := hv.cell 1
    have c2 := hv.cell 2
    have c3 := hv.cell 3
    simp only [List.getElem?_cons_succ, List.getElem?_cons_zero] at c0 c1 c2 c3
    have hzv := hv.lt
    have hrd : Rd W5 W5.heap.size 4 (some ⟨gb, 0, none⟩) 5 (Rc.ics (Sl.ics x) ++ Sl.tcs x.d) := ⟨by simp [Rc.ics, Sl.ics], fun _ => ⟨gb, 0, rfl, hbb.lt, fun j u hu => by rw [Nat.zero_add, hbb.cell j]; exact hu⟩⟩
    have hC := Sl.cell_val2 hrd (by simp) (by have := HDL.out; unfold maxLen; omega) HI64.out.1 HI64.out.2.1 HI64.out.2.2.1 HI64.out.2.2.2
    have hsm := Sl.val_small x HDL.out
    have HEN := Lib.hid (by
      have h := Cd.rencode2_any (Sl.val x) _ W5 hsm.1 hC hsm.2
      unfold Cd.RetE at h
      rw [Sl.val_chk, Sl.val_out] at h
      exact h)
    have HSM := Lib.hid hsm.2
    have HDG := Lib.hid (show Sl.mark x = Dg.tagged Rc.K0 Rc.I0 Sl.tgS (Sl.val x).enc from rfl)
    generalize (Sl.val x).enc = L at HEN HSM HDG
    clear hC hsm hrd hv hbb hb5 KP s0 HE49 HE50 HE51
    go_wp2_with fail
    ((with_reducible refine HEN.out.mono ?_); rintro e w7 ⟨v, rfl, hb7, ho7⟩)
    obtain ⟨A7, c7, rfl⟩ := Dg.own_form ho7
    have HB7 := Lib.hid (HB5.out.trans (hb7.mono HB5.out.size))
    have HD7 := Lib.hid (HD5.out.keep hb7)
    have HTG := Lib.hid (by
      have h := Dg.rtag_any w7 Sl.tgS A7 L.length c7 L (RdB.of_own ho7) (own_nil ho7) (by have := HSM.out; omega) (by decide)
      rw [← HDG.out, ← HDZ.out] at h
      exact h)
    clear hb7 ho7 c0 c1 c2 c3
    go_wp2_with fail
    ((with_reducible refine HTG.out.mono ?_); rintro e w8 ⟨rfl, hb8⟩)
    have HB8 := Lib.hid (HB7.out.trans (hb8.mono HB7.out.size))
    have HD8 := Lib.hid (show w8.heap[w.heap.size + 1]? = some (.cells Dg.z32.toArray 23 (0, 0)) from HD7.out.keep hb8)
    have hds : D.size = 32 := by rw [HDZ.out]; simp [Sl.mark_len]
    have hi31 : (Tryd.prog.info? 23).map (·.size) = some D.size := by rw [hds]; kernel_rfl
    have HI8 := Lib.hid hi31
    have HS8 := Lib.hid (show Dg.z32.toArray.size = D.size from by rw [hds]; rfl)
    have H18 := Lib.hid (show D.all (·.oneCell') = true from by rw [HDZ.out]; exact all_oneCell_toArray (one_bytes _))
    clear hb8 hds hi31
    go_wp2_with (first
      | (refine wpList_store_row (o := ⟨none, .store 23 (.tmp 2) (.tmp 30), _, _, _, _⟩) rfl 23 (.tmp 2) (.tmp 30) rfl (w.heap.size + 1) D rfl rfl 23 Dg.z32.toArray HD8.out HI8.out HS8.out H18.out ?_))
    have HF8 := Lib.hid (setRow_heap w8 (w.heap.size + 1) _ D 23 (0, 0) HD8.out)
    refine bodyPost_ret (results_cell_row rfl _ _ (w.heap.size + 1) 23 D (0, 0) _ rfl HF8.out Tryd.underlying23 rfl HI8.out) rfl ?_
    exact ⟨rfl, below_setRow HB8.out (by omega) _⟩
end Go.Proofs.YtideglpjgplpnaaDoor
