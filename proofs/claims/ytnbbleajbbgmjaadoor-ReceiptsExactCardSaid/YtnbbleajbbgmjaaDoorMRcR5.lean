import Derived.Test.YtnbbleajbbgmjaaDoorMRcR3
import Derived.Test.YtnbbleajbbgmjaaDoorMClkR1
import Derived.Test.YtnbbleajbbgmjaaDoorMUtil
import Derived.Deep.RegionHeld3
import Derived.BigQuiet
/- Contracts of the reference's receipts: Check. -/
namespace Go.Proofs.YtnbbleajbbgmjaaDoor
open Go.RowKit
set_option linter.unusedVariables false

theorem Rc.badR_eq {K : List UInt32} {I : Dg.S} {nc ns : Nat} {subs : List Rc.Sb} {l : List Rc.R} {i : Nat} {x : Rc.R} (hs : subs.length = ns) (hx : l[i]? = some x) :
    Rc.badR K I nc subs l i = (!Rc.inB x.rf nc || (!Rc.inB x.no ns || (!Rc.inB x.st 1048577 || ((if i = 0 then false else Rc.late (l.getD (i - 1) default) x) ||
      (match subs[x.no.toNat]? with | none => true | some s => s.odd || !(s.dl K I == x.dg)))))) := by
  unfold Rc.badR
  rw [hx, ← hs]
  rfl
theorem Rc.inB_lt0 {x n : Int} (h : x < 0) : Rc.inB x n = false := by unfold Rc.inB; rw [decide_eq_false (by omega)]; rfl
theorem Rc.inB_geN {x n : Int} (h : n ≤ x) : Rc.inB x n = false := by unfold Rc.inB; rw [decide_eq_false (show ¬ x < n by omega), Bool.and_false]
theorem Rc.inB_in {x n : Int} (h0 : 0 ≤ x) (h1 : x < n) : Rc.inB x n = true := by unfold Rc.inB; rw [decide_eq_true h0, decide_eq_true h1]; rfl
/-- a submission that is valid and has its own number -/
theorem Rc.w3_no {l : List Rc.Sb} {i : Nat} {s : Rc.Sb} (hs : l[i]? = some s) (h : Rc.w3 l i = false) : s.odd = false := by
  unfold Rc.w3 at h
  rw [hs] at h
  simp only [Bool.or_eq_false_iff] at h
  exact h.1
theorem unwanted_some {ops : Array Oper} {tmps : Array Value} {o oj : Oper} {j d : Nat} {b : Bool} (h : o.guard = some (j, b)) (hj : ops[j]? = some oj) (hd : oj.dst = some d) (ht : tmps[d]? = some (.bool (!b))) : Region.wanted o (yielded ops tmps) = false := by
  cases b <;> simp [Region.wanted, h, yielded, hj, hd, ht]
theorem unwanted_undef {ops : Array Oper} {tmps : Array Value} {o oj : Oper} {j d : Nat} {b : Bool} (h : o.guard = some (j, b)) (hj : ops[j]? = some oj) (hd : oj.dst = some d) (ht : tmps[d]? = some undef) : Region.wanted o (yielded ops tmps) = false := by
  simp [Region.wanted, h, yielded, hj, hd, ht, undef]
theorem Rc.alloc_set (w : World) (o : Obj) (g : Nat) (c : Array Value) (hg : g = w.heap.size) : Below w.heap.size w ((w.alloc o).setRow g c) := by
  subst hg
  exact below_setRow ((Below.refl _ w).alloc (Nat.le_refl _) _) (Nat.le_refl _) _

set_option maxRecDepth 100000 in
set_option maxHeartbeats 16000000 in
theorem Rc.rcheck_any (Ac As Al : Option Addr) (nc cc ns cs nl cl : Nat) (c : List Rc.C) (subs : List Rc.Sb) (l : List Rc.R) (w : World) (hE : Rc.Ev w w.heap.size Ac As Al nc ns nl c subs l) :
    Calls Tryd.prog 15 #[.slice Ac nc cc, .slice As ns cs, .slice Al nl cl] w fun e w' => e = .returned (.int .i64 (Rc.chkE Rc.K0 Rc.I0 c subs l)) ∧ Below w.heap.size w w' := by
  have HEV := Lib.hid hE
  have HW := Lib.hid (show Rc.wrong Rc.K0 Rc.I0 c subs l = (Rc.w1 nc ns nl || (Rc.pre (Rc.w2 c) nc || (Rc.pre (Rc.w3 subs) ns || Rc.pre (Rc.badR Rc.K0 Rc.I0 nc subs l) nl))) from by
    unfold Rc.wrong
    rw [hE.c.len, hE.s.len, hE.l.len])
  have HCE := Lib.hid (show Rc.chkE Rc.K0 Rc.I0 c subs l = if Rc.wrong Rc.K0 Rc.I0 c subs l = true then 510 else 0 from rfl)
  have hcl := hE.c.len
  have hsl := hE.s.len
  have hll := hE.l.len
  have HCL := Lib.hid hcl
  have HSL := Lib.hid hsl
  have HLL := Lib.hid hll
  have hnc := hE.mc
  have hns := hE.ms
  have hnl := hE.ml
  have HNC := Lib.hid hnc
  have HNS := Lib.hid hns
  have HNL := Lib.hid hnl
  unfold maxLen at hnc hns hnl
  generalize Rc.chkE Rc.K0 Rc.I0 c subs l = E at HCE ⊢
  generalize Rc.wrong Rc.K0 Rc.I0 c subs l = wr0 at HW HCE
  have HYES := Lib.hid (show wr0 = true → E = 510 from fun h => by rw [HCE.out, if_pos h])
  have HNO := Lib.hid (show wr0 = false → E = 0 from fun h => by rw [HCE.out, if_neg (by rw [h]; decide)])
  clear hE hcl hsl hll HCE
  by_cases h1 : 8 < nc
  · have HE := Lib.hid (HYES.out (by rw [HW.out]; unfold Rc.w1; rw [decide_eq_true h1]; rfl))
    have d1 : decide ((8 : Int) < (nc : Int)) = true := decide_eq_true (by omega)
    go_enter Tryd.func15, Tryd.ntmps15
    go_wp2_with fail
    go_ret
    exact ⟨by rw [HE.out]; rfl, Below.refl _ _⟩
  have d8 : decide ((8 : Int) < (nc : Int)) = false := decide_eq_false (by omega)
  have n8 : nc ≤ 8 := by omega
  clear h1
  by_cases h1 : 32 < ns
  · have HE := Lib.hid (HYES.out (by rw [HW.out]; unfold Rc.w1; rw [decide_eq_true h1, Bool.true_or, Bool.or_true]; rfl))
    have d1 : decide ((32 : Int) < (ns : Int)) = true := decide_eq_true (by omega)
    go_enter Tryd.func15, Tryd.ntmps15
    go_wp2_with fail
    go_ret
    exact ⟨by rw [HE.out]; rfl, Below.refl _ _⟩
  have d32 : decide ((32 : Int) < (ns : Int)) = false := decide_eq_false (by omega)
  have n32 : ns ≤ 32 := by omega
  clear h1
  by_cases h1 : 256 < nl
  · have HE := Lib.hid (HYES.out (by rw [HW.out]; unfold Rc.w1; rw [decide_eq_true h1, Bool.or_true, Bool.or_true]; rfl))
    have d1 : decide ((256 : Int) < (nl : Int)) = true := decide_eq_true (by omega)
    go_enter Tryd.func15, Tryd.ntmps15
    go_wp2_with fail
    go_ret
    exact ⟨by rw [HE.out]; rfl, Below.refl _ _⟩
  have d256 : decide ((256 : Int) < (nl : Int)) = false := decide_eq_false (by omega)
  have n256 : nl ≤ 256 := by omega
  clear h1
  have HW1 := Lib.hid (show wr0 = (Rc.pre (Rc.w2 c) nc || (Rc.pre (Rc.w3 subs) ns || Rc.pre (Rc.badR Rc.K0 Rc.I0 nc subs l) nl)) from by
    rw [HW.out]; unfold Rc.w1; rw [decide_eq_false (show ¬ 8 < nc by omega), decide_eq_false (show ¬ 32 < ns by omega), decide_eq_false (show ¬ 256 < nl by omega)]; rfl)
  go_enter Tryd.func15, Tryd.ntmps15
  go_wp2_with fail
  go_loopw [7] (fun i wr => ∃ k : Nat, k ≤ nc ∧ i = .int .i64 k ∧ Rc.pre (Rc.w2 c) k = false ∧ Below w.heap.size w wr) (fun i _ => nc - (intOf i).toNat)
  case atStart => exact ⟨0, by omega, rfl, rfl, Below.refl _ _⟩
  case round =>
    obtain ⟨k, hk, rfl, hx, hB⟩ := hrel
    have HB := Lib.hid hB
    have HX := Lib.hid hx
    clear hx hB
    by_cases hlt : k < nc
    · obtain ⟨q, hq⟩ : ∃ q, c[k]? = some q := ⟨_, List.getElem?_eq_getElem (by have := HCL.out; omega)⟩
      obtain ⟨b, off, rfl, hb, c0, c1, c2⟩ := (HEV.out.c.keep HB.out).get k q hq
      have hw2 : Rc.w2 c k = q.bad := by unfold Rc.w2; rw [hq]
      have HA := Lib.hid (show q.bad = true → E = 510 from fun h => HYES.out (by rw [HW1.out, Rc.pre_yes _ nc k hlt (by rw [hw2, h])]; rfl))
      have HX2 := Lib.hid (show q.bad = false → Rc.pre (Rc.w2 c) (k + 1) = false from fun h => by rw [Rc.pre, HX.out, Bool.false_or, hw2, h])
      have HBD := Lib.hid (show q.bad = !Clk.okB q.s q.er q.d from rfl)
      clear hq hw2 hb
      cases ho : Clk.okB q.s q.er q.d with
      | false =>
        have HE := Lib.hid (HA.out (by rw [HBD.out, ho]; rfl))
        have HO := Lib.hid (Clk.rcheck_no q.s q.er q.d wr ho)
        clear ho
        go_wp2_with fail
        ((with_reducible refine HO.out.mono ?_); rintro e w1 ⟨rfl, hb1⟩)
        have HB1 := Lib.hid (HB.out.trans (hb1.mono HB.out.size))
        clear hb1 c0 c1 c2
        go_wp2_with fail
        go_ret
        exact ⟨by rw [HE.out]; rfl, HB1.out⟩
      | true =>
        have HX3 := Lib.hid (HX2.out (by rw [HBD.out, ho]; rfl))
        have HO := Lib.hid (Clk.rcheck_ok q.s q.er q.d wr ho)
        clear ho
        go_wp2_with fail
        ((with_reducible refine HO.out.mono ?_); rintro e w1 ⟨rfl, hb1⟩)
        have HB1 := Lib.hid (HB.out.trans (hb1.mono HB.out.size))
        clear hb1 c0 c1 c2
        go_wp2_with fail
        exact ⟨⟨k + 1, by omega, by go_num, HX3.out, HB1.out⟩, by simp [intOf]; omega⟩
    · have hkn : k = nc := by omega
      have HW2 := Lib.hid (show wr0 = (Rc.pre (Rc.w3 subs) ns || Rc.pre (Rc.badR Rc.K0 Rc.I0 nc subs l) nl) from by
        have h := HX.out
        rw [hkn] at h
        rw [HW1.out, h, Bool.false_or])
      clear HX
      go_wp2_with fail
      clear hkn
      generalize hwa : wr = wa at HB
      clear hwa
      go_loopw [8] (fun i wr => ∃ k : Nat, k ≤ ns ∧ i = .int .i64 k ∧ Rc.pre (Rc.w3 subs) k = false ∧ Below w.heap.size w wr) (fun i _ => ns - (intOf i).toNat)
      case atStart => exact ⟨0, by omega, rfl, rfl, HB.out⟩
      case round =>
        clear HB
        obtain ⟨k, hk, rfl, hx, hB⟩ := hrel
        have HB := Lib.hid hB
        have HX := Lib.hid hx
        clear hx hB
        by_cases hlt : k < ns
        · obtain ⟨q, hq⟩ : ∃ q, subs[k]? = some q := ⟨_, List.getElem?_eq_getElem (by have := HSL.out; omega)⟩
          obtain ⟨b, off, Ag, cg, rfl, hb, c0, c1, c2, c3, hrg, hmg⟩ := (HEV.out.s.keep HB.out).get k q hq
          have hw3 : Rc.w3 subs k = (q.odd || !(decide (q.no = (k : Int)))) := by unfold Rc.w3; rw [hq]
          have HA := Lib.hid (show (q.odd || !(decide (q.no = (k : Int)))) = true → E = 510 from fun h => HYES.out (by rw [HW2.out, Rc.pre_yes _ ns k hlt (by rw [hw3, h])]; rfl))
          have HX2 := Lib.hid (show (q.odd || !(decide (q.no = (k : Int)))) = false → Rc.pre (Rc.w3 subs) (k + 1) = false from fun h => by rw [Rc.pre, HX.out, Bool.false_or, hw3, h])
          have HO := Lib.hid (show Calls Tryd.prog 29 #[.agg #[Rc.i q.no, Rc.i q.comp, Rc.i q.puz, .slice Ag q.grid.length cg]] wr fun e w' => e = .returned (.bool (!q.odd)) ∧ Below wr.heap.size wr w' from
            Rc.rvalid_any q.no q.comp q.puz Ag q.grid.length cg q.grid wr (hrg.more HB.out.size) hmg)
          have hbw : b < wr.heap.size := by have := HB.out.size; omega
          clear hw3 hq hrg hmg hb
          cases ho : q.odd with
          | true =>
            rw [ho, show (!true) = false from rfl] at HO
            have HE := Lib.hid (HA.out (by rw [ho]; rfl))
            clear ho
            go_wp2_with (first | ((with_reducible refine HO.out.mono ?_); rintro e w1 ⟨rfl, hb1⟩; have HB1 := Lib.hid (HB.out.trans (hb1.mono HB.out.size)); clear hb1))
            go_ret
            exact ⟨by rw [HE.out]; rfl, HB1.out⟩
          | false =>
            rw [ho, show (!false) = true from rfl] at HO
            rw [ho, Bool.false_or] at HA HX2
            clear ho
            by_cases hn2 : q.no = (k : Int)
            · have hd : (q.no != (k : Int)) = false := by simp [hn2]
              have HX3 := Lib.hid (HX2.out (by rw [decide_eq_true hn2]; rfl))
              clear hn2
              go_wp2_with (first | ((with_reducible refine HO.out.mono ?_); rintro e w1 ⟨rfl, hb1⟩; have HB1 := Lib.hid (HB.out.trans (hb1.mono HB.out.size)); have x0 : w1.cell? ⟨b, off + k * 4, none⟩ = some (Rc.i q.no) := (hb1.cell (p := ⟨b, off + k * 4, none⟩) hbw).trans c0; clear hb1 c0 c1 c2 c3))
              exact ⟨⟨k + 1, by omega, by go_num, HX3.out, HB1.out⟩, by simp [intOf]; omega⟩
            · have hd : (q.no != (k : Int)) = true := by simp [hn2]
              have HE := Lib.hid (HA.out (by rw [decide_eq_false hn2]; rfl))
              clear hn2
              go_wp2_with (first | ((with_reducible refine HO.out.mono ?_); rintro e w1 ⟨rfl, hb1⟩; have HB1 := Lib.hid (HB.out.trans (hb1.mono HB.out.size)); have x0 : w1.cell? ⟨b, off + k * 4, none⟩ = some (Rc.i q.no) := (hb1.cell (p := ⟨b, off + k * 4, none⟩) hbw).trans c0; clear hb1 c0 c1 c2 c3))
              go_ret
              exact ⟨by rw [HE.out]; rfl, HB1.out⟩
        · have hkn : k = ns := by omega
          have HP3 := Lib.hid (show Rc.pre (Rc.w3 subs) ns = false from by have h := HX.out; rwa [hkn] at h)
          have HW3 := Lib.hid (show wr0 = Rc.pre (Rc.badR Rc.K0 Rc.I0 nc subs l) nl from by rw [HW2.out, HP3.out, Bool.false_or])
          clear HX
          go_wp2_with fail
          clear hkn
          generalize hwa : wr = wa at HB
          clear hwa
          go_loopw [9] (fun i wr => ∃ k : Nat, k ≤ nl ∧ i = .int .i64 k ∧ Rc.pre (Rc.badR Rc.K0 Rc.I0 nc subs l) k = false ∧ Below w.heap.size w wr) (fun i _ => nl - (intOf i).toNat)
          case atStart => exact ⟨0, by omega, rfl, rfl, HB.out⟩
          case round =>
            clear HB
            obtain ⟨k, hk, rfl, hx, hB⟩ := hrel
            have HB := Lib.hid hB
            have HX := Lib.hid hx
            clear hx hB
            by_cases hlt : k < nl
            · obtain ⟨x, hx⟩ : ∃ x, l[k]? = some x := ⟨_, List.getElem?_eq_getElem (by have := HLL.out; omega)⟩
              obtain ⟨hd32, bl, ol, rfl, hbl, hrx⟩ := (HEV.out.l.keep HB.out).get k x hx
              have hbd := Rc.badR_eq (K := Rc.K0) (I := Rc.I0) (nc := nc) HSL.out hx
              have HA := Lib.hid (show Rc.badR Rc.K0 Rc.I0 nc subs l k = true → E = 510 from fun h => HYES.out (by rw [HW3.out]; exact Rc.pre_yes _ nl k hlt h))
              have HX2 := Lib.hid (show Rc.badR Rc.K0 Rc.I0 nc subs l k = false → Rc.pre (Rc.badR Rc.K0 Rc.I0 nc subs l) (k + 1) = false from fun h => by rw [Rc.pre, HX.out, Bool.false_or, h])
              generalize Rc.badR Rc.K0 Rc.I0 nc subs l k = bad at hbd HA HX2
              have HBD := Lib.hid hbd
              have HD32 := Lib.hid hd32
              have HRX := Lib.hid hrx
              have hc35 : x.cells.length = 35 := Rc.R.cells_len hd32
              have HI47 := Lib.hid (show (Tryd.prog.info? 47).map (·.size) = some x.cells.length from by rw [hc35]; exact Rc.info47)
              have HI47b := Lib.hid (show (Tryd.prog.info? 47).map (·.size) = some x.cells.toArray.size from by rw [List.size_toArray, hc35]; exact Rc.info47)
              have HZ35 := Lib.hid (show Rc.z35.toArray.size = x.cells.toArray.size from by rw [List.size_toArray, List.size_toArray, hc35]; rfl)
              have H135 := Lib.hid (show x.cells.toArray.all (·.oneCell') = true from all_oneCell_toArray x.cells_one)
              have HN1 := Lib.hid (show (wr.alloc (.cells Rc.z35.toArray 47)).heap[wr.heap.size]? = some (.cells Rc.z35.toArray 47 (0, 0)) from World.alloc_heap_new _ _)
              clear hd32 hx hrx hbd hc35
              go_upto_region 17 with (first
                | (with_reducible refine wpList_load_mid rfl 47 (.tmp 67) rfl bl (ol + k * 35) rfl x.cells _ HRX.out Tryd.underlying47 rfl HI47.out ?_)
                | (refine wpList_store_row (o := ⟨none, .store 47 (.tmp 10) (.tmp 68), _, _, _, _⟩) rfl 47 (.tmp 10) (.tmp 68) rfl wr.heap.size x.cells.toArray rfl rfl 47 Rc.z35.toArray HN1.out HI47b.out HZ35.out H135.out ?_))
              obtain ⟨W2, hW2⟩ : ∃ W2, W2 = (wr.alloc (.cells Rc.z35.toArray 47)).setRow wr.heap.size x.cells.toArray := ⟨_, rfl⟩
              change Code.wp _ _ _ _ ((wr.alloc (.cells Rc.z35.toArray 47)).setRow wr.heap.size x.cells.toArray)
              obtain ⟨gx, hgx⟩ : ∃ gx, wr.heap.size = gx := ⟨_, rfl⟩
              have HX2m := Lib.hid (show Has W2 gx 47 x.cells from by rw [hW2, ← hgx]; exact setRow_heap _ wr.heap.size _ x.cells.toArray 47 (0, 0) HN1.out)
              have hB12 : Below wr.heap.size wr W2 := by rw [hW2]; exact Rc.alloc_set wr _ _ _ rfl
              have HB2 := Lib.hid (HB.out.trans (hB12.mono HB.out.size))
              rw [← hW2, hgx]
              clear hW2 hB12 HRX HN1 HI47b HZ35 H135 hgx
              have x0 : W2.cell? ⟨gx, 0, none⟩ = some (Rc.i x.rf) := HX2m.out.cell 0
              have x1 : W2.cell? ⟨gx, 1, none⟩ = some (Rc.i x.no) := HX2m.out.cell 1
              have x2 : W2.cell? ⟨gx, 2, none⟩ = some (Rc.i x.st) := HX2m.out.cell 2
              by_cases hc : x.rf < 0
              · have HE := Lib.hid (HA.out (by rw [HBD.out, Rc.inB_lt0 hc]; rfl))
                have hd0 : decide (x.rf < 0) = true := decide_eq_true hc
                clear hc
                have KP := Lib.hid (fun (w' : World) (h : Below W2.heap.size W2 w') => (⟨(h.cell (p := ⟨gx, 0, none⟩) HX2m.out.lt).trans x0, (h.cell (p := ⟨gx, 1, none⟩) HX2m.out.lt).trans x1, (h.cell (p := ⟨gx, 2, none⟩) HX2m.out.lt).trans x2, h⟩ : w'.cell? ⟨gx, 0, none⟩ = some (Rc.i x.rf) ∧ w'.cell? ⟨gx, 1, none⟩ = some (Rc.i x.no) ∧ w'.cell? ⟨gx, 2, none⟩ = some (Rc.i x.st) ∧ Below W2.heap.size W2 w'))
                have s0 : Below W2.heap.size W2 W2.drew := (Below.refl _ W2).drew
                refine wp_region_named (fun ops hops => ?_)
                refine wp_region_noPanic ?_
                refine wp_region_held_drew (S := (fun w' => w'.cell? ⟨gx, 0, none⟩ = some (Rc.i x.rf) ∧ w'.cell? ⟨gx, 1, none⟩ = some (Rc.i x.no) ∧ w'.cell? ⟨gx, 2, none⟩ = some (Rc.i x.st) ∧ Below W2.heap.size W2 w')) (by kernel_rfl) (KP.out _ s0) (fun hHeld => ?_)
                rw [show ops.size = 46 from by rw [hops]; rfl]
                change wpAnyH _ _ _ _ _ _ _ _ W2.drew
                have HNS : Region.noSelect ops = true := by rw [hops]; kernel_rfl
                obtain ⟨o0, h0, d0, p0, g0⟩ := op_at5 hops 0 rfl (d := some 69) (p := .fieldAddr 47 (.tmp 10) 0) (g := none) rfl rfl rfl
                obtain ⟨o1, h1, d1, p1, g1⟩ := op_at5 hops 1 rfl (d := some 70) (p := .load 3 (.tmp 69)) (g := none) rfl rfl rfl
                obtain ⟨o2, h2, d2, p2, g2⟩ := op_at5 hops 2 rfl (d := some 71) (p := .binOp .lss 3 (.tmp 70) (.const (.int .i64 0)) 3) (g := none) rfl rfl rfl
                obtain ⟨o3, h3, d3, p3, g3⟩ := op_at5 hops 3 rfl (d := some 72) (p := .move (.tmp 71)) (g := none) rfl rfl rfl
                obtain ⟨o4, h4, d4, p4, g4⟩ := op_at5 hops 4 rfl (d := some 73) (p := .fieldAddr 47 (.tmp 10) 0) (g := some (3, false)) rfl rfl rfl
                obtain ⟨o5, h5, d5, p5, g5⟩ := op_at5 hops 5 rfl (d := some 74) (p := .load 3 (.tmp 73)) (g := some (3, false)) rfl rfl rfl
                obtain ⟨o6, h6, d6, p6, g6⟩ := op_at5 hops 6 rfl (d := some 75) (p := .move (.tmp 0)) (g := some (3, false)) rfl rfl rfl
                obtain ⟨o7, h7, d7, p7, g7⟩ := op_at5 hops 7 rfl (d := some 76) (p := .call { callee := .builtin .len, args := #[(.tmp 75)], argTypes := #[22] }) (g := some (3, false)) rfl rfl rfl
                obtain ⟨o8, h8, d8, p8, g8⟩ := op_at5 hops 8 rfl (d := some 77) (p := .binOp .geq 3 (.tmp 74) (.tmp 76) 3) (g := some (3, false)) rfl rfl rfl
                obtain ⟨o9, h9, d9, p9, g9⟩ := op_at5 hops 9 rfl (d := some 78) (p := .pick (.tmp 72) (.const (.bool true)) (.tmp 77)) (g := none) rfl rfl rfl
                obtain ⟨o10, h10, d10, p10, g10⟩ := op_at5 hops 10 rfl (d := some 79) (p := .move (.tmp 78)) (g := none) rfl rfl rfl
                obtain ⟨o11, h11, d11, p11, g11⟩ := op_at5 hops 11 rfl (d := some 80) (p := .fieldAddr 47 (.tmp 10) 1) (g := some (10, false)) rfl rfl rfl
                obtain ⟨o12, h12, d12, p12, g12⟩ := op_at5 hops 12 rfl (d := some 81) (p := .load 3 (.tmp 80)) (g := some (10, false)) rfl rfl rfl
                obtain ⟨o13, h13, d13, p13, g13⟩ := op_at5 hops 13 rfl (d := some 82) (p := .binOp .lss 3 (.tmp 81) (.const (.int .i64 0)) 3) (g := some (10, false)) rfl rfl rfl
                obtain ⟨o14, h14, d14, p14, g14⟩ := op_at5 hops 14 rfl (d := some 83) (p := .pick (.tmp 79) (.const (.bool true)) (.tmp 82)) (g := none) rfl rfl rfl
                obtain ⟨o15, h15, d15, p15, g15⟩ := op_at5 hops 15 rfl (d := some 84) (p := .move (.tmp 83)) (g := none) rfl rfl rfl
                obtain ⟨o16, h16, d16, p16, g16⟩ := op_at5 hops 16 rfl (d := some 85) (p := .fieldAddr 47 (.tmp 10) 1) (g := some (15, false)) rfl rfl rfl
                obtain ⟨o17, h17, d17, p17, g17⟩ := op_at5 hops 17 rfl (d := some 86) (p := .load 3 (.tmp 85)) (g := some (15, false)) rfl rfl rfl
                obtain ⟨o18, h18, d18, p18, g18⟩ := op_at5 hops 18 rfl (d := some 87) (p := .move (.tmp 1)) (g := some (15, false)) rfl rfl rfl
                obtain ⟨o19, h19, d19, p19, g19⟩ := op_at5 hops 19 rfl (d := some 88) (p := .call { callee := .builtin .len, args := #[(.tmp 87)], argTypes := #[23] }) (g := some (15, false)) rfl rfl rfl
                obtain ⟨o20, h20, d20, p20, g20⟩ := op_at5 hops 20 rfl (d := some 89) (p := .binOp .geq 3 (.tmp 86) (.tmp 88) 3) (g := some (15, false)) rfl rfl rfl
                obtain ⟨o21, h21, d21, p21, g21⟩ := op_at5 hops 21 rfl (d := some 90) (p := .pick (.tmp 84) (.const (.bool true)) (.tmp 89)) (g := none) rfl rfl rfl
                obtain ⟨o22, h22, d22, p22, g22⟩ := op_at5 hops 22 rfl (d := some 91) (p := .move (.tmp 90)) (g := none) rfl rfl rfl
                obtain ⟨o23, h23, d23, p23, g23⟩ := op_at5 hops 23 rfl (d := some 92) (p := .fieldAddr 47 (.tmp 10) 2) (g := some (22, false)) rfl rfl rfl
                obtain ⟨o24, h24, d24, p24, g24⟩ := op_at5 hops 24 rfl (d := some 93) (p := .load 3 (.tmp 92)) (g := some (22, false)) rfl rfl rfl
                obtain ⟨o25, h25, d25, p25, g25⟩ := op_at5 hops 25 rfl (d := some 94) (p := .binOp .lss 3 (.tmp 93) (.const (.int .i64 0)) 3) (g := some (22, false)) rfl rfl rfl
                obtain ⟨o26, h26, d26, p26, g26⟩ := op_at5 hops 26 rfl (d := some 95) (p := .pick (.tmp 91) (.const (.bool true)) (.tmp 94)) (g := none) rfl rfl rfl
                obtain ⟨o27, h27, d27, p27, g27⟩ := op_at5 hops 27 rfl (d := some 96) (p := .move (.tmp 95)) (g := none) rfl rfl rfl
                obtain ⟨o28, h28, d28, p28, g28⟩ := op_at5 hops 28 rfl (d := some 97) (p := .fieldAddr 47 (.tmp 10) 2) (g := some (27, false)) rfl rfl rfl
                obtain ⟨o29, h29, d29, p29, g29⟩ := op_at5 hops 29 rfl (d := some 98) (p := .load 3 (.tmp 97)) (g := some (27, false)) rfl rfl rfl
                obtain ⟨o30, h30, d30, p30, g30⟩ := op_at5 hops 30 rfl (d := some 99) (p := .binOp .gtr 3 (.tmp 98) (.const (.int .i64 1048576)) 3) (g := some (27, false)) rfl rfl rfl
                obtain ⟨o31, h31, d31, p31, g31⟩ := op_at5 hops 31 rfl (d := some 100) (p := .pick (.tmp 96) (.const (.bool true)) (.tmp 99)) (g := none) rfl rfl rfl
                obtain ⟨o32, h32, d32, p32, g32⟩ := op_at5 hops 32 rfl (d := some 101) (p := .move (.tmp 100)) (g := none) rfl rfl rfl
                obtain ⟨o33, h33, d33, p33, g33⟩ := op_at5 hops 33 rfl (d := some 102) (p := .move (.tmp 9)) (g := some (32, false)) rfl rfl rfl
                obtain ⟨o34, h34, d34, p34, g34⟩ := op_at5 hops 34 rfl (d := some 103) (p := .binOp .gtr 3 (.tmp 102) (.const (.int .i64 0)) 3) (g := some (32, false)) rfl rfl rfl
                obtain ⟨o35, h35, d35, p35, g35⟩ := op_at5 hops 35 rfl (d := some 104) (p := .move (.tmp 103)) (g := some (32, false)) rfl rfl rfl
                obtain ⟨o36, h36, d36, p36, g36⟩ := op_at5 hops 36 rfl (d := some 105) (p := .move (.tmp 2)) (g := some (35, true)) rfl rfl rfl
                obtain ⟨o37, h37, d37, p37, g37⟩ := op_at5 hops 37 rfl (d := some 106) (p := .move (.tmp 9)) (g := some (35, true)) rfl rfl rfl
                obtain ⟨o38, h38, d38, p38, g38⟩ := op_at5 hops 38 rfl (d := some 107) (p := .binOp .sub 3 (.tmp 106) (.const (.int .i64 1)) 3) (g := some (35, true)) rfl rfl rfl
                obtain ⟨o39, h39, d39, p39, g39⟩ := op_at5 hops 39 rfl (d := some 108) (p := .indexAddr 24 (.tmp 105) (.tmp 107)) (g := some (35, true)) rfl rfl rfl
                obtain ⟨o40, h40, d40, p40, g40⟩ := op_at5 hops 40 rfl (d := some 109) (p := .load 47 (.tmp 108)) (g := some (35, true)) rfl rfl rfl
                obtain ⟨o41, h41, d41, p41, g41⟩ := op_at5 hops 41 rfl (d := some 110) (p := .load 47 (.tmp 10)) (g := some (35, true)) rfl rfl rfl
                obtain ⟨o42, h42, d42, p42, g42⟩ := op_at5 hops 42 rfl (d := some 111) (p := .call { callee := .value (.func 43), args := #[(.tmp 109), (.tmp 110)], argTypes := #[47, 47] }) (g := some (35, true)) rfl rfl rfl
                obtain ⟨o43, h43, d43, p43, g43⟩ := op_at5 hops 43 rfl (d := some 112) (p := .unOp .not 4 (.tmp 111)) (g := some (35, true)) rfl rfl rfl
                obtain ⟨o44, h44, d44, p44, g44⟩ := op_at5 hops 44 rfl (d := some 113) (p := .pick (.tmp 104) (.tmp 112) (.const (.bool false))) (g := some (32, false)) rfl rfl rfl
                obtain ⟨o45, h45, d45, p45, g45⟩ := op_at5 hops 45 rfl (d := some 114) (p := .pick (.tmp 101) (.const (.bool true)) (.tmp 113)) (g := none) rfl rfl rfl
                refine wpAnyH_take (i := 0) (v := .pointer (some ⟨gx, 0, none⟩)) h0 HNS (by rw [hops]; kernel_rfl) (by rw [hops]; kernel_rfl) (fun _ _ _ h => h) (Or.inl ⟨(wanted_none g0), fun w' _ => by unfold execOp; rw [p0]; first | rfl | kernel_rfl⟩) hHeld ?_
                rw [d0]
                simp only [Act.put, List.setIfInBounds_toArray, List.set_cons_zero, List.set_cons_succ]
                refine wpAnyH_take (i := 1) (v := .int .i64 x.rf) h1 HNS (by rw [hops]; kernel_rfl) (by rw [hops]; kernel_rfl) (fun _ _ _ h => h) (Or.inl ⟨(wanted_none g1), fun w' h => run_op_load_cell 3 _ p1 gx 0 (by rfl) _ h.1 _ Tryd.underlying3 rfl⟩) hHeld ?_
                rw [d1]
                simp only [Act.put, List.setIfInBounds_toArray, List.set_cons_zero, List.set_cons_succ]
                refine wpAnyH_take (i := 2) (v := .bool true) h2 HNS (by rw [hops]; kernel_rfl) (by rw [hops]; kernel_rfl) (fun _ _ _ h => h) (Or.inl ⟨(wanted_none g2), fun w' _ => (show _ = Result.ok (.value (.bool (decide (x.rf < 0)))) w' from by unfold execOp; rw [p2]; first | rfl | kernel_rfl).trans (by rw [hd0])⟩) hHeld ?_
                rw [d2]
                simp only [Act.put, List.setIfInBounds_toArray, List.set_cons_zero, List.set_cons_succ]
                refine wpAnyH_take (i := 3) (v := .bool true) h3 HNS (by rw [hops]; kernel_rfl) (by rw [hops]; kernel_rfl) (fun _ _ _ h => h) (Or.inl ⟨(wanted_none g3), fun w' _ => by unfold execOp; rw [p3]; first | rfl | kernel_rfl⟩) hHeld ?_
                rw [d3]
                simp only [Act.put, List.setIfInBounds_toArray, List.set_cons_zero, List.set_cons_succ]
                refine wpAnyH_take (i := 4) (v := undef) h4 HNS (by rw [hops]; kernel_rfl) (by rw [hops]; kernel_rfl) (fun _ _ _ h => h) (Or.inr ⟨(unwanted_some g4 h3 d3 (by rfl)), rfl⟩) hHeld ?_
                rw [d4]
                simp only [Act.put, List.setIfInBounds_toArray, List.set_cons_zero, List.set_cons_succ]
                refine wpAnyH_take (i := 5) (v := undef) h5 HNS (by rw [hops]; kernel_rfl) (by rw [hops]; kernel_rfl) (fun _ _ _ h => h) (Or.inr ⟨(unwanted_some g5 h3 d3 (by rfl)), rfl⟩) hHeld ?_
                rw [d5]
                simp only [Act.put, List.setIfInBounds_toArray, List.set_cons_zero, List.set_cons_succ]
                refine wpAnyH_take (i := 6) (v := undef) h6 HNS (by rw [hops]; kernel_rfl) (by rw [hops]; kernel_rfl) (fun _ _ _ h => h) (Or.inr ⟨(unwanted_some g6 h3 d3 (by rfl)), rfl⟩) hHeld ?_
                rw [d6]
                simp only [Act.put, List.setIfInBounds_toArray, List.set_cons_zero, List.set_cons_succ]
                refine wpAnyH_take (i := 7) (v := undef) h7 HNS (by rw [hops]; kernel_rfl) (by rw [hops]; kernel_rfl) (fun _ _ _ h => h) (Or.inr ⟨(unwanted_some g7 h3 d3 (by rfl)), rfl⟩) hHeld ?_
                rw [d7]
                simp only [Act.put, List.setIfInBounds_toArray, List.set_cons_zero, List.set_cons_succ]
                refine wpAnyH_take (i := 8) (v := undef) h8 HNS (by rw [hops]; kernel_rfl) (by rw [hops]; kernel_rfl) (fun _ _ _ h => h) (Or.inr ⟨(unwanted_some g8 h3 d3 (by rfl)), rfl⟩) hHeld ?_
                rw [d8]
                simp only [Act.put, List.setIfInBounds_toArray, List.set_cons_zero, List.set_cons_succ]
                refine wpAnyH_take (i := 9) (v := .bool true) h9 HNS (by rw [hops]; kernel_rfl) (by rw [hops]; kernel_rfl) (fun _ _ _ h => h) (Or.inl ⟨(wanted_none g9), fun w' _ => by unfold execOp; rw [p9]; first | rfl | kernel_rfl⟩) hHeld ?_
                rw [d9]
                simp only [Act.put, List.setIfInBounds_toArray, List.set_cons_zero, List.set_cons_succ]
                refine wpAnyH_take (i := 10) (v := .bool true) h10 HNS (by rw [hops]; kernel_rfl) (by rw [hops]; kernel_rfl) (fun _ _ _ h => h) (Or.inl ⟨(wanted_none g10), fun w' _ => by unfold execOp; rw [p10]; first | rfl | kernel_rfl⟩) hHeld ?_
                rw [d10]
                simp only [Act.put, List.setIfInBounds_toArray, List.set_cons_zero, List.set_cons_succ]
                refine wpAnyH_take (i := 11) (v := undef) h11 HNS (by rw [hops]; kernel_rfl) (by rw [hops]; kernel_rfl) (fun _ _ _ h => h) (Or.inr ⟨(unwanted_some g11 h10 d10 (by rfl)), rfl⟩) hHeld ?_
                rw [d11]
                simp only [Act.put, List.setIfInBounds_toArray, List.set_cons_zero, List.set_cons_succ]
                refine wpAnyH_take (i := 12) (v := undef) h12 HNS (by rw [hops]; kernel_rfl) (by rw [hops]; kernel_rfl) (fun _ _ _ h => h) (Or.inr ⟨(unwanted_some g12 h10 d10 (by rfl)), rfl⟩) hHeld ?_
                rw [d12]
                simp only [Act.put, List.setIfInBounds_toArray, List.set_cons_zero, List.set_cons_succ]
                refine wpAnyH_take (i := 13) (v := undef) h13 HNS (by rw [hops]; kernel_rfl) (by rw [hops]; kernel_rfl) (fun _ _ _ h => h) (Or.inr ⟨(unwanted_some g13 h10 d10 (by rfl)), rfl⟩) hHeld ?_
                rw [d13]
                simp only [Act.put, List.setIfInBounds_toArray, List.set_cons_zero, List.set_cons_succ]
                refine wpAnyH_take (i := 14) (v := .bool true) h14 HNS (by rw [hops]; kernel_rfl) (by rw [hops]; kernel_rfl) (fun _ _ _ h => h) (Or.inl ⟨(wanted_none g14), fun w' _ => by unfold execOp; rw [p14]; first | rfl | kernel_rfl⟩) hHeld ?_
                rw [d14]
                simp only [Act.put, List.setIfInBounds_toArray, List.set_cons_zero, List.set_cons_succ]
                refine wpAnyH_take (i := 15) (v := .bool true) h15 HNS (by rw [hops]; kernel_rfl) (by rw [hops]; kernel_rfl) (fun _ _ _ h => h) (Or.inl ⟨(wanted_none g15), fun w' _ => by unfold execOp; rw [p15]; first | rfl | kernel_rfl⟩) hHeld ?_
                rw [d15]
                simp only [Act.put, List.setIfInBounds_toArray, List.set_cons_zero, List.set_cons_succ]
                refine wpAnyH_take (i := 16) (v := undef) h16 HNS (by rw [hops]; kernel_rfl) (by rw [hops]; kernel_rfl) (fun _ _ _ h => h) (Or.inr ⟨(unwanted_some g16 h15 d15 (by rfl)), rfl⟩) hHeld ?_
                rw [d16]
                simp only [Act.put, List.setIfInBounds_toArray, List.set_cons_zero, List.set_cons_succ]
                refine wpAnyH_take (i := 17) (v := undef) h17 HNS (by rw [hops]; kernel_rfl) (by rw [hops]; kernel_rfl) (fun _ _ _ h => h) (Or.inr ⟨(unwanted_some g17 h15 d15 (by rfl)), rfl⟩) hHeld ?_
                rw [d17]
                simp only [Act.put, List.setIfInBounds_toArray, List.set_cons_zero, List.set_cons_succ]
                refine wpAnyH_take (i := 18) (v := undef) h18 HNS (by rw [hops]; kernel_rfl) (by rw [hops]; kernel_rfl) (fun _ _ _ h => h) (Or.inr ⟨(unwanted_some g18 h15 d15 (by rfl)), rfl⟩) hHeld ?_
                rw [d18]
                simp only [Act.put, List.setIfInBounds_toArray, List.set_cons_zero, List.set_cons_succ]
                refine wpAnyH_take (i := 19) (v := undef) h19 HNS (by rw [hops]; kernel_rfl) (by rw [hops]; kernel_rfl) (fun _ _ _ h => h) (Or.inr ⟨(unwanted_some g19 h15 d15 (by rfl)), rfl⟩) hHeld ?_
                rw [d19]
                simp only [Act.put, List.setIfInBounds_toArray, List.set_cons_zero, List.set_cons_succ]
                refine wpAnyH_take (i := 20) (v := undef) h20 HNS (by rw [hops]; kernel_rfl) (by rw [hops]; kernel_rfl) (fun _ _ _ h => h) (Or.inr ⟨(unwanted_some g20 h15 d15 (by rfl)), rfl⟩) hHeld ?_
                rw [d20]
                simp only [Act.put, List.setIfInBounds_toArray, List.set_cons_zero, List.set_cons_succ]
                refine wpAnyH_take (i := 21) (v := .bool true) h21 HNS (by rw [hops]; kernel_rfl) (by rw [hops]; kernel_rfl) (fun _ _ _ h => h) (Or.inl ⟨(wanted_none g21), fun w' _ => by unfold execOp; rw [p21]; first | rfl | kernel_rfl⟩) hHeld ?_
                rw [d21]
                simp only [Act.put, List.setIfInBounds_toArray, List.set_cons_zero, List.set_cons_succ]
                refine wpAnyH_take (i := 22) (v := .bool true) h22 HNS (by rw [hops]; kernel_rfl) (by rw [hops]; kernel_rfl) (fun _ _ _ h => h) (Or.inl ⟨(wanted_none g22), fun w' _ => by unfold execOp; rw [p22]; first | rfl | kernel_rfl⟩) hHeld ?_
                rw [d22]
                simp only [Act.put, List.setIfInBounds_toArray, List.set_cons_zero, List.set_cons_succ]
                refine wpAnyH_take (i := 23) (v := undef) h23 HNS (by rw [hops]; kernel_rfl) (by rw [hops]; kernel_rfl) (fun _ _ _ h => h) (Or.inr ⟨(unwanted_some g23 h22 d22 (by rfl)), rfl⟩) hHeld ?_
                rw [d23]
                simp only [Act.put, List.setIfInBounds_toArray, List.set_cons_zero, List.set_cons_succ]
                refine wpAnyH_take (i := 24) (v := undef) h24 HNS (by rw [hops]; kernel_rfl) (by rw [hops]; kernel_rfl) (fun _ _ _ h => h) (Or.inr ⟨(unwanted_some g24 h22 d22 (by rfl)), rfl⟩) hHeld ?_
                rw [d24]
                simp only [Act.put, List.setIfInBounds_toArray, List.set_cons_zero, List.set_cons_succ]
                refine wpAnyH_take (i := 25) (v := undef) h25 HNS (by rw [hops]; kernel_rfl) (by rw [hops]; kernel_rfl) (fun _ _ _ h => h) (Or.inr ⟨(unwanted_some g25 h22 d22 (by rfl)), rfl⟩) hHeld ?_
                rw [d25]
                simp only [Act.put, List.setIfInBounds_toArray, List.set_cons_zero, List.set_cons_succ]
                refine wpAnyH_take (i := 26) (v := .bool true) h26 HNS (by rw [hops]; kernel_rfl) (by rw [hops]; kernel_rfl) (fun _ _ _ h => h) (Or.inl ⟨(wanted_none g26), fun w' _ => by unfold execOp; rw [p26]; first | rfl | kernel_rfl⟩) hHeld ?_
                rw [d26]
                simp only [Act.put, List.setIfInBounds_toArray, List.set_cons_zero, List.set_cons_succ]
                refine wpAnyH_take (i := 27) (v := .bool true) h27 HNS (by rw [hops]; kernel_rfl) (by rw [hops]; kernel_rfl) (fun _ _ _ h => h) (Or.inl ⟨(wanted_none g27), fun w' _ => by unfold execOp; rw [p27]; first | rfl | kernel_rfl⟩) hHeld ?_
                rw [d27]
                simp only [Act.put, List.setIfInBounds_toArray, List.set_cons_zero, List.set_cons_succ]
                refine wpAnyH_take (i := 28) (v := undef) h28 HNS (by rw [hops]; kernel_rfl) (by rw [hops]; kernel_rfl) (fun _ _ _ h => h) (Or.inr ⟨(unwanted_some g28 h27 d27 (by rfl)), rfl⟩) hHeld ?_
                rw [d28]
                simp only [Act.put, List.setIfInBounds_toArray, List.set_cons_zero, List.set_cons_succ]
                refine wpAnyH_take (i := 29) (v := undef) h29 HNS (by rw [hops]; kernel_rfl) (by rw [hops]; kernel_rfl) (fun _ _ _ h => h) (Or.inr ⟨(unwanted_some g29 h27 d27 (by rfl)), rfl⟩) hHeld ?_
                rw [d29]
                simp only [Act.put, List.setIfInBounds_toArray, List.set_cons_zero, List.set_cons_succ]
                refine wpAnyH_take (i := 30) (v := undef) h30 HNS (by rw [hops]; kernel_rfl) (by rw [hops]; kernel_rfl) (fun _ _ _ h => h) (Or.inr ⟨(unwanted_some g30 h27 d27 (by rfl)), rfl⟩) hHeld ?_
                rw [d30]
                simp only [Act.put, List.setIfInBounds_toArray, List.set_cons_zero, List.set_cons_succ]
                refine wpAnyH_take (i := 31) (v := .bool true) h31 HNS (by rw [hops]; kernel_rfl) (by rw [hops]; kernel_rfl) (fun _ _ _ h => h) (Or.inl ⟨(wanted_none g31), fun w' _ => by unfold execOp; rw [p31]; first | rfl | kernel_rfl⟩) hHeld ?_
                rw [d31]
                simp only [Act.put, List.setIfInBounds_toArray, List.set_cons_zero, List.set_cons_succ]
                refine wpAnyH_take (i := 32) (v := .bool true) h32 HNS (by rw [hops]; kernel_rfl) (by rw [hops]; kernel_rfl) (fun _ _ _ h => h) (Or.inl ⟨(wanted_none g32), fun w' _ => by unfold execOp; rw [p32]; first | rfl | kernel_rfl⟩) hHeld ?_
                rw [d32]
                simp only [Act.put, List.setIfInBounds_toArray, List.set_cons_zero, List.set_cons_succ]
                refine wpAnyH_take (i := 33) (v := undef) h33 HNS (by rw [hops]; kernel_rfl) (by rw [hops]; kernel_rfl) (fun _ _ _ h => h) (Or.inr ⟨(unwanted_some g33 h32 d32 (by rfl)), rfl⟩) hHeld ?_
                rw [d33]
                simp only [Act.put, List.setIfInBounds_toArray, List.set_cons_zero, List.set_cons_succ]
                refine wpAnyH_take (i := 34) (v := undef) h34 HNS (by rw [hops]; kernel_rfl) (by rw [hops]; kernel_rfl) (fun _ _ _ h => h) (Or.inr ⟨(unwanted_some g34 h32 d32 (by rfl)), rfl⟩) hHeld ?_
                rw [d34]
                simp only [Act.put, List.setIfInBounds_toArray, List.set_cons_zero, List.set_cons_succ]
                refine wpAnyH_take (i := 35) (v := undef) h35 HNS (by rw [hops]; kernel_rfl) (by rw [hops]; kernel_rfl) (fun _ _ _ h => h) (Or.inr ⟨(unwanted_some g35 h32 d32 (by rfl)), rfl⟩) hHeld ?_
                rw [d35]
                simp only [Act.put, List.setIfInBounds_toArray, List.set_cons_zero, List.set_cons_succ]
                refine wpAnyH_take (i := 36) (v := undef) h36 HNS (by rw [hops]; kernel_rfl) (by rw [hops]; kernel_rfl) (fun _ _ _ h => h) (Or.inr ⟨(unwanted_undef g36 h35 d35 (by rfl)), rfl⟩) hHeld ?_
                rw [d36]
                simp only [Act.put, List.setIfInBounds_toArray, List.set_cons_zero, List.set_cons_succ]
                refine wpAnyH_take (i := 37) (v := undef) h37 HNS (by rw [hops]; kernel_rfl) (by rw [hops]; kernel_rfl) (fun _ _ _ h => h) (Or.inr ⟨(unwanted_undef g37 h35 d35 (by rfl)), rfl⟩) hHeld ?_
                rw [d37]
                simp only [Act.put, List.setIfInBounds_toArray, List.set_cons_zero, List.set_cons_succ]
                refine wpAnyH_take (i := 38) (v := undef) h38 HNS (by rw [hops]; kernel_rfl) (by rw [hops]; kernel_rfl) (fun _ _ _ h => h) (Or.inr ⟨(unwanted_undef g38 h35 d35 (by rfl)), rfl⟩) hHeld ?_
                rw [d38]
                simp only [Act.put, List.setIfInBounds_toArray, List.set_cons_zero, List.set_cons_succ]
                refine wpAnyH_take (i := 39) (v := undef) h39 HNS (by rw [hops]; kernel_rfl) (by rw [hops]; kernel_rfl) (fun _ _ _ h => h) (Or.inr ⟨(unwanted_undef g39 h35 d35 (by rfl)), rfl⟩) hHeld ?_
                rw [d39]
                simp only [Act.put, List.setIfInBounds_toArray, List.set_cons_zero, List.set_cons_succ]
                refine wpAnyH_take (i := 40) (v := undef) h40 HNS (by rw [hops]; kernel_rfl) (by rw [hops]; kernel_rfl) (fun _ _ _ h => h) (Or.inr ⟨(unwanted_undef g40 h35 d35 (by rfl)), rfl⟩) hHeld ?_
                rw [d40]
                simp only [Act.put, List.setIfInBounds_toArray, List.set_cons_zero, List.set_cons_succ]
                refine wpAnyH_take (i := 41) (v := undef) h41 HNS (by rw [hops]; kernel_rfl) (by rw [hops]; kernel_rfl) (fun _ _ _ h => h) (Or.inr ⟨(unwanted_undef g41 h35 d35 (by rfl)), rfl⟩) hHeld ?_
                rw [d41]
                simp only [Act.put, List.setIfInBounds_toArray, List.set_cons_zero, List.set_cons_succ]
                refine wpAnyH_take (i := 42) (v := undef) h42 HNS (by rw [hops]; kernel_rfl) (by rw [hops]; kernel_rfl) (fun _ _ _ h => h) (Or.inr ⟨(unwanted_undef g42 h35 d35 (by rfl)), rfl⟩) hHeld ?_
                rw [d42]
                simp only [Act.put, List.setIfInBounds_toArray, List.set_cons_zero, List.set_cons_succ]
                refine wpAnyH_take (i := 43) (v := undef) h43 HNS (by rw [hops]; kernel_rfl) (by rw [hops]; kernel_rfl) (fun _ _ _ h => h) (Or.inr ⟨(unwanted_undef g43 h35 d35 (by rfl)), rfl⟩) hHeld ?_
                rw [d43]
                simp only [Act.put, List.setIfInBounds_toArray, List.set_cons_zero, List.set_cons_succ]
                refine wpAnyH_take (i := 44) (v := undef) h44 HNS (by rw [hops]; kernel_rfl) (by rw [hops]; kernel_rfl) (fun _ _ _ h => h) (Or.inr ⟨(unwanted_some g44 h32 d32 (by rfl)), rfl⟩) hHeld ?_
                rw [d44]
                simp only [Act.put, List.setIfInBounds_toArray, List.set_cons_zero, List.set_cons_succ]
                refine wpAnyH_take (i := 45) (v := .bool true) h45 HNS (by rw [hops]; kernel_rfl) (by rw [hops]; kernel_rfl) (fun _ _ _ h => h) (Or.inl ⟨(wanted_none g45), fun w' _ => by unfold execOp; rw [p45]; first | rfl | kernel_rfl⟩) hHeld ?_
                rw [d45]
                simp only [Act.put, List.setIfInBounds_toArray, List.set_cons_zero, List.set_cons_succ]
                refine wpAnyH_done (by rw [hops]; kernel_rfl) (NoPanic.normal ?_) _
                have HB9 := Lib.hid (HB2.out.trans (s0.mono HB2.out.size))
                have HX9 := Lib.hid (HX2m.out.keep s0)
                clear HNS KP s0 hHeld hops h0 d0 p0 g0 h1 d1 p1 g1 h2 d2 p2 g2 h3 d3 p3 g3 h4 d4 p4 g4 h5 d5 p5 g5 h6 d6 p6 g6 h7 d7 p7 g7 h8 d8 p8 g8 h9 d9 p9 g9 h10 d10 p10 g10 h11 d11 p11 g11 h12 d12 p12 g12 h13 d13 p13 g13 h14 d14 p14 g14 h15 d15 p15 g15 h16 d16 p16 g16 h17 d17 p17 g17 h18 d18 p18 g18 h19 d19 p19 g19 h20 d20 p20 g20 h21 d21 p21 g21 h22 d22 p22 g22 h23 d23 p23 g23 h24 d24 p24 g24 h25 d25 p25 g25 h26 d26 p26 g26 h27 d27 p27 g27 h28 d28 p28 g28 h29 d29 p29 g29 h30 d30 p30 g30 h31 d31 p31 g31 h32 d32 p32 g32 h33 d33 p33 g33 h34 d34 p34 g34 h35 d35 p35 g35 h36 d36 p36 g36 h37 d37 p37 g37 h38 d38 p38 g38 h39 d39 p39 g39 h40 d40 p40 g40 h41 d41 p41 g41 h42 d42 p42 g42 h43 d43 p43 g43 h44 d44 p44 g44 h45 d45 p45 g45
                go_wp2_with fail
                go_ret
                exact ⟨by rw [HE.out]; rfl, HB9.out⟩
              have hd0 : decide (x.rf < 0) = false := decide_eq_false hc
              have hn0 : 0 ≤ x.rf := by omega
              clear hc
              by_cases hc : (nc : Int) ≤ x.rf
              · have HE := Lib.hid (HA.out (by rw [HBD.out, Rc.inB_geN hc]; rfl))
                have hd1 : decide ((nc : Int) ≤ x.rf) = true := decide_eq_true hc
                clear hc
                have KP := Lib.hid (fun (w' : World) (h : Below W2.heap.size W2 w') => (⟨(h.cell (p := ⟨gx, 0, none⟩) HX2m.out.lt).trans x0, (h.cell (p := ⟨gx, 1, none⟩) HX2m.out.lt).trans x1, (h.cell (p := ⟨gx, 2, none⟩) HX2m.out.lt).trans x2, h⟩ : w'.cell? ⟨gx, 0, none⟩ = some (Rc.i x.rf) ∧ w'.cell? ⟨gx, 1, none⟩ = some (Rc.i x.no) ∧ w'.cell? ⟨gx, 2, none⟩ = some (Rc.i x.st) ∧ Below W2.heap.size W2 w'))
                have s0 : Below W2.heap.size W2 W2.drew := (Below.refl _ W2).drew
                refine wp_region_named (fun ops hops => ?_)
                refine wp_region_noPanic ?_
                refine wp_region_held_drew (S := (fun w' => w'.cell? ⟨gx, 0, none⟩ = some (Rc.i x.rf) ∧ w'.cell? ⟨gx, 1, none⟩ = some (Rc.i x.no) ∧ w'.cell? ⟨gx, 2, none⟩ = some (Rc.i x.st) ∧ Below W2.heap.size W2 w')) (by kernel_rfl) (KP.out _ s0) (fun hHeld => ?_)
                rw [show ops.size = 46 from by rw [hops]; rfl]
                change wpAnyH _ _ _ _ _ _ _ _ W2.drew
                have HNS : Region.noSelect ops = true := by rw [hops]; kernel_rfl
                obtain ⟨o0, h0, d0, p0, g0⟩ := op_at5 hops 0 rfl (d := some 69) (p := .fieldAddr 47 (.tmp 10) 0) (g := none) rfl rfl rfl
                obtain ⟨o1, h1, d1, p1, g1⟩ := op_at5 hops 1 rfl (d := some 70) (p := .load 3 (.tmp 69)) (g := none) rfl rfl rfl
                obtain ⟨o2, h2, d2, p2, g2⟩ := op_at5 hops 2 rfl (d := some 71) (p := .binOp .lss 3 (.tmp 70) (.const (.int .i64 0)) 3) (g := none) rfl rfl rfl
                obtain ⟨o3, h3, d3, p3, g3⟩ := op_at5 hops 3 rfl (d := some 72) (p := .move (.tmp 71)) (g := none) rfl rfl rfl
                obtain ⟨o4, h4, d4, p4, g4⟩ := op_at5 hops 4 rfl (d := some 73) (p := .fieldAddr 47 (.tmp 10) 0) (g := some (3, false)) rfl rfl rfl
                obtain ⟨o5, h5, d5, p5, g5⟩ := op_at5 hops 5 rfl (d := some 74) (p := .load 3 (.tmp 73)) (g := some (3, false)) rfl rfl rfl
                obtain ⟨o6, h6, d6, p6, g6⟩ := op_at5 hops 6 rfl (d := some 75) (p := .move (.tmp 0)) (g := some (3, false)) rfl rfl rfl
                obtain ⟨o7, h7, d7, p7, g7⟩ := op_at5 hops 7 rfl (d := some 76) (p := .call { callee := .builtin .len, args := #[(.tmp 75)], argTypes := #[22] }) (g := some (3, false)) rfl rfl rfl
                obtain ⟨o8, h8, d8, p8, g8⟩ := op_at5 hops 8 rfl (d := some 77) (p := .binOp .geq 3 (.tmp 74) (.tmp 76) 3) (g := some (3, false)) rfl rfl rfl
                obtain ⟨o9, h9, d9, p9, g9⟩ := op_at5 hops 9 rfl (d := some 78) (p := .pick (.tmp 72) (.const (.bool true)) (.tmp 77)) (g := none) rfl rfl rfl
                obtain ⟨o10, h10, d10, p10, g10⟩ := op_at5 hops 10 rfl (d := some 79) (p := .move (.tmp 78)) (g := none) rfl rfl rfl
                obtain ⟨o11, h11, d11, p11, g11⟩ := op_at5 hops 11 rfl (d := some 80) (p := .fieldAddr 47 (.tmp 10) 1) (g := some (10, false)) rfl rfl rfl
                obtain ⟨o12, h12, d12, p12, g12⟩ := op_at5 hops 12 rfl (d := some 81) (p := .load 3 (.tmp 80)) (g := some (10, false)) rfl rfl rfl
                obtain ⟨o13, h13, d13, p13, g13⟩ := op_at5 hops 13 rfl (d := some 82) (p := .binOp .lss 3 (.tmp 81) (.const (.int .i64 0)) 3) (g := some (10, false)) rfl rfl rfl
                obtain ⟨o14, h14, d14, p14, g14⟩ := op_at5 hops 14 rfl (d := some 83) (p := .pick (.tmp 79) (.const (.bool true)) (.tmp 82)) (g := none) rfl rfl rfl
                obtain ⟨o15, h15, d15, p15, g15⟩ := op_at5 hops 15 rfl (d := some 84) (p := .move (.tmp 83)) (g := none) rfl rfl rfl
                obtain ⟨o16, h16, d16, p16, g16⟩ := op_at5 hops 16 rfl (d := some 85) (p := .fieldAddr 47 (.tmp 10) 1) (g := some (15, false)) rfl rfl rfl
                obtain ⟨o17, h17, d17, p17, g17⟩ := op_at5 hops 17 rfl (d := some 86) (p := .load 3 (.tmp 85)) (g := some (15, false)) rfl rfl rfl
                obtain ⟨o18, h18, d18, p18, g18⟩ := op_at5 hops 18 rfl (d := some 87) (p := .move (.tmp 1)) (g := some (15, false)) rfl rfl rfl
                obtain ⟨o19, h19, d19, p19, g19⟩ := op_at5 hops 19 rfl (d := some 88) (p := .call { callee := .builtin .len, args := #[(.tmp 87)], argTypes := #[23] }) (g := some (15, false)) rfl rfl rfl
                obtain ⟨o20, h20, d20, p20, g20⟩ := op_at5 hops 20 rfl (d := some 89) (p := .binOp .geq 3 (.tmp 86) (.tmp 88) 3) (g := some (15, false)) rfl rfl rfl
                obtain ⟨o21, h21, d21, p21, g21⟩ := op_at5 hops 21 rfl (d := some 90) (p := .pick (.tmp 84) (.const (.bool true)) (.tmp 89)) (g := none) rfl rfl rfl
                obtain ⟨o22, h22, d22, p22, g22⟩ := op_at5 hops 22 rfl (d := some 91) (p := .move (.tmp 90)) (g := none) rfl rfl rfl
                obtain ⟨o23, h23, d23, p23, g23⟩ := op_at5 hops 23 rfl (d := some 92) (p := .fieldAddr 47 (.tmp 10) 2) (g := some (22, false)) rfl rfl rfl
                obtain ⟨o24, h24, d24, p24, g24⟩ := op_at5 hops 24 rfl (d := some 93) (p := .load 3 (.tmp 92)) (g := some (22, false)) rfl rfl rfl
                obtain ⟨o25, h25, d25, p25, g25⟩ := op_at5 hops 25 rfl (d := some 94) (p := .binOp .lss 3 (.tmp 93) (.const (.int .i64 0)) 3) (g := some (22, false)) rfl rfl rfl
                obtain ⟨o26, h26, d26, p26, g26⟩ := op_at5 hops 26 rfl (d := some 95) (p := .pick (.tmp 91) (.const (.bool true)) (.tmp 94)) (g := none) rfl rfl rfl
                obtain ⟨o27, h27, d27, p27, g27⟩ := op_at5 hops 27 rfl (d := some 96) (p := .move (.tmp 95)) (g := none) rfl rfl rfl
                obtain ⟨o28, h28, d28, p28, g28⟩ := op_at5 hops 28 rfl (d := some 97) (p := .fieldAddr 47 (.tmp 10) 2) (g := some (27, false)) rfl rfl rfl
                obtain ⟨o29, h29, d29, p29, g29⟩ := op_at5 hops 29 rfl (d := some 98) (p := .load 3 (.tmp 97)) (g := some (27, false)) rfl rfl rfl
                obtain ⟨o30, h30, d30, p30, g30⟩ := op_at5 hops 30 rfl (d := some 99) (p := .binOp .gtr 3 (.tmp 98) (.const (.int .i64 1048576)) 3) (g := some (27, false)) rfl rfl rfl
                obtain ⟨o31, h31, d31, p31, g31⟩ := op_at5 hops 31 rfl (d := some 100) (p := .pick (.tmp 96) (.const (.bool true)) (.tmp 99)) (g := none) rfl rfl rfl
                obtain ⟨o32, h32, d32, p32, g32⟩ := op_at5 hops 32 rfl (d := some 101) (p := .move (.tmp 100)) (g := none) rfl rfl rfl
                obtain ⟨o33, h33, d33, p33, g33⟩ := op_at5 hops 33 rfl (d := some 102) (p := .move (.tmp 9)) (g := some (32, false)) rfl rfl rfl
                obtain ⟨o34, h34, d34, p34, g34⟩ := op_at5 hops 34 rfl (d := some 103) (p := .binOp .gtr 3 (.tmp 102) (.const (.int .i64 0)) 3) (g := some (32, false)) rfl rfl rfl
                obtain ⟨o35, h35, d35, p35, g35⟩ := op_at5 hops 35 rfl (d := some 104) (p := .move (.tmp 103)) (g := some (32, false)) rfl rfl rfl
                obtain ⟨o36, h36, d36, p36, g36⟩ := op_at5 hops 36 rfl (d := some 105) (p := .move (.tmp 2)) (g := some (35, true)) rfl rfl rfl
                obtain ⟨o37, h37, d37, p37, g37⟩ := op_at5 hops 37 rfl (d := some 106) (p := .move (.tmp 9)) (g := some (35, true)) rfl rfl rfl
                obtain ⟨o38, h38, d38, p38, g38⟩ := op_at5 hops 38 rfl (d := some 107) (p := .binOp .sub 3 (.tmp 106) (.const (.int .i64 1)) 3) (g := some (35, true)) rfl rfl rfl
                obtain ⟨o39, h39, d39, p39, g39⟩ := op_at5 hops 39 rfl (d := some 108) (p := .indexAddr 24 (.tmp 105) (.tmp 107)) (g := some (35, true)) rfl rfl rfl
                obtain ⟨o40, h40, d40, p40, g40⟩ := op_at5 hops 40 rfl (d := some 109) (p := .load 47 (.tmp 108)) (g := some (35, true)) rfl rfl rfl
                obtain ⟨o41, h41, d41, p41, g41⟩ := op_at5 hops 41 rfl (d := some 110) (p := .load 47 (.tmp 10)) (g := some (35, true)) rfl rfl rfl
                obtain ⟨o42, h42, d42, p42, g42⟩ := op_at5 hops 42 rfl (d := some 111) (p := .call { callee := .value (.func 43), args := #[(.tmp 109), (.tmp 110)], argTypes := #[47, 47] }) (g := some (35, true)) rfl rfl rfl
                obtain ⟨o43, h43, d43, p43, g43⟩ := op_at5 hops 43 rfl (d := some 112) (p := .unOp .not 4 (.tmp 111)) (g := some (35, true)) rfl rfl rfl
                obtain ⟨o44, h44, d44, p44, g44⟩ := op_at5 hops 44 rfl (d := some 113) (p := .pick (.tmp 104) (.tmp 112) (.const (.bool false))) (g := some (32, false)) rfl rfl rfl
                obtain ⟨o45, h45, d45, p45, g45⟩ := op_at5 hops 45 rfl (d := some 114) (p := .pick (.tmp 101) (.const (.bool true)) (.tmp 113)) (g := none) rfl rfl rfl
                refine wpAnyH_take (i := 0) (v := .pointer (some ⟨gx, 0, none⟩)) h0 HNS (by rw [hops]; kernel_rfl) (by rw [hops]; kernel_rfl) (fun _ _ _ h => h) (Or.inl ⟨(wanted_none g0), fun w' _ => by unfold execOp; rw [p0]; first | rfl | kernel_rfl⟩) hHeld ?_
                rw [d0]
                simp only [Act.put, List.setIfInBounds_toArray, List.set_cons_zero, List.set_cons_succ]
                refine wpAnyH_take (i := 1) (v := .int .i64 x.rf) h1 HNS (by rw [hops]; kernel_rfl) (by rw [hops]; kernel_rfl) (fun _ _ _ h => h) (Or.inl ⟨(wanted_none g1), fun w' h => run_op_load_cell 3 _ p1 gx 0 (by rfl) _ h.1 _ Tryd.underlying3 rfl⟩) hHeld ?_
                rw [d1]
                simp only [Act.put, List.setIfInBounds_toArray, List.set_cons_zero, List.set_cons_succ]
                refine wpAnyH_take (i := 2) (v := .bool false) h2 HNS (by rw [hops]; kernel_rfl) (by rw [hops]; kernel_rfl) (fun _ _ _ h => h) (Or.inl ⟨(wanted_none g2), fun w' _ => (show _ = Result.ok (.value (.bool (decide (x.rf < 0)))) w' from by unfold execOp; rw [p2]; first | rfl | kernel_rfl).trans (by rw [hd0])⟩) hHeld ?_
                rw [d2]
                simp only [Act.put, List.setIfInBounds_toArray, List.set_cons_zero, List.set_cons_succ]
                refine wpAnyH_take (i := 3) (v := .bool false) h3 HNS (by rw [hops]; kernel_rfl) (by rw [hops]; kernel_rfl) (fun _ _ _ h => h) (Or.inl ⟨(wanted_none g3), fun w' _ => by unfold execOp; rw [p3]; first | rfl | kernel_rfl⟩) hHeld ?_
                rw [d3]
                simp only [Act.put, List.setIfInBounds_toArray, List.set_cons_zero, List.set_cons_succ]
                refine wpAnyH_take (i := 4) (v := .pointer (some ⟨gx, 0, none⟩)) h4 HNS (by rw [hops]; kernel_rfl) (by rw [hops]; kernel_rfl) (fun _ _ _ h => h) (Or.inl ⟨(wanted_some g4 h3 d3 (by rfl)), fun w' _ => by unfold execOp; rw [p4]; first | rfl | kernel_rfl⟩) hHeld ?_
                rw [d4]
                simp only [Act.put, List.setIfInBounds_toArray, List.set_cons_zero, List.set_cons_succ]
                refine wpAnyH_take (i := 5) (v := .int .i64 x.rf) h5 HNS (by rw [hops]; kernel_rfl) (by rw [hops]; kernel_rfl) (fun _ _ _ h => h) (Or.inl ⟨(wanted_some g5 h3 d3 (by rfl)), fun w' h => run_op_load_cell 3 _ p5 gx 0 (by rfl) _ h.1 _ Tryd.underlying3 rfl⟩) hHeld ?_
                rw [d5]
                simp only [Act.put, List.setIfInBounds_toArray, List.set_cons_zero, List.set_cons_succ]
                refine wpAnyH_take (i := 6) (v := .slice Ac nc cc) h6 HNS (by rw [hops]; kernel_rfl) (by rw [hops]; kernel_rfl) (fun _ _ _ h => h) (Or.inl ⟨(wanted_some g6 h3 d3 (by rfl)), fun w' _ => by unfold execOp; rw [p6]; first | rfl | kernel_rfl⟩) hHeld ?_
                rw [d6]
                simp only [Act.put, List.setIfInBounds_toArray, List.set_cons_zero, List.set_cons_succ]
                refine wpAnyH_take (i := 7) (v := .int .i64 nc) h7 HNS (by rw [hops]; kernel_rfl) (by rw [hops]; kernel_rfl) (fun _ _ _ h => h) (Or.inl ⟨(wanted_some g7 h3 d3 (by rfl)), fun w' _ => by unfold execOp; rw [p7]; first | rfl | kernel_rfl⟩) hHeld ?_
                rw [d7]
                simp only [Act.put, List.setIfInBounds_toArray, List.set_cons_zero, List.set_cons_succ]
                refine wpAnyH_take (i := 8) (v := .bool true) h8 HNS (by rw [hops]; kernel_rfl) (by rw [hops]; kernel_rfl) (fun _ _ _ h => h) (Or.inl ⟨(wanted_some g8 h3 d3 (by rfl)), fun w' _ => (show _ = Result.ok (.value (.bool (decide ((nc : Int) ≤ x.rf)))) w' from by unfold execOp; rw [p8]; first | rfl | kernel_rfl).trans (by rw [hd1])⟩) hHeld ?_
                rw [d8]
                simp only [Act.put, List.setIfInBounds_toArray, List.set_cons_zero, List.set_cons_succ]
                refine wpAnyH_take (i := 9) (v := .bool true) h9 HNS (by rw [hops]; kernel_rfl) (by rw [hops]; kernel_rfl) (fun _ _ _ h => h) (Or.inl ⟨(wanted_none g9), fun w' _ => by unfold execOp; rw [p9]; first | rfl | kernel_rfl⟩) hHeld ?_
                rw [d9]
                simp only [Act.put, List.setIfInBounds_toArray, List.set_cons_zero, List.set_cons_succ]
                refine wpAnyH_take (i := 10) (v := .bool true) h10 HNS (by rw [hops]; kernel_rfl) (by rw [hops]; kernel_rfl) (fun _ _ _ h => h) (Or.inl ⟨(wanted_none g10), fun w' _ => by unfold execOp; rw [p10]; first | rfl | kernel_rfl⟩) hHeld ?_
                rw [d10]
                simp only [Act.put, List.setIfInBounds_toArray, List.set_cons_zero, List.set_cons_succ]
                refine wpAnyH_take (i := 11) (v := undef) h11 HNS (by rw [hops]; kernel_rfl) (by rw [hops]; kernel_rfl) (fun _ _ _ h => h) (Or.inr ⟨(unwanted_some g11 h10 d10 (by rfl)), rfl⟩) hHeld ?_
                rw [d11]
                simp only [Act.put, List.setIfInBounds_toArray, List.set_cons_zero, List.set_cons_succ]
                refine wpAnyH_take (i := 12) (v := undef) h12 HNS (by rw [hops]; kernel_rfl) (by rw [hops]; kernel_rfl) (fun _ _ _ h => h) (Or.inr ⟨(unwanted_some g12 h10 d10 (by rfl)), rfl⟩) hHeld ?_
                rw [d12]
                simp only [Act.put, List.setIfInBounds_toArray, List.set_cons_zero, List.set_cons_succ]
                refine wpAnyH_take (i := 13) (v := undef) h13 HNS (by rw [hops]; kernel_rfl) (by rw [hops]; kernel_rfl) (fun _ _ _ h => h) (Or.inr ⟨(unwanted_some g13 h10 d10 (by rfl)), rfl⟩) hHeld ?_
                rw [d13]
                simp only [Act.put, List.setIfInBounds_toArray, List.set_cons_zero, List.set_cons_succ]
                refine wpAnyH_take (i := 14) (v := .bool true) h14 HNS (by rw [hops]; kernel_rfl) (by rw [hops]; kernel_rfl) (fun _ _ _ h => h) (Or.inl ⟨(wanted_none g14), fun w' _ => by unfold execOp; rw [p14]; first | rfl | kernel_rfl⟩) hHeld ?_
                rw [d14]
                simp only [Act.put, List.setIfInBounds_toArray, List.set_cons_zero, List.set_cons_succ]
                refine wpAnyH_take (i := 15) (v := .bool true) h15 HNS (by rw [hops]; kernel_rfl) (by rw [hops]; kernel_rfl) (fun _ _ _ h => h) (Or.inl ⟨(wanted_none g15), fun w' _ => by unfold execOp; rw [p15]; first | rfl | kernel_rfl⟩) hHeld ?_
                rw [d15]
                simp only [Act.put, List.setIfInBounds_toArray, List.set_cons_zero, List.set_cons_succ]
                refine wpAnyH_take (i := 16) (v := undef) h16 HNS (by rw [hops]; kernel_rfl) (by rw [hops]; kernel_rfl) (fun _ _ _ h => h) (Or.inr ⟨(unwanted_some g16 h15 d15 (by rfl)), rfl⟩) hHeld ?_
                rw [d16]
                simp only [Act.put, List.setIfInBounds_toArray, List.set_cons_zero, List.set_cons_succ]
                refine wpAnyH_take (i := 17) (v := undef) h17 HNS (by rw [hops]; kernel_rfl) (by rw [hops]; kernel_rfl) (fun _ _ _ h => h) (Or.inr ⟨(unwanted_some g17 h15 d15 (by rfl)), rfl⟩) hHeld ?_
                rw [d17]
                simp only [Act.put, List.setIfInBounds_toArray, List.set_cons_zero, List.set_cons_succ]
                refine wpAnyH_take (i := 18) (v := undef) h18 HNS (by rw [hops]; kernel_rfl) (by rw [hops]; kernel_rfl) (fun _ _ _ h => h) (Or.inr ⟨(unwanted_some g18 h15 d15 (by rfl)), rfl⟩) hHeld ?_
                rw [d18]
                simp only [Act.put, List.setIfInBounds_toArray, List.set_cons_zero, List.set_cons_succ]
                refine wpAnyH_take (i := 19) (v := undef) h19 HNS (by rw [hops]; kernel_rfl) (by rw [hops]; kernel_rfl) (fun _ _ _ h => h) (Or.inr ⟨(unwanted_some g19 h15 d15 (by rfl)), rfl⟩) hHeld ?_
                rw [d19]
                simp only [Act.put, List.setIfInBounds_toArray, List.set_cons_zero, List.set_cons_succ]
                refine wpAnyH_take (i := 20) (v := undef) h20 HNS (by rw [hops]; kernel_rfl) (by rw [hops]; kernel_rfl) (fun _ _ _ h => h) (Or.inr ⟨(unwanted_some g20 h15 d15 (by rfl)), rfl⟩) hHeld ?_
                rw [d20]
                simp only [Act.put, List.setIfInBounds_toArray, List.set_cons_zero, List.set_cons_succ]
                refine wpAnyH_take (i := 21) (v := .bool true) h21 HNS (by rw [hops]; kernel_rfl) (by rw [hops]; kernel_rfl) (fun _ _ _ h => h) (Or.inl ⟨(wanted_none g21), fun w' _ => by unfold execOp; rw [p21]; first | rfl | kernel_rfl⟩) hHeld ?_
                rw [d21]
                simp only [Act.put, List.setIfInBounds_toArray, List.set_cons_zero, List.set_cons_succ]
                refine wpAnyH_take (i := 22) (v := .bool true) h22 HNS (by rw [hops]; kernel_rfl) (by rw [hops]; kernel_rfl) (fun _ _ _ h => h) (Or.inl ⟨(wanted_none g22), fun w' _ => by unfold execOp; rw [p22]; first | rfl | kernel_rfl⟩) hHeld ?_
                rw [d22]
                simp only [Act.put, List.setIfInBounds_toArray, List.set_cons_zero, List.set_cons_succ]
                refine wpAnyH_take (i := 23) (v := undef) h23 HNS (by rw [hops]; kernel_rfl) (by rw [hops]; kernel_rfl) (fun _ _ _ h => h) (Or.inr ⟨(unwanted_some g23 h22 d22 (by rfl)), rfl⟩) hHeld ?_
                rw [d23]
                simp only [Act.put, List.setIfInBounds_toArray, List.set_cons_zero, List.set_cons_succ]
                refine wpAnyH_take (i := 24) (v := undef) h24 HNS (by rw [hops]; kernel_rfl) (by rw [hops]; kernel_rfl) (fun _ _ _ h => h) (Or.inr ⟨(unwanted_some g24 h22 d22 (by rfl)), rfl⟩) hHeld ?_
                rw [d24]
                simp only [Act.put, List.setIfInBounds_toArray, List.set_cons_zero, List.set_cons_succ]
                refine wpAnyH_take (i := 25) (v := undef) h25 HNS (by rw [hops]; kernel_rfl) (by rw [hops]; kernel_rfl) (fun _ _ _ h => h) (Or.inr ⟨(unwanted_some g25 h22 d22 (by rfl)), rfl⟩) hHeld ?_
                rw [d25]
                simp only [Act.put, List.setIfInBounds_toArray, List.set_cons_zero, List.set_cons_succ]
                refine wpAnyH_take (i := 26) (v := .bool true) h26 HNS (by rw [hops]; kernel_rfl) (by rw [hops]; kernel_rfl) (fun _ _ _ h => h) (Or.inl ⟨(wanted_none g26), fun w' _ => by unfold execOp; rw [p26]; first | rfl | kernel_rfl⟩) hHeld ?_
                rw [d26]
                simp only [Act.put, List.setIfInBounds_toArray, List.set_cons_zero, List.set_cons_succ]
                refine wpAnyH_take (i := 27) (v := .bool true) h27 HNS (by rw [hops]; kernel_rfl) (by rw [hops]; kernel_rfl) (fun _ _ _ h => h) (Or.inl ⟨(wanted_none g27), fun w' _ => by unfold execOp; rw [p27]; first | rfl | kernel_rfl⟩) hHeld ?_
                rw [d27]
                simp only [Act.put, List.setIfInBounds_toArray, List.set_cons_zero, List.set_cons_succ]
                refine wpAnyH_take (i := 28) (v := undef) h28 HNS (by rw [hops]; kernel_rfl) (by rw [hops]; kernel_rfl) (fun _ _ _ h => h) (Or.inr ⟨(unwanted_some g28 h27 d27 (by rfl)), rfl⟩) hHeld ?_
                rw [d28]
                simp only [Act.put, List.setIfInBounds_toArray, List.set_cons_zero, List.set_cons_succ]
                refine wpAnyH_take (i := 29) (v := undef) h29 HNS (by rw [hops]; kernel_rfl) (by rw [hops]; kernel_rfl) (fun _ _ _ h => h) (Or.inr ⟨(unwanted_some g29 h27 d27 (by rfl)), rfl⟩) hHeld ?_
                rw [d29]
                simp only [Act.put, List.setIfInBounds_toArray, List.set_cons_zero, List.set_cons_succ]
                refine wpAnyH_take (i := 30) (v := undef) h30 HNS (by rw [hops]; kernel_rfl) (by rw [hops]; kernel_rfl) (fun _ _ _ h => h) (Or.inr ⟨(unwanted_some g30 h27 d27 (by rfl)), rfl⟩) hHeld ?_
                rw [d30]
                simp only [Act.put, List.setIfInBounds_toArray, List.set_cons_zero, List.set_cons_succ]
                refine wpAnyH_take (i := 31) (v := .bool true) h31 HNS (by rw [hops]; kernel_rfl) (by rw [hops]; kernel_rfl) (fun _ _ _ h => h) (Or.inl ⟨(wanted_none g31), fun w' _ => by unfold execOp; rw [p31]; first | rfl | kernel_rfl⟩) hHeld ?_
                rw [d31]
                simp only [Act.put, List.setIfInBounds_toArray, List.set_cons_zero, List.set_cons_succ]
                refine wpAnyH_take (i := 32) (v := .bool true) h32 HNS (by rw [hops]; kernel_rfl) (by rw [hops]; kernel_rfl) (fun _ _ _ h => h) (Or.inl ⟨(wanted_none g32), fun w' _ => by unfold execOp; rw [p32]; first | rfl | kernel_rfl⟩) hHeld ?_
                rw [d32]
                simp only [Act.put, List.setIfInBounds_toArray, List.set_cons_zero, List.set_cons_succ]
                refine wpAnyH_take (i := 33) (v := undef) h33 HNS (by rw [hops]; kernel_rfl) (by rw [hops]; kernel_rfl) (fun _ _ _ h => h) (Or.inr ⟨(unwanted_some g33 h32 d32 (by rfl)), rfl⟩) hHeld ?_
                rw [d33]
                simp only [Act.put, List.setIfInBounds_toArray, List.set_cons_zero, List.set_cons_succ]
                refine wpAnyH_take (i := 34) (v := undef) h34 HNS (by rw [hops]; kernel_rfl) (by rw [hops]; kernel_rfl) (fun _ _ _ h => h) (Or.inr ⟨(unwanted_some g34 h32 d32 (by rfl)), rfl⟩) hHeld ?_
                rw [d34]
                simp only [Act.put, List.setIfInBounds_toArray, List.set_cons_zero, List.set_cons_succ]
                refine wpAnyH_take (i := 35) (v := undef) h35 HNS (by rw [hops]; kernel_rfl) (by rw [hops]; kernel_rfl) (fun _ _ _ h => h) (Or.inr ⟨(unwanted_some g35 h32 d32 (by rfl)), rfl⟩) hHeld ?_
                rw [d35]
                simp only [Act.put, List.setIfInBounds_toArray, List.set_cons_zero, List.set_cons_succ]
                refine wpAnyH_take (i := 36) (v := undef) h36 HNS (by rw [hops]; kernel_rfl) (by rw [hops]; kernel_rfl) (fun _ _ _ h => h) (Or.inr ⟨(unwanted_undef g36 h35 d35 (by rfl)), rfl⟩) hHeld ?_
                rw [d36]
                simp only [Act.put, List.setIfInBounds_toArray, List.set_cons_zero, List.set_cons_succ]
                refine wpAnyH_take (i := 37) (v := undef) h37 HNS (by rw [hops]; kernel_rfl) (by rw [hops]; kernel_rfl) (fun _ _ _ h => h) (Or.inr ⟨(unwanted_undef g37 h35 d35 (by rfl)), rfl⟩) hHeld ?_
                rw [d37]
                simp only [Act.put, List.setIfInBounds_toArray, List.set_cons_zero, List.set_cons_succ]
                refine wpAnyH_take (i := 38) (v := undef) h38 HNS (by rw [hops]; kernel_rfl) (by rw [hops]; kernel_rfl) (fun _ _ _ h => h) (Or.inr ⟨(unwanted_undef g38 h35 d35 (by rfl)), rfl⟩) hHeld ?_
                rw [d38]
                simp only [Act.put, List.setIfInBounds_toArray, List.set_cons_zero, List.set_cons_succ]
                refine wpAnyH_take (i := 39) (v := undef) h39 HNS (by rw [hops]; kernel_rfl) (by rw [hops]; kernel_rfl) (fun _ _ _ h => h) (Or.inr ⟨(unwanted_undef g39 h35 d35 (by rfl)), rfl⟩) hHeld ?_
                rw [d39]
                simp only [Act.put, List.setIfInBounds_toArray, List.set_cons_zero, List.set_cons_succ]
                refine wpAnyH_take (i := 40) (v := undef) h40 HNS (by rw [hops]; kernel_rfl) (by rw [hops]; kernel_rfl) (fun _ _ _ h => h) (Or.inr ⟨(unwanted_undef g40 h35 d35 (by rfl)), rfl⟩) hHeld ?_
                rw [d40]
                simp only [Act.put, List.setIfInBounds_toArray, List.set_cons_zero, List.set_cons_succ]
                refine wpAnyH_take (i := 41) (v := undef) h41 HNS (by rw [hops]; kernel_rfl) (by rw [hops]; kernel_rfl) (fun _ _ _ h => h) (Or.inr ⟨(unwanted_undef g41 h35 d35 (by rfl)), rfl⟩) hHeld ?_
                rw [d41]
                simp only [Act.put, List.setIfInBounds_toArray, List.set_cons_zero, List.set_cons_succ]
                refine wpAnyH_take (i := 42) (v := undef) h42 HNS (by rw [hops]; kernel_rfl) (by rw [hops]; kernel_rfl) (fun _ _ _ h => h) (Or.inr ⟨(unwanted_undef g42 h35 d35 (by rfl)), rfl⟩) hHeld ?_
                rw [d42]
                simp only [Act.put, List.setIfInBounds_toArray, List.set_cons_zero, List.set_cons_succ]
                refine wpAnyH_take (i := 43) (v := undef) h43 HNS (by rw [hops]; kernel_rfl) (by rw [hops]; kernel_rfl) (fun _ _ _ h => h) (Or.inr ⟨(unwanted_undef g43 h35 d35 (by rfl)), rfl⟩) hHeld ?_
                rw [d43]
                simp only [Act.put, List.setIfInBounds_toArray, List.set_cons_zero, List.set_cons_succ]
                refine wpAnyH_take (i := 44) (v := undef) h44 HNS (by rw [hops]; kernel_rfl) (by rw [hops]; kernel_rfl) (fun _ _ _ h => h) (Or.inr ⟨(unwanted_some g44 h32 d32 (by rfl)), rfl⟩) hHeld ?_
                rw [d44]
                simp only [Act.put, List.setIfInBounds_toArray, List.set_cons_zero, List.set_cons_succ]
                refine wpAnyH_take (i := 45) (v := .bool true) h45 HNS (by rw [hops]; kernel_rfl) (by rw [hops]; kernel_rfl) (fun _ _ _ h => h) (Or.inl ⟨(wanted_none g45), fun w' _ => by unfold execOp; rw [p45]; first | rfl | kernel_rfl⟩) hHeld ?_
                rw [d45]
                simp only [Act.put, List.setIfInBounds_toArray, List.set_cons_zero, List.set_cons_succ]
                refine wpAnyH_done (by rw [hops]; kernel_rfl) (NoPanic.normal ?_) _
                have HB9 := Lib.hid (HB2.out.trans (s0.mono HB2.out.size))
                have HX9 := Lib.hid (HX2m.out.keep s0)
                clear HNS KP s0 hHeld hops h0 d0 p0 g0 h1 d1 p1 g1 h2 d2 p2 g2 h3 d3 p3 g3 h4 d4 p4 g4 h5 d5 p5 g5 h6 d6 p6 g6 h7 d7 p7 g7 h8 d8 p8 g8 h9 d9 p9 g9 h10 d10 p10 g10 h11 d11 p11 g11 h12 d12 p12 g12 h13 d13 p13 g13 h14 d14 p14 g14 h15 d15 p15 g15 h16 d16 p16 g16 h17 d17 p17 g17 h18 d18 p18 g18 h19 d19 p19 g19 h20 d20 p20 g20 h21 d21 p21 g21 h22 d22 p22 g22 h23 d23 p23 g23 h24 d24 p24 g24 h25 d25 p25 g25 h26 d26 p26 g26 h27 d27 p27 g27 h28 d28 p28 g28 h29 d29 p29 g29 h30 d30 p30 g30 h31 d31 p31 g31 h32 d32 p32 g32 h33 d33 p33 g33 h34 d34 p34 g34 h35 d35 p35 g35 h36 d36 p36 g36 h37 d37 p37 g37 h38 d38 p38 g38 h39 d39 p39 g39 h40 d40 p40 g40 h41 d41 p41 g41 h42 d42 p42 g42 h43 d43 p43 g43 h44 d44 p44 g44 h45 d45 p45 g45
                go_wp2_with fail
                go_ret
                exact ⟨by rw [HE.out]; rfl, HB9.out⟩
              have hd1 : decide ((nc : Int) ≤ x.rf) = false := decide_eq_false hc
              have hn1 : x.rf < nc := by omega
              clear hc
              by_cases hc : x.no < 0
              · have HE := Lib.hid (HA.out (by rw [HBD.out, Rc.inB_lt0 hc, Bool.not_false, Bool.true_or, Bool.or_true]))
                have hd2 : decide (x.no < 0) = true := decide_eq_true hc
                clear hc
                have KP := Lib.hid (fun (w' : World) (h : Below W2.heap.size W2 w') => (⟨(h.cell (p := ⟨gx, 0, none⟩) HX2m.out.lt).trans x0, (h.cell (p := ⟨gx, 1, none⟩) HX2m.out.lt).trans x1, (h.cell (p := ⟨gx, 2, none⟩) HX2m.out.lt).trans x2, h⟩ : w'.cell? ⟨gx, 0, none⟩ = some (Rc.i x.rf) ∧ w'.cell? ⟨gx, 1, none⟩ = some (Rc.i x.no) ∧ w'.cell? ⟨gx, 2, none⟩ = some (Rc.i x.st) ∧ Below W2.heap.size W2 w'))
                have s0 : Below W2.heap.size W2 W2.drew := (Below.refl _ W2).drew
                refine wp_region_named (fun ops hops => ?_)
                refine wp_region_noPanic ?_
                refine wp_region_held_drew (S := (fun w' => w'.cell? ⟨gx, 0, none⟩ = some (Rc.i x.rf) ∧ w'.cell? ⟨gx, 1, none⟩ = some (Rc.i x.no) ∧ w'.cell? ⟨gx, 2, none⟩ = some (Rc.i x.st) ∧ Below W2.heap.size W2 w')) (by kernel_rfl) (KP.out _ s0) (fun hHeld => ?_)
                rw [show ops.size = 46 from by rw [hops]; rfl]
                change wpAnyH _ _ _ _ _ _ _ _ W2.drew
                have HNS : Region.noSelect ops = true := by rw [hops]; kernel_rfl
                obtain ⟨o0, h0, d0, p0, g0⟩ := op_at5 hops 0 rfl (d := some 69) (p := .fieldAddr 47 (.tmp 10) 0) (g := none) rfl rfl rfl
                obtain ⟨o1, h1, d1, p1, g1⟩ := op_at5 hops 1 rfl (d := some 70) (p := .load 3 (.tmp 69)) (g := none) rfl rfl rfl
                obtain ⟨o2, h2, d2, p2, g2⟩ := op_at5 hops 2 rfl (d := some 71) (p := .binOp .lss 3 (.tmp 70) (.const (.int .i64 0)) 3) (g := none) rfl rfl rfl
                obtain ⟨o3, h3, d3, p3, g3⟩ := op_at5 hops 3 rfl (d := some 72) (p := .move (.tmp 71)) (g := none) rfl rfl rfl
                obtain ⟨o4, h4, d4, p4, g4⟩ := op_at5 hops 4 rfl (d := some 73) (p := .fieldAddr 47 (.tmp 10) 0) (g := some (3, false)) rfl rfl rfl
                obtain ⟨o5, h5, d5, p5, g5⟩ := op_at5 hops 5 rfl (d := some 74) (p := .load 3 (.tmp 73)) (g := some (3, false)) rfl rfl rfl
                obtain ⟨o6, h6, d6, p6, g6⟩ := op_at5 hops 6 rfl (d := some 75) (p := .move (.tmp 0)) (g := some (3, false)) rfl rfl rfl
                obtain ⟨o7, h7, d7, p7, g7⟩ := op_at5 hops 7 rfl (d := some 76) (p := .call { callee := .builtin .len, args := #[(.tmp 75)], argTypes := #[22] }) (g := some (3, false)) rfl rfl rfl
                obtain ⟨o8, h8, d8, p8, g8⟩ := op_at5 hops 8 rfl (d := some 77) (p := .binOp .geq 3 (.tmp 74) (.tmp 76) 3) (g := some (3, false)) rfl rfl rfl
                obtain ⟨o9, h9, d9, p9, g9⟩ := op_at5 hops 9 rfl (d := some 78) (p := .pick (.tmp 72) (.const (.bool true)) (.tmp 77)) (g := none) rfl rfl rfl
                obtain ⟨o10, h10, d10, p10, g10⟩ := op_at5 hops 10 rfl (d := some 79) (p := .move (.tmp 78)) (g := none) rfl rfl rfl
                obtain ⟨o11, h11, d11, p11, g11⟩ := op_at5 hops 11 rfl (d := some 80) (p := .fieldAddr 47 (.tmp 10) 1) (g := some (10, false)) rfl rfl rfl
                obtain ⟨o12, h12, d12, p12, g12⟩ := op_at5 hops 12 rfl (d := some 81) (p := .load 3 (.tmp 80)) (g := some (10, false)) rfl rfl rfl
                obtain ⟨o13, h13, d13, p13, g13⟩ := op_at5 hops 13 rfl (d := some 82) (p := .binOp .lss 3 (.tmp 81) (.const (.int .i64 0)) 3) (g := some (10, false)) rfl rfl rfl
                obtain ⟨o14, h14, d14, p14, g14⟩ := op_at5 hops 14 rfl (d := some 83) (p := .pick (.tmp 79) (.const (.bool true)) (.tmp 82)) (g := none) rfl rfl rfl
                obtain ⟨o15, h15, d15, p15, g15⟩ := op_at5 hops 15 rfl (d := some 84) (p := .move (.tmp 83)) (g := none) rfl rfl rfl
                obtain ⟨o16, h16, d16, p16, g16⟩ := op_at5 hops 16 rfl (d := some 85) (p := .fieldAddr 47 (.tmp 10) 1) (g := some (15, false)) rfl rfl rfl
                obtain ⟨o17, h17, d17, p17, g17⟩ := op_at5 hops 17 rfl (d := some 86) (p := .load 3 (.tmp 85)) (g := some (15, false)) rfl rfl rfl
                obtain ⟨o18, h18, d18, p18, g18⟩ := op_at5 hops 18 rfl (d := some 87) (p := .move (.tmp 1)) (g := some (15, false)) rfl rfl rfl
                obtain ⟨o19, h19, d19, p19, g19⟩ := op_at5 hops 19 rfl (d := some 88) (p := .call { callee := .builtin .len, args := #[(.tmp 87)], argTypes := #[23] }) (g := some (15, false)) rfl rfl rfl
                obtain ⟨o20, h20, d20, p20, g20⟩ := op_at5 hops 20 rfl (d := some 89) (p := .binOp .geq 3 (.tmp 86) (.tmp 88) 3) (g := some (15, false)) rfl rfl rfl
                obtain ⟨o21, h21, d21, p21, g21⟩ := op_at5 hops 21 rfl (d := some 90) (p := .pick (.tmp 84) (.const (.bool true)) (.tmp 89)) (g := none) rfl rfl rfl
                obtain ⟨o22, h22, d22, p22, g22⟩ := op_at5 hops 22 rfl (d := some 91) (p := .move (.tmp 90)) (g := none) rfl rfl rfl
                obtain ⟨o23, h23, d23, p23, g23⟩ := op_at5 hops 23 rfl (d := some 92) (p := .fieldAddr 47 (.tmp 10) 2) (g := some (22, false)) rfl rfl rfl
                obtain ⟨o24, h24, d24, p24, g24⟩ := op_at5 hops 24 rfl (d := some 93) (p := .load 3 (.tmp 92)) (g := some (22, false)) rfl rfl rfl
                obtain ⟨o25, h25, d25, p25, g25⟩ := op_at5 hops 25 rfl (d := some 94) (p := .binOp .lss 3 (.tmp 93) (.const (.int .i64 0)) 3) (g := some (22, false)) rfl rfl rfl
                obtain ⟨o26, h26, d26, p26, g26⟩ := op_at5 hops 26 rfl (d := some 95) (p := .pick (.tmp 91) (.const (.bool true)) (.tmp 94)) (g := none) rfl rfl rfl
                obtain ⟨o27, h27, d27, p27, g27⟩ := op_at5 hops 27 rfl (d := some 96) (p := .move (.tmp 95)) (g := none) rfl rfl rfl
                obtain ⟨o28, h28, d28, p28, g28⟩ := op_at5 hops 28 rfl (d := some 97) (p := .fieldAddr 47 (.tmp 10) 2) (g := some (27, false)) rfl rfl rfl
                obtain ⟨o29, h29, d29, p29, g29⟩ := op_at5 hops 29 rfl (d := some 98) (p := .load 3 (.tmp 97)) (g := some (27, false)) rfl rfl rfl
                obtain ⟨o30, h30, d30, p30, g30⟩ := op_at5 hops 30 rfl (d := some 99) (p := .binOp .gtr 3 (.tmp 98) (.const (.int .i64 1048576)) 3) (g := some (27, false)) rfl rfl rfl
                obtain ⟨o31, h31, d31, p31, g31⟩ := op_at5 hops 31 rfl (d := some 100) (p := .pick (.tmp 96) (.const (.bool true)) (.tmp 99)) (g := none) rfl rfl rfl
                obtain ⟨o32, h32, d32, p32, g32⟩ := op_at5 hops 32 rfl (d := some 101) (p := .move (.tmp 100)) (g := none) rfl rfl rfl
                obtain ⟨o33, h33, d33, p33, g33⟩ := op_at5 hops 33 rfl (d := some 102) (p := .move (.tmp 9)) (g := some (32, false)) rfl rfl rfl
                obtain ⟨o34, h34, d34, p34, g34⟩ := op_at5 hops 34 rfl (d := some 103) (p := .binOp .gtr 3 (.tmp 102) (.const (.int .i64 0)) 3) (g := some (32, false)) rfl rfl rfl
                obtain ⟨o35, h35, d35, p35, g35⟩ := op_at5 hops 35 rfl (d := some 104) (p := .move (.tmp 103)) (g := some (32, false)) rfl rfl rfl
                obtain ⟨o36, h36, d36, p36, g36⟩ := op_at5 hops 36 rfl (d := some 105) (p := .move (.tmp 2)) (g := some (35, true)) rfl rfl rfl
                obtain ⟨o37, h37, d37, p37, g37⟩ := op_at5 hops 37 rfl (d := some 106) (p := .move (.tmp 9)) (g := some (35, true)) rfl rfl rfl
                obtain ⟨o38, h38, d38, p38, g38⟩ := op_at5 hops 38 rfl (d := some 107) (p := .binOp .sub 3 (.tmp 106) (.const (.int .i64 1)) 3) (g := some (35, true)) rfl rfl rfl
                obtain ⟨o39, h39, d39, p39, g39⟩ := op_at5 hops 39 rfl (d := some 108) (p := .indexAddr 24 (.tmp 105) (.tmp 107)) (g := some (35, true)) rfl rfl rfl
                obtain ⟨o40, h40, d40, p40, g40⟩ := op_at5 hops 40 rfl (d := some 109) (p := .load 47 (.tmp 108)) (g := some (35, true)) rfl rfl rfl
                obtain ⟨o41, h41, d41, p41, g41⟩ := op_at5 hops 41 rfl (d := some 110) (p := .load 47 (.tmp 10)) (g := some (35, true)) rfl rfl rfl
                obtain ⟨o42, h42, d42, p42, g42⟩ := op_at5 hops 42 rfl (d := some 111) (p := .call { callee := .value (.func 43), args := #[(.tmp 109), (.tmp 110)], argTypes := #[47, 47] }) (g := some (35, true)) rfl rfl rfl
                obtain ⟨o43, h43, d43, p43, g43⟩ := op_at5 hops 43 rfl (d := some 112) (p := .unOp .not 4 (.tmp 111)) (g := some (35, true)) rfl rfl rfl
                obtain ⟨o44, h44, d44, p44, g44⟩ := op_at5 hops 44 rfl (d := some 113) (p := .pick (.tmp 104) (.tmp 112) (.const (.bool false))) (g := some (32, false)) rfl rfl rfl
                obtain ⟨o45, h45, d45, p45, g45⟩ := op_at5 hops 45 rfl (d := some 114) (p := .pick (.tmp 101) (.const (.bool true)) (.tmp 113)) (g := none) rfl rfl rfl
                refine wpAnyH_take (i := 0) (v := .pointer (some ⟨gx, 0, none⟩)) h0 HNS (by rw [hops]; kernel_rfl) (by rw [hops]; kernel_rfl) (fun _ _ _ h => h) (Or.inl ⟨(wanted_none g0), fun w' _ => by unfold execOp; rw [p0]; first | rfl | kernel_rfl⟩) hHeld ?_
                rw [d0]
                simp only [Act.put, List.setIfInBounds_toArray, List.set_cons_zero, List.set_cons_succ]
                refine wpAnyH_take (i := 1) (v := .int .i64 x.rf) h1 HNS (by rw [hops]; kernel_rfl) (by rw [hops]; kernel_rfl) (fun _ _ _ h => h) (Or.inl ⟨(wanted_none g1), fun w' h => run_op_load_cell 3 _ p1 gx 0 (by rfl) _ h.1 _ Tryd.underlying3 rfl⟩) hHeld ?_
                rw [d1]
                simp only [Act.put, List.setIfInBounds_toArray, List.set_cons_zero, List.set_cons_succ]
                refine wpAnyH_take (i := 2) (v := .bool false) h2 HNS (by rw [hops]; kernel_rfl) (by rw [hops]; kernel_rfl) (fun _ _ _ h => h) (Or.inl ⟨(wanted_none g2), fun w' _ => (show _ = Result.ok (.value (.bool (decide (x.rf < 0)))) w' from by unfold execOp; rw [p2]; first | rfl | kernel_rfl).trans (by rw [hd0])⟩) hHeld ?_
                rw [d2]
                simp only [Act.put, List.setIfInBounds_toArray, List.set_cons_zero, List.set_cons_succ]
                refine wpAnyH_take (i := 3) (v := .bool false) h3 HNS (by rw [hops]; kernel_rfl) (by rw [hops]; kernel_rfl) (fun _ _ _ h => h) (Or.inl ⟨(wanted_none g3), fun w' _ => by unfold execOp; rw [p3]; first | rfl | kernel_rfl⟩) hHeld ?_
                rw [d3]
                simp only [Act.put, List.setIfInBounds_toArray, List.set_cons_zero, List.set_cons_succ]
                refine wpAnyH_take (i := 4) (v := .pointer (some ⟨gx, 0, none⟩)) h4 HNS (by rw [hops]; kernel_rfl) (by rw [hops]; kernel_rfl) (fun _ _ _ h => h) (Or.inl ⟨(wanted_some g4 h3 d3 (by rfl)), fun w' _ => by unfold execOp; rw [p4]; first | rfl | kernel_rfl⟩) hHeld ?_
                rw [d4]
                simp only [Act.put, List.setIfInBounds_toArray, List.set_cons_zero, List.set_cons_succ]
                refine wpAnyH_take (i := 5) (v := .int .i64 x.rf) h5 HNS (by rw [hops]; kernel_rfl) (by rw [hops]; kernel_rfl) (fun _ _ _ h => h) (Or.inl ⟨(wanted_some g5 h3 d3 (by rfl)), fun w' h => run_op_load_cell 3 _ p5 gx 0 (by rfl) _ h.1 _ Tryd.underlying3 rfl⟩) hHeld ?_
                rw [d5]
                simp only [Act.put, List.setIfInBounds_toArray, List.set_cons_zero, List.set_cons_succ]
                refine wpAnyH_take (i := 6) (v := .slice Ac nc cc) h6 HNS (by rw [hops]; kernel_rfl) (by rw [hops]; kernel_rfl) (fun _ _ _ h => h) (Or.inl ⟨(wanted_some g6 h3 d3 (by rfl)), fun w' _ => by unfold execOp; rw [p6]; first | rfl | kernel_rfl⟩) hHeld ?_
                rw [d6]
                simp only [Act.put, List.setIfInBounds_toArray, List.set_cons_zero, List.set_cons_succ]
                refine wpAnyH_take (i := 7) (v := .int .i64 nc) h7 HNS (by rw [hops]; kernel_rfl) (by rw [hops]; kernel_rfl) (fun _ _ _ h => h) (Or.inl ⟨(wanted_some g7 h3 d3 (by rfl)), fun w' _ => by unfold execOp; rw [p7]; first | rfl | kernel_rfl⟩) hHeld ?_
                rw [d7]
                simp only [Act.put, List.setIfInBounds_toArray, List.set_cons_zero, List.set_cons_succ]
                refine wpAnyH_take (i := 8) (v := .bool false) h8 HNS (by rw [hops]; kernel_rfl) (by rw [hops]; kernel_rfl) (fun _ _ _ h => h) (Or.inl ⟨(wanted_some g8 h3 d3 (by rfl)), fun w' _ => (show _ = Result.ok (.value (.bool (decide ((nc : Int) ≤ x.rf)))) w' from by unfold execOp; rw [p8]; first | rfl | kernel_rfl).trans (by rw [hd1])⟩) hHeld ?_
                rw [d8]
                simp only [Act.put, List.setIfInBounds_toArray, List.set_cons_zero, List.set_cons_succ]
                refine wpAnyH_take (i := 9) (v := .bool false) h9 HNS (by rw [hops]; kernel_rfl) (by rw [hops]; kernel_rfl) (fun _ _ _ h => h) (Or.inl ⟨(wanted_none g9), fun w' _ => by unfold execOp; rw [p9]; first | rfl | kernel_rfl⟩) hHeld ?_
                rw [d9]
                simp only [Act.put, List.setIfInBounds_toArray, List.set_cons_zero, List.set_cons_succ]
                refine wpAnyH_take (i := 10) (v := .bool false) h10 HNS (by rw [hops]; kernel_rfl) (by rw [hops]; kernel_rfl) (fun _ _ _ h => h) (Or.inl ⟨(wanted_none g10), fun w' _ => by unfold execOp; rw [p10]; first | rfl | kernel_rfl⟩) hHeld ?_
                rw [d10]
                simp only [Act.put, List.setIfInBounds_toArray, List.set_cons_zero, List.set_cons_succ]
                refine wpAnyH_take (i := 11) (v := .pointer (some ⟨gx, 1, none⟩)) h11 HNS (by rw [hops]; kernel_rfl) (by rw [hops]; kernel_rfl) (fun _ _ _ h => h) (Or.inl ⟨(wanted_some g11 h10 d10 (by rfl)), fun w' _ => by unfold execOp; rw [p11]; first | rfl | kernel_rfl⟩) hHeld ?_
                rw [d11]
                simp only [Act.put, List.setIfInBounds_toArray, List.set_cons_zero, List.set_cons_succ]
                refine wpAnyH_take (i := 12) (v := .int .i64 x.no) h12 HNS (by rw [hops]; kernel_rfl) (by rw [hops]; kernel_rfl) (fun _ _ _ h => h) (Or.inl ⟨(wanted_some g12 h10 d10 (by rfl)), fun w' h => run_op_load_cell 3 _ p12 gx 1 (by rfl) _ h.2.1 _ Tryd.underlying3 rfl⟩) hHeld ?_
                rw [d12]
                simp only [Act.put, List.setIfInBounds_toArray, List.set_cons_zero, List.set_cons_succ]
                refine wpAnyH_take (i := 13) (v := .bool true) h13 HNS (by rw [hops]; kernel_rfl) (by rw [hops]; kernel_rfl) (fun _ _ _ h => h) (Or.inl ⟨(wanted_some g13 h10 d10 (by rfl)), fun w' _ => (show _ = Result.ok (.value (.bool (decide (x.no < 0)))) w' from by unfold execOp; rw [p13]; first | rfl | kernel_rfl).trans (by rw [hd2])⟩) hHeld ?_
                rw [d13]
                simp only [Act.put, List.setIfInBounds_toArray, List.set_cons_zero, List.set_cons_succ]
                refine wpAnyH_take (i := 14) (v := .bool true) h14 HNS (by rw [hops]; kernel_rfl) (by rw [hops]; kernel_rfl) (fun _ _ _ h => h) (Or.inl ⟨(wanted_none g14), fun w' _ => by unfold execOp; rw [p14]; first | rfl | kernel_rfl⟩) hHeld ?_
                rw [d14]
                simp only [Act.put, List.setIfInBounds_toArray, List.set_cons_zero, List.set_cons_succ]
                refine wpAnyH_take (i := 15) (v := .bool true) h15 HNS (by rw [hops]; kernel_rfl) (by rw [hops]; kernel_rfl) (fun _ _ _ h => h) (Or.inl ⟨(wanted_none g15), fun w' _ => by unfold execOp; rw [p15]; first | rfl | kernel_rfl⟩) hHeld ?_
                rw [d15]
                simp only [Act.put, List.setIfInBounds_toArray, List.set_cons_zero, List.set_cons_succ]
                refine wpAnyH_take (i := 16) (v := undef) h16 HNS (by rw [hops]; kernel_rfl) (by rw [hops]; kernel_rfl) (fun _ _ _ h => h) (Or.inr ⟨(unwanted_some g16 h15 d15 (by rfl)), rfl⟩) hHeld ?_
                rw [d16]
                simp only [Act.put, List.setIfInBounds_toArray, List.set_cons_zero, List.set_cons_succ]
                refine wpAnyH_take (i := 17) (v := undef) h17 HNS (by rw [hops]; kernel_rfl) (by rw [hops]; kernel_rfl) (fun _ _ _ h => h) (Or.inr ⟨(unwanted_some g17 h15 d15 (by rfl)), rfl⟩) hHeld ?_
                rw [d17]
                simp only [Act.put, List.setIfInBounds_toArray, List.set_cons_zero, List.set_cons_succ]
                refine wpAnyH_take (i := 18) (v := undef) h18 HNS (by rw [hops]; kernel_rfl) (by rw [hops]; kernel_rfl) (fun _ _ _ h => h) (Or.inr ⟨(unwanted_some g18 h15 d15 (by rfl)), rfl⟩) hHeld ?_
                rw [d18]
                simp only [Act.put, List.setIfInBounds_toArray, List.set_cons_zero, List.set_cons_succ]
                refine wpAnyH_take (i := 19) (v := undef) h19 HNS (by rw [hops]; kernel_rfl) (by rw [hops]; kernel_rfl) (fun _ _ _ h => h) (Or.inr ⟨(unwanted_some g19 h15 d15 (by rfl)), rfl⟩) hHeld ?_
                rw [d19]
                simp only [Act.put, List.setIfInBounds_toArray, List.set_cons_zero, List.set_cons_succ]
                refine wpAnyH_take (i := 20) (v := undef) h20 HNS (by rw [hops]; kernel_rfl) (by rw [hops]; kernel_rfl) (fun _ _ _ h => h) (Or.inr ⟨(unwanted_some g20 h15 d15 (by rfl)), rfl⟩) hHeld ?_
                rw [d20]
                simp only [Act.put, List.setIfInBounds_toArray, List.set_cons_zero, List.set_cons_succ]
                refine wpAnyH_take (i := 21) (v := .bool true) h21 HNS (by rw [hops]; kernel_rfl) (by rw [hops]; kernel_rfl) (fun _ _ _ h => h) (Or.inl ⟨(wanted_none g21), fun w' _ => by unfold execOp; rw [p21]; first | rfl | kernel_rfl⟩) hHeld ?_
                rw [d21]
                simp only [Act.put, List.setIfInBounds_toArray, List.set_cons_zero, List.set_cons_succ]
                refine wpAnyH_take (i := 22) (v := .bool true) h22 HNS (by rw [hops]; kernel_rfl) (by rw [hops]; kernel_rfl) (fun _ _ _ h => h) (Or.inl ⟨(wanted_none g22), fun w' _ => by unfold execOp; rw [p22]; first | rfl | kernel_rfl⟩) hHeld ?_
                rw [d22]
                simp only [Act.put, List.setIfInBounds_toArray, List.set_cons_zero, List.set_cons_succ]
                refine wpAnyH_take (i := 23) (v := undef) h23 HNS (by rw [hops]; kernel_rfl) (by rw [hops]; kernel_rfl) (fun _ _ _ h => h) (Or.inr ⟨(unwanted_some g23 h22 d22 (by rfl)), rfl⟩) hHeld ?_
                rw [d23]
                simp only [Act.put, List.setIfInBounds_toArray, List.set_cons_zero, List.set_cons_succ]
                refine wpAnyH_take (i := 24) (v := undef) h24 HNS (by rw [hops]; kernel_rfl) (by rw [hops]; kernel_rfl) (fun _ _ _ h => h) (Or.inr ⟨(unwanted_some g24 h22 d22 (by rfl)), rfl⟩) hHeld ?_
                rw [d24]
                simp only [Act.put, List.setIfInBounds_toArray, List.set_cons_zero, List.set_cons_succ]
                refine wpAnyH_take (i := 25) (v := undef) h25 HNS (by rw [hops]; kernel_rfl) (by rw [hops]; kernel_rfl) (fun _ _ _ h => h) (Or.inr ⟨(unwanted_some g25 h22 d22 (by rfl)), rfl⟩) hHeld ?_
                rw [d25]
                simp only [Act.put, List.setIfInBounds_toArray, List.set_cons_zero, List.set_cons_succ]
                refine wpAnyH_take (i := 26) (v := .bool true) h26 HNS (by rw [hops]; kernel_rfl) (by rw [hops]; kernel_rfl) (fun _ _ _ h => h) (Or.inl ⟨(wanted_none g26), fun w' _ => by unfold execOp; rw [p26]; first | rfl | kernel_rfl⟩) hHeld ?_
                rw [d26]
                simp only [Act.put, List.setIfInBounds_toArray, List.set_cons_zero, List.set_cons_succ]
                refine wpAnyH_take (i := 27) (v := .bool true) h27 HNS (by rw [hops]; kernel_rfl) (by rw [hops]; kernel_rfl) (fun _ _ _ h => h) (Or.inl ⟨(wanted_none g27), fun w' _ => by unfold execOp; rw [p27]; first | rfl | kernel_rfl⟩) hHeld ?_
                rw [d27]
                simp only [Act.put, List.setIfInBounds_toArray, List.set_cons_zero, List.set_cons_succ]
                refine wpAnyH_take (i := 28) (v := undef) h28 HNS (by rw [hops]; kernel_rfl) (by rw [hops]; kernel_rfl) (fun _ _ _ h => h) (Or.inr ⟨(unwanted_some g28 h27 d27 (by rfl)), rfl⟩) hHeld ?_
                rw [d28]
                simp only [Act.put, List.setIfInBounds_toArray, List.set_cons_zero, List.set_cons_succ]
                refine wpAnyH_take (i := 29) (v := undef) h29 HNS (by rw [hops]; kernel_rfl) (by rw [hops]; kernel_rfl) (fun _ _ _ h => h) (Or.inr ⟨(unwanted_some g29 h27 d27 (by rfl)), rfl⟩) hHeld ?_
                rw [d29]
                simp only [Act.put, List.setIfInBounds_toArray, List.set_cons_zero, List.set_cons_succ]
                refine wpAnyH_take (i := 30) (v := undef) h30 HNS (by rw [hops]; kernel_rfl) (by rw [hops]; kernel_rfl) (fun _ _ _ h => h) (Or.inr ⟨(unwanted_some g30 h27 d27 (by rfl)), rfl⟩) hHeld ?_
                rw [d30]
                simp only [Act.put, List.setIfInBounds_toArray, List.set_cons_zero, List.set_cons_succ]
                refine wpAnyH_take (i := 31) (v := .bool true) h31 HNS (by rw [hops]; kernel_rfl) (by rw [hops]; kernel_rfl) (fun _ _ _ h => h) (Or.inl ⟨(wanted_none g31), fun w' _ => by unfold execOp; rw [p31]; first | rfl | kernel_rfl⟩) hHeld ?_
                rw [d31]
                simp only [Act.put, List.setIfInBounds_toArray, List.set_cons_zero, List.set_cons_succ]
                refine wpAnyH_take (i := 32) (v := .bool true) h32 HNS (by rw [hops]; kernel_rfl) (by rw [hops]; kernel_rfl) (fun _ _ _ h => h) (Or.inl ⟨(wanted_none g32), fun w' _ => by unfold execOp; rw [p32]; first | rfl | kernel_rfl⟩) hHeld ?_
                rw [d32]
                simp only [Act.put, List.setIfInBounds_toArray, List.set_cons_zero, List.set_cons_succ]
                refine wpAnyH_take (i := 33) (v := undef) h33 HNS (by rw [hops]; kernel_rfl) (by rw [hops]; kernel_rfl) (fun _ _ _ h => h) (Or.inr ⟨(unwanted_some g33 h32 d32 (by rfl)), rfl⟩) hHeld ?_
                rw [d33]
                simp only [Act.put, List.setIfInBounds_toArray, List.set_cons_zero, List.set_cons_succ]
                refine wpAnyH_take (i := 34) (v := undef) h34 HNS (by rw [hops]; kernel_rfl) (by rw [hops]; kernel_rfl) (fun _ _ _ h => h) (Or.inr ⟨(unwanted_some g34 h32 d32 (by rfl)), rfl⟩) hHeld ?_
                rw [d34]
                simp only [Act.put, List.setIfInBounds_toArray, List.set_cons_zero, List.set_cons_succ]
                refine wpAnyH_take (i := 35) (v := undef) h35 HNS (by rw [hops]; kernel_rfl) (by rw [hops]; kernel_rfl) (fun _ _ _ h => h) (Or.inr ⟨(unwanted_some g35 h32 d32 (by rfl)), rfl⟩) hHeld ?_
                rw [d35]
                simp only [Act.put, List.setIfInBounds_toArray, List.set_cons_zero, List.set_cons_succ]
                refine wpAnyH_take (i := 36) (v := undef) h36 HNS (by rw [hops]; kernel_rfl) (by rw [hops]; kernel_rfl) (fun _ _ _ h => h) (Or.inr ⟨(unwanted_undef g36 h35 d35 (by rfl)), rfl⟩) hHeld ?_
                rw [d36]
                simp only [Act.put, List.setIfInBounds_toArray, List.set_cons_zero, List.set_cons_succ]
                refine wpAnyH_take (i := 37) (v := undef) h37 HNS (by rw [hops]; kernel_rfl) (by rw [hops]; kernel_rfl) (fun _ _ _ h => h) (Or.inr ⟨(unwanted_undef g37 h35 d35 (by rfl)), rfl⟩) hHeld ?_
                rw [d37]
                simp only [Act.put, List.setIfInBounds_toArray, List.set_cons_zero, List.set_cons_succ]
                refine wpAnyH_take (i := 38) (v := undef) h38 HNS (by rw [hops]; kernel_rfl) (by rw [hops]; kernel_rfl) (fun _ _ _ h => h) (Or.inr ⟨(unwanted_undef g38 h35 d35 (by rfl)), rfl⟩) hHeld ?_
                rw [d38]
                simp only [Act.put, List.setIfInBounds_toArray, List.set_cons_zero, List.set_cons_succ]
                refine wpAnyH_take (i := 39) (v := undef) h39 HNS (by rw [hops]; kernel_rfl) (by rw [hops]; kernel_rfl) (fun _ _ _ h => h) (Or.inr ⟨(unwanted_undef g39 h35 d35 (by rfl)), rfl⟩) hHeld ?_
                rw [d39]
                simp only [Act.put, List.setIfInBounds_toArray, List.set_cons_zero, List.set_cons_succ]
                refine wpAnyH_take (i := 40) (v := undef) h40 HNS (by rw [hops]; kernel_rfl) (by rw [hops]; kernel_rfl) (fun _ _ _ h => h) (Or.inr ⟨(unwanted_undef g40 h35 d35 (by rfl)), rfl⟩) hHeld ?_
                rw [d40]
                simp only [Act.put, List.setIfInBounds_toArray, List.set_cons_zero, List.set_cons_succ]
                refine wpAnyH_take (i := 41) (v := undef) h41 HNS (by rw [hops]; kernel_rfl) (by rw [hops]; kernel_rfl) (fun _ _ _ h => h) (Or.inr ⟨(unwanted_undef g41 h35 d35 (by rfl)), rfl⟩) hHeld ?_
                rw [d41]
                simp only [Act.put, List.setIfInBounds_toArray, List.set_cons_zero, List.set_cons_succ]
                refine wpAnyH_take (i := 42) (v := undef) h42 HNS (by rw [hops]; kernel_rfl) (by rw [hops]; kernel_rfl) (fun _ _ _ h => h) (Or.inr ⟨(unwanted_undef g42 h35 d35 (by rfl)), rfl⟩) hHeld ?_
                rw [d42]
                simp only [Act.put, List.setIfInBounds_toArray, List.set_cons_zero, List.set_cons_succ]
                refine wpAnyH_take (i := 43) (v := undef) h43 HNS (by rw [hops]; kernel_rfl) (by rw [hops]; kernel_rfl) (fun _ _ _ h => h) (Or.inr ⟨(unwanted_undef g43 h35 d35 (by rfl)), rfl⟩) hHeld ?_
                rw [d43]
                simp only [Act.put, List.setIfInBounds_toArray, List.set_cons_zero, List.set_cons_succ]
                refine wpAnyH_take (i := 44) (v := undef) h44 HNS (by rw [hops]; kernel_rfl) (by rw [hops]; kernel_rfl) (fun _ _ _ h => h) (Or.inr ⟨(unwanted_some g44 h32 d32 (by rfl)), rfl⟩) hHeld ?_
                rw [d44]
                simp only [Act.put, List.setIfInBounds_toArray, List.set_cons_zero, List.set_cons_succ]
                refine wpAnyH_take (i := 45) (v := .bool true) h45 HNS (by rw [hops]; kernel_rfl) (by rw [hops]; kernel_rfl) (fun _ _ _ h => h) (Or.inl ⟨(wanted_none g45), fun w' _ => by unfold execOp; rw [p45]; first | rfl | kernel_rfl⟩) hHeld ?_
                rw [d45]
                simp only [Act.put, List.setIfInBounds_toArray, List.set_cons_zero, List.set_cons_succ]
                refine wpAnyH_done (by rw [hops]; kernel_rfl) (NoPanic.normal ?_) _
                have HB9 := Lib.hid (HB2.out.trans (s0.mono HB2.out.size))
                have HX9 := Lib.hid (HX2m.out.keep s0)
                clear HNS KP s0 hHeld hops h0 d0 p0 g0 h1 d1 p1 g1 h2 d2 p2 g2 h3 d3 p3 g3 h4 d4 p4 g4 h5 d5 p5 g5 h6 d6 p6 g6 h7 d7 p7 g7 h8 d8 p8 g8 h9 d9 p9 g9 h10 d10 p10 g10 h11 d11 p11 g11 h12 d12 p12 g12 h13 d13 p13 g13 h14 d14 p14 g14 h15 d15 p15 g15 h16 d16 p16 g16 h17 d17 p17 g17 h18 d18 p18 g18 h19 d19 p19 g19 h20 d20 p20 g20 h21 d21 p21 g21 h22 d22 p22 g22 h23 d23 p23 g23 h24 d24 p24 g24 h25 d25 p25 g25 h26 d26 p26 g26 h27 d27 p27 g27 h28 d28 p28 g28 h29 d29 p29 g29 h30 d30 p30 g30 h31 d31 p31 g31 h32 d32 p32 g32 h33 d33 p33 g33 h34 d34 p34 g34 h35 d35 p35 g35 h36 d36 p36 g36 h37 d37 p37 g37 h38 d38 p38 g38 h39 d39 p39 g39 h40 d40 p40 g40 h41 d41 p41 g41 h42 d42 p42 g42 h43 d43 p43 g43 h44 d44 p44 g44 h45 d45 p45 g45
                go_wp2_with fail
                go_ret
                exact ⟨by rw [HE.out]; rfl, HB9.out⟩
              have hd2 : decide (x.no < 0) = false := decide_eq_false hc
              have hn2 : 0 ≤ x.no := by omega
              clear hc
              by_cases hc : (ns : Int) ≤ x.no
              · have HE := Lib.hid (HA.out (by rw [HBD.out, Rc.inB_geN hc, Bool.not_false, Bool.true_or, Bool.or_true]))
                have hd3 : decide ((ns : Int) ≤ x.no) = true := decide_eq_true hc
                clear hc
                have KP := Lib.hid (fun (w' : World) (h : Below W2.heap.size W2 w') => (⟨(h.cell (p := ⟨gx, 0, none⟩) HX2m.out.lt).trans x0, (h.cell (p := ⟨gx, 1, none⟩) HX2m.out.lt).trans x1, (h.cell (p := ⟨gx, 2, none⟩) HX2m.out.lt).trans x2, h⟩ : w'.cell? ⟨gx, 0, none⟩ = some (Rc.i x.rf) ∧ w'.cell? ⟨gx, 1, none⟩ = some (Rc.i x.no) ∧ w'.cell? ⟨gx, 2, none⟩ = some (Rc.i x.st) ∧ Below W2.heap.size W2 w'))
                have s0 : Below W2.heap.size W2 W2.drew := (Below.refl _ W2).drew
                refine wp_region_named (fun ops hops => ?_)
                refine wp_region_noPanic ?_
                refine wp_region_held_drew (S := (fun w' => w'.cell? ⟨gx, 0, none⟩ = some (Rc.i x.rf) ∧ w'.cell? ⟨gx, 1, none⟩ = some (Rc.i x.no) ∧ w'.cell? ⟨gx, 2, none⟩ = some (Rc.i x.st) ∧ Below W2.heap.size W2 w')) (by kernel_rfl) (KP.out _ s0) (fun hHeld => ?_)
                rw [show ops.size = 46 from by rw [hops]; rfl]
                change wpAnyH _ _ _ _ _ _ _ _ W2.drew
                have HNS : Region.noSelect ops = true := by rw [hops]; kernel_rfl
                obtain ⟨o0, h0, d0, p0, g0⟩ := op_at5 hops 0 rfl (d := some 69) (p := .fieldAddr 47 (.tmp 10) 0) (g := none) rfl rfl rfl
                obtain ⟨o1, h1, d1, p1, g1⟩ := op_at5 hops 1 rfl (d := some 70) (p := .load 3 (.tmp 69)) (g := none) rfl rfl rfl
                obtain ⟨o2, h2, d2, p2, g2⟩ := op_at5 hops 2 rfl (d := some 71) (p := .binOp .lss 3 (.tmp 70) (.const (.int .i64 0)) 3) (g := none) rfl rfl rfl
                obtain ⟨o3, h3, d3, p3, g3⟩ := op_at5 hops 3 rfl (d := some 72) (p := .move (.tmp 71)) (g := none) rfl rfl rfl
                obtain ⟨o4, h4, d4, p4, g4⟩ := op_at5 hops 4 rfl (d := some 73) (p := .fieldAddr 47 (.tmp 10) 0) (g := some (3, false)) rfl rfl rfl
                obtain ⟨o5, h5, d5, p5, g5⟩ := op_at5 hops 5 rfl (d := some 74) (p := .load 3 (.tmp 73)) (g := some (3, false)) rfl rfl rfl
                obtain ⟨o6, h6, d6, p6, g6⟩ := op_at5 hops 6 rfl (d := some 75) (p := .move (.tmp 0)) (g := some (3, false)) rfl rfl rfl
                obtain ⟨o7, h7, d7, p7, g7⟩ := op_at5 hops 7 rfl (d := some 76) (p := .call { callee := .builtin .len, args := #[(.tmp 75)], argTypes := #[22] }) (g := some (3, false)) rfl rfl rfl
                obtain ⟨o8, h8, d8, p8, g8⟩ := op_at5 hops 8 rfl (d := some 77) (p := .binOp .geq 3 (.tmp 74) (.tmp 76) 3) (g := some (3, false)) rfl rfl rfl
                obtain ⟨o9, h9, d9, p9, g9⟩ := op_at5 hops 9 rfl (d := some 78) (p := .pick (.tmp 72) (.const (.bool true)) (.tmp 77)) (g := none) rfl rfl rfl
                obtain ⟨o10, h10, d10, p10, g10⟩ := op_at5 hops 10 rfl (d := some 79) (p := .move (.tmp 78)) (g := none) rfl rfl rfl
                obtain ⟨o11, h11, d11, p11, g11⟩ := op_at5 hops 11 rfl (d := some 80) (p := .fieldAddr 47 (.tmp 10) 1) (g := some (10, false)) rfl rfl rfl
                obtain ⟨o12, h12, d12, p12, g12⟩ := op_at5 hops 12 rfl (d := some 81) (p := .load 3 (.tmp 80)) (g := some (10, false)) rfl rfl rfl
                obtain ⟨o13, h13, d13, p13, g13⟩ := op_at5 hops 13 rfl (d := some 82) (p := .binOp .lss 3 (.tmp 81) (.const (.int .i64 0)) 3) (g := some (10, false)) rfl rfl rfl
                obtain ⟨o14, h14, d14, p14, g14⟩ := op_at5 hops 14 rfl (d := some 83) (p := .pick (.tmp 79) (.const (.bool true)) (.tmp 82)) (g := none) rfl rfl rfl
                obtain ⟨o15, h15, d15, p15, g15⟩ := op_at5 hops 15 rfl (d := some 84) (p := .move (.tmp 83)) (g := none) rfl rfl rfl
                obtain ⟨o16, h16, d16, p16, g16⟩ := op_at5 hops 16 rfl (d := some 85) (p := .fieldAddr 47 (.tmp 10) 1) (g := some (15, false)) rfl rfl rfl
                obtain ⟨o17, h17, d17, p17, g17⟩ := op_at5 hops 17 rfl (d := some 86) (p := .load 3 (.tmp 85)) (g := some (15, false)) rfl rfl rfl
                obtain ⟨o18, h18, d18, p18, g18⟩ := op_at5 hops 18 rfl (d := some 87) (p := .move (.tmp 1)) (g := some (15, false)) rfl rfl rfl
                obtain ⟨o19, h19, d19, p19, g19⟩ := op_at5 hops 19 rfl (d := some 88) (p := .call { callee := .builtin .len, args := #[(.tmp 87)], argTypes := #[23] }) (g := some (15, false)) rfl rfl rfl
                obtain ⟨o20, h20, d20, p20, g20⟩ := op_at5 hops 20 rfl (d := some 89) (p := .binOp .geq 3 (.tmp 86) (.tmp 88) 3) (g := some (15, false)) rfl rfl rfl
                obtain ⟨o21, h21, d21, p21, g21⟩ := op_at5 hops 21 rfl (d := some 90) (p := .pick (.tmp 84) (.const (.bool true)) (.tmp 89)) (g := none) rfl rfl rfl
                obtain ⟨o22, h22, d22, p22, g22⟩ := op_at5 hops 22 rfl (d := some 91) (p := .move (.tmp 90)) (g := none) rfl rfl rfl
                obtain ⟨o23, h23, d23, p23, g23⟩ := op_at5 hops 23 rfl (d := some 92) (p := .fieldAddr 47 (.tmp 10) 2) (g := some (22, false)) rfl rfl rfl
                obtain ⟨o24, h24, d24, p24, g24⟩ := op_at5 hops 24 rfl (d := some 93) (p := .load 3 (.tmp 92)) (g := some (22, false)) rfl rfl rfl
                obtain ⟨o25, h25, d25, p25, g25⟩ := op_at5 hops 25 rfl (d := some 94) (p := .binOp .lss 3 (.tmp 93) (.const (.int .i64 0)) 3) (g := some (22, false)) rfl rfl rfl
                obtain ⟨o26, h26, d26, p26, g26⟩ := op_at5 hops 26 rfl (d := some 95) (p := .pick (.tmp 91) (.const (.bool true)) (.tmp 94)) (g := none) rfl rfl rfl
                obtain ⟨o27, h27, d27, p27, g27⟩ := op_at5 hops 27 rfl (d := some 96) (p := .move (.tmp 95)) (g := none) rfl rfl rfl
                obtain ⟨o28, h28, d28, p28, g28⟩ := op_at5 hops 28 rfl (d := some 97) (p := .fieldAddr 47 (.tmp 10) 2) (g := some (27, false)) rfl rfl rfl
                obtain ⟨o29, h29, d29, p29, g29⟩ := op_at5 hops 29 rfl (d := some 98) (p := .load 3 (.tmp 97)) (g := some (27, false)) rfl rfl rfl
                obtain ⟨o30, h30, d30, p30, g30⟩ := op_at5 hops 30 rfl (d := some 99) (p := .binOp .gtr 3 (.tmp 98) (.const (.int .i64 1048576)) 3) (g := some (27, false)) rfl rfl rfl
                obtain ⟨o31, h31, d31, p31, g31⟩ := op_at5 hops 31 rfl (d := some 100) (p := .pick (.tmp 96) (.const (.bool true)) (.tmp 99)) (g := none) rfl rfl rfl
                obtain ⟨o32, h32, d32, p32, g32⟩ := op_at5 hops 32 rfl (d := some 101) (p := .move (.tmp 100)) (g := none) rfl rfl rfl
                obtain ⟨o33, h33, d33, p33, g33⟩ := op_at5 hops 33 rfl (d := some 102) (p := .move (.tmp 9)) (g := some (32, false)) rfl rfl rfl
                obtain ⟨o34, h34, d34, p34, g34⟩ := op_at5 hops 34 rfl (d := some 103) (p := .binOp .gtr 3 (.tmp 102) (.const (.int .i64 0)) 3) (g := some (32, false)) rfl rfl rfl
                obtain ⟨o35, h35, d35, p35, g35⟩ := op_at5 hops 35 rfl (d := some 104) (p := .move (.tmp 103)) (g := some (32, false)) rfl rfl rfl
                obtain ⟨o36, h36, d36, p36, g36⟩ := op_at5 hops 36 rfl (d := some 105) (p := .move (.tmp 2)) (g := some (35, true)) rfl rfl rfl
                obtain ⟨o37, h37, d37, p37, g37⟩ := op_at5 hops 37 rfl (d := some 106) (p := .move (.tmp 9)) (g := some (35, true)) rfl rfl rfl
                obtain ⟨o38, h38, d38, p38, g38⟩ := op_at5 hops 38 rfl (d := some 107) (p := .binOp .sub 3 (.tmp 106) (.const (.int .i64 1)) 3) (g := some (35, true)) rfl rfl rfl
                obtain ⟨o39, h39, d39, p39, g39⟩ := op_at5 hops 39 rfl (d := some 108) (p := .indexAddr 24 (.tmp 105) (.tmp 107)) (g := some (35, true)) rfl rfl rfl
                obtain ⟨o40, h40, d40, p40, g40⟩ := op_at5 hops 40 rfl (d := some 109) (p := .load 47 (.tmp 108)) (g := some (35, true)) rfl rfl rfl
                obtain ⟨o41, h41, d41, p41, g41⟩ := op_at5 hops 41 rfl (d := some 110) (p := .load 47 (.tmp 10)) (g := some (35, true)) rfl rfl rfl
                obtain ⟨o42, h42, d42, p42, g42⟩ := op_at5 hops 42 rfl (d := some 111) (p := .call { callee := .value (.func 43), args := #[(.tmp 109), (.tmp 110)], argTypes := #[47, 47] }) (g := some (35, true)) rfl rfl rfl
                obtain ⟨o43, h43, d43, p43, g43⟩ := op_at5 hops 43 rfl (d := some 112) (p := .unOp .not 4 (.tmp 111)) (g := some (35, true)) rfl rfl rfl
                obtain ⟨o44, h44, d44, p44, g44⟩ := op_at5 hops 44 rfl (d := some 113) (p := .pick (.tmp 104) (.tmp 112) (.const (.bool false))) (g := some (32, false)) rfl rfl rfl
                obtain ⟨o45, h45, d45, p45, g45⟩ := op_at5 hops 45 rfl (d := some 114) (p := .pick (.tmp 101) (.const (.bool true)) (.tmp 113)) (g := none) rfl rfl rfl
                refine wpAnyH_take (i := 0) (v := .pointer (some ⟨gx, 0, none⟩)) h0 HNS (by rw [hops]; kernel_rfl) (by rw [hops]; kernel_rfl) (fun _ _ _ h => h) (Or.inl ⟨(wanted_none g0), fun w' _ => by unfold execOp; rw [p0]; first | rfl | kernel_rfl⟩) hHeld ?_
                rw [d0]
                simp only [Act.put, List.setIfInBounds_toArray, List.set_cons_zero, List.set_cons_succ]
                refine wpAnyH_take (i := 1) (v := .int .i64 x.rf) h1 HNS (by rw [hops]; kernel_rfl) (by rw [hops]; kernel_rfl) (fun _ _ _ h => h) (Or.inl ⟨(wanted_none g1), fun w' h => run_op_load_cell 3 _ p1 gx 0 (by rfl) _ h.1 _ Tryd.underlying3 rfl⟩) hHeld ?_
                rw [d1]
                simp only [Act.put, List.setIfInBounds_toArray, List.set_cons_zero, List.set_cons_succ]
                refine wpAnyH_take (i := 2) (v := .bool false) h2 HNS (by rw [hops]; kernel_rfl) (by rw [hops]; kernel_rfl) (fun _ _ _ h => h) (Or.inl ⟨(wanted_none g2), fun w' _ => (show _ = Result.ok (.value (.bool (decide (x.rf < 0)))) w' from by unfold execOp; rw [p2]; first | rfl | kernel_rfl).trans (by rw [hd0])⟩) hHeld ?_
                rw [d2]
                simp only [Act.put, List.setIfInBounds_toArray, List.set_cons_zero, List.set_cons_succ]
                refine wpAnyH_take (i := 3) (v := .bool false) h3 HNS (by rw [hops]; kernel_rfl) (by rw [hops]; kernel_rfl) (fun _ _ _ h => h) (Or.inl ⟨(wanted_none g3), fun w' _ => by unfold execOp; rw [p3]; first | rfl | kernel_rfl⟩) hHeld ?_
                rw [d3]
                simp only [Act.put, List.setIfInBounds_toArray, List.set_cons_zero, List.set_cons_succ]
                refine wpAnyH_take (i := 4) (v := .pointer (some ⟨gx, 0, none⟩)) h4 HNS (by rw [hops]; kernel_rfl) (by rw [hops]; kernel_rfl) (fun _ _ _ h => h) (Or.inl ⟨(wanted_some g4 h3 d3 (by rfl)), fun w' _ => by unfold execOp; rw [p4]; first | rfl | kernel_rfl⟩) hHeld ?_
                rw [d4]
                simp only [Act.put, List.setIfInBounds_toArray, List.set_cons_zero, List.set_cons_succ]
                refine wpAnyH_take (i := 5) (v := .int .i64 x.rf) h5 HNS (by rw [hops]; kernel_rfl) (by rw [hops]; kernel_rfl) (fun _ _ _ h => h) (Or.inl ⟨(wanted_some g5 h3 d3 (by rfl)), fun w' h => run_op_load_cell 3 _ p5 gx 0 (by rfl) _ h.1 _ Tryd.underlying3 rfl⟩) hHeld ?_
                rw [d5]
                simp only [Act.put, List.setIfInBounds_toArray, List.set_cons_zero, List.set_cons_succ]
                refine wpAnyH_take (i := 6) (v := .slice Ac nc cc) h6 HNS (by rw [hops]; kernel_rfl) (by rw [hops]; kernel_rfl) (fun _ _ _ h => h) (Or.inl ⟨(wanted_some g6 h3 d3 (by rfl)), fun w' _ => by unfold execOp; rw [p6]; first | rfl | kernel_rfl⟩) hHeld ?_
                rw [d6]
                simp only [Act.put, List.setIfInBounds_toArray, List.set_cons_zero, List.set_cons_succ]
                refine wpAnyH_take (i := 7) (v := .int .i64 nc) h7 HNS (by rw [hops]; kernel_rfl) (by rw [hops]; kernel_rfl) (fun _ _ _ h => h) (Or.inl ⟨(wanted_some g7 h3 d3 (by rfl)), fun w' _ => by unfold execOp; rw [p7]; first | rfl | kernel_rfl⟩) hHeld ?_
                rw [d7]
                simp only [Act.put, List.setIfInBounds_toArray, List.set_cons_zero, List.set_cons_succ]
                refine wpAnyH_take (i := 8) (v := .bool false) h8 HNS (by rw [hops]; kernel_rfl) (by rw [hops]; kernel_rfl) (fun _ _ _ h => h) (Or.inl ⟨(wanted_some g8 h3 d3 (by rfl)), fun w' _ => (show _ = Result.ok (.value (.bool (decide ((nc : Int) ≤ x.rf)))) w' from by unfold execOp; rw [p8]; first | rfl | kernel_rfl).trans (by rw [hd1])⟩) hHeld ?_
                rw [d8]
                simp only [Act.put, List.setIfInBounds_toArray, List.set_cons_zero, List.set_cons_succ]
                refine wpAnyH_take (i := 9) (v := .bool false) h9 HNS (by rw [hops]; kernel_rfl) (by rw [hops]; kernel_rfl) (fun _ _ _ h => h) (Or.inl ⟨(wanted_none g9), fun w' _ => by unfold execOp; rw [p9]; first | rfl | kernel_rfl⟩) hHeld ?_
                rw [d9]
                simp only [Act.put, List.setIfInBounds_toArray, List.set_cons_zero, List.set_cons_succ]
                refine wpAnyH_take (i := 10) (v := .bool false) h10 HNS (by rw [hops]; kernel_rfl) (by rw [hops]; kernel_rfl) (fun _ _ _ h => h) (Or.inl ⟨(wanted_none g10), fun w' _ => by unfold execOp; rw [p10]; first | rfl | kernel_rfl⟩) hHeld ?_
                rw [d10]
                simp only [Act.put, List.setIfInBounds_toArray, List.set_cons_zero, List.set_cons_succ]
                refine wpAnyH_take (i := 11) (v := .pointer (some ⟨gx, 1, none⟩)) h11 HNS (by rw [hops]; kernel_rfl) (by rw [hops]; kernel_rfl) (fun _ _ _ h => h) (Or.inl ⟨(wanted_some g11 h10 d10 (by rfl)), fun w' _ => by unfold execOp; rw [p11]; first | rfl | kernel_rfl⟩) hHeld ?_
                rw [d11]
                simp only [Act.put, List.setIfInBounds_toArray, List.set_cons_zero, List.set_cons_succ]
                refine wpAnyH_take (i := 12) (v := .int .i64 x.no) h12 HNS (by rw [hops]; kernel_rfl) (by rw [hops]; kernel_rfl) (fun _ _ _ h => h) (Or.inl ⟨(wanted_some g12 h10 d10 (by rfl)), fun w' h => run_op_load_cell 3 _ p12 gx 1 (by rfl) _ h.2.1 _ Tryd.underlying3 rfl⟩) hHeld ?_
                rw [d12]
                simp only [Act.put, List.setIfInBounds_toArray, List.set_cons_zero, List.set_cons_succ]
                refine wpAnyH_take (i := 13) (v := .bool false) h13 HNS (by rw [hops]; kernel_rfl) (by rw [hops]; kernel_rfl) (fun _ _ _ h => h) (Or.inl ⟨(wanted_some g13 h10 d10 (by rfl)), fun w' _ => (show _ = Result.ok (.value (.bool (decide (x.no < 0)))) w' from by unfold execOp; rw [p13]; first | rfl | kernel_rfl).trans (by rw [hd2])⟩) hHeld ?_
                rw [d13]
                simp only [Act.put, List.setIfInBounds_toArray, List.set_cons_zero, List.set_cons_succ]
                refine wpAnyH_take (i := 14) (v := .bool false) h14 HNS (by rw [hops]; kernel_rfl) (by rw [hops]; kernel_rfl) (fun _ _ _ h => h) (Or.inl ⟨(wanted_none g14), fun w' _ => by unfold execOp; rw [p14]; first | rfl | kernel_rfl⟩) hHeld ?_
                rw [d14]
                simp only [Act.put, List.setIfInBounds_toArray, List.set_cons_zero, List.set_cons_succ]
                refine wpAnyH_take (i := 15) (v := .bool false) h15 HNS (by rw [hops]; kernel_rfl) (by rw [hops]; kernel_rfl) (fun _ _ _ h => h) (Or.inl ⟨(wanted_none g15), fun w' _ => by unfold execOp; rw [p15]; first | rfl | kernel_rfl⟩) hHeld ?_
                rw [d15]
                simp only [Act.put, List.setIfInBounds_toArray, List.set_cons_zero, List.set_cons_succ]
                refine wpAnyH_take (i := 16) (v := .pointer (some ⟨gx, 1, none⟩)) h16 HNS (by rw [hops]; kernel_rfl) (by rw [hops]; kernel_rfl) (fun _ _ _ h => h) (Or.inl ⟨(wanted_some g16 h15 d15 (by rfl)), fun w' _ => by unfold execOp; rw [p16]; first | rfl | kernel_rfl⟩) hHeld ?_
                rw [d16]
                simp only [Act.put, List.setIfInBounds_toArray, List.set_cons_zero, List.set_cons_succ]
                refine wpAnyH_take (i := 17) (v := .int .i64 x.no) h17 HNS (by rw [hops]; kernel_rfl) (by rw [hops]; kernel_rfl) (fun _ _ _ h => h) (Or.inl ⟨(wanted_some g17 h15 d15 (by rfl)), fun w' h => run_op_load_cell 3 _ p17 gx 1 (by rfl) _ h.2.1 _ Tryd.underlying3 rfl⟩) hHeld ?_
                rw [d17]
                simp only [Act.put, List.setIfInBounds_toArray, List.set_cons_zero, List.set_cons_succ]
                refine wpAnyH_take (i := 18) (v := .slice As ns cs) h18 HNS (by rw [hops]; kernel_rfl) (by rw [hops]; kernel_rfl) (fun _ _ _ h => h) (Or.inl ⟨(wanted_some g18 h15 d15 (by rfl)), fun w' _ => by unfold execOp; rw [p18]; first | rfl | kernel_rfl⟩) hHeld ?_
                rw [d18]
                simp only [Act.put, List.setIfInBounds_toArray, List.set_cons_zero, List.set_cons_succ]
                refine wpAnyH_take (i := 19) (v := .int .i64 ns) h19 HNS (by rw [hops]; kernel_rfl) (by rw [hops]; kernel_rfl) (fun _ _ _ h => h) (Or.inl ⟨(wanted_some g19 h15 d15 (by rfl)), fun w' _ => by unfold execOp; rw [p19]; first | rfl | kernel_rfl⟩) hHeld ?_
                rw [d19]
                simp only [Act.put, List.setIfInBounds_toArray, List.set_cons_zero, List.set_cons_succ]
                refine wpAnyH_take (i := 20) (v := .bool true) h20 HNS (by rw [hops]; kernel_rfl) (by rw [hops]; kernel_rfl) (fun _ _ _ h => h) (Or.inl ⟨(wanted_some g20 h15 d15 (by rfl)), fun w' _ => (show _ = Result.ok (.value (.bool (decide ((ns : Int) ≤ x.no)))) w' from by unfold execOp; rw [p20]; first | rfl | kernel_rfl).trans (by rw [hd3])⟩) hHeld ?_
                rw [d20]
                simp only [Act.put, List.setIfInBounds_toArray, List.set_cons_zero, List.set_cons_succ]
                refine wpAnyH_take (i := 21) (v := .bool true) h21 HNS (by rw [hops]; kernel_rfl) (by rw [hops]; kernel_rfl) (fun _ _ _ h => h) (Or.inl ⟨(wanted_none g21), fun w' _ => by unfold execOp; rw [p21]; first | rfl | kernel_rfl⟩) hHeld ?_
                rw [d21]
                simp only [Act.put, List.setIfInBounds_toArray, List.set_cons_zero, List.set_cons_succ]
                refine wpAnyH_take (i := 22) (v := .bool true) h22 HNS (by rw [hops]; kernel_rfl) (by rw [hops]; kernel_rfl) (fun _ _ _ h => h) (Or.inl ⟨(wanted_none g22), fun w' _ => by unfold execOp; rw [p22]; first | rfl | kernel_rfl⟩) hHeld ?_
                rw [d22]
                simp only [Act.put, List.setIfInBounds_toArray, List.set_cons_zero, List.set_cons_succ]
                refine wpAnyH_take (i := 23) (v := undef) h23 HNS (by rw [hops]; kernel_rfl) (by rw [hops]; kernel_rfl) (fun _ _ _ h => h) (Or.inr ⟨(unwanted_some g23 h22 d22 (by rfl)), rfl⟩) hHeld ?_
                rw [d23]
                simp only [Act.put, List.setIfInBounds_toArray, List.set_cons_zero, List.set_cons_succ]
                refine wpAnyH_take (i := 24) (v := undef) h24 HNS (by rw [hops]; kernel_rfl) (by rw [hops]; kernel_rfl) (fun _ _ _ h => h) (Or.inr ⟨(unwanted_some g24 h22 d22 (by rfl)), rfl⟩) hHeld ?_
                rw [d24]
                simp only [Act.put, List.setIfInBounds_toArray, List.set_cons_zero, List.set_cons_succ]
                refine wpAnyH_take (i := 25) (v := undef) h25 HNS (by rw [hops]; kernel_rfl) (by rw [hops]; kernel_rfl) (fun _ _ _ h => h) (Or.inr ⟨(unwanted_some g25 h22 d22 (by rfl)), rfl⟩) hHeld ?_
                rw [d25]
                simp only [Act.put, List.setIfInBounds_toArray, List.set_cons_zero, List.set_cons_succ]
                refine wpAnyH_take (i := 26) (v := .bool true) h26 HNS (by rw [hops]; kernel_rfl) (by rw [hops]; kernel_rfl) (fun _ _ _ h => h) (Or.inl ⟨(wanted_none g26), fun w' _ => by unfold execOp; rw [p26]; first | rfl | kernel_rfl⟩) hHeld ?_
                rw [d26]
                simp only [Act.put, List.setIfInBounds_toArray, List.set_cons_zero, List.set_cons_succ]
                refine wpAnyH_take (i := 27) (v := .bool true) h27 HNS (by rw [hops]; kernel_rfl) (by rw [hops]; kernel_rfl) (fun _ _ _ h => h) (Or.inl ⟨(wanted_none g27), fun w' _ => by unfold execOp; rw [p27]; first | rfl | kernel_rfl⟩) hHeld ?_
                rw [d27]
                simp only [Act.put, List.setIfInBounds_toArray, List.set_cons_zero, List.set_cons_succ]
                refine wpAnyH_take (i := 28) (v := undef) h28 HNS (by rw [hops]; kernel_rfl) (by rw [hops]; kernel_rfl) (fun _ _ _ h => h) (Or.inr ⟨(unwanted_some g28 h27 d27 (by rfl)), rfl⟩) hHeld ?_
                rw [d28]
                simp only [Act.put, List.setIfInBounds_toArray, List.set_cons_zero, List.set_cons_succ]
                refine wpAnyH_take (i := 29) (v := undef) h29 HNS (by rw [hops]; kernel_rfl) (by rw [hops]; kernel_rfl) (fun _ _ _ h => h) (Or.inr ⟨(unwanted_some g29 h27 d27 (by rfl)), rfl⟩) hHeld ?_
                rw [d29]
                simp only [Act.put, List.setIfInBounds_toArray, List.set_cons_zero, List.set_cons_succ]
                refine wpAnyH_take (i := 30) (v := undef) h30 HNS (by rw [hops]; kernel_rfl) (by rw [hops]; kernel_rfl) (fun _ _ _ h => h) (Or.inr ⟨(unwanted_some g30 h27 d27 (by rfl)), rfl⟩) hHeld ?_
                rw [d30]
                simp only [Act.put, List.setIfInBounds_toArray, List.set_cons_zero, List.set_cons_succ]
                refine wpAnyH_take (i := 31) (v := .bool true) h31 HNS (by rw [hops]; kernel_rfl) (by rw [hops]; kernel_rfl) (fun _ _ _ h => h) (Or.inl ⟨(wanted_none g31), fun w' _ => by unfold execOp; rw [p31]; first | rfl | kernel_rfl⟩) hHeld ?_
                rw [d31]
                simp only [Act.put, List.setIfInBounds_toArray, List.set_cons_zero, List.set_cons_succ]
                refine wpAnyH_take (i := 32) (v := .bool true) h32 HNS (by rw [hops]; kernel_rfl) (by rw [hops]; kernel_rfl) (fun _ _ _ h => h) (Or.inl ⟨(wanted_none g32), fun w' _ => by unfold execOp; rw [p32]; first | rfl | kernel_rfl⟩) hHeld ?_
                rw [d32]
                simp only [Act.put, List.setIfInBounds_toArray, List.set_cons_zero, List.set_cons_succ]
                refine wpAnyH_take (i := 33) (v := undef) h33 HNS (by rw [hops]; kernel_rfl) (by rw [hops]; kernel_rfl) (fun _ _ _ h => h) (Or.inr ⟨(unwanted_some g33 h32 d32 (by rfl)), rfl⟩) hHeld ?_
                rw [d33]
                simp only [Act.put, List.setIfInBounds_toArray, List.set_cons_zero, List.set_cons_succ]
                refine wpAnyH_take (i := 34) (v := undef) h34 HNS (by rw [hops]; kernel_rfl) (by rw [hops]; kernel_rfl) (fun _ _ _ h => h) (Or.inr ⟨(unwanted_some g34 h32 d32 (by rfl)), rfl⟩) hHeld ?_
                rw [d34]
                simp only [Act.put, List.setIfInBounds_toArray, List.set_cons_zero, List.set_cons_succ]
                refine wpAnyH_take (i := 35) (v := undef) h35 HNS (by rw [hops]; kernel_rfl) (by rw [hops]; kernel_rfl) (fun _ _ _ h => h) (Or.inr ⟨(unwanted_some g35 h32 d32 (by rfl)), rfl⟩) hHeld ?_
                rw [d35]
                simp only [Act.put, List.setIfInBounds_toArray, List.set_cons_zero, List.set_cons_succ]
                refine wpAnyH_take (i := 36) (v := undef) h36 HNS (by rw [hops]; kernel_rfl) (by rw [hops]; kernel_rfl) (fun _ _ _ h => h) (Or.inr ⟨(unwanted_undef g36 h35 d35 (by rfl)), rfl⟩) hHeld ?_
                rw [d36]
                simp only [Act.put, List.setIfInBounds_toArray, List.set_cons_zero, List.set_cons_succ]
                refine wpAnyH_take (i := 37) (v := undef) h37 HNS (by rw [hops]; kernel_rfl) (by rw [hops]; kernel_rfl) (fun _ _ _ h => h) (Or.inr ⟨(unwanted_undef g37 h35 d35 (by rfl)), rfl⟩) hHeld ?_
                rw [d37]
                simp only [Act.put, List.setIfInBounds_toArray, List.set_cons_zero, List.set_cons_succ]
                refine wpAnyH_take (i := 38) (v := undef) h38 HNS (by rw [hops]; kernel_rfl) (by rw [hops]; kernel_rfl) (fun _ _ _ h => h) (Or.inr ⟨(unwanted_undef g38 h35 d35 (by rfl)), rfl⟩) hHeld ?_
                rw [d38]
                simp only [Act.put, List.setIfInBounds_toArray, List.set_cons_zero, List.set_cons_succ]
                refine wpAnyH_take (i := 39) (v := undef) h39 HNS (by rw [hops]; kernel_rfl) (by rw [hops]; kernel_rfl) (fun _ _ _ h => h) (Or.inr ⟨(unwanted_undef g39 h35 d35 (by rfl)), rfl⟩) hHeld ?_
                rw [d39]
                simp only [Act.put, List.setIfInBounds_toArray, List.set_cons_zero, List.set_cons_succ]
                refine wpAnyH_take (i := 40) (v := undef) h40 HNS (by rw [hops]; kernel_rfl) (by rw [hops]; kernel_rfl) (fun _ _ _ h => h) (Or.inr ⟨(unwanted_undef g40 h35 d35 (by rfl)), rfl⟩) hHeld ?_
                rw [d40]
                simp only [Act.put, List.setIfInBounds_toArray, List.set_cons_zero, List.set_cons_succ]
                refine wpAnyH_take (i := 41) (v := undef) h41 HNS (by rw [hops]; kernel_rfl) (by rw [hops]; kernel_rfl) (fun _ _ _ h => h) (Or.inr ⟨(unwanted_undef g41 h35 d35 (by rfl)), rfl⟩) hHeld ?_
                rw [d41]
                simp only [Act.put, List.setIfInBounds_toArray, List.set_cons_zero, List.set_cons_succ]
                refine wpAnyH_take (i := 42) (v := undef) h42 HNS (by rw [hops]; kernel_rfl) (by rw [hops]; kernel_rfl) (fun _ _ _ h => h) (Or.inr ⟨(unwanted_undef g42 h35 d35 (by rfl)), rfl⟩) hHeld ?_
                rw [d42]
                simp only [Act.put, List.setIfInBounds_toArray, List.set_cons_zero, List.set_cons_succ]
                refine wpAnyH_take (i := 43) (v := undef) h43 HNS (by rw [hops]; kernel_rfl) (by rw [hops]; kernel_rfl) (fun _ _ _ h => h) (Or.inr ⟨(unwanted_undef g43 h35 d35 (by rfl)), rfl⟩) hHeld ?_
                rw [d43]
                simp only [Act.put, List.setIfInBounds_toArray, List.set_cons_zero, List.set_cons_succ]
                refine wpAnyH_take (i := 44) (v := undef) h44 HNS (by rw [hops]; kernel_rfl) (by rw [hops]; kernel_rfl) (fun _ _ _ h => h) (Or.inr ⟨(unwanted_some g44 h32 d32 (by rfl)), rfl⟩) hHeld ?_
                rw [d44]
                simp only [Act.put, List.setIfInBounds_toArray, List.set_cons_zero, List.set_cons_succ]
                refine wpAnyH_take (i := 45) (v := .bool true) h45 HNS (by rw [hops]; kernel_rfl) (by rw [hops]; kernel_rfl) (fun _ _ _ h => h) (Or.inl ⟨(wanted_none g45), fun w' _ => by unfold execOp; rw [p45]; first | rfl | kernel_rfl⟩) hHeld ?_
                rw [d45]
                simp only [Act.put, List.setIfInBounds_toArray, List.set_cons_zero, List.set_cons_succ]
                refine wpAnyH_done (by rw [hops]; kernel_rfl) (NoPanic.normal ?_) _
                have HB9 := Lib.hid (HB2.out.trans (s0.mono HB2.out.size))
                have HX9 := Lib.hid (HX2m.out.keep s0)
                clear HNS KP s0 hHeld hops h0 d0 p0 g0 h1 d1 p1 g1 h2 d2 p2 g2 h3 d3 p3 g3 h4 d4 p4 g4 h5 d5 p5 g5 h6 d6 p6 g6 h7 d7 p7 g7 h8 d8 p8 g8 h9 d9 p9 g9 h10 d10 p10 g10 h11 d11 p11 g11 h12 d12 p12 g12 h13 d13 p13 g13 h14 d14 p14 g14 h15 d15 p15 g15 h16 d16 p16 g16 h17 d17 p17 g17 h18 d18 p18 g18 h19 d19 p19 g19 h20 d20 p20 g20 h21 d21 p21 g21 h22 d22 p22 g22 h23 d23 p23 g23 h24 d24 p24 g24 h25 d25 p25 g25 h26 d26 p26 g26 h27 d27 p27 g27 h28 d28 p28 g28 h29 d29 p29 g29 h30 d30 p30 g30 h31 d31 p31 g31 h32 d32 p32 g32 h33 d33 p33 g33 h34 d34 p34 g34 h35 d35 p35 g35 h36 d36 p36 g36 h37 d37 p37 g37 h38 d38 p38 g38 h39 d39 p39 g39 h40 d40 p40 g40 h41 d41 p41 g41 h42 d42 p42 g42 h43 d43 p43 g43 h44 d44 p44 g44 h45 d45 p45 g45
                go_wp2_with fail
                go_ret
                exact ⟨by rw [HE.out]; rfl, HB9.out⟩
              have hd3 : decide ((ns : Int) ≤ x.no) = false := decide_eq_false hc
              have hn3 : x.no < ns := by omega
              clear hc
              by_cases hc : x.st < 0
              · have HE := Lib.hid (HA.out (by rw [HBD.out, Rc.inB_lt0 hc, Bool.not_false, Bool.true_or, Bool.or_true, Bool.or_true]))
                have hd4 : decide (x.st < 0) = true := decide_eq_true hc
                clear hc
                have KP := Lib.hid (fun (w' : World) (h : Below W2.heap.size W2 w') => (⟨(h.cell (p := ⟨gx, 0, none⟩) HX2m.out.lt).trans x0, (h.cell (p := ⟨gx, 1, none⟩) HX2m.out.lt).trans x1, (h.cell (p := ⟨gx, 2, none⟩) HX2m.out.lt).trans x2, h⟩ : w'.cell? ⟨gx, 0, none⟩ = some (Rc.i x.rf) ∧ w'.cell? ⟨gx, 1, none⟩ = some (Rc.i x.no) ∧ w'.cell? ⟨gx, 2, none⟩ = some (Rc.i x.st) ∧ Below W2.heap.size W2 w'))
                have s0 : Below W2.heap.size W2 W2.drew := (Below.refl _ W2).drew
                refine wp_region_named (fun ops hops => ?_)
                refine wp_region_noPanic ?_
                refine wp_region_held_drew (S := (fun w' => w'.cell? ⟨gx, 0, none⟩ = some (Rc.i x.rf) ∧ w'.cell? ⟨gx, 1, none⟩ = some (Rc.i x.no) ∧ w'.cell? ⟨gx, 2, none⟩ = some (Rc.i x.st) ∧ Below W2.heap.size W2 w')) (by kernel_rfl) (KP.out _ s0) (fun hHeld => ?_)
                rw [show ops.size = 46 from by rw [hops]; rfl]
                change wpAnyH _ _ _ _ _ _ _ _ W2.drew
                have HNS : Region.noSelect ops = true := by rw [hops]; kernel_rfl
                obtain ⟨o0, h0, d0, p0, g0⟩ := op_at5 hops 0 rfl (d := some 69) (p := .fieldAddr 47 (.tmp 10) 0) (g := none) rfl rfl rfl
                obtain ⟨o1, h1, d1, p1, g1⟩ := op_at5 hops 1 rfl (d := some 70) (p := .load 3 (.tmp 69)) (g := none) rfl rfl rfl
                obtain ⟨o2, h2, d2, p2, g2⟩ := op_at5 hops 2 rfl (d := some 71) (p := .binOp .lss 3 (.tmp 70) (.const (.int .i64 0)) 3) (g := none) rfl rfl rfl
                obtain ⟨o3, h3, d3, p3, g3⟩ := op_at5 hops 3 rfl (d := some 72) (p := .move (.tmp 71)) (g := none) rfl rfl rfl
                obtain ⟨o4, h4, d4, p4, g4⟩ := op_at5 hops 4 rfl (d := some 73) (p := .fieldAddr 47 (.tmp 10) 0) (g := some (3, false)) rfl rfl rfl
                obtain ⟨o5, h5, d5, p5, g5⟩ := op_at5 hops 5 rfl (d := some 74) (p := .load 3 (.tmp 73)) (g := some (3, false)) rfl rfl rfl
                obtain ⟨o6, h6, d6, p6, g6⟩ := op_at5 hops 6 rfl (d := some 75) (p := .move (.tmp 0)) (g := some (3, false)) rfl rfl rfl
                obtain ⟨o7, h7, d7, p7, g7⟩ := op_at5 hops 7 rfl (d := some 76) (p := .call { callee := .builtin .len, args := #[(.tmp 75)], argTypes := #[22] }) (g := some (3, false)) rfl rfl rfl
                obtain ⟨o8, h8, d8, p8, g8⟩ := op_at5 hops 8 rfl (d := some 77) (p := .binOp .geq 3 (.tmp 74) (.tmp 76) 3) (g := some (3, false)) rfl rfl rfl
                obtain ⟨o9, h9, d9, p9, g9⟩ := op_at5 hops 9 rfl (d := some 78) (p := .pick (.tmp 72) (.const (.bool true)) (.tmp 77)) (g := none) rfl rfl rfl
                obtain ⟨o10, h10, d10, p10, g10⟩ := op_at5 hops 10 rfl (d := some 79) (p := .move (.tmp 78)) (g := none) rfl rfl rfl
                obtain ⟨o11, h11, d11, p11, g11⟩ := op_at5 hops 11 rfl (d := some 80) (p := .fieldAddr 47 (.tmp 10) 1) (g := some (10, false)) rfl rfl rfl
                obtain ⟨o12, h12, d12, p12, g12⟩ := op_at5 hops 12 rfl (d := some 81) (p := .load 3 (.tmp 80)) (g := some (10, false)) rfl rfl rfl
                obtain ⟨o13, h13, d13, p13, g13⟩ := op_at5 hops 13 rfl (d := some 82) (p := .binOp .lss 3 (.tmp 81) (.const (.int .i64 0)) 3) (g := some (10, false)) rfl rfl rfl
                obtain ⟨o14, h14, d14, p14, g14⟩ := op_at5 hops 14 rfl (d := some 83) (p := .pick (.tmp 79) (.const (.bool true)) (.tmp 82)) (g := none) rfl rfl rfl
                obtain ⟨o15, h15, d15, p15, g15⟩ := op_at5 hops 15 rfl (d := some 84) (p := .move (.tmp 83)) (g := none) rfl rfl rfl
                obtain ⟨o16, h16, d16, p16, g16⟩ := op_at5 hops 16 rfl (d := some 85) (p := .fieldAddr 47 (.tmp 10) 1) (g := some (15, false)) rfl rfl rfl
                obtain ⟨o17, h17, d17, p17, g17⟩ := op_at5 hops 17 rfl (d := some 86) (p := .load 3 (.tmp 85)) (g := some (15, false)) rfl rfl rfl
                obtain ⟨o18, h18, d18, p18, g18⟩ := op_at5 hops 18 rfl (d := some 87) (p := .move (.tmp 1)) (g := some (15, false)) rfl rfl rfl
                obtain ⟨o19, h19, d19, p19, g19⟩ := op_at5 hops 19 rfl (d := some 88) (p := .call { callee := .builtin .len, args := #[(.tmp 87)], argTypes := #[23] }) (g := some (15, false)) rfl rfl rfl
                obtain ⟨o20, h20, d20, p20, g20⟩ := op_at5 hops 20 rfl (d := some 89) (p := .binOp .geq 3 (.tmp 86) (.tmp 88) 3) (g := some (15, false)) rfl rfl rfl
                obtain ⟨o21, h21, d21, p21, g21⟩ := op_at5 hops 21 rfl (d := some 90) (p := .pick (.tmp 84) (.const (.bool true)) (.tmp 89)) (g := none) rfl rfl rfl
                obtain ⟨o22, h22, d22, p22, g22⟩ := op_at5 hops 22 rfl (d := some 91) (p := .move (.tmp 90)) (g := none) rfl rfl rfl
                obtain ⟨o23, h23, d23, p23, g23⟩ := op_at5 hops 23 rfl (d := some 92) (p := .fieldAddr 47 (.tmp 10) 2) (g := some (22, false)) rfl rfl rfl
                obtain ⟨o24, h24, d24, p24, g24⟩ := op_at5 hops 24 rfl (d := some 93) (p := .load 3 (.tmp 92)) (g := some (22, false)) rfl rfl rfl
                obtain ⟨o25, h25, d25, p25, g25⟩ := op_at5 hops 25 rfl (d := some 94) (p := .binOp .lss 3 (.tmp 93) (.const (.int .i64 0)) 3) (g := some (22, false)) rfl rfl rfl
                obtain ⟨o26, h26, d26, p26, g26⟩ := op_at5 hops 26 rfl (d := some 95) (p := .pick (.tmp 91) (.const (.bool true)) (.tmp 94)) (g := none) rfl rfl rfl
                obtain ⟨o27, h27, d27, p27, g27⟩ := op_at5 hops 27 rfl (d := some 96) (p := .move (.tmp 95)) (g := none) rfl rfl rfl
                obtain ⟨o28, h28, d28, p28, g28⟩ := op_at5 hops 28 rfl (d := some 97) (p := .fieldAddr 47 (.tmp 10) 2) (g := some (27, false)) rfl rfl rfl
                obtain ⟨o29, h29, d29, p29, g29⟩ := op_at5 hops 29 rfl (d := some 98) (p := .load 3 (.tmp 97)) (g := some (27, false)) rfl rfl rfl
                obtain ⟨o30, h30, d30, p30, g30⟩ := op_at5 hops 30 rfl (d := some 99) (p := .binOp .gtr 3 (.tmp 98) (.const (.int .i64 1048576)) 3) (g := some (27, false)) rfl rfl rfl
                obtain ⟨o31, h31, d31, p31, g31⟩ := op_at5 hops 31 rfl (d := some 100) (p := .pick (.tmp 96) (.const (.bool true)) (.tmp 99)) (g := none) rfl rfl rfl
                obtain ⟨o32, h32, d32, p32, g32⟩ := op_at5 hops 32 rfl (d := some 101) (p := .move (.tmp 100)) (g := none) rfl rfl rfl
                obtain ⟨o33, h33, d33, p33, g33⟩ := op_at5 hops 33 rfl (d := some 102) (p := .move (.tmp 9)) (g := some (32, false)) rfl rfl rfl
                obtain ⟨o34, h34, d34, p34, g34⟩ := op_at5 hops 34 rfl (d := some 103) (p := .binOp .gtr 3 (.tmp 102) (.const (.int .i64 0)) 3) (g := some (32, false)) rfl rfl rfl
                obtain ⟨o35, h35, d35, p35, g35⟩ := op_at5 hops 35 rfl (d := some 104) (p := .move (.tmp 103)) (g := some (32, false)) rfl rfl rfl
                obtain ⟨o36, h36, d36, p36, g36⟩ := op_at5 hops 36 rfl (d := some 105) (p := .move (.tmp 2)) (g := some (35, true)) rfl rfl rfl
                obtain ⟨o37, h37, d37, p37, g37⟩ := op_at5 hops 37 rfl (d := some 106) (p := .move (.tmp 9)) (g := some (35, true)) rfl rfl rfl
                obtain ⟨o38, h38, d38, p38, g38⟩ := op_at5 hops 38 rfl (d := some 107) (p := .binOp .sub 3 (.tmp 106) (.const (.int .i64 1)) 3) (g := some (35, true)) rfl rfl rfl
                obtain ⟨o39, h39, d39, p39, g39⟩ := op_at5 hops 39 rfl (d := some 108) (p := .indexAddr 24 (.tmp 105) (.tmp 107)) (g := some (35, true)) rfl rfl rfl
                obtain ⟨o40, h40, d40, p40, g40⟩ := op_at5 hops 40 rfl (d := some 109) (p := .load 47 (.tmp 108)) (g := some (35, true)) rfl rfl rfl
                obtain ⟨o41, h41, d41, p41, g41⟩ := op_at5 hops 41 rfl (d := some 110) (p := .load 47 (.tmp 10)) (g := some (35, true)) rfl rfl rfl
                obtain ⟨o42, h42, d42, p42, g42⟩ := op_at5 hops 42 rfl (d := some 111) (p := .call { callee := .value (.func 43), args := #[(.tmp 109), (.tmp 110)], argTypes := #[47, 47] }) (g := some (35, true)) rfl rfl rfl
                obtain ⟨o43, h43, d43, p43, g43⟩ := op_at5 hops 43 rfl (d := some 112) (p := .unOp .not 4 (.tmp 111)) (g := some (35, true)) rfl rfl rfl
                obtain ⟨o44, h44, d44, p44, g44⟩ := op_at5 hops 44 rfl (d := some 113) (p := .pick (.tmp 104) (.tmp 112) (.const (.bool false))) (g := some (32, false)) rfl rfl rfl
                obtain ⟨o45, h45, d45, p45, g45⟩ := op_at5 hops 45 rfl (d := some 114) (p := .pick (.tmp 101) (.const (.bool true)) (.tmp 113)) (g := none) rfl rfl rfl
                refine wpAnyH_take (i := 0) (v := .pointer (some ⟨gx, 0, none⟩)) h0 HNS (by rw [hops]; kernel_rfl) (by rw [hops]; kernel_rfl) (fun _ _ _ h => h) (Or.inl ⟨(wanted_none g0), fun w' _ => by unfold execOp; rw [p0]; first | rfl | kernel_rfl⟩) hHeld ?_
                rw [d0]
                simp only [Act.put, List.setIfInBounds_toArray, List.set_cons_zero, List.set_cons_succ]
                refine wpAnyH_take (i := 1) (v := .int .i64 x.rf) h1 HNS (by rw [hops]; kernel_rfl) (by rw [hops]; kernel_rfl) (fun _ _ _ h => h) (Or.inl ⟨(wanted_none g1), fun w' h => run_op_load_cell 3 _ p1 gx 0 (by rfl) _ h.1 _ Tryd.underlying3 rfl⟩) hHeld ?_
                rw [d1]
                simp only [Act.put, List.setIfInBounds_toArray, List.set_cons_zero, List.set_cons_succ]
                refine wpAnyH_take (i := 2) (v := .bool false) h2 HNS (by rw [hops]; kernel_rfl) (by rw [hops]; kernel_rfl) (fun _ _ _ h => h) (Or.inl ⟨(wanted_none g2), fun w' _ => (show _ = Result.ok (.value (.bool (decide (x.rf < 0)))) w' from by unfold execOp; rw [p2]; first | rfl | kernel_rfl).trans (by rw [hd0])⟩) hHeld ?_
                rw [d2]
                simp only [Act.put, List.setIfInBounds_toArray, List.set_cons_zero, List.set_cons_succ]
                refine wpAnyH_take (i := 3) (v := .bool false) h3 HNS (by rw [hops]; kernel_rfl) (by rw [hops]; kernel_rfl) (fun _ _ _ h => h) (Or.inl ⟨(wanted_none g3), fun w' _ => by unfold execOp; rw [p3]; first | rfl | kernel_rfl⟩) hHeld ?_
                rw [d3]
                simp only [Act.put, List.setIfInBounds_toArray, List.set_cons_zero, List.set_cons_succ]
                refine wpAnyH_take (i := 4) (v := .pointer (some ⟨gx, 0, none⟩)) h4 HNS (by rw [hops]; kernel_rfl) (by rw [hops]; kernel_rfl) (fun _ _ _ h => h) (Or.inl ⟨(wanted_some g4 h3 d3 (by rfl)), fun w' _ => by unfold execOp; rw [p4]; first | rfl | kernel_rfl⟩) hHeld ?_
                rw [d4]
                simp only [Act.put, List.setIfInBounds_toArray, List.set_cons_zero, List.set_cons_succ]
                refine wpAnyH_take (i := 5) (v := .int .i64 x.rf) h5 HNS (by rw [hops]; kernel_rfl) (by rw [hops]; kernel_rfl) (fun _ _ _ h => h) (Or.inl ⟨(wanted_some g5 h3 d3 (by rfl)), fun w' h => run_op_load_cell 3 _ p5 gx 0 (by rfl) _ h.1 _ Tryd.underlying3 rfl⟩) hHeld ?_
                rw [d5]
                simp only [Act.put, List.setIfInBounds_toArray, List.set_cons_zero, List.set_cons_succ]
                refine wpAnyH_take (i := 6) (v := .slice Ac nc cc) h6 HNS (by rw [hops]; kernel_rfl) (by rw [hops]; kernel_rfl) (fun _ _ _ h => h) (Or.inl ⟨(wanted_some g6 h3 d3 (by rfl)), fun w' _ => by unfold execOp; rw [p6]; first | rfl | kernel_rfl⟩) hHeld ?_
                rw [d6]
                simp only [Act.put, List.setIfInBounds_toArray, List.set_cons_zero, List.set_cons_succ]
                refine wpAnyH_take (i := 7) (v := .int .i64 nc) h7 HNS (by rw [hops]; kernel_rfl) (by rw [hops]; kernel_rfl) (fun _ _ _ h => h) (Or.inl ⟨(wanted_some g7 h3 d3 (by rfl)), fun w' _ => by unfold execOp; rw [p7]; first | rfl | kernel_rfl⟩) hHeld ?_
                rw [d7]
                simp only [Act.put, List.setIfInBounds_toArray, List.set_cons_zero, List.set_cons_succ]
                refine wpAnyH_take (i := 8) (v := .bool false) h8 HNS (by rw [hops]; kernel_rfl) (by rw [hops]; kernel_rfl) (fun _ _ _ h => h) (Or.inl ⟨(wanted_some g8 h3 d3 (by rfl)), fun w' _ => (show _ = Result.ok (.value (.bool (decide ((nc : Int) ≤ x.rf)))) w' from by unfold execOp; rw [p8]; first | rfl | kernel_rfl).trans (by rw [hd1])⟩) hHeld ?_
                rw [d8]
                simp only [Act.put, List.setIfInBounds_toArray, List.set_cons_zero, List.set_cons_succ]
                refine wpAnyH_take (i := 9) (v := .bool false) h9 HNS (by rw [hops]; kernel_rfl) (by rw [hops]; kernel_rfl) (fun _ _ _ h => h) (Or.inl ⟨(wanted_none g9), fun w' _ => by unfold execOp; rw [p9]; first | rfl | kernel_rfl⟩) hHeld ?_
                rw [d9]
                simp only [Act.put, List.setIfInBounds_toArray, List.set_cons_zero, List.set_cons_succ]
                refine wpAnyH_take (i := 10) (v := .bool false) h10 HNS (by rw [hops]; kernel_rfl) (by rw [hops]; kernel_rfl) (fun _ _ _ h => h) (Or.inl ⟨(wanted_none g10), fun w' _ => by unfold execOp; rw [p10]; first | rfl | kernel_rfl⟩) hHeld ?_
                rw [d10]
                simp only [Act.put, List.setIfInBounds_toArray, List.set_cons_zero, List.set_cons_succ]
                refine wpAnyH_take (i := 11) (v := .pointer (some ⟨gx, 1, none⟩)) h11 HNS (by rw [hops]; kernel_rfl) (by rw [hops]; kernel_rfl) (fun _ _ _ h => h) (Or.inl ⟨(wanted_some g11 h10 d10 (by rfl)), fun w' _ => by unfold execOp; rw [p11]; first | rfl | kernel_rfl⟩) hHeld ?_
                rw [d11]
                simp only [Act.put, List.setIfInBounds_toArray, List.set_cons_zero, List.set_cons_succ]
                refine wpAnyH_take (i := 12) (v := .int .i64 x.no) h12 HNS (by rw [hops]; kernel_rfl) (by rw [hops]; kernel_rfl) (fun _ _ _ h => h) (Or.inl ⟨(wanted_some g12 h10 d10 (by rfl)), fun w' h => run_op_load_cell 3 _ p12 gx 1 (by rfl) _ h.2.1 _ Tryd.underlying3 rfl⟩) hHeld ?_
                rw [d12]
                simp only [Act.put, List.setIfInBounds_toArray, List.set_cons_zero, List.set_cons_succ]
                refine wpAnyH_take (i := 13) (v := .bool false) h13 HNS (by rw [hops]; kernel_rfl) (by rw [hops]; kernel_rfl) (fun _ _ _ h => h) (Or.inl ⟨(wanted_some g13 h10 d10 (by rfl)), fun w' _ => (show _ = Result.ok (.value (.bool (decide (x.no < 0)))) w' from by unfold execOp; rw [p13]; first | rfl | kernel_rfl).trans (by rw [hd2])⟩) hHeld ?_
                rw [d13]
                simp only [Act.put, List.setIfInBounds_toArray, List.set_cons_zero, List.set_cons_succ]
                refine wpAnyH_take (i := 14) (v := .bool false) h14 HNS (by rw [hops]; kernel_rfl) (by rw [hops]; kernel_rfl) (fun _ _ _ h => h) (Or.inl ⟨(wanted_none g14), fun w' _ => by unfold execOp; rw [p14]; first | rfl | kernel_rfl⟩) hHeld ?_
                rw [d14]
                simp only [Act.put, List.setIfInBounds_toArray, List.set_cons_zero, List.set_cons_succ]
                refine wpAnyH_take (i := 15) (v := .bool false) h15 HNS (by rw [hops]; kernel_rfl) (by rw [hops]; kernel_rfl) (fun _ _ _ h => h) (Or.inl ⟨(wanted_none g15), fun w' _ => by unfold execOp; rw [p15]; first | rfl | kernel_rfl⟩) hHeld ?_
                rw [d15]
                simp only [Act.put, List.setIfInBounds_toArray, List.set_cons_zero, List.set_cons_succ]
                refine wpAnyH_take (i := 16) (v := .pointer (some ⟨gx, 1, none⟩)) h16 HNS (by rw [hops]; kernel_rfl) (by rw [hops]; kernel_rfl) (fun _ _ _ h => h) (Or.inl ⟨(wanted_some g16 h15 d15 (by rfl)), fun w' _ => by unfold execOp; rw [p16]; first | rfl | kernel_rfl⟩) hHeld ?_
                rw [d16]
                simp only [Act.put, List.setIfInBounds_toArray, List.set_cons_zero, List.set_cons_succ]
                refine wpAnyH_take (i := 17) (v := .int .i64 x.no) h17 HNS (by rw [hops]; kernel_rfl) (by rw [hops]; kernel_rfl) (fun _ _ _ h => h) (Or.inl ⟨(wanted_some g17 h15 d15 (by rfl)), fun w' h => run_op_load_cell 3 _ p17 gx 1 (by rfl) _ h.2.1 _ Tryd.underlying3 rfl⟩) hHeld ?_
                rw [d17]
                simp only [Act.put, List.setIfInBounds_toArray, List.set_cons_zero, List.set_cons_succ]
                refine wpAnyH_take (i := 18) (v := .slice As ns cs) h18 HNS (by rw [hops]; kernel_rfl) (by rw [hops]; kernel_rfl) (fun _ _ _ h => h) (Or.inl ⟨(wanted_some g18 h15 d15 (by rfl)), fun w' _ => by unfold execOp; rw [p18]; first | rfl | kernel_rfl⟩) hHeld ?_
                rw [d18]
                simp only [Act.put, List.setIfInBounds_toArray, List.set_cons_zero, List.set_cons_succ]
                refine wpAnyH_take (i := 19) (v := .int .i64 ns) h19 HNS (by rw [hops]; kernel_rfl) (by rw [hops]; kernel_rfl) (fun _ _ _ h => h) (Or.inl ⟨(wanted_some g19 h15 d15 (by rfl)), fun w' _ => by unfold execOp; rw [p19]; first | rfl | kernel_rfl⟩) hHeld ?_
                rw [d19]
                simp only [Act.put, List.setIfInBounds_toArray, List.set_cons_zero, List.set_cons_succ]
                refine wpAnyH_take (i := 20) (v := .bool false) h20 HNS (by rw [hops]; kernel_rfl) (by rw [hops]; kernel_rfl) (fun _ _ _ h => h) (Or.inl ⟨(wanted_some g20 h15 d15 (by rfl)), fun w' _ => (show _ = Result.ok (.value (.bool (decide ((ns : Int) ≤ x.no)))) w' from by unfold execOp; rw [p20]; first | rfl | kernel_rfl).trans (by rw [hd3])⟩) hHeld ?_
                rw [d20]
                simp only [Act.put, List.setIfInBounds_toArray, List.set_cons_zero, List.set_cons_succ]
                refine wpAnyH_take (i := 21) (v := .bool false) h21 HNS (by rw [hops]; kernel_rfl) (by rw [hops]; kernel_rfl) (fun _ _ _ h => h) (Or.inl ⟨(wanted_none g21), fun w' _ => by unfold execOp; rw [p21]; first | rfl | kernel_rfl⟩) hHeld ?_
                rw [d21]
                simp only [Act.put, List.setIfInBounds_toArray, List.set_cons_zero, List.set_cons_succ]
                refine wpAnyH_take (i := 22) (v := .bool false) h22 HNS (by rw [hops]; kernel_rfl) (by rw [hops]; kernel_rfl) (fun _ _ _ h => h) (Or.inl ⟨(wanted_none g22), fun w' _ => by unfold execOp; rw [p22]; first | rfl | kernel_rfl⟩) hHeld ?_
                rw [d22]
                simp only [Act.put, List.setIfInBounds_toArray, List.set_cons_zero, List.set_cons_succ]
                refine wpAnyH_take (i := 23) (v := .pointer (some ⟨gx, 2, none⟩)) h23 HNS (by rw [hops]; kernel_rfl) (by rw [hops]; kernel_rfl) (fun _ _ _ h => h) (Or.inl ⟨(wanted_some g23 h22 d22 (by rfl)), fun w' _ => by unfold execOp; rw [p23]; first | rfl | kernel_rfl⟩) hHeld ?_
                rw [d23]
                simp only [Act.put, List.setIfInBounds_toArray, List.set_cons_zero, List.set_cons_succ]
                refine wpAnyH_take (i := 24) (v := .int .i64 x.st) h24 HNS (by rw [hops]; kernel_rfl) (by rw [hops]; kernel_rfl) (fun _ _ _ h => h) (Or.inl ⟨(wanted_some g24 h22 d22 (by rfl)), fun w' h => run_op_load_cell 3 _ p24 gx 2 (by rfl) _ h.2.2.1 _ Tryd.underlying3 rfl⟩) hHeld ?_
                rw [d24]
                simp only [Act.put, List.setIfInBounds_toArray, List.set_cons_zero, List.set_cons_succ]
                refine wpAnyH_take (i := 25) (v := .bool true) h25 HNS (by rw [hops]; kernel_rfl) (by rw [hops]; kernel_rfl) (fun _ _ _ h => h) (Or.inl ⟨(wanted_some g25 h22 d22 (by rfl)), fun w' _ => (show _ = Result.ok (.value (.bool (decide (x.st < 0)))) w' from by unfold execOp; rw [p25]; first | rfl | kernel_rfl).trans (by rw [hd4])⟩) hHeld ?_
                rw [d25]
                simp only [Act.put, List.setIfInBounds_toArray, List.set_cons_zero, List.set_cons_succ]
                refine wpAnyH_take (i := 26) (v := .bool true) h26 HNS (by rw [hops]; kernel_rfl) (by rw [hops]; kernel_rfl) (fun _ _ _ h => h) (Or.inl ⟨(wanted_none g26), fun w' _ => by unfold execOp; rw [p26]; first | rfl | kernel_rfl⟩) hHeld ?_
                rw [d26]
                simp only [Act.put, List.setIfInBounds_toArray, List.set_cons_zero, List.set_cons_succ]
                refine wpAnyH_take (i := 27) (v := .bool true) h27 HNS (by rw [hops]; kernel_rfl) (by rw [hops]; kernel_rfl) (fun _ _ _ h => h) (Or.inl ⟨(wanted_none g27), fun w' _ => by unfold execOp; rw [p27]; first | rfl | kernel_rfl⟩) hHeld ?_
                rw [d27]
                simp only [Act.put, List.setIfInBounds_toArray, List.set_cons_zero, List.set_cons_succ]
                refine wpAnyH_take (i := 28) (v := undef) h28 HNS (by rw [hops]; kernel_rfl) (by rw [hops]; kernel_rfl) (fun _ _ _ h => h) (Or.inr ⟨(unwanted_some g28 h27 d27 (by rfl)), rfl⟩) hHeld ?_
                rw [d28]
                simp only [Act.put, List.setIfInBounds_toArray, List.set_cons_zero, List.set_cons_succ]
                refine wpAnyH_take (i := 29) (v := undef) h29 HNS (by rw [hops]; kernel_rfl) (by rw [hops]; kernel_rfl) (fun _ _ _ h => h) (Or.inr ⟨(unwanted_some g29 h27 d27 (by rfl)), rfl⟩) hHeld ?_
                rw [d29]
                simp only [Act.put, List.setIfInBounds_toArray, List.set_cons_zero, List.set_cons_succ]
                refine wpAnyH_take (i := 30) (v := undef) h30 HNS (by rw [hops]; kernel_rfl) (by rw [hops]; kernel_rfl) (fun _ _ _ h => h) (Or.inr ⟨(unwanted_some g30 h27 d27 (by rfl)), rfl⟩) hHeld ?_
                rw [d30]
                simp only [Act.put, List.setIfInBounds_toArray, List.set_cons_zero, List.set_cons_succ]
                refine wpAnyH_take (i := 31) (v := .bool true) h31 HNS (by rw [hops]; kernel_rfl) (by rw [hops]; kernel_rfl) (fun _ _ _ h => h) (Or.inl ⟨(wanted_none g31), fun w' _ => by unfold execOp; rw [p31]; first | rfl | kernel_rfl⟩) hHeld ?_
                rw [d31]
                simp only [Act.put, List.setIfInBounds_toArray, List.set_cons_zero, List.set_cons_succ]
                refine wpAnyH_take (i := 32) (v := .bool true) h32 HNS (by rw [hops]; kernel_rfl) (by rw [hops]; kernel_rfl) (fun _ _ _ h => h) (Or.inl ⟨(wanted_none g32), fun w' _ => by unfold execOp; rw [p32]; first | rfl | kernel_rfl⟩) hHeld ?_
                rw [d32]
                simp only [Act.put, List.setIfInBounds_toArray, List.set_cons_zero, List.set_cons_succ]
                refine wpAnyH_take (i := 33) (v := undef) h33 HNS (by rw [hops]; kernel_rfl) (by rw [hops]; kernel_rfl) (fun _ _ _ h => h) (Or.inr ⟨(unwanted_some g33 h32 d32 (by rfl)), rfl⟩) hHeld ?_
                rw [d33]
                simp only [Act.put, List.setIfInBounds_toArray, List.set_cons_zero, List.set_cons_succ]
                refine wpAnyH_take (i := 34) (v := undef) h34 HNS (by rw [hops]; kernel_rfl) (by rw [hops]; kernel_rfl) (fun _ _ _ h => h) (Or.inr ⟨(unwanted_some g34 h32 d32 (by rfl)), rfl⟩) hHeld ?_
                rw [d34]
                simp only [Act.put, List.setIfInBounds_toArray, List.set_cons_zero, List.set_cons_succ]
                refine wpAnyH_take (i := 35) (v := undef) h35 HNS (by rw [hops]; kernel_rfl) (by rw [hops]; kernel_rfl) (fun _ _ _ h => h) (Or.inr ⟨(unwanted_some g35 h32 d32 (by rfl)), rfl⟩) hHeld ?_
                rw [d35]
                simp only [Act.put, List.setIfInBounds_toArray, List.set_cons_zero, List.set_cons_succ]
                refine wpAnyH_take (i := 36) (v := undef) h36 HNS (by rw [hops]; kernel_rfl) (by rw [hops]; kernel_rfl) (fun _ _ _ h => h) (Or.inr ⟨(unwanted_undef g36 h35 d35 (by rfl)), rfl⟩) hHeld ?_
                rw [d36]
                simp only [Act.put, List.setIfInBounds_toArray, List.set_cons_zero, List.set_cons_succ]
                refine wpAnyH_take (i := 37) (v := undef) h37 HNS (by rw [hops]; kernel_rfl) (by rw [hops]; kernel_rfl) (fun _ _ _ h => h) (Or.inr ⟨(unwanted_undef g37 h35 d35 (by rfl)), rfl⟩) hHeld ?_
                rw [d37]
                simp only [Act.put, List.setIfInBounds_toArray, List.set_cons_zero, List.set_cons_succ]
                refine wpAnyH_take (i := 38) (v := undef) h38 HNS (by rw [hops]; kernel_rfl) (by rw [hops]; kernel_rfl) (fun _ _ _ h => h) (Or.inr ⟨(unwanted_undef g38 h35 d35 (by rfl)), rfl⟩) hHeld ?_
                rw [d38]
                simp only [Act.put, List.setIfInBounds_toArray, List.set_cons_zero, List.set_cons_succ]
                refine wpAnyH_take (i := 39) (v := undef) h39 HNS (by rw [hops]; kernel_rfl) (by rw [hops]; kernel_rfl) (fun _ _ _ h => h) (Or.inr ⟨(unwanted_undef g39 h35 d35 (by rfl)), rfl⟩) hHeld ?_
                rw [d39]
                simp only [Act.put, List.setIfInBounds_toArray, List.set_cons_zero, List.set_cons_succ]
                refine wpAnyH_take (i := 40) (v := undef) h40 HNS (by rw [hops]; kernel_rfl) (by rw [hops]; kernel_rfl) (fun _ _ _ h => h) (Or.inr ⟨(unwanted_undef g40 h35 d35 (by rfl)), rfl⟩) hHeld ?_
                rw [d40]
                simp only [Act.put, List.setIfInBounds_toArray, List.set_cons_zero, List.set_cons_succ]
                refine wpAnyH_take (i := 41) (v := undef) h41 HNS (by rw [hops]; kernel_rfl) (by rw [hops]; kernel_rfl) (fun _ _ _ h => h) (Or.inr ⟨(unwanted_undef g41 h35 d35 (by rfl)), rfl⟩) hHeld ?_
                rw [d41]
                simp only [Act.put, List.setIfInBounds_toArray, List.set_cons_zero, List.set_cons_succ]
                refine wpAnyH_take (i := 42) (v := undef) h42 HNS (by rw [hops]; kernel_rfl) (by rw [hops]; kernel_rfl) (fun _ _ _ h => h) (Or.inr ⟨(unwanted_undef g42 h35 d35 (by rfl)), rfl⟩) hHeld ?_
                rw [d42]
                simp only [Act.put, List.setIfInBounds_toArray, List.set_cons_zero, List.set_cons_succ]
                refine wpAnyH_take (i := 43) (v := undef) h43 HNS (by rw [hops]; kernel_rfl) (by rw [hops]; kernel_rfl) (fun _ _ _ h => h) (Or.inr ⟨(unwanted_undef g43 h35 d35 (by rfl)), rfl⟩) hHeld ?_
                rw [d43]
                simp only [Act.put, List.setIfInBounds_toArray, List.set_cons_zero, List.set_cons_succ]
                refine wpAnyH_take (i := 44) (v := undef) h44 HNS (by rw [hops]; kernel_rfl) (by rw [hops]; kernel_rfl) (fun _ _ _ h => h) (Or.inr ⟨(unwanted_some g44 h32 d32 (by rfl)), rfl⟩) hHeld ?_
                rw [d44]
                simp only [Act.put, List.setIfInBounds_toArray, List.set_cons_zero, List.set_cons_succ]
                refine wpAnyH_take (i := 45) (v := .bool true) h45 HNS (by rw [hops]; kernel_rfl) (by rw [hops]; kernel_rfl) (fun _ _ _ h => h) (Or.inl ⟨(wanted_none g45), fun w' _ => by unfold execOp; rw [p45]; first | rfl | kernel_rfl⟩) hHeld ?_
                rw [d45]
                simp only [Act.put, List.setIfInBounds_toArray, List.set_cons_zero, List.set_cons_succ]
                refine wpAnyH_done (by rw [hops]; kernel_rfl) (NoPanic.normal ?_) _
                have HB9 := Lib.hid (HB2.out.trans (s0.mono HB2.out.size))
                have HX9 := Lib.hid (HX2m.out.keep s0)
                clear HNS KP s0 hHeld hops h0 d0 p0 g0 h1 d1 p1 g1 h2 d2 p2 g2 h3 d3 p3 g3 h4 d4 p4 g4 h5 d5 p5 g5 h6 d6 p6 g6 h7 d7 p7 g7 h8 d8 p8 g8 h9 d9 p9 g9 h10 d10 p10 g10 h11 d11 p11 g11 h12 d12 p12 g12 h13 d13 p13 g13 h14 d14 p14 g14 h15 d15 p15 g15 h16 d16 p16 g16 h17 d17 p17 g17 h18 d18 p18 g18 h19 d19 p19 g19 h20 d20 p20 g20 h21 d21 p21 g21 h22 d22 p22 g22 h23 d23 p23 g23 h24 d24 p24 g24 h25 d25 p25 g25 h26 d26 p26 g26 h27 d27 p27 g27 h28 d28 p28 g28 h29 d29 p29 g29 h30 d30 p30 g30 h31 d31 p31 g31 h32 d32 p32 g32 h33 d33 p33 g33 h34 d34 p34 g34 h35 d35 p35 g35 h36 d36 p36 g36 h37 d37 p37 g37 h38 d38 p38 g38 h39 d39 p39 g39 h40 d40 p40 g40 h41 d41 p41 g41 h42 d42 p42 g42 h43 d43 p43 g43 h44 d44 p44 g44 h45 d45 p45 g45
                go_wp2_with fail
                go_ret
                exact ⟨by rw [HE.out]; rfl, HB9.out⟩
              have hd4 : decide (x.st < 0) = false := decide_eq_false hc
              have hn4 : 0 ≤ x.st := by omega
              clear hc
              by_cases hc : 1048576 < x.st
              · have HE := Lib.hid (HA.out (by rw [HBD.out, Rc.inB_geN (show 1048577 ≤ x.st by omega), Bool.not_false, Bool.true_or, Bool.or_true, Bool.or_true]))
                have hd5 : decide (1048576 < x.st) = true := decide_eq_true hc
                clear hc
                have KP := Lib.hid (fun (w' : World) (h : Below W2.heap.size W2 w') => (⟨(h.cell (p := ⟨gx, 0, none⟩) HX2m.out.lt).trans x0, (h.cell (p := ⟨gx, 1, none⟩) HX2m.out.lt).trans x1, (h.cell (p := ⟨gx, 2, none⟩) HX2m.out.lt).trans x2, h⟩ : w'.cell? ⟨gx, 0, none⟩ = some (Rc.i x.rf) ∧ w'.cell? ⟨gx, 1, none⟩ = some (Rc.i x.no) ∧ w'.cell? ⟨gx, 2, none⟩ = some (Rc.i x.st) ∧ Below W2.heap.size W2 w'))
                have s0 : Below W2.heap.size W2 W2.drew := (Below.refl _ W2).drew
                refine wp_region_named (fun ops hops => ?_)
                refine wp_region_noPanic ?_
                refine wp_region_held_drew (S := (fun w' => w'.cell? ⟨gx, 0, none⟩ = some (Rc.i x.rf) ∧ w'.cell? ⟨gx, 1, none⟩ = some (Rc.i x.no) ∧ w'.cell? ⟨gx, 2, none⟩ = some (Rc.i x.st) ∧ Below W2.heap.size W2 w')) (by kernel_rfl) (KP.out _ s0) (fun hHeld => ?_)
                rw [show ops.size = 46 from by rw [hops]; rfl]
                change wpAnyH _ _ _ _ _ _ _ _ W2.drew
                have HNS : Region.noSelect ops = true := by rw [hops]; kernel_rfl
                obtain ⟨o0, h0, d0, p0, g0⟩ := op_at5 hops 0 rfl (d := some 69) (p := .fieldAddr 47 (.tmp 10) 0) (g := none) rfl rfl rfl
                obtain ⟨o1, h1, d1, p1, g1⟩ := op_at5 hops 1 rfl (d := some 70) (p := .load 3 (.tmp 69)) (g := none) rfl rfl rfl
                obtain ⟨o2, h2, d2, p2, g2⟩ := op_at5 hops 2 rfl (d := some 71) (p := .binOp .lss 3 (.tmp 70) (.const (.int .i64 0)) 3) (g := none) rfl rfl rfl
                obtain ⟨o3, h3, d3, p3, g3⟩ := op_at5 hops 3 rfl (d := some 72) (p := .move (.tmp 71)) (g := none) rfl rfl rfl
                obtain ⟨o4, h4, d4, p4, g4⟩ := op_at5 hops 4 rfl (d := some 73) (p := .fieldAddr 47 (.tmp 10) 0) (g := some (3, false)) rfl rfl rfl
                obtain ⟨o5, h5, d5, p5, g5⟩ := op_at5 hops 5 rfl (d := some 74) (p := .load 3 (.tmp 73)) (g := some (3, false)) rfl rfl rfl
                obtain ⟨o6, h6, d6, p6, g6⟩ := op_at5 hops 6 rfl (d := some 75) (p := .move (.tmp 0)) (g := some (3, false)) rfl rfl rfl
                obtain ⟨o7, h7, d7, p7, g7⟩ := op_at5 hops 7 rfl (d := some 76) (p := .call { callee := .builtin .len, args := #[(.tmp 75)], argTypes := #[22] }) (g := some (3, false)) rfl rfl rfl
                obtain ⟨o8, h8, d8, p8, g8⟩ := op_at5 hops 8 rfl (d := some 77) (p := .binOp .geq 3 (.tmp 74) (.tmp 76) 3) (g := some (3, false)) rfl rfl rfl
                obtain ⟨o9, h9, d9, p9, g9⟩ := op_at5 hops 9 rfl (d := some 78) (p := .pick (.tmp 72) (.const (.bool true)) (.tmp 77)) (g := none) rfl rfl rfl
                obtain ⟨o10, h10, d10, p10, g10⟩ := op_at5 hops 10 rfl (d := some 79) (p := .move (.tmp 78)) (g := none) rfl rfl rfl
                obtain ⟨o11, h11, d11, p11, g11⟩ := op_at5 hops 11 rfl (d := some 80) (p := .fieldAddr 47 (.tmp 10) 1) (g := some (10, false)) rfl rfl rfl
                obtain ⟨o12, h12, d12, p12, g12⟩ := op_at5 hops 12 rfl (d := some 81) (p := .load 3 (.tmp 80)) (g := some (10, false)) rfl rfl rfl
                obtain ⟨o13, h13, d13, p13, g13⟩ := op_at5 hops 13 rfl (d := some 82) (p := .binOp .lss 3 (.tmp 81) (.const (.int .i64 0)) 3) (g := some (10, false)) rfl rfl rfl
                obtain ⟨o14, h14, d14, p14, g14⟩ := op_at5 hops 14 rfl (d := some 83) (p := .pick (.tmp 79) (.const (.bool true)) (.tmp 82)) (g := none) rfl rfl rfl
                obtain ⟨o15, h15, d15, p15, g15⟩ := op_at5 hops 15 rfl (d := some 84) (p := .move (.tmp 83)) (g := none) rfl rfl rfl
                obtain ⟨o16, h16, d16, p16, g16⟩ := op_at5 hops 16 rfl (d := some 85) (p := .fieldAddr 47 (.tmp 10) 1) (g := some (15, false)) rfl rfl rfl
                obtain ⟨o17, h17, d17, p17, g17⟩ := op_at5 hops 17 rfl (d := some 86) (p := .load 3 (.tmp 85)) (g := some (15, false)) rfl rfl rfl
                obtain ⟨o18, h18, d18, p18, g18⟩ := op_at5 hops 18 rfl (d := some 87) (p := .move (.tmp 1)) (g := some (15, false)) rfl rfl rfl
                obtain ⟨o19, h19, d19, p19, g19⟩ := op_at5 hops 19 rfl (d := some 88) (p := .call { callee := .builtin .len, args := #[(.tmp 87)], argTypes := #[23] }) (g := some (15, false)) rfl rfl rfl
                obtain ⟨o20, h20, d20, p20, g20⟩ := op_at5 hops 20 rfl (d := some 89) (p := .binOp .geq 3 (.tmp 86) (.tmp 88) 3) (g := some (15, false)) rfl rfl rfl
                obtain ⟨o21, h21, d21, p21, g21⟩ := op_at5 hops 21 rfl (d := some 90) (p := .pick (.tmp 84) (.const (.bool true)) (.tmp 89)) (g := none) rfl rfl rfl
                obtain ⟨o22, h22, d22, p22, g22⟩ := op_at5 hops 22 rfl (d := some 91) (p := .move (.tmp 90)) (g := none) rfl rfl rfl
                obtain ⟨o23, h23, d23, p23, g23⟩ := op_at5 hops 23 rfl (d := some 92) (p := .fieldAddr 47 (.tmp 10) 2) (g := some (22, false)) rfl rfl rfl
                obtain ⟨o24, h24, d24, p24, g24⟩ := op_at5 hops 24 rfl (d := some 93) (p := .load 3 (.tmp 92)) (g := some (22, false)) rfl rfl rfl
                obtain ⟨o25, h25, d25, p25, g25⟩ := op_at5 hops 25 rfl (d := some 94) (p := .binOp .lss 3 (.tmp 93) (.const (.int .i64 0)) 3) (g := some (22, false)) rfl rfl rfl
                obtain ⟨o26, h26, d26, p26, g26⟩ := op_at5 hops 26 rfl (d := some 95) (p := .pick (.tmp 91) (.const (.bool true)) (.tmp 94)) (g := none) rfl rfl rfl
                obtain ⟨o27, h27, d27, p27, g27⟩ := op_at5 hops 27 rfl (d := some 96) (p := .move (.tmp 95)) (g := none) rfl rfl rfl
                obtain ⟨o28, h28, d28, p28, g28⟩ := op_at5 hops 28 rfl (d := some 97) (p := .fieldAddr 47 (.tmp 10) 2) (g := some (27, false)) rfl rfl rfl
                obtain ⟨o29, h29, d29, p29, g29⟩ := op_at5 hops 29 rfl (d := some 98) (p := .load 3 (.tmp 97)) (g := some (27, false)) rfl rfl rfl
                obtain ⟨o30, h30, d30, p30, g30⟩ := op_at5 hops 30 rfl (d := some 99) (p := .binOp .gtr 3 (.tmp 98) (.const (.int .i64 1048576)) 3) (g := some (27, false)) rfl rfl rfl
                obtain ⟨o31, h31, d31, p31, g31⟩ := op_at5 hops 31 rfl (d := some 100) (p := .pick (.tmp 96) (.const (.bool true)) (.tmp 99)) (g := none) rfl rfl rfl
                obtain ⟨o32, h32, d32, p32, g32⟩ := op_at5 hops 32 rfl (d := some 101) (p := .move (.tmp 100)) (g := none) rfl rfl rfl
                obtain ⟨o33, h33, d33, p33, g33⟩ := op_at5 hops 33 rfl (d := some 102) (p := .move (.tmp 9)) (g := some (32, false)) rfl rfl rfl
                obtain ⟨o34, h34, d34, p34, g34⟩ := op_at5 hops 34 rfl (d := some 103) (p := .binOp .gtr 3 (.tmp 102) (.const (.int .i64 0)) 3) (g := some (32, false)) rfl rfl rfl
                obtain ⟨o35, h35, d35, p35, g35⟩ := op_at5 hops 35 rfl (d := some 104) (p := .move (.tmp 103)) (g := some (32, false)) rfl rfl rfl
                obtain ⟨o36, h36, d36, p36, g36⟩ := op_at5 hops 36 rfl (d := some 105) (p := .move (.tmp 2)) (g := some (35, true)) rfl rfl rfl
                obtain ⟨o37, h37, d37, p37, g37⟩ := op_at5 hops 37 rfl (d := some 106) (p := .move (.tmp 9)) (g := some (35, true)) rfl rfl rfl
                obtain ⟨o38, h38, d38, p38, g38⟩ := op_at5 hops 38 rfl (d := some 107) (p := .binOp .sub 3 (.tmp 106) (.const (.int .i64 1)) 3) (g := some (35, true)) rfl rfl rfl
                obtain ⟨o39, h39, d39, p39, g39⟩ := op_at5 hops 39 rfl (d := some 108) (p := .indexAddr 24 (.tmp 105) (.tmp 107)) (g := some (35, true)) rfl rfl rfl
                obtain ⟨o40, h40, d40, p40, g40⟩ := op_at5 hops 40 rfl (d := some 109) (p := .load 47 (.tmp 108)) (g := some (35, true)) rfl rfl rfl
                obtain ⟨o41, h41, d41, p41, g41⟩ := op_at5 hops 41 rfl (d := some 110) (p := .load 47 (.tmp 10)) (g := some (35, true)) rfl rfl rfl
                obtain ⟨o42, h42, d42, p42, g42⟩ := op_at5 hops 42 rfl (d := some 111) (p := .call { callee := .value (.func 43), args := #[(.tmp 109), (.tmp 110)], argTypes := #[47, 47] }) (g := some (35, true)) rfl rfl rfl
                obtain ⟨o43, h43, d43, p43, g43⟩ := op_at5 hops 43 rfl (d := some 112) (p := .unOp .not 4 (.tmp 111)) (g := some (35, true)) rfl rfl rfl
                obtain ⟨o44, h44, d44, p44, g44⟩ := op_at5 hops 44 rfl (d := some 113) (p := .pick (.tmp 104) (.tmp 112) (.const (.bool false))) (g := some (32, false)) rfl rfl rfl
                obtain ⟨o45, h45, d45, p45, g45⟩ := op_at5 hops 45 rfl (d := some 114) (p := .pick (.tmp 101) (.const (.bool true)) (.tmp 113)) (g := none) rfl rfl rfl
                refine wpAnyH_take (i := 0) (v := .pointer (some ⟨gx, 0, none⟩)) h0 HNS (by rw [hops]; kernel_rfl) (by rw [hops]; kernel_rfl) (fun _ _ _ h => h) (Or.inl ⟨(wanted_none g0), fun w' _ => by unfold execOp; rw [p0]; first | rfl | kernel_rfl⟩) hHeld ?_
                rw [d0]
                simp only [Act.put, List.setIfInBounds_toArray, List.set_cons_zero, List.set_cons_succ]
                refine wpAnyH_take (i := 1) (v := .int .i64 x.rf) h1 HNS (by rw [hops]; kernel_rfl) (by rw [hops]; kernel_rfl) (fun _ _ _ h => h) (Or.inl ⟨(wanted_none g1), fun w' h => run_op_load_cell 3 _ p1 gx 0 (by rfl) _ h.1 _ Tryd.underlying3 rfl⟩) hHeld ?_
                rw [d1]
                simp only [Act.put, List.setIfInBounds_toArray, List.set_cons_zero, List.set_cons_succ]
                refine wpAnyH_take (i := 2) (v := .bool false) h2 HNS (by rw [hops]; kernel_rfl) (by rw [hops]; kernel_rfl) (fun _ _ _ h => h) (Or.inl ⟨(wanted_none g2), fun w' _ => (show _ = Result.ok (.value (.bool (decide (x.rf < 0)))) w' from by unfold execOp; rw [p2]; first | rfl | kernel_rfl).trans (by rw [hd0])⟩) hHeld ?_
                rw [d2]
                simp only [Act.put, List.setIfInBounds_toArray, List.set_cons_zero, List.set_cons_succ]
                refine wpAnyH_take (i := 3) (v := .bool false) h3 HNS (by rw [hops]; kernel_rfl) (by rw [hops]; kernel_rfl) (fun _ _ _ h => h) (Or.inl ⟨(wanted_none g3), fun w' _ => by unfold execOp; rw [p3]; first | rfl | kernel_rfl⟩) hHeld ?_
                rw [d3]
                simp only [Act.put, List.setIfInBounds_toArray, List.set_cons_zero, List.set_cons_succ]
                refine wpAnyH_take (i := 4) (v := .pointer (some ⟨gx, 0, none⟩)) h4 HNS (by rw [hops]; kernel_rfl) (by rw [hops]; kernel_rfl) (fun _ _ _ h => h) (Or.inl ⟨(wanted_some g4 h3 d3 (by rfl)), fun w' _ => by unfold execOp; rw [p4]; first | rfl | kernel_rfl⟩) hHeld ?_
                rw [d4]
                simp only [Act.put, List.setIfInBounds_toArray, List.set_cons_zero, List.set_cons_succ]
                refine wpAnyH_take (i := 5) (v := .int .i64 x.rf) h5 HNS (by rw [hops]; kernel_rfl) (by rw [hops]; kernel_rfl) (fun _ _ _ h => h) (Or.inl ⟨(wanted_some g5 h3 d3 (by rfl)), fun w' h => run_op_load_cell 3 _ p5 gx 0 (by rfl) _ h.1 _ Tryd.underlying3 rfl⟩) hHeld ?_
                rw [d5]
                simp only [Act.put, List.setIfInBounds_toArray, List.set_cons_zero, List.set_cons_succ]
                refine wpAnyH_take (i := 6) (v := .slice Ac nc cc) h6 HNS (by rw [hops]; kernel_rfl) (by rw [hops]; kernel_rfl) (fun _ _ _ h => h) (Or.inl ⟨(wanted_some g6 h3 d3 (by rfl)), fun w' _ => by unfold execOp; rw [p6]; first | rfl | kernel_rfl⟩) hHeld ?_
                rw [d6]
                simp only [Act.put, List.setIfInBounds_toArray, List.set_cons_zero, List.set_cons_succ]
                refine wpAnyH_take (i := 7) (v := .int .i64 nc) h7 HNS (by rw [hops]; kernel_rfl) (by rw [hops]; kernel_rfl) (fun _ _ _ h => h) (Or.inl ⟨(wanted_some g7 h3 d3 (by rfl)), fun w' _ => by unfold execOp; rw [p7]; first | rfl | kernel_rfl⟩) hHeld ?_
                rw [d7]
                simp only [Act.put, List.setIfInBounds_toArray, List.set_cons_zero, List.set_cons_succ]
                refine wpAnyH_take (i := 8) (v := .bool false) h8 HNS (by rw [hops]; kernel_rfl) (by rw [hops]; kernel_rfl) (fun _ _ _ h => h) (Or.inl ⟨(wanted_some g8 h3 d3 (by rfl)), fun w' _ => (show _ = Result.ok (.value (.bool (decide ((nc : Int) ≤ x.rf)))) w' from by unfold execOp; rw [p8]; first | rfl | kernel_rfl).trans (by rw [hd1])⟩) hHeld ?_
                rw [d8]
                simp only [Act.put, List.setIfInBounds_toArray, List.set_cons_zero, List.set_cons_succ]
                refine wpAnyH_take (i := 9) (v := .bool false) h9 HNS (by rw [hops]; kernel_rfl) (by rw [hops]; kernel_rfl) (fun _ _ _ h => h) (Or.inl ⟨(wanted_none g9), fun w' _ => by unfold execOp; rw [p9]; first | rfl | kernel_rfl⟩) hHeld ?_
                rw [d9]
                simp only [Act.put, List.setIfInBounds_toArray, List.set_cons_zero, List.set_cons_succ]
                refine wpAnyH_take (i := 10) (v := .bool false) h10 HNS (by rw [hops]; kernel_rfl) (by rw [hops]; kernel_rfl) (fun _ _ _ h => h) (Or.inl ⟨(wanted_none g10), fun w' _ => by unfold execOp; rw [p10]; first | rfl | kernel_rfl⟩) hHeld ?_
                rw [d10]
                simp only [Act.put, List.setIfInBounds_toArray, List.set_cons_zero, List.set_cons_succ]
                refine wpAnyH_take (i := 11) (v := .pointer (some ⟨gx, 1, none⟩)) h11 HNS (by rw [hops]; kernel_rfl) (by rw [hops]; kernel_rfl) (fun _ _ _ h => h) (Or.inl ⟨(wanted_some g11 h10 d10 (by rfl)), fun w' _ => by unfold execOp; rw [p11]; first | rfl | kernel_rfl⟩) hHeld ?_
                rw [d11]
                simp only [Act.put, List.setIfInBounds_toArray, List.set_cons_zero, List.set_cons_succ]
                refine wpAnyH_take (i := 12) (v := .int .i64 x.no) h12 HNS (by rw [hops]; kernel_rfl) (by rw [hops]; kernel_rfl) (fun _ _ _ h => h) (Or.inl ⟨(wanted_some g12 h10 d10 (by rfl)), fun w' h => run_op_load_cell 3 _ p12 gx 1 (by rfl) _ h.2.1 _ Tryd.underlying3 rfl⟩) hHeld ?_
                rw [d12]
                simp only [Act.put, List.setIfInBounds_toArray, List.set_cons_zero, List.set_cons_succ]
                refine wpAnyH_take (i := 13) (v := .bool false) h13 HNS (by rw [hops]; kernel_rfl) (by rw [hops]; kernel_rfl) (fun _ _ _ h => h) (Or.inl ⟨(wanted_some g13 h10 d10 (by rfl)), fun w' _ => (show _ = Result.ok (.value (.bool (decide (x.no < 0)))) w' from by unfold execOp; rw [p13]; first | rfl | kernel_rfl).trans (by rw [hd2])⟩) hHeld ?_
                rw [d13]
                simp only [Act.put, List.setIfInBounds_toArray, List.set_cons_zero, List.set_cons_succ]
                refine wpAnyH_take (i := 14) (v := .bool false) h14 HNS (by rw [hops]; kernel_rfl) (by rw [hops]; kernel_rfl) (fun _ _ _ h => h) (Or.inl ⟨(wanted_none g14), fun w' _ => by unfold execOp; rw [p14]; first | rfl | kernel_rfl⟩) hHeld ?_
                rw [d14]
                simp only [Act.put, List.setIfInBounds_toArray, List.set_cons_zero, List.set_cons_succ]
                refine wpAnyH_take (i := 15) (v := .bool false) h15 HNS (by rw [hops]; kernel_rfl) (by rw [hops]; kernel_rfl) (fun _ _ _ h => h) (Or.inl ⟨(wanted_none g15), fun w' _ => by unfold execOp; rw [p15]; first | rfl | kernel_rfl⟩) hHeld ?_
                rw [d15]
                simp only [Act.put, List.setIfInBounds_toArray, List.set_cons_zero, List.set_cons_succ]
                refine wpAnyH_take (i := 16) (v := .pointer (some ⟨gx, 1, none⟩)) h16 HNS (by rw [hops]; kernel_rfl) (by rw [hops]; kernel_rfl) (fun _ _ _ h => h) (Or.inl ⟨(wanted_some g16 h15 d15 (by rfl)), fun w' _ => by unfold execOp; rw [p16]; first | rfl | kernel_rfl⟩) hHeld ?_
                rw [d16]
                simp only [Act.put, List.setIfInBounds_toArray, List.set_cons_zero, List.set_cons_succ]
                refine wpAnyH_take (i := 17) (v := .int .i64 x.no) h17 HNS (by rw [hops]; kernel_rfl) (by rw [hops]; kernel_rfl) (fun _ _ _ h => h) (Or.inl ⟨(wanted_some g17 h15 d15 (by rfl)), fun w' h => run_op_load_cell 3 _ p17 gx 1 (by rfl) _ h.2.1 _ Tryd.underlying3 rfl⟩) hHeld ?_
                rw [d17]
                simp only [Act.put, List.setIfInBounds_toArray, List.set_cons_zero, List.set_cons_succ]
                refine wpAnyH_take (i := 18) (v := .slice As ns cs) h18 HNS (by rw [hops]; kernel_rfl) (by rw [hops]; kernel_rfl) (fun _ _ _ h => h) (Or.inl ⟨(wanted_some g18 h15 d15 (by rfl)), fun w' _ => by unfold execOp; rw [p18]; first | rfl | kernel_rfl⟩) hHeld ?_
                rw [d18]
                simp only [Act.put, List.setIfInBounds_toArray, List.set_cons_zero, List.set_cons_succ]
                refine wpAnyH_take (i := 19) (v := .int .i64 ns) h19 HNS (by rw [hops]; kernel_rfl) (by rw [hops]; kernel_rfl) (fun _ _ _ h => h) (Or.inl ⟨(wanted_some g19 h15 d15 (by rfl)), fun w' _ => by unfold execOp; rw [p19]; first | rfl | kernel_rfl⟩) hHeld ?_
                rw [d19]
                simp only [Act.put, List.setIfInBounds_toArray, List.set_cons_zero, List.set_cons_succ]
                refine wpAnyH_take (i := 20) (v := .bool false) h20 HNS (by rw [hops]; kernel_rfl) (by rw [hops]; kernel_rfl) (fun _ _ _ h => h) (Or.inl ⟨(wanted_some g20 h15 d15 (by rfl)), fun w' _ => (show _ = Result.ok (.value (.bool (decide ((ns : Int) ≤ x.no)))) w' from by unfold execOp; rw [p20]; first | rfl | kernel_rfl).trans (by rw [hd3])⟩) hHeld ?_
                rw [d20]
                simp only [Act.put, List.setIfInBounds_toArray, List.set_cons_zero, List.set_cons_succ]
                refine wpAnyH_take (i := 21) (v := .bool false) h21 HNS (by rw [hops]; kernel_rfl) (by rw [hops]; kernel_rfl) (fun _ _ _ h => h) (Or.inl ⟨(wanted_none g21), fun w' _ => by unfold execOp; rw [p21]; first | rfl | kernel_rfl⟩) hHeld ?_
                rw [d21]
                simp only [Act.put, List.setIfInBounds_toArray, List.set_cons_zero, List.set_cons_succ]
                refine wpAnyH_take (i := 22) (v := .bool false) h22 HNS (by rw [hops]; kernel_rfl) (by rw [hops]; kernel_rfl) (fun _ _ _ h => h) (Or.inl ⟨(wanted_none g22), fun w' _ => by unfold execOp; rw [p22]; first | rfl | kernel_rfl⟩) hHeld ?_
                rw [d22]
                simp only [Act.put, List.setIfInBounds_toArray, List.set_cons_zero, List.set_cons_succ]
                refine wpAnyH_take (i := 23) (v := .pointer (some ⟨gx, 2, none⟩)) h23 HNS (by rw [hops]; kernel_rfl) (by rw [hops]; kernel_rfl) (fun _ _ _ h => h) (Or.inl ⟨(wanted_some g23 h22 d22 (by rfl)), fun w' _ => by unfold execOp; rw [p23]; first | rfl | kernel_rfl⟩) hHeld ?_
                rw [d23]
                simp only [Act.put, List.setIfInBounds_toArray, List.set_cons_zero, List.set_cons_succ]
                refine wpAnyH_take (i := 24) (v := .int .i64 x.st) h24 HNS (by rw [hops]; kernel_rfl) (by rw [hops]; kernel_rfl) (fun _ _ _ h => h) (Or.inl ⟨(wanted_some g24 h22 d22 (by rfl)), fun w' h => run_op_load_cell 3 _ p24 gx 2 (by rfl) _ h.2.2.1 _ Tryd.underlying3 rfl⟩) hHeld ?_
                rw [d24]
                simp only [Act.put, List.setIfInBounds_toArray, List.set_cons_zero, List.set_cons_succ]
                refine wpAnyH_take (i := 25) (v := .bool false) h25 HNS (by rw [hops]; kernel_rfl) (by rw [hops]; kernel_rfl) (fun _ _ _ h => h) (Or.inl ⟨(wanted_some g25 h22 d22 (by rfl)), fun w' _ => (show _ = Result.ok (.value (.bool (decide (x.st < 0)))) w' from by unfold execOp; rw [p25]; first | rfl | kernel_rfl).trans (by rw [hd4])⟩) hHeld ?_
                rw [d25]
                simp only [Act.put, List.setIfInBounds_toArray, List.set_cons_zero, List.set_cons_succ]
                refine wpAnyH_take (i := 26) (v := .bool false) h26 HNS (by rw [hops]; kernel_rfl) (by rw [hops]; kernel_rfl) (fun _ _ _ h => h) (Or.inl ⟨(wanted_none g26), fun w' _ => by unfold execOp; rw [p26]; first | rfl | kernel_rfl⟩) hHeld ?_
                rw [d26]
                simp only [Act.put, List.setIfInBounds_toArray, List.set_cons_zero, List.set_cons_succ]
                refine wpAnyH_take (i := 27) (v := .bool false) h27 HNS (by rw [hops]; kernel_rfl) (by rw [hops]; kernel_rfl) (fun _ _ _ h => h) (Or.inl ⟨(wanted_none g27), fun w' _ => by unfold execOp; rw [p27]; first | rfl | kernel_rfl⟩) hHeld ?_
                rw [d27]
                simp only [Act.put, List.setIfInBounds_toArray, List.set_cons_zero, List.set_cons_succ]
                refine wpAnyH_take (i := 28) (v := .pointer (some ⟨gx, 2, none⟩)) h28 HNS (by rw [hops]; kernel_rfl) (by rw [hops]; kernel_rfl) (fun _ _ _ h => h) (Or.inl ⟨(wanted_some g28 h27 d27 (by rfl)), fun w' _ => by unfold execOp; rw [p28]; first | rfl | kernel_rfl⟩) hHeld ?_
                rw [d28]
                simp only [Act.put, List.setIfInBounds_toArray, List.set_cons_zero, List.set_cons_succ]
                refine wpAnyH_take (i := 29) (v := .int .i64 x.st) h29 HNS (by rw [hops]; kernel_rfl) (by rw [hops]; kernel_rfl) (fun _ _ _ h => h) (Or.inl ⟨(wanted_some g29 h27 d27 (by rfl)), fun w' h => run_op_load_cell 3 _ p29 gx 2 (by rfl) _ h.2.2.1 _ Tryd.underlying3 rfl⟩) hHeld ?_
                rw [d29]
                simp only [Act.put, List.setIfInBounds_toArray, List.set_cons_zero, List.set_cons_succ]
                refine wpAnyH_take (i := 30) (v := .bool true) h30 HNS (by rw [hops]; kernel_rfl) (by rw [hops]; kernel_rfl) (fun _ _ _ h => h) (Or.inl ⟨(wanted_some g30 h27 d27 (by rfl)), fun w' _ => (show _ = Result.ok (.value (.bool (decide (1048576 < x.st)))) w' from by unfold execOp; rw [p30]; first | rfl | kernel_rfl).trans (by rw [hd5])⟩) hHeld ?_
                rw [d30]
                simp only [Act.put, List.setIfInBounds_toArray, List.set_cons_zero, List.set_cons_succ]
                refine wpAnyH_take (i := 31) (v := .bool true) h31 HNS (by rw [hops]; kernel_rfl) (by rw [hops]; kernel_rfl) (fun _ _ _ h => h) (Or.inl ⟨(wanted_none g31), fun w' _ => by unfold execOp; rw [p31]; first | rfl | kernel_rfl⟩) hHeld ?_
                rw [d31]
                simp only [Act.put, List.setIfInBounds_toArray, List.set_cons_zero, List.set_cons_succ]
                refine wpAnyH_take (i := 32) (v := .bool true) h32 HNS (by rw [hops]; kernel_rfl) (by rw [hops]; kernel_rfl) (fun _ _ _ h => h) (Or.inl ⟨(wanted_none g32), fun w' _ => by unfold execOp; rw [p32]; first | rfl | kernel_rfl⟩) hHeld ?_
                rw [d32]
                simp only [Act.put, List.setIfInBounds_toArray, List.set_cons_zero, List.set_cons_succ]
                refine wpAnyH_take (i := 33) (v := undef) h33 HNS (by rw [hops]; kernel_rfl) (by rw [hops]; kernel_rfl) (fun _ _ _ h => h) (Or.inr ⟨(unwanted_some g33 h32 d32 (by rfl)), rfl⟩) hHeld ?_
                rw [d33]
                simp only [Act.put, List.setIfInBounds_toArray, List.set_cons_zero, List.set_cons_succ]
                refine wpAnyH_take (i := 34) (v := undef) h34 HNS (by rw [hops]; kernel_rfl) (by rw [hops]; kernel_rfl) (fun _ _ _ h => h) (Or.inr ⟨(unwanted_some g34 h32 d32 (by rfl)), rfl⟩) hHeld ?_
                rw [d34]
                simp only [Act.put, List.setIfInBounds_toArray, List.set_cons_zero, List.set_cons_succ]
                refine wpAnyH_take (i := 35) (v := undef) h35 HNS (by rw [hops]; kernel_rfl) (by rw [hops]; kernel_rfl) (fun _ _ _ h => h) (Or.inr ⟨(unwanted_some g35 h32 d32 (by rfl)), rfl⟩) hHeld ?_
                rw [d35]
                simp only [Act.put, List.setIfInBounds_toArray, List.set_cons_zero, List.set_cons_succ]
                refine wpAnyH_take (i := 36) (v := undef) h36 HNS (by rw [hops]; kernel_rfl) (by rw [hops]; kernel_rfl) (fun _ _ _ h => h) (Or.inr ⟨(unwanted_undef g36 h35 d35 (by rfl)), rfl⟩) hHeld ?_
                rw [d36]
                simp only [Act.put, List.setIfInBounds_toArray, List.set_cons_zero, List.set_cons_succ]
                refine wpAnyH_take (i := 37) (v := undef) h37 HNS (by rw [hops]; kernel_rfl) (by rw [hops]; kernel_rfl) (fun _ _ _ h => h) (Or.inr ⟨(unwanted_undef g37 h35 d35 (by rfl)), rfl⟩) hHeld ?_
                rw [d37]
                simp only [Act.put, List.setIfInBounds_toArray, List.set_cons_zero, List.set_cons_succ]
                refine wpAnyH_take (i := 38) (v := undef) h38 HNS (by rw [hops]; kernel_rfl) (by rw [hops]; kernel_rfl) (fun _ _ _ h => h) (Or.inr ⟨(unwanted_undef g38 h35 d35 (by rfl)), rfl⟩) hHeld ?_
                rw [d38]
                simp only [Act.put, List.setIfInBounds_toArray, List.set_cons_zero, List.set_cons_succ]
                refine wpAnyH_take (i := 39) (v := undef) h39 HNS (by rw [hops]; kernel_rfl) (by rw [hops]; kernel_rfl) (fun _ _ _ h => h) (Or.inr ⟨(unwanted_undef g39 h35 d35 (by rfl)), rfl⟩) hHeld ?_
                rw [d39]
                simp only [Act.put, List.setIfInBounds_toArray, List.set_cons_zero, List.set_cons_succ]
                refine wpAnyH_take (i := 40) (v := undef) h40 HNS (by rw [hops]; kernel_rfl) (by rw [hops]; kernel_rfl) (fun _ _ _ h => h) (Or.inr ⟨(unwanted_undef g40 h35 d35 (by rfl)), rfl⟩) hHeld ?_
                rw [d40]
                simp only [Act.put, List.setIfInBounds_toArray, List.set_cons_zero, List.set_cons_succ]
                refine wpAnyH_take (i := 41) (v := undef) h41 HNS (by rw [hops]; kernel_rfl) (by rw [hops]; kernel_rfl) (fun _ _ _ h => h) (Or.inr ⟨(unwanted_undef g41 h35 d35 (by rfl)), rfl⟩) hHeld ?_
                rw [d41]
                simp only [Act.put, List.setIfInBounds_toArray, List.set_cons_zero, List.set_cons_succ]
                refine wpAnyH_take (i := 42) (v := undef) h42 HNS (by rw [hops]; kernel_rfl) (by rw [hops]; kernel_rfl) (fun _ _ _ h => h) (Or.inr ⟨(unwanted_undef g42 h35 d35 (by rfl)), rfl⟩) hHeld ?_
                rw [d42]
                simp only [Act.put, List.setIfInBounds_toArray, List.set_cons_zero, List.set_cons_succ]
                refine wpAnyH_take (i := 43) (v := undef) h43 HNS (by rw [hops]; kernel_rfl) (by rw [hops]; kernel_rfl) (fun _ _ _ h => h) (Or.inr ⟨(unwanted_undef g43 h35 d35 (by rfl)), rfl⟩) hHeld ?_
                rw [d43]
                simp only [Act.put, List.setIfInBounds_toArray, List.set_cons_zero, List.set_cons_succ]
                refine wpAnyH_take (i := 44) (v := undef) h44 HNS (by rw [hops]; kernel_rfl) (by rw [hops]; kernel_rfl) (fun _ _ _ h => h) (Or.inr ⟨(unwanted_some g44 h32 d32 (by rfl)), rfl⟩) hHeld ?_
                rw [d44]
                simp only [Act.put, List.setIfInBounds_toArray, List.set_cons_zero, List.set_cons_succ]
                refine wpAnyH_take (i := 45) (v := .bool true) h45 HNS (by rw [hops]; kernel_rfl) (by rw [hops]; kernel_rfl) (fun _ _ _ h => h) (Or.inl ⟨(wanted_none g45), fun w' _ => by unfold execOp; rw [p45]; first | rfl | kernel_rfl⟩) hHeld ?_
                rw [d45]
                simp only [Act.put, List.setIfInBounds_toArray, List.set_cons_zero, List.set_cons_succ]
                refine wpAnyH_done (by rw [hops]; kernel_rfl) (NoPanic.normal ?_) _
                have HB9 := Lib.hid (HB2.out.trans (s0.mono HB2.out.size))
                have HX9 := Lib.hid (HX2m.out.keep s0)
                clear HNS KP s0 hHeld hops h0 d0 p0 g0 h1 d1 p1 g1 h2 d2 p2 g2 h3 d3 p3 g3 h4 d4 p4 g4 h5 d5 p5 g5 h6 d6 p6 g6 h7 d7 p7 g7 h8 d8 p8 g8 h9 d9 p9 g9 h10 d10 p10 g10 h11 d11 p11 g11 h12 d12 p12 g12 h13 d13 p13 g13 h14 d14 p14 g14 h15 d15 p15 g15 h16 d16 p16 g16 h17 d17 p17 g17 h18 d18 p18 g18 h19 d19 p19 g19 h20 d20 p20 g20 h21 d21 p21 g21 h22 d22 p22 g22 h23 d23 p23 g23 h24 d24 p24 g24 h25 d25 p25 g25 h26 d26 p26 g26 h27 d27 p27 g27 h28 d28 p28 g28 h29 d29 p29 g29 h30 d30 p30 g30 h31 d31 p31 g31 h32 d32 p32 g32 h33 d33 p33 g33 h34 d34 p34 g34 h35 d35 p35 g35 h36 d36 p36 g36 h37 d37 p37 g37 h38 d38 p38 g38 h39 d39 p39 g39 h40 d40 p40 g40 h41 d41 p41 g41 h42 d42 p42 g42 h43 d43 p43 g43 h44 d44 p44 g44 h45 d45 p45 g45
                go_wp2_with fail
                go_ret
                exact ⟨by rw [HE.out]; rfl, HB9.out⟩
              have hd5 : decide (1048576 < x.st) = false := decide_eq_false hc
              have hn5 : x.st ≤ 1048576 := by omega
              clear hc
              have HBB0 := Lib.hid (show bad = ((if k = 0 then false else Rc.late (l.getD (k - 1) default) x) || (match subs[x.no.toNat]? with | none => true | some s => s.odd || !(s.dl Rc.K0 Rc.I0 == x.dg))) from by rw [HBD.out, Rc.inB_in hn0 hn1, Rc.inB_in hn2 hn3, Rc.inB_in hn4 (show x.st < 1048577 by omega)]; rfl)
              clear HBD
              by_cases hk0 : k = 0
              · have HBB := Lib.hid (show bad = (match subs[x.no.toNat]? with | none => true | some s => s.odd || !(s.dl Rc.K0 Rc.I0 == x.dg)) from by rw [HBB0.out, if_pos hk0, Bool.false_or])
                have hdk : decide ((0 : Int) < (k : Int)) = false := decide_eq_false (by omega)
                have KP := Lib.hid (fun (w' : World) (h : Below W2.heap.size W2 w') => (⟨(h.cell (p := ⟨gx, 0, none⟩) HX2m.out.lt).trans x0, (h.cell (p := ⟨gx, 1, none⟩) HX2m.out.lt).trans x1, (h.cell (p := ⟨gx, 2, none⟩) HX2m.out.lt).trans x2, h⟩ : w'.cell? ⟨gx, 0, none⟩ = some (Rc.i x.rf) ∧ w'.cell? ⟨gx, 1, none⟩ = some (Rc.i x.no) ∧ w'.cell? ⟨gx, 2, none⟩ = some (Rc.i x.st) ∧ Below W2.heap.size W2 w'))
                have s0 : Below W2.heap.size W2 W2.drew := (Below.refl _ W2).drew
                refine wp_region_named (fun ops hops => ?_)
                refine wp_region_noPanic ?_
                refine wp_region_held_drew (S := (fun w' => w'.cell? ⟨gx, 0, none⟩ = some (Rc.i x.rf) ∧ w'.cell? ⟨gx, 1, none⟩ = some (Rc.i x.no) ∧ w'.cell? ⟨gx, 2, none⟩ = some (Rc.i x.st) ∧ Below W2.heap.size W2 w')) (by kernel_rfl) (KP.out _ s0) (fun hHeld => ?_)
                rw [show ops.size = 46 from by rw [hops]; rfl]
                change wpAnyH _ _ _ _ _ _ _ _ W2.drew
                have HNS : Region.noSelect ops = true := by rw [hops]; kernel_rfl
                obtain ⟨o0, h0, d0, p0, g0⟩ := op_at5 hops 0 rfl (d := some 69) (p := .fieldAddr 47 (.tmp 10) 0) (g := none) rfl rfl rfl
                obtain ⟨o1, h1, d1, p1, g1⟩ := op_at5 hops 1 rfl (d := some 70) (p := .load 3 (.tmp 69)) (g := none) rfl rfl rfl
                obtain ⟨o2, h2, d2, p2, g2⟩ := op_at5 hops 2 rfl (d := some 71) (p := .binOp .lss 3 (.tmp 70) (.const (.int .i64 0)) 3) (g := none) rfl rfl rfl
                obtain ⟨o3, h3, d3, p3, g3⟩ := op_at5 hops 3 rfl (d := some 72) (p := .move (.tmp 71)) (g := none) rfl rfl rfl
                obtain ⟨o4, h4, d4, p4, g4⟩ := op_at5 hops 4 rfl (d := some 73) (p := .fieldAddr 47 (.tmp 10) 0) (g := some (3, false)) rfl rfl rfl
                obtain ⟨o5, h5, d5, p5, g5⟩ := op_at5 hops 5 rfl (d := some 74) (p := .load 3 (.tmp 73)) (g := some (3, false)) rfl rfl rfl
                obtain ⟨o6, h6, d6, p6, g6⟩ := op_at5 hops 6 rfl (d := some 75) (p := .move (.tmp 0)) (g := some (3, false)) rfl rfl rfl
                obtain ⟨o7, h7, d7, p7, g7⟩ := op_at5 hops 7 rfl (d := some 76) (p := .call { callee := .builtin .len, args := #[(.tmp 75)], argTypes := #[22] }) (g := some (3, false)) rfl rfl rfl
                obtain ⟨o8, h8, d8, p8, g8⟩ := op_at5 hops 8 rfl (d := some 77) (p := .binOp .geq 3 (.tmp 74) (.tmp 76) 3) (g := some (3, false)) rfl rfl rfl
                obtain ⟨o9, h9, d9, p9, g9⟩ := op_at5 hops 9 rfl (d := some 78) (p := .pick (.tmp 72) (.const (.bool true)) (.tmp 77)) (g := none) rfl rfl rfl
                obtain ⟨o10, h10, d10, p10, g10⟩ := op_at5 hops 10 rfl (d := some 79) (p := .move (.tmp 78)) (g := none) rfl rfl rfl
                obtain ⟨o11, h11, d11, p11, g11⟩ := op_at5 hops 11 rfl (d := some 80) (p := .fieldAddr 47 (.tmp 10) 1) (g := some (10, false)) rfl rfl rfl
                obtain ⟨o12, h12, d12, p12, g12⟩ := op_at5 hops 12 rfl (d := some 81) (p := .load 3 (.tmp 80)) (g := some (10, false)) rfl rfl rfl
                obtain ⟨o13, h13, d13, p13, g13⟩ := op_at5 hops 13 rfl (d := some 82) (p := .binOp .lss 3 (.tmp 81) (.const (.int .i64 0)) 3) (g := some (10, false)) rfl rfl rfl
                obtain ⟨o14, h14, d14, p14, g14⟩ := op_at5 hops 14 rfl (d := some 83) (p := .pick (.tmp 79) (.const (.bool true)) (.tmp 82)) (g := none) rfl rfl rfl
                obtain ⟨o15, h15, d15, p15, g15⟩ := op_at5 hops 15 rfl (d := some 84) (p := .move (.tmp 83)) (g := none) rfl rfl rfl
                obtain ⟨o16, h16, d16, p16, g16⟩ := op_at5 hops 16 rfl (d := some 85) (p := .fieldAddr 47 (.tmp 10) 1) (g := some (15, false)) rfl rfl rfl
                obtain ⟨o17, h17, d17, p17, g17⟩ := op_at5 hops 17 rfl (d := some 86) (p := .load 3 (.tmp 85)) (g := some (15, false)) rfl rfl rfl
                obtain ⟨o18, h18, d18, p18, g18⟩ := op_at5 hops 18 rfl (d := some 87) (p := .move (.tmp 1)) (g := some (15, false)) rfl rfl rfl
                obtain ⟨o19, h19, d19, p19, g19⟩ := op_at5 hops 19 rfl (d := some 88) (p := .call { callee := .builtin .len, args := #[(.tmp 87)], argTypes := #[23] }) (g := some (15, false)) rfl rfl rfl
                obtain ⟨o20, h20, d20, p20, g20⟩ := op_at5 hops 20 rfl (d := some 89) (p := .binOp .geq 3 (.tmp 86) (.tmp 88) 3) (g := some (15, false)) rfl rfl rfl
                obtain ⟨o21, h21, d21, p21, g21⟩ := op_at5 hops 21 rfl (d := some 90) (p := .pick (.tmp 84) (.const (.bool true)) (.tmp 89)) (g := none) rfl rfl rfl
                obtain ⟨o22, h22, d22, p22, g22⟩ := op_at5 hops 22 rfl (d := some 91) (p := .move (.tmp 90)) (g := none) rfl rfl rfl
                obtain ⟨o23, h23, d23, p23, g23⟩ := op_at5 hops 23 rfl (d := some 92) (p := .fieldAddr 47 (.tmp 10) 2) (g := some (22, false)) rfl rfl rfl
                obtain ⟨o24, h24, d24, p24, g24⟩ := op_at5 hops 24 rfl (d := some 93) (p := .load 3 (.tmp 92)) (g := some (22, false)) rfl rfl rfl
                obtain ⟨o25, h25, d25, p25, g25⟩ := op_at5 hops 25 rfl (d := some 94) (p := .binOp .lss 3 (.tmp 93) (.const (.int .i64 0)) 3) (g := some (22, false)) rfl rfl rfl
                obtain ⟨o26, h26, d26, p26, g26⟩ := op_at5 hops 26 rfl (d := some 95) (p := .pick (.tmp 91) (.const (.bool true)) (.tmp 94)) (g := none) rfl rfl rfl
                obtain ⟨o27, h27, d27, p27, g27⟩ := op_at5 hops 27 rfl (d := some 96) (p := .move (.tmp 95)) (g := none) rfl rfl rfl
                obtain ⟨o28, h28, d28, p28, g28⟩ := op_at5 hops 28 rfl (d := some 97) (p := .fieldAddr 47 (.tmp 10) 2) (g := some (27, false)) rfl rfl rfl
                obtain ⟨o29, h29, d29, p29, g29⟩ := op_at5 hops 29 rfl (d := some 98) (p := .load 3 (.tmp 97)) (g := some (27, false)) rfl rfl rfl
                obtain ⟨o30, h30, d30, p30, g30⟩ := op_at5 hops 30 rfl (d := some 99) (p := .binOp .gtr 3 (.tmp 98) (.const (.int .i64 1048576)) 3) (g := some (27, false)) rfl rfl rfl
                obtain ⟨o31, h31, d31, p31, g31⟩ := op_at5 hops 31 rfl (d := some 100) (p := .pick (.tmp 96) (.const (.bool true)) (.tmp 99)) (g := none) rfl rfl rfl
                obtain ⟨o32, h32, d32, p32, g32⟩ := op_at5 hops 32 rfl (d := some 101) (p := .move (.tmp 100)) (g := none) rfl rfl rfl
                obtain ⟨o33, h33, d33, p33, g33⟩ := op_at5 hops 33 rfl (d := some 102) (p := .move (.tmp 9)) (g := some (32, false)) rfl rfl rfl
                obtain ⟨o34, h34, d34, p34, g34⟩ := op_at5 hops 34 rfl (d := some 103) (p := .binOp .gtr 3 (.tmp 102) (.const (.int .i64 0)) 3) (g := some (32, false)) rfl rfl rfl
                obtain ⟨o35, h35, d35, p35, g35⟩ := op_at5 hops 35 rfl (d := some 104) (p := .move (.tmp 103)) (g := some (32, false)) rfl rfl rfl
                obtain ⟨o36, h36, d36, p36, g36⟩ := op_at5 hops 36 rfl (d := some 105) (p := .move (.tmp 2)) (g := some (35, true)) rfl rfl rfl
                obtain ⟨o37, h37, d37, p37, g37⟩ := op_at5 hops 37 rfl (d := some 106) (p := .move (.tmp 9)) (g := some (35, true)) rfl rfl rfl
                obtain ⟨o38, h38, d38, p38, g38⟩ := op_at5 hops 38 rfl (d := some 107) (p := .binOp .sub 3 (.tmp 106) (.const (.int .i64 1)) 3) (g := some (35, true)) rfl rfl rfl
                obtain ⟨o39, h39, d39, p39, g39⟩ := op_at5 hops 39 rfl (d := some 108) (p := .indexAddr 24 (.tmp 105) (.tmp 107)) (g := some (35, true)) rfl rfl rfl
                obtain ⟨o40, h40, d40, p40, g40⟩ := op_at5 hops 40 rfl (d := some 109) (p := .load 47 (.tmp 108)) (g := some (35, true)) rfl rfl rfl
                obtain ⟨o41, h41, d41, p41, g41⟩ := op_at5 hops 41 rfl (d := some 110) (p := .load 47 (.tmp 10)) (g := some (35, true)) rfl rfl rfl
                obtain ⟨o42, h42, d42, p42, g42⟩ := op_at5 hops 42 rfl (d := some 111) (p := .call { callee := .value (.func 43), args := #[(.tmp 109), (.tmp 110)], argTypes := #[47, 47] }) (g := some (35, true)) rfl rfl rfl
                obtain ⟨o43, h43, d43, p43, g43⟩ := op_at5 hops 43 rfl (d := some 112) (p := .unOp .not 4 (.tmp 111)) (g := some (35, true)) rfl rfl rfl
                obtain ⟨o44, h44, d44, p44, g44⟩ := op_at5 hops 44 rfl (d := some 113) (p := .pick (.tmp 104) (.tmp 112) (.const (.bool false))) (g := some (32, false)) rfl rfl rfl
                obtain ⟨o45, h45, d45, p45, g45⟩ := op_at5 hops 45 rfl (d := some 114) (p := .pick (.tmp 101) (.const (.bool true)) (.tmp 113)) (g := none) rfl rfl rfl
                refine wpAnyH_take (i := 0) (v := .pointer (some ⟨gx, 0, none⟩)) h0 HNS (by rw [hops]; kernel_rfl) (by rw [hops]; kernel_rfl) (fun _ _ _ h => h) (Or.inl ⟨(wanted_none g0), fun w' _ => by unfold execOp; rw [p0]; first | rfl | kernel_rfl⟩) hHeld ?_
                rw [d0]
                simp only [Act.put, List.setIfInBounds_toArray, List.set_cons_zero, List.set_cons_succ]
                refine wpAnyH_take (i := 1) (v := .int .i64 x.rf) h1 HNS (by rw [hops]; kernel_rfl) (by rw [hops]; kernel_rfl) (fun _ _ _ h => h) (Or.inl ⟨(wanted_none g1), fun w' h => run_op_load_cell 3 _ p1 gx 0 (by rfl) _ h.1 _ Tryd.underlying3 rfl⟩) hHeld ?_
                rw [d1]
                simp only [Act.put, List.setIfInBounds_toArray, List.set_cons_zero, List.set_cons_succ]
                refine wpAnyH_take (i := 2) (v := .bool false) h2 HNS (by rw [hops]; kernel_rfl) (by rw [hops]; kernel_rfl) (fun _ _ _ h => h) (Or.inl ⟨(wanted_none g2), fun w' _ => (show _ = Result.ok (.value (.bool (decide (x.rf < 0)))) w' from by unfold execOp; rw [p2]; first | rfl | kernel_rfl).trans (by rw [hd0])⟩) hHeld ?_
                rw [d2]
                simp only [Act.put, List.setIfInBounds_toArray, List.set_cons_zero, List.set_cons_succ]
                refine wpAnyH_take (i := 3) (v := .bool false) h3 HNS (by rw [hops]; kernel_rfl) (by rw [hops]; kernel_rfl) (fun _ _ _ h => h) (Or.inl ⟨(wanted_none g3), fun w' _ => by unfold execOp; rw [p3]; first | rfl | kernel_rfl⟩) hHeld ?_
                rw [d3]
                simp only [Act.put, List.setIfInBounds_toArray, List.set_cons_zero, List.set_cons_succ]
                refine wpAnyH_take (i := 4) (v := .pointer (some ⟨gx, 0, none⟩)) h4 HNS (by rw [hops]; kernel_rfl) (by rw [hops]; kernel_rfl) (fun _ _ _ h => h) (Or.inl ⟨(wanted_some g4 h3 d3 (by rfl)), fun w' _ => by unfold execOp; rw [p4]; first | rfl | kernel_rfl⟩) hHeld ?_
                rw [d4]
                simp only [Act.put, List.setIfInBounds_toArray, List.set_cons_zero, List.set_cons_succ]
                refine wpAnyH_take (i := 5) (v := .int .i64 x.rf) h5 HNS (by rw [hops]; kernel_rfl) (by rw [hops]; kernel_rfl) (fun _ _ _ h => h) (Or.inl ⟨(wanted_some g5 h3 d3 (by rfl)), fun w' h => run_op_load_cell 3 _ p5 gx 0 (by rfl) _ h.1 _ Tryd.underlying3 rfl⟩) hHeld ?_
                rw [d5]
                simp only [Act.put, List.setIfInBounds_toArray, List.set_cons_zero, List.set_cons_succ]
                refine wpAnyH_take (i := 6) (v := .slice Ac nc cc) h6 HNS (by rw [hops]; kernel_rfl) (by rw [hops]; kernel_rfl) (fun _ _ _ h => h) (Or.inl ⟨(wanted_some g6 h3 d3 (by rfl)), fun w' _ => by unfold execOp; rw [p6]; first | rfl | kernel_rfl⟩) hHeld ?_
                rw [d6]
                simp only [Act.put, List.setIfInBounds_toArray, List.set_cons_zero, List.set_cons_succ]
                refine wpAnyH_take (i := 7) (v := .int .i64 nc) h7 HNS (by rw [hops]; kernel_rfl) (by rw [hops]; kernel_rfl) (fun _ _ _ h => h) (Or.inl ⟨(wanted_some g7 h3 d3 (by rfl)), fun w' _ => by unfold execOp; rw [p7]; first | rfl | kernel_rfl⟩) hHeld ?_
                rw [d7]
                simp only [Act.put, List.setIfInBounds_toArray, List.set_cons_zero, List.set_cons_succ]
                refine wpAnyH_take (i := 8) (v := .bool false) h8 HNS (by rw [hops]; kernel_rfl) (by rw [hops]; kernel_rfl) (fun _ _ _ h => h) (Or.inl ⟨(wanted_some g8 h3 d3 (by rfl)), fun w' _ => (show _ = Result.ok (.value (.bool (decide ((nc : Int) ≤ x.rf)))) w' from by unfold execOp; rw [p8]; first | rfl | kernel_rfl).trans (by rw [hd1])⟩) hHeld ?_
                rw [d8]
                simp only [Act.put, List.setIfInBounds_toArray, List.set_cons_zero, List.set_cons_succ]
                refine wpAnyH_take (i := 9) (v := .bool false) h9 HNS (by rw [hops]; kernel_rfl) (by rw [hops]; kernel_rfl) (fun _ _ _ h => h) (Or.inl ⟨(wanted_none g9), fun w' _ => by unfold execOp; rw [p9]; first | rfl | kernel_rfl⟩) hHeld ?_
                rw [d9]
                simp only [Act.put, List.setIfInBounds_toArray, List.set_cons_zero, List.set_cons_succ]
                refine wpAnyH_take (i := 10) (v := .bool false) h10 HNS (by rw [hops]; kernel_rfl) (by rw [hops]; kernel_rfl) (fun _ _ _ h => h) (Or.inl ⟨(wanted_none g10), fun w' _ => by unfold execOp; rw [p10]; first | rfl | kernel_rfl⟩) hHeld ?_
                rw [d10]
                simp only [Act.put, List.setIfInBounds_toArray, List.set_cons_zero, List.set_cons_succ]
                refine wpAnyH_take (i := 11) (v := .pointer (some ⟨gx, 1, none⟩)) h11 HNS (by rw [hops]; kernel_rfl) (by rw [hops]; kernel_rfl) (fun _ _ _ h => h) (Or.inl ⟨(wanted_some g11 h10 d10 (by rfl)), fun w' _ => by unfold execOp; rw [p11]; first | rfl | kernel_rfl⟩) hHeld ?_
                rw [d11]
                simp only [Act.put, List.setIfInBounds_toArray, List.set_cons_zero, List.set_cons_succ]
                refine wpAnyH_take (i := 12) (v := .int .i64 x.no) h12 HNS (by rw [hops]; kernel_rfl) (by rw [hops]; kernel_rfl) (fun _ _ _ h => h) (Or.inl ⟨(wanted_some g12 h10 d10 (by rfl)), fun w' h => run_op_load_cell 3 _ p12 gx 1 (by rfl) _ h.2.1 _ Tryd.underlying3 rfl⟩) hHeld ?_
                rw [d12]
                simp only [Act.put, List.setIfInBounds_toArray, List.set_cons_zero, List.set_cons_succ]
                refine wpAnyH_take (i := 13) (v := .bool false) h13 HNS (by rw [hops]; kernel_rfl) (by rw [hops]; kernel_rfl) (fun _ _ _ h => h) (Or.inl ⟨(wanted_some g13 h10 d10 (by rfl)), fun w' _ => (show _ = Result.ok (.value (.bool (decide (x.no < 0)))) w' from by unfold execOp; rw [p13]; first | rfl | kernel_rfl).trans (by rw [hd2])⟩) hHeld ?_
                rw [d13]
                simp only [Act.put, List.setIfInBounds_toArray, List.set_cons_zero, List.set_cons_succ]
                refine wpAnyH_take (i := 14) (v := .bool false) h14 HNS (by rw [hops]; kernel_rfl) (by rw [hops]; kernel_rfl) (fun _ _ _ h => h) (Or.inl ⟨(wanted_none g14), fun w' _ => by unfold execOp; rw [p14]; first | rfl | kernel_rfl⟩) hHeld ?_
                rw [d14]
                simp only [Act.put, List.setIfInBounds_toArray, List.set_cons_zero, List.set_cons_succ]
                refine wpAnyH_take (i := 15) (v := .bool false) h15 HNS (by rw [hops]; kernel_rfl) (by rw [hops]; kernel_rfl) (fun _ _ _ h => h) (Or.inl ⟨(wanted_none g15), fun w' _ => by unfold execOp; rw [p15]; first | rfl | kernel_rfl⟩) hHeld ?_
                rw [d15]
                simp only [Act.put, List.setIfInBounds_toArray, List.set_cons_zero, List.set_cons_succ]
                refine wpAnyH_take (i := 16) (v := .pointer (some ⟨gx, 1, none⟩)) h16 HNS (by rw [hops]; kernel_rfl) (by rw [hops]; kernel_rfl) (fun _ _ _ h => h) (Or.inl ⟨(wanted_some g16 h15 d15 (by rfl)), fun w' _ => by unfold execOp; rw [p16]; first | rfl | kernel_rfl⟩) hHeld ?_
                rw [d16]
                simp only [Act.put, List.setIfInBounds_toArray, List.set_cons_zero, List.set_cons_succ]
                refine wpAnyH_take (i := 17) (v := .int .i64 x.no) h17 HNS (by rw [hops]; kernel_rfl) (by rw [hops]; kernel_rfl) (fun _ _ _ h => h) (Or.inl ⟨(wanted_some g17 h15 d15 (by rfl)), fun w' h => run_op_load_cell 3 _ p17 gx 1 (by rfl) _ h.2.1 _ Tryd.underlying3 rfl⟩) hHeld ?_
                rw [d17]
                simp only [Act.put, List.setIfInBounds_toArray, List.set_cons_zero, List.set_cons_succ]
                refine wpAnyH_take (i := 18) (v := .slice As ns cs) h18 HNS (by rw [hops]; kernel_rfl) (by rw [hops]; kernel_rfl) (fun _ _ _ h => h) (Or.inl ⟨(wanted_some g18 h15 d15 (by rfl)), fun w' _ => by unfold execOp; rw [p18]; first | rfl | kernel_rfl⟩) hHeld ?_
                rw [d18]
                simp only [Act.put, List.setIfInBounds_toArray, List.set_cons_zero, List.set_cons_succ]
                refine wpAnyH_take (i := 19) (v := .int .i64 ns) h19 HNS (by rw [hops]; kernel_rfl) (by rw [hops]; kernel_rfl) (fun _ _ _ h => h) (Or.inl ⟨(wanted_some g19 h15 d15 (by rfl)), fun w' _ => by unfold execOp; rw [p19]; first | rfl | kernel_rfl⟩) hHeld ?_
                rw [d19]
                simp only [Act.put, List.setIfInBounds_toArray, List.set_cons_zero, List.set_cons_succ]
                refine wpAnyH_take (i := 20) (v := .bool false) h20 HNS (by rw [hops]; kernel_rfl) (by rw [hops]; kernel_rfl) (fun _ _ _ h => h) (Or.inl ⟨(wanted_some g20 h15 d15 (by rfl)), fun w' _ => (show _ = Result.ok (.value (.bool (decide ((ns : Int) ≤ x.no)))) w' from by unfold execOp; rw [p20]; first | rfl | kernel_rfl).trans (by rw [hd3])⟩) hHeld ?_
                rw [d20]
                simp only [Act.put, List.setIfInBounds_toArray, List.set_cons_zero, List.set_cons_succ]
                refine wpAnyH_take (i := 21) (v := .bool false) h21 HNS (by rw [hops]; kernel_rfl) (by rw [hops]; kernel_rfl) (fun _ _ _ h => h) (Or.inl ⟨(wanted_none g21), fun w' _ => by unfold execOp; rw [p21]; first | rfl | kernel_rfl⟩) hHeld ?_
                rw [d21]
                simp only [Act.put, List.setIfInBounds_toArray, List.set_cons_zero, List.set_cons_succ]
                refine wpAnyH_take (i := 22) (v := .bool false) h22 HNS (by rw [hops]; kernel_rfl) (by rw [hops]; kernel_rfl) (fun _ _ _ h => h) (Or.inl ⟨(wanted_none g22), fun w' _ => by unfold execOp; rw [p22]; first | rfl | kernel_rfl⟩) hHeld ?_
                rw [d22]
                simp only [Act.put, List.setIfInBounds_toArray, List.set_cons_zero, List.set_cons_succ]
                refine wpAnyH_take (i := 23) (v := .pointer (some ⟨gx, 2, none⟩)) h23 HNS (by rw [hops]; kernel_rfl) (by rw [hops]; kernel_rfl) (fun _ _ _ h => h) (Or.inl ⟨(wanted_some g23 h22 d22 (by rfl)), fun w' _ => by unfold execOp; rw [p23]; first | rfl | kernel_rfl⟩) hHeld ?_
                rw [d23]
                simp only [Act.put, List.setIfInBounds_toArray, List.set_cons_zero, List.set_cons_succ]
                refine wpAnyH_take (i := 24) (v := .int .i64 x.st) h24 HNS (by rw [hops]; kernel_rfl) (by rw [hops]; kernel_rfl) (fun _ _ _ h => h) (Or.inl ⟨(wanted_some g24 h22 d22 (by rfl)), fun w' h => run_op_load_cell 3 _ p24 gx 2 (by rfl) _ h.2.2.1 _ Tryd.underlying3 rfl⟩) hHeld ?_
                rw [d24]
                simp only [Act.put, List.setIfInBounds_toArray, List.set_cons_zero, List.set_cons_succ]
                refine wpAnyH_take (i := 25) (v := .bool false) h25 HNS (by rw [hops]; kernel_rfl) (by rw [hops]; kernel_rfl) (fun _ _ _ h => h) (Or.inl ⟨(wanted_some g25 h22 d22 (by rfl)), fun w' _ => (show _ = Result.ok (.value (.bool (decide (x.st < 0)))) w' from by unfold execOp; rw [p25]; first | rfl | kernel_rfl).trans (by rw [hd4])⟩) hHeld ?_
                rw [d25]
                simp only [Act.put, List.setIfInBounds_toArray, List.set_cons_zero, List.set_cons_succ]
                refine wpAnyH_take (i := 26) (v := .bool false) h26 HNS (by rw [hops]; kernel_rfl) (by rw [hops]; kernel_rfl) (fun _ _ _ h => h) (Or.inl ⟨(wanted_none g26), fun w' _ => by unfold execOp; rw [p26]; first | rfl | kernel_rfl⟩) hHeld ?_
                rw [d26]
                simp only [Act.put, List.setIfInBounds_toArray, List.set_cons_zero, List.set_cons_succ]
                refine wpAnyH_take (i := 27) (v := .bool false) h27 HNS (by rw [hops]; kernel_rfl) (by rw [hops]; kernel_rfl) (fun _ _ _ h => h) (Or.inl ⟨(wanted_none g27), fun w' _ => by unfold execOp; rw [p27]; first | rfl | kernel_rfl⟩) hHeld ?_
                rw [d27]
                simp only [Act.put, List.setIfInBounds_toArray, List.set_cons_zero, List.set_cons_succ]
                refine wpAnyH_take (i := 28) (v := .pointer (some ⟨gx, 2, none⟩)) h28 HNS (by rw [hops]; kernel_rfl) (by rw [hops]; kernel_rfl) (fun _ _ _ h => h) (Or.inl ⟨(wanted_some g28 h27 d27 (by rfl)), fun w' _ => by unfold execOp; rw [p28]; first | rfl | kernel_rfl⟩) hHeld ?_
                rw [d28]
                simp only [Act.put, List.setIfInBounds_toArray, List.set_cons_zero, List.set_cons_succ]
                refine wpAnyH_take (i := 29) (v := .int .i64 x.st) h29 HNS (by rw [hops]; kernel_rfl) (by rw [hops]; kernel_rfl) (fun _ _ _ h => h) (Or.inl ⟨(wanted_some g29 h27 d27 (by rfl)), fun w' h => run_op_load_cell 3 _ p29 gx 2 (by rfl) _ h.2.2.1 _ Tryd.underlying3 rfl⟩) hHeld ?_
                rw [d29]
                simp only [Act.put, List.setIfInBounds_toArray, List.set_cons_zero, List.set_cons_succ]
                refine wpAnyH_take (i := 30) (v := .bool false) h30 HNS (by rw [hops]; kernel_rfl) (by rw [hops]; kernel_rfl) (fun _ _ _ h => h) (Or.inl ⟨(wanted_some g30 h27 d27 (by rfl)), fun w' _ => (show _ = Result.ok (.value (.bool (decide (1048576 < x.st)))) w' from by unfold execOp; rw [p30]; first | rfl | kernel_rfl).trans (by rw [hd5])⟩) hHeld ?_
                rw [d30]
                simp only [Act.put, List.setIfInBounds_toArray, List.set_cons_zero, List.set_cons_succ]
                refine wpAnyH_take (i := 31) (v := .bool false) h31 HNS (by rw [hops]; kernel_rfl) (by rw [hops]; kernel_rfl) (fun _ _ _ h => h) (Or.inl ⟨(wanted_none g31), fun w' _ => by unfold execOp; rw [p31]; first | rfl | kernel_rfl⟩) hHeld ?_
                rw [d31]
                simp only [Act.put, List.setIfInBounds_toArray, List.set_cons_zero, List.set_cons_succ]
                refine wpAnyH_take (i := 32) (v := .bool false) h32 HNS (by rw [hops]; kernel_rfl) (by rw [hops]; kernel_rfl) (fun _ _ _ h => h) (Or.inl ⟨(wanted_none g32), fun w' _ => by unfold execOp; rw [p32]; first | rfl | kernel_rfl⟩) hHeld ?_
                rw [d32]
                simp only [Act.put, List.setIfInBounds_toArray, List.set_cons_zero, List.set_cons_succ]
                refine wpAnyH_take (i := 33) (v := .int .i64 k) h33 HNS (by rw [hops]; kernel_rfl) (by rw [hops]; kernel_rfl) (fun _ _ _ h => h) (Or.inl ⟨(wanted_some g33 h32 d32 (by rfl)), fun w' _ => by unfold execOp; rw [p33]; first | rfl | kernel_rfl⟩) hHeld ?_
                rw [d33]
                simp only [Act.put, List.setIfInBounds_toArray, List.set_cons_zero, List.set_cons_succ]
                refine wpAnyH_take (i := 34) (v := .bool false) h34 HNS (by rw [hops]; kernel_rfl) (by rw [hops]; kernel_rfl) (fun _ _ _ h => h) (Or.inl ⟨(wanted_some g34 h32 d32 (by rfl)), fun w' _ => (show _ = Result.ok (.value (.bool (decide ((0 : Int) < (k : Int))))) w' from by unfold execOp; rw [p34]; first | rfl | kernel_rfl).trans (by rw [hdk])⟩) hHeld ?_
                rw [d34]
                simp only [Act.put, List.setIfInBounds_toArray, List.set_cons_zero, List.set_cons_succ]
                refine wpAnyH_take (i := 35) (v := .bool false) h35 HNS (by rw [hops]; kernel_rfl) (by rw [hops]; kernel_rfl) (fun _ _ _ h => h) (Or.inl ⟨(wanted_some g35 h32 d32 (by rfl)), fun w' _ => by unfold execOp; rw [p35]; first | rfl | kernel_rfl⟩) hHeld ?_
                rw [d35]
                simp only [Act.put, List.setIfInBounds_toArray, List.set_cons_zero, List.set_cons_succ]
                refine wpAnyH_take (i := 36) (v := undef) h36 HNS (by rw [hops]; kernel_rfl) (by rw [hops]; kernel_rfl) (fun _ _ _ h => h) (Or.inr ⟨(unwanted_some g36 h35 d35 (by rfl)), rfl⟩) hHeld ?_
                rw [d36]
                simp only [Act.put, List.setIfInBounds_toArray, List.set_cons_zero, List.set_cons_succ]
                refine wpAnyH_take (i := 37) (v := undef) h37 HNS (by rw [hops]; kernel_rfl) (by rw [hops]; kernel_rfl) (fun _ _ _ h => h) (Or.inr ⟨(unwanted_some g37 h35 d35 (by rfl)), rfl⟩) hHeld ?_
                rw [d37]
                simp only [Act.put, List.setIfInBounds_toArray, List.set_cons_zero, List.set_cons_succ]
                refine wpAnyH_take (i := 38) (v := undef) h38 HNS (by rw [hops]; kernel_rfl) (by rw [hops]; kernel_rfl) (fun _ _ _ h => h) (Or.inr ⟨(unwanted_some g38 h35 d35 (by rfl)), rfl⟩) hHeld ?_
                rw [d38]
                simp only [Act.put, List.setIfInBounds_toArray, List.set_cons_zero, List.set_cons_succ]
                refine wpAnyH_take (i := 39) (v := undef) h39 HNS (by rw [hops]; kernel_rfl) (by rw [hops]; kernel_rfl) (fun _ _ _ h => h) (Or.inr ⟨(unwanted_some g39 h35 d35 (by rfl)), rfl⟩) hHeld ?_
                rw [d39]
                simp only [Act.put, List.setIfInBounds_toArray, List.set_cons_zero, List.set_cons_succ]
                refine wpAnyH_take (i := 40) (v := undef) h40 HNS (by rw [hops]; kernel_rfl) (by rw [hops]; kernel_rfl) (fun _ _ _ h => h) (Or.inr ⟨(unwanted_some g40 h35 d35 (by rfl)), rfl⟩) hHeld ?_
                rw [d40]
                simp only [Act.put, List.setIfInBounds_toArray, List.set_cons_zero, List.set_cons_succ]
                refine wpAnyH_take (i := 41) (v := undef) h41 HNS (by rw [hops]; kernel_rfl) (by rw [hops]; kernel_rfl) (fun _ _ _ h => h) (Or.inr ⟨(unwanted_some g41 h35 d35 (by rfl)), rfl⟩) hHeld ?_
                rw [d41]
                simp only [Act.put, List.setIfInBounds_toArray, List.set_cons_zero, List.set_cons_succ]
                refine wpAnyH_take (i := 42) (v := undef) h42 HNS (by rw [hops]; kernel_rfl) (by rw [hops]; kernel_rfl) (fun _ _ _ h => h) (Or.inr ⟨(unwanted_some g42 h35 d35 (by rfl)), rfl⟩) hHeld ?_
                rw [d42]
                simp only [Act.put, List.setIfInBounds_toArray, List.set_cons_zero, List.set_cons_succ]
                refine wpAnyH_take (i := 43) (v := undef) h43 HNS (by rw [hops]; kernel_rfl) (by rw [hops]; kernel_rfl) (fun _ _ _ h => h) (Or.inr ⟨(unwanted_some g43 h35 d35 (by rfl)), rfl⟩) hHeld ?_
                rw [d43]
                simp only [Act.put, List.setIfInBounds_toArray, List.set_cons_zero, List.set_cons_succ]
                refine wpAnyH_take (i := 44) (v := .bool false) h44 HNS (by rw [hops]; kernel_rfl) (by rw [hops]; kernel_rfl) (fun _ _ _ h => h) (Or.inl ⟨(wanted_some g44 h32 d32 (by rfl)), fun w' _ => by unfold execOp; rw [p44]; first | rfl | kernel_rfl⟩) hHeld ?_
                rw [d44]
                simp only [Act.put, List.setIfInBounds_toArray, List.set_cons_zero, List.set_cons_succ]
                refine wpAnyH_take (i := 45) (v := .bool false) h45 HNS (by rw [hops]; kernel_rfl) (by rw [hops]; kernel_rfl) (fun _ _ _ h => h) (Or.inl ⟨(wanted_none g45), fun w' _ => by unfold execOp; rw [p45]; first | rfl | kernel_rfl⟩) hHeld ?_
                rw [d45]
                simp only [Act.put, List.setIfInBounds_toArray, List.set_cons_zero, List.set_cons_succ]
                refine wpAnyH_done (by rw [hops]; kernel_rfl) (NoPanic.normal ?_) _
                have HB9 := Lib.hid (HB2.out.trans (s0.mono HB2.out.size))
                have HX9 := Lib.hid (HX2m.out.keep s0)
                clear HNS KP s0 hHeld hops h0 d0 p0 g0 h1 d1 p1 g1 h2 d2 p2 g2 h3 d3 p3 g3 h4 d4 p4 g4 h5 d5 p5 g5 h6 d6 p6 g6 h7 d7 p7 g7 h8 d8 p8 g8 h9 d9 p9 g9 h10 d10 p10 g10 h11 d11 p11 g11 h12 d12 p12 g12 h13 d13 p13 g13 h14 d14 p14 g14 h15 d15 p15 g15 h16 d16 p16 g16 h17 d17 p17 g17 h18 d18 p18 g18 h19 d19 p19 g19 h20 d20 p20 g20 h21 d21 p21 g21 h22 d22 p22 g22 h23 d23 p23 g23 h24 d24 p24 g24 h25 d25 p25 g25 h26 d26 p26 g26 h27 d27 p27 g27 h28 d28 p28 g28 h29 d29 p29 g29 h30 d30 p30 g30 h31 d31 p31 g31 h32 d32 p32 g32 h33 d33 p33 g33 h34 d34 p34 g34 h35 d35 p35 g35 h36 d36 p36 g36 h37 d37 p37 g37 h38 d38 p38 g38 h39 d39 p39 g39 h40 d40 p40 g40 h41 d41 p41 g41 h42 d42 p42 g42 h43 d43 p43 g43 h44 d44 p44 g44 h45 d45 p45 g45
                obtain ⟨W3, hW3⟩ : ∃ W3, W3 = W2.drew := ⟨_, rfl⟩
                rw [← hW3] at HB9 HX9 ⊢
                clear hW3 x0 x1 x2
                have hne : x.no = ((x.no.toNat : Nat) : Int) := by omega
                obtain ⟨s, hs⟩ : ∃ s, subs[x.no.toNat]? = some s := ⟨_, List.getElem?_eq_getElem (by have := HSL.out; omega)⟩
                have hodd := Rc.w3_no hs (Rc.pre_no _ _ HP3.out x.no.toNat (by omega))
                have HE := Lib.hid (show bad = !(s.dl Rc.K0 Rc.I0 == x.dg) from by rw [HBB.out, hs]; show (s.odd || !(s.dl Rc.K0 Rc.I0 == x.dg)) = _; rw [hodd]; rfl)
                obtain ⟨bs, os, Ag, cg, rfl, hbs, s0, s1, s2, s3, hrg, hmg⟩ := (HEV.out.s.keep HB9.out).get x.no.toNat s hs
                have HDI := Lib.hid (Rc.rdigest_any s.no s.comp s.puz Ag s.grid.length cg s.grid W3 (hrg.more HB9.out.size) hmg)
                rw [Rc.Sb.dv_eq, show Rc.de s.no s.comp s.puz s.grid = s.de from rfl] at HDI
                obtain ⟨D, hD⟩ : ∃ D, ((s.dl Rc.K0 Rc.I0).map Dg.b8).toArray = D := ⟨_, rfl⟩
                have hEQ := Rc.eq31 (s.dl Rc.K0 Rc.I0) x.dg (s.dl_len Rc.K0 Rc.I0) HD32.out
                have hds : D.size = 32 := by rw [← hD]; simp [Rc.Sb.dl_len]
                have h1d : D.all (·.oneCell') = true := by rw [← hD]; exact all_oneCell_toArray (one_bytes _)
                rw [hD] at HDI hEQ
                have HEQ := Lib.hid hEQ
                have HDS := Lib.hid hds
                have H1D := Lib.hid h1d
                have HI31 := Lib.hid (show (Tryd.prog.info? 31).map (·.size) = some D.size from by rw [hds]; exact Rc.info31)
                have HZD := Lib.hid (show Dg.z32.toArray.size = D.size from by rw [hds]; rfl)
                generalize x.no.toNat = nn at hne s0 s1 s2 s3
                have x1 : W3.cell? ⟨gx, 1, none⟩ = some (Rc.i x.no) := HX9.out.cell 1
                rw [hne] at x1
                have hnn : nn < ns := by omega
                clear hrg hmg hs hD hEQ hds h1d hne hn0 hn1 hn2 hn3 hn4 hn5 hodd
                go_wp2_with fail
                ((with_reducible refine HDI.out.mono ?_); rintro e w5 ⟨rfl, hb5⟩)
                have HX5 := Lib.hid (HX9.out.keep hb5)
                have HB5 := Lib.hid (HB9.out.trans (hb5.mono HB9.out.size))
                have HN5 := Lib.hid (show (w5.alloc (.cells Dg.z32.toArray 31)).heap[w5.heap.size]? = some (.cells Dg.z32.toArray 31 (0, 0)) from World.alloc_heap_new _ _)
                clear hb5 x1 s0 s1 s2 s3 hbs
                go_upto_region 20 with (first | (refine wpList_store_row (o := ⟨none, .store 31 (.tmp 11) (.tmp 122), _, _, _, _⟩) rfl 31 (.tmp 11) (.tmp 122) rfl w5.heap.size D rfl rfl 31 Dg.z32.toArray HN5.out HI31.out HZD.out H1D.out ?_))
                obtain ⟨W6, hW6⟩ : ∃ W6, W6 = (w5.alloc (.cells Dg.z32.toArray 31)).setRow w5.heap.size D := ⟨_, rfl⟩
                change Code.wp _ _ _ _ ((w5.alloc (.cells Dg.z32.toArray 31)).setRow w5.heap.size D)
                have hD6 : W6.heap[w5.heap.size]? = some (.cells D 31 (0, 0)) := by rw [hW6]; exact setRow_heap _ w5.heap.size _ D 31 (0, 0) HN5.out
                have hB56 : Below w5.heap.size w5 W6 := by rw [hW6]; exact Rc.alloc_set w5 _ _ _ rfl
                have HX6 := Lib.hid (HX5.out.keep hB56)
                have HB6 := Lib.hid (HB5.out.trans (hB56.mono HB5.out.size))
                have HRD := Lib.hid (show W6.rangeAt w5.heap.size 0 D.toList from fun j v hj => by rw [cell_of_row W6 w5.heap.size (0 + j) D 31 (0, 0) hD6, Nat.zero_add]; simpa using hj)
                have HRX6 := Lib.hid (show W6.rangeAt gx 3 (x.dg.map Dg.b8) from fun j v hj => by rw [HX6.out.cell]; unfold Rc.R.cells; rw [show 3 + j = j + 1 + 1 + 1 by omega, List.getElem?_cons_succ, List.getElem?_cons_succ, List.getElem?_cons_succ]; exact hj)
                rw [← hW6]
                clear hW6 hD6 hB56
                have hEQ := HEQ.out
                have hEG := Rc.eqg
                have HID1 := Lib.hid (show (Tryd.prog.info? 31).map (·.size) = some D.toList.length from by rw [Array.length_toList]; exact HI31.out)
                have HID2 := Lib.hid (show (Tryd.prog.info? 31).map (·.size) = some (x.dg.map Dg.b8).length from by rw [List.length_map, HD32.out]; exact Rc.info31)
                obtain ⟨X, hX⟩ : ∃ X, (x.dg.map Dg.b8).toArray = X := ⟨_, rfl⟩
                have HXX := Lib.hid hX
                generalize (s.dl Rc.K0 Rc.I0 == x.dg) = q at hEQ HE
                rw [hX] at hEQ
                clear HEQ hX
                cases q with
                | true =>
                  have HX3 := Lib.hid (HX2.out (by rw [HE.out]; rfl))
                  go_wp2_with (first
                    | ((with_reducible refine wpList_load_mid rfl 31 (.tmp 11) rfl w5.heap.size 0 rfl D.toList _ HRD.out Tryd.underlying31 rfl HID1.out ?_); rw [Array.toArray_toList])
                    | ((with_reducible refine wpList_load_mid rfl 31 (.tmp 125) rfl gx 3 rfl (x.dg.map Dg.b8) _ HRX6.out Tryd.underlying31 rfl HID2.out ?_); rw [HXX.out]))
                  exact ⟨⟨k + 1, by omega, by go_num, HX3.out, HB6.out⟩, by simp [intOf]; omega⟩
                | false =>
                  have HE2 := Lib.hid (HA.out (by rw [HE.out]; rfl))
                  go_wp2_with (first
                    | ((with_reducible refine wpList_load_mid rfl 31 (.tmp 11) rfl w5.heap.size 0 rfl D.toList _ HRD.out Tryd.underlying31 rfl HID1.out ?_); rw [Array.toArray_toList])
                    | ((with_reducible refine wpList_load_mid rfl 31 (.tmp 125) rfl gx 3 rfl (x.dg.map Dg.b8) _ HRX6.out Tryd.underlying31 rfl HID2.out ?_); rw [HXX.out]))
                  go_ret
                  exact ⟨by rw [HE2.out]; rfl, HB6.out⟩
              · obtain ⟨y, hy⟩ : ∃ y, l[k - 1]? = some y := ⟨_, List.getElem?_eq_getElem (by have := HLL.out; omega)⟩
                have HBB := Lib.hid (show bad = (Rc.late y x || (match subs[x.no.toNat]? with | none => true | some s => s.odd || !(s.dl Rc.K0 Rc.I0 == x.dg))) from by rw [HBB0.out, if_neg hk0, List.getD_eq_getElem?_getD, hy]; rfl)
                obtain ⟨hy32, bl', ol', he, hbl', hry⟩ := (HEV.out.l.keep HB2.out).get (k - 1) y hy
                injection he with he
                injection he with he1 he2 _
                subst he1 he2
                have hc35 : y.cells.length = 35 := Rc.R.cells_len hy32
                have HY32 := Lib.hid hy32
                have HRY := Lib.hid hry
                have HBY := Lib.hid (show bl < W2.heap.size from by have := HB2.out.size; omega)
                have HI47y := Lib.hid (show (Tryd.prog.info? 47).map (·.size) = some y.cells.length from by rw [hc35]; exact Rc.info47)
                have hdk : decide ((0 : Int) < (k : Int)) = true := decide_eq_true (by omega)
                have HK1 := Lib.hid (show IntKind.i64.wrap ((k : Int) - 1) = ((k - 1 : Nat) : Int) from (IntWalk.i64_in _ (by omega)).trans (by omega))
                have HKL := Lib.hid (show k - 1 < nl from by omega)
                have HS24 := Lib.hid Rc.info47
                clear HBB0 hy hbl' hry hc35 hy32
                have KP := Lib.hid (fun (w' : World) (h : Below W2.heap.size W2 w') => (⟨(h.cell (p := ⟨gx, 0, none⟩) HX2m.out.lt).trans x0, (h.cell (p := ⟨gx, 1, none⟩) HX2m.out.lt).trans x1, (h.cell (p := ⟨gx, 2, none⟩) HX2m.out.lt).trans x2,
                    fun j v hj => (h.cell (p := ⟨bl, ol + (k - 1) * 35 + j, none⟩) HBY.out).trans (HRY.out j v hj), fun j v hj => by rw [Nat.zero_add]; exact ((HX2m.out.keep h).cell j).trans hj, h⟩ : w'.cell? ⟨gx, 0, none⟩ = some (Rc.i x.rf) ∧ w'.cell? ⟨gx, 1, none⟩ = some (Rc.i x.no) ∧ w'.cell? ⟨gx, 2, none⟩ = some (Rc.i x.st) ∧ w'.rangeAt bl (ol + (k - 1) * 35) y.cells ∧ w'.rangeAt gx 0 x.cells ∧ Below W2.heap.size W2 w'))
                have s0 : Below W2.heap.size W2 W2.drew := (Below.refl _ W2).drew
                refine wp_region_named (fun ops hops => ?_)
                refine wp_region_noPanic ?_
                refine wp_region_held_drew (S := (fun w' => w'.cell? ⟨gx, 0, none⟩ = some (Rc.i x.rf) ∧ w'.cell? ⟨gx, 1, none⟩ = some (Rc.i x.no) ∧ w'.cell? ⟨gx, 2, none⟩ = some (Rc.i x.st) ∧ w'.rangeAt bl (ol + (k - 1) * 35) y.cells ∧ w'.rangeAt gx 0 x.cells ∧ Below W2.heap.size W2 w')) (by kernel_rfl) (KP.out _ s0) (fun hHeld => ?_)
                rw [show ops.size = 46 from by rw [hops]; rfl]
                change wpAnyH _ _ _ _ _ _ _ _ W2.drew
                have HNS : Region.noSelect ops = true := by rw [hops]; kernel_rfl
                have HEAF := Lib.hid (enters_of Tryd.func43 (by kernel_rfl) rfl)
                obtain ⟨o0, h0, d0, p0, g0⟩ := op_at5 hops 0 rfl (d := some 69) (p := .fieldAddr 47 (.tmp 10) 0) (g := none) rfl rfl rfl
                obtain ⟨o1, h1, d1, p1, g1⟩ := op_at5 hops 1 rfl (d := some 70) (p := .load 3 (.tmp 69)) (g := none) rfl rfl rfl
                obtain ⟨o2, h2, d2, p2, g2⟩ := op_at5 hops 2 rfl (d := some 71) (p := .binOp .lss 3 (.tmp 70) (.const (.int .i64 0)) 3) (g := none) rfl rfl rfl
                obtain ⟨o3, h3, d3, p3, g3⟩ := op_at5 hops 3 rfl (d := some 72) (p := .move (.tmp 71)) (g := none) rfl rfl rfl
                obtain ⟨o4, h4, d4, p4, g4⟩ := op_at5 hops 4 rfl (d := some 73) (p := .fieldAddr 47 (.tmp 10) 0) (g := some (3, false)) rfl rfl rfl
                obtain ⟨o5, h5, d5, p5, g5⟩ := op_at5 hops 5 rfl (d := some 74) (p := .load 3 (.tmp 73)) (g := some (3, false)) rfl rfl rfl
                obtain ⟨o6, h6, d6, p6, g6⟩ := op_at5 hops 6 rfl (d := some 75) (p := .move (.tmp 0)) (g := some (3, false)) rfl rfl rfl
                obtain ⟨o7, h7, d7, p7, g7⟩ := op_at5 hops 7 rfl (d := some 76) (p := .call { callee := .builtin .len, args := #[(.tmp 75)], argTypes := #[22] }) (g := some (3, false)) rfl rfl rfl
                obtain ⟨o8, h8, d8, p8, g8⟩ := op_at5 hops 8 rfl (d := some 77) (p := .binOp .geq 3 (.tmp 74) (.tmp 76) 3) (g := some (3, false)) rfl rfl rfl
                obtain ⟨o9, h9, d9, p9, g9⟩ := op_at5 hops 9 rfl (d := some 78) (p := .pick (.tmp 72) (.const (.bool true)) (.tmp 77)) (g := none) rfl rfl rfl
                obtain ⟨o10, h10, d10, p10, g10⟩ := op_at5 hops 10 rfl (d := some 79) (p := .move (.tmp 78)) (g := none) rfl rfl rfl
                obtain ⟨o11, h11, d11, p11, g11⟩ := op_at5 hops 11 rfl (d := some 80) (p := .fieldAddr 47 (.tmp 10) 1) (g := some (10, false)) rfl rfl rfl
                obtain ⟨o12, h12, d12, p12, g12⟩ := op_at5 hops 12 rfl (d := some 81) (p := .load 3 (.tmp 80)) (g := some (10, false)) rfl rfl rfl
                obtain ⟨o13, h13, d13, p13, g13⟩ := op_at5 hops 13 rfl (d := some 82) (p := .binOp .lss 3 (.tmp 81) (.const (.int .i64 0)) 3) (g := some (10, false)) rfl rfl rfl
                obtain ⟨o14, h14, d14, p14, g14⟩ := op_at5 hops 14 rfl (d := some 83) (p := .pick (.tmp 79) (.const (.bool true)) (.tmp 82)) (g := none) rfl rfl rfl
                obtain ⟨o15, h15, d15, p15, g15⟩ := op_at5 hops 15 rfl (d := some 84) (p := .move (.tmp 83)) (g := none) rfl rfl rfl
                obtain ⟨o16, h16, d16, p16, g16⟩ := op_at5 hops 16 rfl (d := some 85) (p := .fieldAddr 47 (.tmp 10) 1) (g := some (15, false)) rfl rfl rfl
                obtain ⟨o17, h17, d17, p17, g17⟩ := op_at5 hops 17 rfl (d := some 86) (p := .load 3 (.tmp 85)) (g := some (15, false)) rfl rfl rfl
                obtain ⟨o18, h18, d18, p18, g18⟩ := op_at5 hops 18 rfl (d := some 87) (p := .move (.tmp 1)) (g := some (15, false)) rfl rfl rfl
                obtain ⟨o19, h19, d19, p19, g19⟩ := op_at5 hops 19 rfl (d := some 88) (p := .call { callee := .builtin .len, args := #[(.tmp 87)], argTypes := #[23] }) (g := some (15, false)) rfl rfl rfl
                obtain ⟨o20, h20, d20, p20, g20⟩ := op_at5 hops 20 rfl (d := some 89) (p := .binOp .geq 3 (.tmp 86) (.tmp 88) 3) (g := some (15, false)) rfl rfl rfl
                obtain ⟨o21, h21, d21, p21, g21⟩ := op_at5 hops 21 rfl (d := some 90) (p := .pick (.tmp 84) (.const (.bool true)) (.tmp 89)) (g := none) rfl rfl rfl
                obtain ⟨o22, h22, d22, p22, g22⟩ := op_at5 hops 22 rfl (d := some 91) (p := .move (.tmp 90)) (g := none) rfl rfl rfl
                obtain ⟨o23, h23, d23, p23, g23⟩ := op_at5 hops 23 rfl (d := some 92) (p := .fieldAddr 47 (.tmp 10) 2) (g := some (22, false)) rfl rfl rfl
                obtain ⟨o24, h24, d24, p24, g24⟩ := op_at5 hops 24 rfl (d := some 93) (p := .load 3 (.tmp 92)) (g := some (22, false)) rfl rfl rfl
                obtain ⟨o25, h25, d25, p25, g25⟩ := op_at5 hops 25 rfl (d := some 94) (p := .binOp .lss 3 (.tmp 93) (.const (.int .i64 0)) 3) (g := some (22, false)) rfl rfl rfl
                obtain ⟨o26, h26, d26, p26, g26⟩ := op_at5 hops 26 rfl (d := some 95) (p := .pick (.tmp 91) (.const (.bool true)) (.tmp 94)) (g := none) rfl rfl rfl
                obtain ⟨o27, h27, d27, p27, g27⟩ := op_at5 hops 27 rfl (d := some 96) (p := .move (.tmp 95)) (g := none) rfl rfl rfl
                obtain ⟨o28, h28, d28, p28, g28⟩ := op_at5 hops 28 rfl (d := some 97) (p := .fieldAddr 47 (.tmp 10) 2) (g := some (27, false)) rfl rfl rfl
                obtain ⟨o29, h29, d29, p29, g29⟩ := op_at5 hops 29 rfl (d := some 98) (p := .load 3 (.tmp 97)) (g := some (27, false)) rfl rfl rfl
                obtain ⟨o30, h30, d30, p30, g30⟩ := op_at5 hops 30 rfl (d := some 99) (p := .binOp .gtr 3 (.tmp 98) (.const (.int .i64 1048576)) 3) (g := some (27, false)) rfl rfl rfl
                obtain ⟨o31, h31, d31, p31, g31⟩ := op_at5 hops 31 rfl (d := some 100) (p := .pick (.tmp 96) (.const (.bool true)) (.tmp 99)) (g := none) rfl rfl rfl
                obtain ⟨o32, h32, d32, p32, g32⟩ := op_at5 hops 32 rfl (d := some 101) (p := .move (.tmp 100)) (g := none) rfl rfl rfl
                obtain ⟨o33, h33, d33, p33, g33⟩ := op_at5 hops 33 rfl (d := some 102) (p := .move (.tmp 9)) (g := some (32, false)) rfl rfl rfl
                obtain ⟨o34, h34, d34, p34, g34⟩ := op_at5 hops 34 rfl (d := some 103) (p := .binOp .gtr 3 (.tmp 102) (.const (.int .i64 0)) 3) (g := some (32, false)) rfl rfl rfl
                obtain ⟨o35, h35, d35, p35, g35⟩ := op_at5 hops 35 rfl (d := some 104) (p := .move (.tmp 103)) (g := some (32, false)) rfl rfl rfl
                obtain ⟨o36, h36, d36, p36, g36⟩ := op_at5 hops 36 rfl (d := some 105) (p := .move (.tmp 2)) (g := some (35, true)) rfl rfl rfl
                obtain ⟨o37, h37, d37, p37, g37⟩ := op_at5 hops 37 rfl (d := some 106) (p := .move (.tmp 9)) (g := some (35, true)) rfl rfl rfl
                obtain ⟨o38, h38, d38, p38, g38⟩ := op_at5 hops 38 rfl (d := some 107) (p := .binOp .sub 3 (.tmp 106) (.const (.int .i64 1)) 3) (g := some (35, true)) rfl rfl rfl
                obtain ⟨o39, h39, d39, p39, g39⟩ := op_at5 hops 39 rfl (d := some 108) (p := .indexAddr 24 (.tmp 105) (.tmp 107)) (g := some (35, true)) rfl rfl rfl
                obtain ⟨o40, h40, d40, p40, g40⟩ := op_at5 hops 40 rfl (d := some 109) (p := .load 47 (.tmp 108)) (g := some (35, true)) rfl rfl rfl
                obtain ⟨o41, h41, d41, p41, g41⟩ := op_at5 hops 41 rfl (d := some 110) (p := .load 47 (.tmp 10)) (g := some (35, true)) rfl rfl rfl
                obtain ⟨o42, h42, d42, p42, g42⟩ := op_at5 hops 42 rfl (d := some 111) (p := .call { callee := .value (.func 43), args := #[(.tmp 109), (.tmp 110)], argTypes := #[47, 47] }) (g := some (35, true)) rfl rfl rfl
                obtain ⟨o43, h43, d43, p43, g43⟩ := op_at5 hops 43 rfl (d := some 112) (p := .unOp .not 4 (.tmp 111)) (g := some (35, true)) rfl rfl rfl
                obtain ⟨o44, h44, d44, p44, g44⟩ := op_at5 hops 44 rfl (d := some 113) (p := .pick (.tmp 104) (.tmp 112) (.const (.bool false))) (g := some (32, false)) rfl rfl rfl
                obtain ⟨o45, h45, d45, p45, g45⟩ := op_at5 hops 45 rfl (d := some 114) (p := .pick (.tmp 101) (.const (.bool true)) (.tmp 113)) (g := none) rfl rfl rfl
                refine wpAnyH_take (i := 0) (v := .pointer (some ⟨gx, 0, none⟩)) h0 HNS (by rw [hops]; kernel_rfl) (by rw [hops]; kernel_rfl) (fun _ _ _ h => h) (Or.inl ⟨(wanted_none g0), fun w' _ => by unfold execOp; rw [p0]; first | rfl | kernel_rfl⟩) hHeld ?_
                rw [d0]
                simp only [Act.put, List.setIfInBounds_toArray, List.set_cons_zero, List.set_cons_succ]
                refine wpAnyH_take (i := 1) (v := .int .i64 x.rf) h1 HNS (by rw [hops]; kernel_rfl) (by rw [hops]; kernel_rfl) (fun _ _ _ h => h) (Or.inl ⟨(wanted_none g1), fun w' h => run_op_load_cell 3 _ p1 gx 0 (by rfl) _ h.1 _ Tryd.underlying3 rfl⟩) hHeld ?_
                rw [d1]
                simp only [Act.put, List.setIfInBounds_toArray, List.set_cons_zero, List.set_cons_succ]
                refine wpAnyH_take (i := 2) (v := .bool false) h2 HNS (by rw [hops]; kernel_rfl) (by rw [hops]; kernel_rfl) (fun _ _ _ h => h) (Or.inl ⟨(wanted_none g2), fun w' _ => (show _ = Result.ok (.value (.bool (decide (x.rf < 0)))) w' from by unfold execOp; rw [p2]; first | rfl | kernel_rfl).trans (by rw [hd0])⟩) hHeld ?_
                rw [d2]
                simp only [Act.put, List.setIfInBounds_toArray, List.set_cons_zero, List.set_cons_succ]
                refine wpAnyH_take (i := 3) (v := .bool false) h3 HNS (by rw [hops]; kernel_rfl) (by rw [hops]; kernel_rfl) (fun _ _ _ h => h) (Or.inl ⟨(wanted_none g3), fun w' _ => by unfold execOp; rw [p3]; first | rfl | kernel_rfl⟩) hHeld ?_
                rw [d3]
                simp only [Act.put, List.setIfInBounds_toArray, List.set_cons_zero, List.set_cons_succ]
                refine wpAnyH_take (i := 4) (v := .pointer (some ⟨gx, 0, none⟩)) h4 HNS (by rw [hops]; kernel_rfl) (by rw [hops]; kernel_rfl) (fun _ _ _ h => h) (Or.inl ⟨(wanted_some g4 h3 d3 (by rfl)), fun w' _ => by unfold execOp; rw [p4]; first | rfl | kernel_rfl⟩) hHeld ?_
                rw [d4]
                simp only [Act.put, List.setIfInBounds_toArray, List.set_cons_zero, List.set_cons_succ]
                refine wpAnyH_take (i := 5) (v := .int .i64 x.rf) h5 HNS (by rw [hops]; kernel_rfl) (by rw [hops]; kernel_rfl) (fun _ _ _ h => h) (Or.inl ⟨(wanted_some g5 h3 d3 (by rfl)), fun w' h => run_op_load_cell 3 _ p5 gx 0 (by rfl) _ h.1 _ Tryd.underlying3 rfl⟩) hHeld ?_
                rw [d5]
                simp only [Act.put, List.setIfInBounds_toArray, List.set_cons_zero, List.set_cons_succ]
                refine wpAnyH_take (i := 6) (v := .slice Ac nc cc) h6 HNS (by rw [hops]; kernel_rfl) (by rw [hops]; kernel_rfl) (fun _ _ _ h => h) (Or.inl ⟨(wanted_some g6 h3 d3 (by rfl)), fun w' _ => by unfold execOp; rw [p6]; first | rfl | kernel_rfl⟩) hHeld ?_
                rw [d6]
                simp only [Act.put, List.setIfInBounds_toArray, List.set_cons_zero, List.set_cons_succ]
                refine wpAnyH_take (i := 7) (v := .int .i64 nc) h7 HNS (by rw [hops]; kernel_rfl) (by rw [hops]; kernel_rfl) (fun _ _ _ h => h) (Or.inl ⟨(wanted_some g7 h3 d3 (by rfl)), fun w' _ => by unfold execOp; rw [p7]; first | rfl | kernel_rfl⟩) hHeld ?_
                rw [d7]
                simp only [Act.put, List.setIfInBounds_toArray, List.set_cons_zero, List.set_cons_succ]
                refine wpAnyH_take (i := 8) (v := .bool false) h8 HNS (by rw [hops]; kernel_rfl) (by rw [hops]; kernel_rfl) (fun _ _ _ h => h) (Or.inl ⟨(wanted_some g8 h3 d3 (by rfl)), fun w' _ => (show _ = Result.ok (.value (.bool (decide ((nc : Int) ≤ x.rf)))) w' from by unfold execOp; rw [p8]; first | rfl | kernel_rfl).trans (by rw [hd1])⟩) hHeld ?_
                rw [d8]
                simp only [Act.put, List.setIfInBounds_toArray, List.set_cons_zero, List.set_cons_succ]
                refine wpAnyH_take (i := 9) (v := .bool false) h9 HNS (by rw [hops]; kernel_rfl) (by rw [hops]; kernel_rfl) (fun _ _ _ h => h) (Or.inl ⟨(wanted_none g9), fun w' _ => by unfold execOp; rw [p9]; first | rfl | kernel_rfl⟩) hHeld ?_
                rw [d9]
                simp only [Act.put, List.setIfInBounds_toArray, List.set_cons_zero, List.set_cons_succ]
                refine wpAnyH_take (i := 10) (v := .bool false) h10 HNS (by rw [hops]; kernel_rfl) (by rw [hops]; kernel_rfl) (fun _ _ _ h => h) (Or.inl ⟨(wanted_none g10), fun w' _ => by unfold execOp; rw [p10]; first | rfl | kernel_rfl⟩) hHeld ?_
                rw [d10]
                simp only [Act.put, List.setIfInBounds_toArray, List.set_cons_zero, List.set_cons_succ]
                refine wpAnyH_take (i := 11) (v := .pointer (some ⟨gx, 1, none⟩)) h11 HNS (by rw [hops]; kernel_rfl) (by rw [hops]; kernel_rfl) (fun _ _ _ h => h) (Or.inl ⟨(wanted_some g11 h10 d10 (by rfl)), fun w' _ => by unfold execOp; rw [p11]; first | rfl | kernel_rfl⟩) hHeld ?_
                rw [d11]
                simp only [Act.put, List.setIfInBounds_toArray, List.set_cons_zero, List.set_cons_succ]
                refine wpAnyH_take (i := 12) (v := .int .i64 x.no) h12 HNS (by rw [hops]; kernel_rfl) (by rw [hops]; kernel_rfl) (fun _ _ _ h => h) (Or.inl ⟨(wanted_some g12 h10 d10 (by rfl)), fun w' h => run_op_load_cell 3 _ p12 gx 1 (by rfl) _ h.2.1 _ Tryd.underlying3 rfl⟩) hHeld ?_
                rw [d12]
                simp only [Act.put, List.setIfInBounds_toArray, List.set_cons_zero, List.set_cons_succ]
                refine wpAnyH_take (i := 13) (v := .bool false) h13 HNS (by rw [hops]; kernel_rfl) (by rw [hops]; kernel_rfl) (fun _ _ _ h => h) (Or.inl ⟨(wanted_some g13 h10 d10 (by rfl)), fun w' _ => (show _ = Result.ok (.value (.bool (decide (x.no < 0)))) w' from by unfold execOp; rw [p13]; first | rfl | kernel_rfl).trans (by rw [hd2])⟩) hHeld ?_
                rw [d13]
                simp only [Act.put, List.setIfInBounds_toArray, List.set_cons_zero, List.set_cons_succ]
                refine wpAnyH_take (i := 14) (v := .bool false) h14 HNS (by rw [hops]; kernel_rfl) (by rw [hops]; kernel_rfl) (fun _ _ _ h => h) (Or.inl ⟨(wanted_none g14), fun w' _ => by unfold execOp; rw [p14]; first | rfl | kernel_rfl⟩) hHeld ?_
                rw [d14]
                simp only [Act.put, List.setIfInBounds_toArray, List.set_cons_zero, List.set_cons_succ]
                refine wpAnyH_take (i := 15) (v := .bool false) h15 HNS (by rw [hops]; kernel_rfl) (by rw [hops]; kernel_rfl) (fun _ _ _ h => h) (Or.inl ⟨(wanted_none g15), fun w' _ => by unfold execOp; rw [p15]; first | rfl | kernel_rfl⟩) hHeld ?_
                rw [d15]
                simp only [Act.put, List.setIfInBounds_toArray, List.set_cons_zero, List.set_cons_succ]
                refine wpAnyH_take (i := 16) (v := .pointer (some ⟨gx, 1, none⟩)) h16 HNS (by rw [hops]; kernel_rfl) (by rw [hops]; kernel_rfl) (fun _ _ _ h => h) (Or.inl ⟨(wanted_some g16 h15 d15 (by rfl)), fun w' _ => by unfold execOp; rw [p16]; first | rfl | kernel_rfl⟩) hHeld ?_
                rw [d16]
                simp only [Act.put, List.setIfInBounds_toArray, List.set_cons_zero, List.set_cons_succ]
                refine wpAnyH_take (i := 17) (v := .int .i64 x.no) h17 HNS (by rw [hops]; kernel_rfl) (by rw [hops]; kernel_rfl) (fun _ _ _ h => h) (Or.inl ⟨(wanted_some g17 h15 d15 (by rfl)), fun w' h => run_op_load_cell 3 _ p17 gx 1 (by rfl) _ h.2.1 _ Tryd.underlying3 rfl⟩) hHeld ?_
                rw [d17]
                simp only [Act.put, List.setIfInBounds_toArray, List.set_cons_zero, List.set_cons_succ]
                refine wpAnyH_take (i := 18) (v := .slice As ns cs) h18 HNS (by rw [hops]; kernel_rfl) (by rw [hops]; kernel_rfl) (fun _ _ _ h => h) (Or.inl ⟨(wanted_some g18 h15 d15 (by rfl)), fun w' _ => by unfold execOp; rw [p18]; first | rfl | kernel_rfl⟩) hHeld ?_
                rw [d18]
                simp only [Act.put, List.setIfInBounds_toArray, List.set_cons_zero, List.set_cons_succ]
                refine wpAnyH_take (i := 19) (v := .int .i64 ns) h19 HNS (by rw [hops]; kernel_rfl) (by rw [hops]; kernel_rfl) (fun _ _ _ h => h) (Or.inl ⟨(wanted_some g19 h15 d15 (by rfl)), fun w' _ => by unfold execOp; rw [p19]; first | rfl | kernel_rfl⟩) hHeld ?_
                rw [d19]
                simp only [Act.put, List.setIfInBounds_toArray, List.set_cons_zero, List.set_cons_succ]
                refine wpAnyH_take (i := 20) (v := .bool false) h20 HNS (by rw [hops]; kernel_rfl) (by rw [hops]; kernel_rfl) (fun _ _ _ h => h) (Or.inl ⟨(wanted_some g20 h15 d15 (by rfl)), fun w' _ => (show _ = Result.ok (.value (.bool (decide ((ns : Int) ≤ x.no)))) w' from by unfold execOp; rw [p20]; first | rfl | kernel_rfl).trans (by rw [hd3])⟩) hHeld ?_
                rw [d20]
                simp only [Act.put, List.setIfInBounds_toArray, List.set_cons_zero, List.set_cons_succ]
                refine wpAnyH_take (i := 21) (v := .bool false) h21 HNS (by rw [hops]; kernel_rfl) (by rw [hops]; kernel_rfl) (fun _ _ _ h => h) (Or.inl ⟨(wanted_none g21), fun w' _ => by unfold execOp; rw [p21]; first | rfl | kernel_rfl⟩) hHeld ?_
                rw [d21]
                simp only [Act.put, List.setIfInBounds_toArray, List.set_cons_zero, List.set_cons_succ]
                refine wpAnyH_take (i := 22) (v := .bool false) h22 HNS (by rw [hops]; kernel_rfl) (by rw [hops]; kernel_rfl) (fun _ _ _ h => h) (Or.inl ⟨(wanted_none g22), fun w' _ => by unfold execOp; rw [p22]; first | rfl | kernel_rfl⟩) hHeld ?_
                rw [d22]
                simp only [Act.put, List.setIfInBounds_toArray, List.set_cons_zero, List.set_cons_succ]
                refine wpAnyH_take (i := 23) (v := .pointer (some ⟨gx, 2, none⟩)) h23 HNS (by rw [hops]; kernel_rfl) (by rw [hops]; kernel_rfl) (fun _ _ _ h => h) (Or.inl ⟨(wanted_some g23 h22 d22 (by rfl)), fun w' _ => by unfold execOp; rw [p23]; first | rfl | kernel_rfl⟩) hHeld ?_
                rw [d23]
                simp only [Act.put, List.setIfInBounds_toArray, List.set_cons_zero, List.set_cons_succ]
                refine wpAnyH_take (i := 24) (v := .int .i64 x.st) h24 HNS (by rw [hops]; kernel_rfl) (by rw [hops]; kernel_rfl) (fun _ _ _ h => h) (Or.inl ⟨(wanted_some g24 h22 d22 (by rfl)), fun w' h => run_op_load_cell 3 _ p24 gx 2 (by rfl) _ h.2.2.1 _ Tryd.underlying3 rfl⟩) hHeld ?_
                rw [d24]
                simp only [Act.put, List.setIfInBounds_toArray, List.set_cons_zero, List.set_cons_succ]
                refine wpAnyH_take (i := 25) (v := .bool false) h25 HNS (by rw [hops]; kernel_rfl) (by rw [hops]; kernel_rfl) (fun _ _ _ h => h) (Or.inl ⟨(wanted_some g25 h22 d22 (by rfl)), fun w' _ => (show _ = Result.ok (.value (.bool (decide (x.st < 0)))) w' from by unfold execOp; rw [p25]; first | rfl | kernel_rfl).trans (by rw [hd4])⟩) hHeld ?_
                rw [d25]
                simp only [Act.put, List.setIfInBounds_toArray, List.set_cons_zero, List.set_cons_succ]
                refine wpAnyH_take (i := 26) (v := .bool false) h26 HNS (by rw [hops]; kernel_rfl) (by rw [hops]; kernel_rfl) (fun _ _ _ h => h) (Or.inl ⟨(wanted_none g26), fun w' _ => by unfold execOp; rw [p26]; first | rfl | kernel_rfl⟩) hHeld ?_
                rw [d26]
                simp only [Act.put, List.setIfInBounds_toArray, List.set_cons_zero, List.set_cons_succ]
                refine wpAnyH_take (i := 27) (v := .bool false) h27 HNS (by rw [hops]; kernel_rfl) (by rw [hops]; kernel_rfl) (fun _ _ _ h => h) (Or.inl ⟨(wanted_none g27), fun w' _ => by unfold execOp; rw [p27]; first | rfl | kernel_rfl⟩) hHeld ?_
                rw [d27]
                simp only [Act.put, List.setIfInBounds_toArray, List.set_cons_zero, List.set_cons_succ]
                refine wpAnyH_take (i := 28) (v := .pointer (some ⟨gx, 2, none⟩)) h28 HNS (by rw [hops]; kernel_rfl) (by rw [hops]; kernel_rfl) (fun _ _ _ h => h) (Or.inl ⟨(wanted_some g28 h27 d27 (by rfl)), fun w' _ => by unfold execOp; rw [p28]; first | rfl | kernel_rfl⟩) hHeld ?_
                rw [d28]
                simp only [Act.put, List.setIfInBounds_toArray, List.set_cons_zero, List.set_cons_succ]
                refine wpAnyH_take (i := 29) (v := .int .i64 x.st) h29 HNS (by rw [hops]; kernel_rfl) (by rw [hops]; kernel_rfl) (fun _ _ _ h => h) (Or.inl ⟨(wanted_some g29 h27 d27 (by rfl)), fun w' h => run_op_load_cell 3 _ p29 gx 2 (by rfl) _ h.2.2.1 _ Tryd.underlying3 rfl⟩) hHeld ?_
                rw [d29]
                simp only [Act.put, List.setIfInBounds_toArray, List.set_cons_zero, List.set_cons_succ]
                refine wpAnyH_take (i := 30) (v := .bool false) h30 HNS (by rw [hops]; kernel_rfl) (by rw [hops]; kernel_rfl) (fun _ _ _ h => h) (Or.inl ⟨(wanted_some g30 h27 d27 (by rfl)), fun w' _ => (show _ = Result.ok (.value (.bool (decide (1048576 < x.st)))) w' from by unfold execOp; rw [p30]; first | rfl | kernel_rfl).trans (by rw [hd5])⟩) hHeld ?_
                rw [d30]
                simp only [Act.put, List.setIfInBounds_toArray, List.set_cons_zero, List.set_cons_succ]
                refine wpAnyH_take (i := 31) (v := .bool false) h31 HNS (by rw [hops]; kernel_rfl) (by rw [hops]; kernel_rfl) (fun _ _ _ h => h) (Or.inl ⟨(wanted_none g31), fun w' _ => by unfold execOp; rw [p31]; first | rfl | kernel_rfl⟩) hHeld ?_
                rw [d31]
                simp only [Act.put, List.setIfInBounds_toArray, List.set_cons_zero, List.set_cons_succ]
                refine wpAnyH_take (i := 32) (v := .bool false) h32 HNS (by rw [hops]; kernel_rfl) (by rw [hops]; kernel_rfl) (fun _ _ _ h => h) (Or.inl ⟨(wanted_none g32), fun w' _ => by unfold execOp; rw [p32]; first | rfl | kernel_rfl⟩) hHeld ?_
                rw [d32]
                simp only [Act.put, List.setIfInBounds_toArray, List.set_cons_zero, List.set_cons_succ]
                refine wpAnyH_take (i := 33) (v := .int .i64 k) h33 HNS (by rw [hops]; kernel_rfl) (by rw [hops]; kernel_rfl) (fun _ _ _ h => h) (Or.inl ⟨(wanted_some g33 h32 d32 (by rfl)), fun w' _ => by unfold execOp; rw [p33]; first | rfl | kernel_rfl⟩) hHeld ?_
                rw [d33]
                simp only [Act.put, List.setIfInBounds_toArray, List.set_cons_zero, List.set_cons_succ]
                refine wpAnyH_take (i := 34) (v := .bool true) h34 HNS (by rw [hops]; kernel_rfl) (by rw [hops]; kernel_rfl) (fun _ _ _ h => h) (Or.inl ⟨(wanted_some g34 h32 d32 (by rfl)), fun w' _ => (show _ = Result.ok (.value (.bool (decide ((0 : Int) < (k : Int))))) w' from by unfold execOp; rw [p34]; first | rfl | kernel_rfl).trans (by rw [hdk])⟩) hHeld ?_
                rw [d34]
                simp only [Act.put, List.setIfInBounds_toArray, List.set_cons_zero, List.set_cons_succ]
                refine wpAnyH_take (i := 35) (v := .bool true) h35 HNS (by rw [hops]; kernel_rfl) (by rw [hops]; kernel_rfl) (fun _ _ _ h => h) (Or.inl ⟨(wanted_some g35 h32 d32 (by rfl)), fun w' _ => by unfold execOp; rw [p35]; first | rfl | kernel_rfl⟩) hHeld ?_
                rw [d35]
                simp only [Act.put, List.setIfInBounds_toArray, List.set_cons_zero, List.set_cons_succ]
                refine wpAnyH_take (i := 36) (v := .slice (some ⟨bl, ol, none⟩) nl cl) h36 HNS (by rw [hops]; kernel_rfl) (by rw [hops]; kernel_rfl) (fun _ _ _ h => h) (Or.inl ⟨(wanted_some g36 h35 d35 (by rfl)), fun w' _ => by unfold execOp; rw [p36]; first | rfl | kernel_rfl⟩) hHeld ?_
                rw [d36]
                simp only [Act.put, List.setIfInBounds_toArray, List.set_cons_zero, List.set_cons_succ]
                refine wpAnyH_take (i := 37) (v := .int .i64 k) h37 HNS (by rw [hops]; kernel_rfl) (by rw [hops]; kernel_rfl) (fun _ _ _ h => h) (Or.inl ⟨(wanted_some g37 h35 d35 (by rfl)), fun w' _ => by unfold execOp; rw [p37]; first | rfl | kernel_rfl⟩) hHeld ?_
                rw [d37]
                simp only [Act.put, List.setIfInBounds_toArray, List.set_cons_zero, List.set_cons_succ]
                refine wpAnyH_take (i := 38) (v := .int .i64 ((k - 1 : Nat) : Int)) h38 HNS (by rw [hops]; kernel_rfl) (by rw [hops]; kernel_rfl) (fun _ _ _ h => h) (Or.inl ⟨(wanted_some g38 h35 d35 (by rfl)), fun w' _ => (show _ = Result.ok (.value (.int .i64 (IntKind.i64.wrap ((k : Int) - 1)))) w' from by unfold execOp; rw [p38]; first | rfl | kernel_rfl).trans (by rw [HK1.out])⟩) hHeld ?_
                rw [d38]
                simp only [Act.put, List.setIfInBounds_toArray, List.set_cons_zero, List.set_cons_succ]
                refine wpAnyH_take (i := 39) (v := .pointer (some ⟨bl, ol + (k - 1) * 35, none⟩)) h39 HNS (by rw [hops]; kernel_rfl) (by rw [hops]; kernel_rfl) (fun _ _ _ h => h) (Or.inl ⟨(wanted_some g39 h35 d35 (by rfl)), fun w' _ => run_op_index_mid 24 _ _ p39 bl ol nl cl (k - 1) (by rfl) (by rfl) HKL.out 47 35 Tryd.underlying24 HS24.out⟩) hHeld ?_
                rw [d39]
                simp only [Act.put, List.setIfInBounds_toArray, List.set_cons_zero, List.set_cons_succ]
                refine wpAnyH_take (i := 40) (v := .agg y.cells.toArray) h40 HNS (by rw [hops]; kernel_rfl) (by rw [hops]; kernel_rfl) (fun _ _ _ h => h) (Or.inl ⟨(wanted_some g40 h35 d35 (by rfl)), fun w' h => run_op_load_mid 47 _ p40 bl (ol + (k - 1) * 35) (by rfl) y.cells _ h.2.2.2.1 Tryd.underlying47 rfl HI47y.out⟩) hHeld ?_
                rw [d40]
                simp only [Act.put, List.setIfInBounds_toArray, List.set_cons_zero, List.set_cons_succ]
                refine wpAnyH_take (i := 41) (v := .agg x.cells.toArray) h41 HNS (by rw [hops]; kernel_rfl) (by rw [hops]; kernel_rfl) (fun _ _ _ h => h) (Or.inl ⟨(wanted_some g41 h35 d35 (by rfl)), fun w' h => run_op_load_mid 47 _ p41 gx 0 (by rfl) x.cells _ h.2.2.2.2.1 Tryd.underlying47 rfl HI47.out⟩) hHeld ?_
                rw [d41]
                simp only [Act.put, List.setIfInBounds_toArray, List.set_cons_zero, List.set_cons_succ]
                refine wpAnyH_ready (rs := [42]) (by rw [hops]; kernel_rfl) (by simp) ?_
                refine AllReadyH.cons h42 (fun K hK => ?_) AllReadyH.nil
                rw [if_pos (wanted_some g42 h35 d35 (by rfl))]
                refine wp_call2 43 _ _ _ (.agg y.cells.toArray) (.agg x.cells.toArray) p42 HEAF.out (by rfl) (by rfl) ?_
                ((refine (Rc.rafter_any y x _ HY32.out HD32.out).mono ?_); rintro e w9 ⟨rfl, hb⟩)
                refine ⟨_, rfl, ?_⟩
                have s9 : Below W2.heap.size W2 w9 := s0.trans (hb.mono s0.size)
                clear hb
                rw [d42]
                simp only [Act.put, List.setIfInBounds_toArray, List.set_cons_zero, List.set_cons_succ]
                refine hK.out _ _ (KP.out _ s9) (fun hHeld => ?_)
                clear hK K
                generalize Rc.late y x = lt at HBB ⊢
                refine wpAnyH_take (i := 43) (v := .bool lt) h43 HNS (by rw [hops]; kernel_rfl) (by rw [hops]; kernel_rfl) (fun _ _ _ h => h) (Or.inl ⟨(wanted_some g43 h35 d35 (by rfl)), fun w' _ => (show _ = Result.ok (.value (.bool (!!lt))) w' from by unfold execOp; rw [p43]; first | rfl | kernel_rfl).trans (by rw [Bool.not_not])⟩) hHeld ?_
                rw [d43]
                simp only [Act.put, List.setIfInBounds_toArray, List.set_cons_zero, List.set_cons_succ]
                refine wpAnyH_take (i := 44) (v := .bool lt) h44 HNS (by rw [hops]; kernel_rfl) (by rw [hops]; kernel_rfl) (fun _ _ _ h => h) (Or.inl ⟨(wanted_some g44 h32 d32 (by rfl)), fun w' _ => by unfold execOp; rw [p44]; first | rfl | kernel_rfl⟩) hHeld ?_
                rw [d44]
                simp only [Act.put, List.setIfInBounds_toArray, List.set_cons_zero, List.set_cons_succ]
                refine wpAnyH_take (i := 45) (v := .bool lt) h45 HNS (by rw [hops]; kernel_rfl) (by rw [hops]; kernel_rfl) (fun _ _ _ h => h) (Or.inl ⟨(wanted_none g45), fun w' _ => by unfold execOp; rw [p45]; first | rfl | kernel_rfl⟩) hHeld ?_
                rw [d45]
                simp only [Act.put, List.setIfInBounds_toArray, List.set_cons_zero, List.set_cons_succ]
                refine wpAnyH_done (by rw [hops]; kernel_rfl) (NoPanic.normal ?_) _
                have HB9 := Lib.hid (HB2.out.trans (s9.mono HB2.out.size))
                have HX9 := Lib.hid (HX2m.out.keep s9)
                clear HNS KP s0 s9 hHeld hops HEAF h0 d0 p0 g0 h1 d1 p1 g1 h2 d2 p2 g2 h3 d3 p3 g3 h4 d4 p4 g4 h5 d5 p5 g5 h6 d6 p6 g6 h7 d7 p7 g7 h8 d8 p8 g8 h9 d9 p9 g9 h10 d10 p10 g10 h11 d11 p11 g11 h12 d12 p12 g12 h13 d13 p13 g13 h14 d14 p14 g14 h15 d15 p15 g15 h16 d16 p16 g16 h17 d17 p17 g17 h18 d18 p18 g18 h19 d19 p19 g19 h20 d20 p20 g20 h21 d21 p21 g21 h22 d22 p22 g22 h23 d23 p23 g23 h24 d24 p24 g24 h25 d25 p25 g25 h26 d26 p26 g26 h27 d27 p27 g27 h28 d28 p28 g28 h29 d29 p29 g29 h30 d30 p30 g30 h31 d31 p31 g31 h32 d32 p32 g32 h33 d33 p33 g33 h34 d34 p34 g34 h35 d35 p35 g35 h36 d36 p36 g36 h37 d37 p37 g37 h38 d38 p38 g38 h39 d39 p39 g39 h40 d40 p40 g40 h41 d41 p41 g41 h42 d42 p42 g42 h43 d43 p43 g43 h44 d44 p44 g44 h45 d45 p45 g45
                cases lt with
                | true =>
                  have HE := Lib.hid (HA.out (by rw [HBB.out]; rfl))
                  go_wp2_with fail
                  go_ret
                  exact ⟨by rw [HE.out]; rfl, HB9.out⟩
                | false =>
                  rw [Bool.false_or] at HBB
                  clear x0 x1 x2
                  have hne : x.no = ((x.no.toNat : Nat) : Int) := by omega
                  obtain ⟨s, hs⟩ : ∃ s, subs[x.no.toNat]? = some s := ⟨_, List.getElem?_eq_getElem (by have := HSL.out; omega)⟩
                  have hodd := Rc.w3_no hs (Rc.pre_no _ _ HP3.out x.no.toNat (by omega))
                  have HE := Lib.hid (show bad = !(s.dl Rc.K0 Rc.I0 == x.dg) from by rw [HBB.out, hs]; show (s.odd || !(s.dl Rc.K0 Rc.I0 == x.dg)) = _; rw [hodd]; rfl)
                  obtain ⟨bs, os, Ag, cg, rfl, hbs, s0, s1, s2, s3, hrg, hmg⟩ := (HEV.out.s.keep HB9.out).get x.no.toNat s hs
                  have HDI := Lib.hid (Rc.rdigest_any s.no s.comp s.puz Ag s.grid.length cg s.grid w9 (hrg.more HB9.out.size) hmg)
                  rw [Rc.Sb.dv_eq, show Rc.de s.no s.comp s.puz s.grid = s.de from rfl] at HDI
                  obtain ⟨D, hD⟩ : ∃ D, ((s.dl Rc.K0 Rc.I0).map Dg.b8).toArray = D := ⟨_, rfl⟩
                  have hEQ := Rc.eq31 (s.dl Rc.K0 Rc.I0) x.dg (s.dl_len Rc.K0 Rc.I0) HD32.out
                  have hds : D.size = 32 := by rw [← hD]; simp [Rc.Sb.dl_len]
                  have h1d : D.all (·.oneCell') = true := by rw [← hD]; exact all_oneCell_toArray (one_bytes _)
                  rw [hD] at HDI hEQ
                  have HEQ := Lib.hid hEQ
                  have HDS := Lib.hid hds
                  have H1D := Lib.hid h1d
                  have HI31 := Lib.hid (show (Tryd.prog.info? 31).map (·.size) = some D.size from by rw [hds]; exact Rc.info31)
                  have HZD := Lib.hid (show Dg.z32.toArray.size = D.size from by rw [hds]; rfl)
                  generalize x.no.toNat = nn at hne s0 s1 s2 s3
                  have x1 : w9.cell? ⟨gx, 1, none⟩ = some (Rc.i x.no) := HX9.out.cell 1
                  rw [hne] at x1
                  have hnn : nn < ns := by omega
                  clear hrg hmg hs hD hEQ hds h1d hne hn0 hn1 hn2 hn3 hn4 hn5 hodd
                  go_wp2_with fail
                  ((with_reducible refine HDI.out.mono ?_); rintro e w5 ⟨rfl, hb5⟩)
                  have HX5 := Lib.hid (HX9.out.keep hb5)
                  have HB5 := Lib.hid (HB9.out.trans (hb5.mono HB9.out.size))
                  have HN5 := Lib.hid (show (w5.alloc (.cells Dg.z32.toArray 31)).heap[w5.heap.size]? = some (.cells Dg.z32.toArray 31 (0, 0)) from World.alloc_heap_new _ _)
                  clear hb5 x1 s0 s1 s2 s3 hbs
                  go_upto_region 20 with (first | (refine wpList_store_row (o := ⟨none, .store 31 (.tmp 11) (.tmp 122), _, _, _, _⟩) rfl 31 (.tmp 11) (.tmp 122) rfl w5.heap.size D rfl rfl 31 Dg.z32.toArray HN5.out HI31.out HZD.out H1D.out ?_))
                  obtain ⟨W6, hW6⟩ : ∃ W6, W6 = (w5.alloc (.cells Dg.z32.toArray 31)).setRow w5.heap.size D := ⟨_, rfl⟩
                  change Code.wp _ _ _ _ ((w5.alloc (.cells Dg.z32.toArray 31)).setRow w5.heap.size D)
                  have hD6 : W6.heap[w5.heap.size]? = some (.cells D 31 (0, 0)) := by rw [hW6]; exact setRow_heap _ w5.heap.size _ D 31 (0, 0) HN5.out
                  have hB56 : Below w5.heap.size w5 W6 := by rw [hW6]; exact Rc.alloc_set w5 _ _ _ rfl
                  have HX6 := Lib.hid (HX5.out.keep hB56)
                  have HB6 := Lib.hid (HB5.out.trans (hB56.mono HB5.out.size))
                  have HRD := Lib.hid (show W6.rangeAt w5.heap.size 0 D.toList from fun j v hj => by rw [cell_of_row W6 w5.heap.size (0 + j) D 31 (0, 0) hD6, Nat.zero_add]; simpa using hj)
                  have HRX6 := Lib.hid (show W6.rangeAt gx 3 (x.dg.map Dg.b8) from fun j v hj => by rw [HX6.out.cell]; unfold Rc.R.cells; rw [show 3 + j = j + 1 + 1 + 1 by omega, List.getElem?_cons_succ, List.getElem?_cons_succ, List.getElem?_cons_succ]; exact hj)
                  rw [← hW6]
                  clear hW6 hD6 hB56
                  have hEQ := HEQ.out
                  have hEG := Rc.eqg
                  have HID1 := Lib.hid (show (Tryd.prog.info? 31).map (·.size) = some D.toList.length from by rw [Array.length_toList]; exact HI31.out)
                  have HID2 := Lib.hid (show (Tryd.prog.info? 31).map (·.size) = some (x.dg.map Dg.b8).length from by rw [List.length_map, HD32.out]; exact Rc.info31)
                  obtain ⟨X, hX⟩ : ∃ X, (x.dg.map Dg.b8).toArray = X := ⟨_, rfl⟩
                  have HXX := Lib.hid hX
                  generalize (s.dl Rc.K0 Rc.I0 == x.dg) = q at hEQ HE
                  rw [hX] at hEQ
                  clear HEQ hX
                  cases q with
                  | true =>
                    have HX3 := Lib.hid (HX2.out (by rw [HE.out]; rfl))
                    go_wp2_with (first
                      | ((with_reducible refine wpList_load_mid rfl 31 (.tmp 11) rfl w5.heap.size 0 rfl D.toList _ HRD.out Tryd.underlying31 rfl HID1.out ?_); rw [Array.toArray_toList])
                      | ((with_reducible refine wpList_load_mid rfl 31 (.tmp 125) rfl gx 3 rfl (x.dg.map Dg.b8) _ HRX6.out Tryd.underlying31 rfl HID2.out ?_); rw [HXX.out]))
                    exact ⟨⟨k + 1, by omega, by go_num, HX3.out, HB6.out⟩, by simp [intOf]; omega⟩
                  | false =>
                    have HE2 := Lib.hid (HA.out (by rw [HE.out]; rfl))
                    go_wp2_with (first
                      | ((with_reducible refine wpList_load_mid rfl 31 (.tmp 11) rfl w5.heap.size 0 rfl D.toList _ HRD.out Tryd.underlying31 rfl HID1.out ?_); rw [Array.toArray_toList])
                      | ((with_reducible refine wpList_load_mid rfl 31 (.tmp 125) rfl gx 3 rfl (x.dg.map Dg.b8) _ HRX6.out Tryd.underlying31 rfl HID2.out ?_); rw [HXX.out]))
                    go_ret
                    exact ⟨by rw [HE2.out]; rfl, HB6.out⟩
            · have hkn : k = nl := by omega
              have HE := Lib.hid (HNO.out (by have h := HX.out; rw [hkn] at h; rw [HW3.out, h]))
              clear HX
              go_wp2_with fail
              go_ret
              exact ⟨by rw [HE.out]; rfl, HB.out⟩
end Go.Proofs.YtnbbleajbbgmjaaDoor
