import Derived.Deep.Cut
import Derived.Test.YtnbbleajbbgmjaaDoorMOpSl
import Derived.Test.YtnbbleajbbgmjaaDoorMRcS1
import Derived.Test.YtnbbleajbbgmjaaDoorMRcR6v
import Derived.Test.YtnbbleajbbgmjaaDoorMRcR1
import Derived.Test.YtnbbleajbbgmjaaDoorMRcT1
/- ReceiptsFewer: the walk. -/
namespace Go.Proofs.YtnbbleajbbgmjaaDoor
open Go.RowKit
set_option linter.unusedVariables false

theorem Rc.elR : EltOk Tryd.prog 24 47 (.agg Rc.z35.toArray) 35 56 := ⟨Tryd.underlying24, by kernel_rfl, rfl, by decide⟩
theorem Rc.cells_ones (l : List Rc.R) : ∀ u ∈ (l.map Rc.R.cells).flatten, u.oneCell' = true := fun u hu => by
  obtain ⟨xs, hx, h⟩ := List.mem_flatten.1 hu
  obtain ⟨q, _, rfl⟩ := List.mem_map.1 hx
  exact q.cells_one u h
/-- where i is: at modulo the number of receipts -/
theorem Rc.at_mod (wat : Int) (nl : Nat) (h0 : 0 < nl) (h1 : nl ≤ 10) : ∃ i : Nat, i < nl ∧ wrap64 ((IntKind.u64.wrap wat).tmod (nl : Int)) = (i : Int) := by
  have hu : 0 ≤ IntKind.u64.wrap wat := by rw [IntKind.wrap_u64]; omega
  have h2 : (IntKind.u64.wrap wat).tmod (nl : Int) = (IntKind.u64.wrap wat) % (nl : Int) := Int.tmod_eq_emod_of_nonneg hu
  have h3 : 0 ≤ (IntKind.u64.wrap wat) % (nl : Int) := Int.emod_nonneg _ (by omega)
  have h4 : (IntKind.u64.wrap wat) % (nl : Int) < (nl : Int) := Int.emod_lt_of_pos _ (by omega)
  rw [h2]
  generalize (IntKind.u64.wrap wat) % (nl : Int) = r at h3 h4
  refine ⟨r.toNat, by omega, ?_⟩
  unfold wrap64
  omega

set_option maxRecDepth 100000 in
set_option maxHeartbeats 16000000 in
theorem Rc.fewer_law (hsn : ∀ W, Dg.G W Rc.K0 Rc.I0 → Calls Tryd.prog 10 #[] W fun e w' => e = .returned (.bool true) ∧ Below W.heap.size W w')
    (Ac As Al : Option Addr) (nc cc ns cs nl cl : Nat) (c : List Rc.C) (subs : List Rc.Sb) (l : List Rc.R) (no wat : Int) (w : World) (hE : Rc.Ev w w.heap.size Ac As Al nc ns nl c subs l) (hG : Dg.G w Rc.K0 Rc.I0) (hcap : nl ≤ cl ∧ cl ≤ maxLen) :
    Calls Tryd.prog 5 #[.slice Ac nc cc, .slice As ns cs, .slice Al nl cl, Rc.i no, Rc.i wat] w fun e w' => e = .returned (.bool true) ∧ Below w.heap.size w w' := by
  have HSN := Lib.hid (fun W (hb : Below w.heap.size w W) => hsn W (hG.keep hb))
  have HFW := Lib.hid (fun W (hb : Below w.heap.size w W) => Rc.rfew_any Ac As Al nc cc ns cs nl cl subs W (hE.s.keep hb |>.more hb.size) hE.mc hE.ms hE.ml)
  have HRC := Lib.hid (fun W (hb : Below w.heap.size w W) => Rc.rcheck_any Ac As Al nc cc ns cs nl cl c subs l W ((hE.keep hb).more hb.size))
  have HWN := Lib.hid (fun W (hb : Below w.heap.size w W) => Rc.when_any Ac As Al nc cc ns cs nl cl c subs l no Rc.K0 Rc.I0 W ((hE.keep hb).more hb.size) (hG.keep hb))
  have HCF := Lib.hid (fun W (hb : Below w.heap.size w W) => Rc.conf_any Ac As Al nc cc ns cs nl cl c subs l no Rc.K0 Rc.I0 W ((hE.keep hb).more hb.size) (hG.keep hb))
  have HEV := Lib.hid hE
  have hll := hE.l.len
  have hcl := hE.c.len
  have hnl := hE.ml
  have hncl := hE.mc
  have hnsl := hE.ms
  unfold maxLen at hnl hncl hnsl
  obtain ⟨hcap1, hcap2⟩ := hcap
  unfold maxLen at hcap2
  have HGG := Lib.hid hG
  have hEE : Rc.chkE Rc.K0 Rc.I0 c subs l = 0 ∨ Rc.chkE Rc.K0 Rc.I0 c subs l = 510 := Rc.chk_ok
  generalize hEC : Rc.chkE Rc.K0 Rc.I0 c subs l = E at HRC HWN HCF hEE
  have HEC := Lib.hid hEC
  have HNF := Lib.hid (show Rc.few nc ns nl subs = true → nl ≤ 10 from fun h => by unfold Rc.few at h; simp only [Bool.and_eq_true, decide_eq_true_eq] at h; exact h.2.2.2)
  generalize Rc.few nc ns nl subs = fw at HFW HNF
  clear hE hG hsn hEC
  cases fw with
  | false =>
    go_enter Tryd.func5, Tryd.ntmps5
    go_wp2_with fail
    ((with_reducible refine (HSN.out _ (Below.refl _ _)).mono ?_); rintro e w2 ⟨rfl, hb⟩)
    have HB2 := Lib.hid hb
    clear hb
    go_wp2_with fail
    ((with_reducible refine (HFW.out _ HB2.out).mono ?_); rintro e w3 ⟨rfl, hb⟩)
    have HB3 := Lib.hid (HB2.out.trans (hb.mono HB2.out.size))
    clear hb
    go_wp2_with fail
    go_ret
    exact ⟨rfl, HB3.out⟩
  | true =>
    rcases hEE with rfl | rfl
    · by_cases ha : no < 0
      · have da : decide (no < 0) = true := decide_eq_true ha
        clear ha
        go_enter Tryd.func5, Tryd.ntmps5
        go_wp2_with fail
        ((with_reducible refine (HSN.out _ (Below.refl _ _)).mono ?_); rintro e w2 ⟨rfl, hb⟩)
        have HB2 := Lib.hid hb
        clear hb
        go_wp2_with fail
        ((with_reducible refine (HFW.out _ HB2.out).mono ?_); rintro e w3 ⟨rfl, hb⟩)
        have HB3 := Lib.hid (HB2.out.trans (hb.mono HB2.out.size))
        clear hb
        go_wp2_with fail
        ((with_reducible refine (HRC.out _ HB3.out).mono ?_); rintro e w4 ⟨rfl, hb⟩)
        have HB4 := Lib.hid (HB3.out.trans (hb.mono HB3.out.size))
        clear hb
        go_wp2_with fail
        go_ret
        exact ⟨rfl, HB4.out⟩
      have da : decide (no < 0) = false := decide_eq_false ha
      by_cases hb : (ns : Int) ≤ no
      · have db : decide ((ns : Int) ≤ no) = true := decide_eq_true hb
        clear hb
        go_enter Tryd.func5, Tryd.ntmps5
        go_wp2_with fail
        ((with_reducible refine (HSN.out _ (Below.refl _ _)).mono ?_); rintro e w2 ⟨rfl, hb⟩)
        have HB2 := Lib.hid hb
        clear hb
        go_wp2_with fail
        ((with_reducible refine (HFW.out _ HB2.out).mono ?_); rintro e w3 ⟨rfl, hb⟩)
        have HB3 := Lib.hid (HB2.out.trans (hb.mono HB2.out.size))
        clear hb
        go_wp2_with fail
        ((with_reducible refine (HRC.out _ HB3.out).mono ?_); rintro e w4 ⟨rfl, hb⟩)
        have HB4 := Lib.hid (HB3.out.trans (hb.mono HB3.out.size))
        clear hb
        go_wp2_with fail
        go_ret
        exact ⟨rfl, HB4.out⟩
      have db : decide ((ns : Int) ≤ no) = false := decide_eq_false hb
      by_cases hc : nl = 0
      · have dc : ((nl : Int) == 0) = true := by simp [hc]
        clear hc
        go_enter Tryd.func5, Tryd.ntmps5
        go_wp2_with fail
        ((with_reducible refine (HSN.out _ (Below.refl _ _)).mono ?_); rintro e w2 ⟨rfl, hb⟩)
        have HB2 := Lib.hid hb
        clear hb
        go_wp2_with fail
        ((with_reducible refine (HFW.out _ HB2.out).mono ?_); rintro e w3 ⟨rfl, hb⟩)
        have HB3 := Lib.hid (HB2.out.trans (hb.mono HB2.out.size))
        clear hb
        go_wp2_with fail
        ((with_reducible refine (HRC.out _ HB3.out).mono ?_); rintro e w4 ⟨rfl, hb⟩)
        have HB4 := Lib.hid (HB3.out.trans (hb.mono HB3.out.size))
        clear hb
        go_wp2_with fail
        go_ret
        exact ⟨rfl, HB4.out⟩
      have dc : ((nl : Int) == 0) = false := by simp [hc]
      go_enter Tryd.func5, Tryd.ntmps5
      go_wp2_with fail
      ((with_reducible refine (HSN.out _ (Below.refl _ _)).mono ?_); rintro e w2 ⟨rfl, hb⟩)
      have HB2 := Lib.hid hb
      clear hb
      go_wp2_with fail
      ((with_reducible refine (HFW.out _ HB2.out).mono ?_); rintro e w3 ⟨rfl, hb⟩)
      have HB3 := Lib.hid (HB2.out.trans (hb.mono HB2.out.size))
      clear hb
      go_wp2_with fail
      ((with_reducible refine (HRC.out _ HB3.out).mono ?_); rintro e w4 ⟨rfl, hb⟩)
      have HB4 := Lib.hid (HB3.out.trans (hb.mono HB3.out.size))
      clear hb
      have hnl10 := HNF.out (by first | rfl | trivial)
      obtain ⟨i, hil, hai⟩ := Rc.at_mod wat nl (by omega) hnl10
      obtain ⟨x, hx⟩ : ∃ x, l[i]? = some x := ⟨_, List.getElem?_eq_getElem (by omega)⟩
      obtain ⟨_, bl, ol, rfl, hbl, _⟩ := HEV.out.l.get i x hx
      have HAI := Lib.hid hai
      have HGx := Lib.hid hx
      have hib : (i : Int) < (nl : Int) := by omega
      have hib0 : (0 : Int) ≤ (i : Int) := by omega
      have HIC := Lib.hid (show i ≤ cl by omega)
      have HIN := Lib.hid (show i + 1 ≤ nl by omega)
      have HNC := Lib.hid hcap1
      have HS24 := Lib.hid Rc.info47
      have HI1 := Lib.hid (show IntKind.i64.wrap ((i : Int) + 1) = ((i + 1 : Nat) : Int) from (IntWalk.i64_in _ (by omega)).trans (by omega))
      obtain ⟨A2, hA2⟩ : ∃ A2 : Option Addr, some (if cl = i + 1 then (⟨bl, ol, none⟩ : Addr) else (⟨bl, ol, none⟩ : Addr).add ((i + 1) * 35)) = A2 := ⟨_, rfl⟩
      have HA2 := Lib.hid hA2
      have HAN := Lib.hid (show A2 = none → cl - (i + 1) = 0 from fun e => by rw [← hA2] at e; cases e)
      have HRE := Lib.hid (show Rc.readE 0 ns no = 0 from by rw [Rc.readE, if_pos rfl, Rc.inB_in (by omega) (by omega)]; rfl)
      clear ha hb hc hai hx hA2
      go_upto_region 6 with fail
      rw [HAI.out]
      go_cut [12] from 17 to 62 (fun v12 wx => ∃ (A : Option Addr) (c' : Nat), v12 = Value.slice A (nl - 1) c' ∧ Rd wx wx.heap.size 35 A (nl - 1) ((l.take i ++ l.drop (i + 1)).map Rc.R.cells).flatten ∧ Below w4.heap.size w4 wx)
      case first =>
        have s0 : Below w4.heap.size w4 w4.drew := (Below.refl _ w4).drew
        have OW0 := Lib.hid (show (w4.drew.alloc (.cells #[] 47)).ownsRow w4.heap.size 47 35 (.slice (some ⟨w4.heap.size, 0, none⟩) 0 0) 0 [] from World.ownsRow_lit (base := w4.heap.size) (e := 47) (size := 35) w4.drew #[] 0 (Nat.le_refl _) (by decide) rfl)
        have BB0 := Lib.hid (show Below w4.heap.size w4 (w4.drew.alloc (.cells #[] 47)) from s0.alloc (Nat.le_refl _) _)
        have HRL := Lib.hid (fun (W : World) (h : Below w4.heap.size w4 W) => (HEV.out.l.keep (HB4.out.trans (h.mono HB4.out.size))).more (HB4.out.trans (h.mono HB4.out.size)).size)
        have SR1 := Lib.hid ((HRL.out _ BB0.out).first i (by omega))
        have HSR2 := Lib.hid (fun (W : World) (h : Below w4.heap.size w4 W) => (show Rd W W.heap.size 35 A2 (nl - (i + 1)) ((l.drop (i + 1)).map Rc.R.cells).flatten from by
          rw [← HA2.out]
          have hr := (HRL.out _ h).last (i + 1) HIN.out
          by_cases hci : cl = i + 1
          · have h0 : nl - (i + 1) = 0 := by omega
            rw [h0] at hr ⊢
            exact ⟨hr.1, fun h => absurd h (by omega)⟩
          · rw [if_neg hci, Addr.add_mid]
            exact hr))
        refine wp_region_named (fun ops hops => ?_)
        refine wp_region_noPanic ?_
        refine wp_region_held_drew (S := fun w' => Below w4.heap.size w4 w') (by kernel_rfl) s0 (fun hHeld => ?_)
        rw [show ops.size = 11 from by rw [hops]; rfl]
        change wpAnyH _ _ _ _ _ _ _ _ w4.drew
        have HNS : Region.noSelect ops = true := by rw [hops]; kernel_rfl
        obtain ⟨o0, h0, d0, p0, g0⟩ := op_at5 hops 0 rfl (d := some 53) (p := .buildSlice 24 0 #[]) (g := none) rfl rfl rfl
        obtain ⟨o1, h1, d1, p1, g1⟩ := op_at5 hops 1 rfl (d := some 54) (p := .move (.tmp 2)) (g := none) rfl rfl rfl
        obtain ⟨o2, h2, d2, p2, g2⟩ := op_at5 hops 2 rfl (d := some 55) (p := .move (.tmp 11)) (g := none) rfl rfl rfl
        obtain ⟨o3, h3, d3, p3, g3⟩ := op_at5 hops 3 rfl (d := some 56) (p := .slice 24 (.tmp 54) none (some (.tmp 55)) none) (g := none) rfl rfl rfl
        obtain ⟨o4, h4, d4, p4, g4⟩ := op_at5 hops 4 rfl (d := some 57) (p := .call { callee := .builtin .append, args := #[(.tmp 53), (.tmp 56)], argTypes := #[24, 24] }) (g := none) rfl rfl rfl
        obtain ⟨o5, h5, d5, p5, g5⟩ := op_at5 hops 5 rfl (d := some 58) (p := .move (.tmp 2)) (g := none) rfl rfl rfl
        obtain ⟨o6, h6, d6, p6, g6⟩ := op_at5 hops 6 rfl (d := some 59) (p := .move (.tmp 11)) (g := none) rfl rfl rfl
        obtain ⟨o7, h7, d7, p7, g7⟩ := op_at5 hops 7 rfl (d := some 60) (p := .binOp .add 3 (.tmp 59) (.const (.int .i64 1)) 3) (g := none) rfl rfl rfl
        obtain ⟨o8, h8, d8, p8, g8⟩ := op_at5 hops 8 rfl (d := some 61) (p := .slice 24 (.tmp 58) (some (.tmp 60)) none none) (g := none) rfl rfl rfl
        obtain ⟨o9, h9, d9, p9, g9⟩ := op_at5 hops 9 rfl (d := some 62) (p := .call { callee := .builtin .append, args := #[(.tmp 57), (.tmp 61)], argTypes := #[24, 24] }) (g := none) rfl rfl rfl
        obtain ⟨o10, h10, d10, p10, g10⟩ := op_at5 hops 10 rfl (d := some 12) (p := .assign (.tmp 62)) (g := none) rfl rfl rfl
        refine wpAnyH_take (i := 1) (v := .slice (some ⟨bl, ol, none⟩) nl cl) h1 HNS (by rw [hops]; kernel_rfl) (by rw [hops]; kernel_rfl) (fun _ _ _ h => h) (Or.inl ⟨(wanted_none g1), fun w' _ => by unfold execOp; rw [p1]; first | rfl | kernel_rfl⟩) hHeld ?_
        rw [d1]
        simp only [Act.put, List.setIfInBounds_toArray, List.set_cons_zero, List.set_cons_succ]
        refine wpAnyH_take (i := 2) (v := .int .i64 (i : Int)) h2 HNS (by rw [hops]; kernel_rfl) (by rw [hops]; kernel_rfl) (fun _ _ _ h => h) (Or.inl ⟨(wanted_none g2), fun w' _ => by unfold execOp; rw [p2]; first | rfl | kernel_rfl⟩) hHeld ?_
        rw [d2]
        simp only [Act.put, List.setIfInBounds_toArray, List.set_cons_zero, List.set_cons_succ]
        refine wpAnyH_take (i := 3) (v := .slice (some ⟨bl, ol, none⟩) i cl) h3 HNS (by rw [hops]; kernel_rfl) (by rw [hops]; kernel_rfl) (fun _ _ _ h => h) (Or.inl ⟨(wanted_none g3), fun w' _ => run_op_slice_to 24 _ _ p3 ⟨bl, ol, none⟩ nl cl i (by rfl) (by rfl) HIC.out 47 35 Tryd.underlying24 HS24.out⟩) hHeld ?_
        rw [d3]
        simp only [Act.put, List.setIfInBounds_toArray, List.set_cons_zero, List.set_cons_succ]
        refine wpAnyH_take (i := 5) (v := .slice (some ⟨bl, ol, none⟩) nl cl) h5 HNS (by rw [hops]; kernel_rfl) (by rw [hops]; kernel_rfl) (fun _ _ _ h => h) (Or.inl ⟨(wanted_none g5), fun w' _ => by unfold execOp; rw [p5]; first | rfl | kernel_rfl⟩) hHeld ?_
        rw [d5]
        simp only [Act.put, List.setIfInBounds_toArray, List.set_cons_zero, List.set_cons_succ]
        refine wpAnyH_take (i := 6) (v := .int .i64 (i : Int)) h6 HNS (by rw [hops]; kernel_rfl) (by rw [hops]; kernel_rfl) (fun _ _ _ h => h) (Or.inl ⟨(wanted_none g6), fun w' _ => by unfold execOp; rw [p6]; first | rfl | kernel_rfl⟩) hHeld ?_
        rw [d6]
        simp only [Act.put, List.setIfInBounds_toArray, List.set_cons_zero, List.set_cons_succ]
        refine wpAnyH_take (i := 7) (v := .int .i64 ((i + 1 : Nat) : Int)) h7 HNS (by rw [hops]; kernel_rfl) (by rw [hops]; kernel_rfl) (fun _ _ _ h => h) (Or.inl ⟨(wanted_none g7), fun w' _ => (show _ = Result.ok (.value (.int .i64 (IntKind.i64.wrap ((i : Int) + 1)))) w' from by unfold execOp; rw [p7]; first | rfl | kernel_rfl).trans (by rw [HI1.out])⟩) hHeld ?_
        rw [d7]
        simp only [Act.put, List.setIfInBounds_toArray, List.set_cons_zero, List.set_cons_succ]
        refine wpAnyH_take (i := 8) (v := .slice A2 (nl - (i + 1)) (cl - (i + 1))) h8 HNS (by rw [hops]; kernel_rfl) (by rw [hops]; kernel_rfl) (fun _ _ _ h => h) (Or.inl ⟨(wanted_none g8), fun w' _ => (run_op_slice_from 24 _ _ p8 ⟨bl, ol, none⟩ nl cl (i + 1) (by rfl) (by rfl) HIN.out HNC.out 47 35 Tryd.underlying24 HS24.out).trans (by rw [HA2.out])⟩) hHeld ?_
        rw [d8]
        simp only [Act.put, List.setIfInBounds_toArray, List.set_cons_zero, List.set_cons_succ]
        refine wpAnyH_ready (rs := [0]) (by rw [hops]; kernel_rfl) (by simp) ?_
        refine AllReadyH.cons h0 (fun K hK => ?_) AllReadyH.nil
        rw [if_pos (wanted_none g0)]
        refine wp_runG (v := .slice (some ⟨w4.heap.size, 0, none⟩) 0 0) (w' := (w4.drew.alloc (.cells #[] 47))) (by unfold execOp; rw [p0]; first | rfl | kernel_rfl) ?_
        rw [d0]
        simp only [Act.put, List.setIfInBounds_toArray, List.set_cons_zero, List.set_cons_succ]
        refine hK.out _ _ BB0.out (fun hHeld => ?_)
        clear hK K
        refine wpAnyH_ready (rs := [4]) (by rw [hops]; kernel_rfl) (by simp) ?_
        refine AllReadyH.cons h4 (fun K hK => ?_) AllReadyH.nil
        rw [if_pos (wanted_none g4)]
        refine wp_append_rd (.tmp 53) (.tmp 56) p4 Rc.elR (by rfl) OW0.out (by rfl) SR1.out (Rc.cells_ones _) (fun e => by cases e) (by unfold maxLen; omega) (by omega) BB0.out.size (fun v1 w5 hG1 => ?_)
        have hB5 : Below w4.heap.size w4 w5 := BB0.out.grown hG1.grown BB0.out.size (fun k e => own_ge OW0.out e)
        rw [d4]
        simp only [Act.put, List.setIfInBounds_toArray, List.set_cons_zero, List.set_cons_succ]
        refine hK.out _ _ hB5 (fun hHeld => ?_)
        clear hK K
        refine wpAnyH_ready (rs := [9]) (by rw [hops]; kernel_rfl) (by simp) ?_
        refine AllReadyH.cons h9 (fun K hK => ?_) AllReadyH.nil
        rw [if_pos (wanted_none g9)]
        refine wp_append_rd (.tmp 57) (.tmp 61) p9 Rc.elR (by rfl) hG1.own (by rfl) (HSR2.out w5 hB5) (Rc.cells_ones _) HAN.out (by unfold maxLen; omega) (by omega) hB5.size (fun v2 w6 hG2 => ?_)
        have hB6 : Below w4.heap.size w4 w6 := hB5.grown hG2.grown hB5.size (fun k e => own_ge hG1.own e)
        obtain ⟨A6, c6, rfl⟩ := ownsRow_slice hG2.own
        rw [d9]
        simp only [Act.put, List.setIfInBounds_toArray, List.set_cons_zero, List.set_cons_succ]
        refine hK.out _ _ hB6 (fun hHeld => ?_)
        clear hK K
        refine wpAnyH_take (i := 10) (v := .slice A6 (0 + i + (nl - (i + 1))) c6) h10 HNS (by rw [hops]; kernel_rfl) (by rw [hops]; kernel_rfl) (fun _ _ _ h => h) (Or.inl ⟨(wanted_none g10), fun w' _ => by unfold execOp; rw [p10]; first | rfl | kernel_rfl⟩) hHeld ?_
        rw [d10]
        simp only [Act.put, List.setIfInBounds_toArray, List.set_cons_zero, List.set_cons_succ]
        refine wpAnyH_done (by rw [hops]; kernel_rfl) (NoPanic.normal ?_) _
        go_wp2_with fail
        go_meet
        have hnn : 0 + i + (nl - (i + 1)) = nl - 1 := by omega
        refine ⟨A6, c6, by rw [hnn], ?_, hB6⟩
        have h := rd_of_own hG2.own
        rw [show ([] : List Value) ++ ((l.take i).map Rc.R.cells).flatten ++ ((l.drop (i + 1)).map Rc.R.cells).flatten = ((l.take i ++ l.drop (i + 1)).map Rc.R.cells).flatten from by rw [List.map_append, List.flatten_append]; simp, hnn] at h
        exact h
      case rest =>
        obtain ⟨A6, c6, rfl, hrd, hB⟩ := hcut
        have hdg := HEV.out.l.dg
        have hln : (l.take i ++ l.drop (i + 1)).length = nl - 1 := by rw [erase_len l i (by omega)]; omega
        have HB5 := Lib.hid (HB4.out.trans (hB.mono HB4.out.size))
        have HE5 := Lib.hid (show Rc.Ev wc wc.heap.size Ac As A6 nc ns (nl - 1) c subs (l.take i ++ l.drop (i + 1)) from ⟨(HEV.out.c.keep HB5.out).more HB5.out.size, (HEV.out.s.keep HB5.out).more HB5.out.size, ⟨hln, fun r hr => hdg r (erase_mem hr), hrd⟩, HEV.out.mc, HEV.out.ms, Nat.le_trans (Nat.sub_le _ _) HEV.out.ml⟩)
        have HCL := Lib.hid (Rc.chk_less (i := i) (by omega) HEC.out)
        have HG5 := Lib.hid (HGG.out.keep HB5.out)
        have HW2 := Lib.hid (fun W (hb : Below wc.heap.size wc W) => Rc.when_any Ac As A6 nc cc ns cs (nl - 1) c6 c subs (l.take i ++ l.drop (i + 1)) no Rc.K0 Rc.I0 W ((HE5.out.keep hb).more hb.size) (HG5.out.keep hb))
        have HC2 := Lib.hid (fun W (hb : Below wc.heap.size wc W) => Rc.check_any Ac As A6 nc cc ns cs (nl - 1) c6 c subs (l.take i ++ l.drop (i + 1)) Rc.K0 Rc.I0 W ((HE5.out.keep hb).more hb.size) (HG5.out.keep hb))
        rw [HCL.out] at HC2
        rw [HCL.out, HRE.out] at HW2
        rw [HRE.out] at HWN
        clear hrd hB hdg hln HNF HAN HA2
        by_cases hxn : x.no = no
        · have hq : (x.no != no) = false := by simp [hxn]
          by_cases hm : (Rc.mm (Rc.ofs c l no)).1 ≤ (Rc.mm (Rc.ofs c l no)).2
          · have hmore := Rc.when_more (i := i) hm
            have hw1 := Rc.when_yes hm
            have hw2 := Rc.when_yes (xs := Rc.ofs c (l.take i ++ l.drop (i + 1)) no) (by omega)
            rw [hw1] at HWN
            rw [hw2] at HW2
            generalize Rc.mm (Rc.ofs c l no) = m at HWN hmore hm
            generalize Rc.mm (Rc.ofs c (l.take i ++ l.drop (i + 1)) no) = m2 at HW2 hmore
            obtain ⟨lo, hi⟩ := m
            obtain ⟨lo2, hi2⟩ := m2
            dsimp only at HWN HW2 hmore hm
            have hd1 : decide (lo2 ≤ lo) = true := decide_eq_true hmore.1
            have hd2 : decide (hi ≤ hi2) = true := decide_eq_true hmore.2
            clear hw1 hw2 hxn hmore hm
            go_wp2_with fail
            ((with_reducible refine (HWN.out _ HB5.out).mono ?_); rintro e w6 ⟨rfl, hb6⟩)
            go_upto_region 8 with fail
            obtain ⟨W7, hW7⟩ : ∃ W7, W7 = w6.alloc (.cells #[.int .i64 lo, .int .i64 hi] 38) := ⟨_, rfl⟩
            obtain ⟨g1, hg1⟩ : ∃ g1, w6.heap.size = g1 := ⟨_, rfl⟩
            have HS7 := Lib.hid (show St wc W7 ((g1, 38, [.int .i64 lo, .int .i64 hi]) :: []) from by rw [hW7, ← hg1]; exact ((St.start wc).keep hb6).new 38 [.int .i64 lo, .int .i64 hi])
            rw [← hW7, hg1]
            clear hW7 hg1 hb6
            go_wp2_with fail
            ((with_reducible refine (HW2.out _ HS7.out.below).mono ?_); rintro e w8 ⟨rfl, hb8⟩)
            have HS8 := Lib.hid (HS7.out.keep hb8)
            clear hb8
            go_upto_region 9 with fail
            obtain ⟨W9, hW9⟩ : ∃ W9, W9 = w8.alloc (.cells #[.int .i64 lo2, .int .i64 hi2] 38) := ⟨_, rfl⟩
            obtain ⟨g2, hg2⟩ : ∃ g2, w8.heap.size = g2 := ⟨_, rfl⟩
            have HS9 := Lib.hid (show St wc W9 ((g2, 38, [.int .i64 lo2, .int .i64 hi2]) :: _) from by rw [hW9, ← hg2]; exact HS8.out.new 38 [.int .i64 lo2, .int .i64 hi2])
            rw [← hW9, hg2]
            clear hW9 hg2
            go_wp2_with fail
            ((with_reducible refine (HC2.out _ HS9.out.below).mono ?_); rintro e w10 ⟨rfl, hb10⟩)
            have HS10 := Lib.hid (HS9.out.keep hb10)
            clear hb10
            have HBT := Lib.hid (HB5.out.trans (HS10.out.below.mono HB5.out.size))
            obtain ⟨_, bl1, ol1, hel, _, hrx1⟩ := (HEV.out.l.keep HBT.out).get i x HGx.out
            injection hel with hel
            injection hel with hel1 hel2 _
            subst hel1 hel2
            have c1 : w10.cell? ⟨bl, ol + i * 35 + 1, none⟩ = some (Rc.i x.no) := hrx1 1 _ rfl
            obtain ⟨z1, m0, m1⟩ := (HS10.out.nth 1 rfl).r2
            obtain ⟨z2, n0, n1⟩ := (HS10.out.nth 0 rfl).r2
            clear hrx1 HWN HW2 HC2
            go_wp2_with fail
            go_ret
            exact ⟨by first | rfl | simp, HBT.out⟩
          · have hw1 := Rc.when_no (xs := Rc.ofs c l no) (by omega)
            rw [hw1] at HWN
            by_cases hm2 : (Rc.mm (Rc.ofs c (l.take i ++ l.drop (i + 1)) no)).1 ≤ (Rc.mm (Rc.ofs c (l.take i ++ l.drop (i + 1)) no)).2
            · have hw2 := Rc.when_yes hm2
              rw [hw2] at HW2
              generalize Rc.mm (Rc.ofs c (l.take i ++ l.drop (i + 1)) no) = m2 at HW2
              obtain ⟨lo2, hi2⟩ := m2
              dsimp only at HW2
              clear hw1 hw2 hxn hm2 hm
              go_wp2_with fail
              ((with_reducible refine (HWN.out _ HB5.out).mono ?_); rintro e w6 ⟨rfl, hb6⟩)
              go_upto_region 8 with fail
              obtain ⟨W7, hW7⟩ : ∃ W7, W7 = w6.alloc (.cells #[.int .i64 0, .int .i64 0] 38) := ⟨_, rfl⟩
              obtain ⟨g1, hg1⟩ : ∃ g1, w6.heap.size = g1 := ⟨_, rfl⟩
              have HS7 := Lib.hid (show St wc W7 ((g1, 38, [.int .i64 0, .int .i64 0]) :: []) from by rw [hW7, ← hg1]; exact ((St.start wc).keep hb6).new 38 [.int .i64 0, .int .i64 0])
              rw [← hW7, hg1]
              clear hW7 hg1 hb6
              go_wp2_with fail
              ((with_reducible refine (HW2.out _ HS7.out.below).mono ?_); rintro e w8 ⟨rfl, hb8⟩)
              have HS8 := Lib.hid (HS7.out.keep hb8)
              clear hb8
              go_upto_region 9 with fail
              obtain ⟨W9, hW9⟩ : ∃ W9, W9 = w8.alloc (.cells #[.int .i64 lo2, .int .i64 hi2] 38) := ⟨_, rfl⟩
              obtain ⟨g2, hg2⟩ : ∃ g2, w8.heap.size = g2 := ⟨_, rfl⟩
              have HS9 := Lib.hid (show St wc W9 ((g2, 38, [.int .i64 lo2, .int .i64 hi2]) :: _) from by rw [hW9, ← hg2]; exact HS8.out.new 38 [.int .i64 lo2, .int .i64 hi2])
              rw [← hW9, hg2]
              clear hW9 hg2
              go_wp2_with fail
              ((with_reducible refine (HC2.out _ HS9.out.below).mono ?_); rintro e w10 ⟨rfl, hb10⟩)
              have HS10 := Lib.hid (HS9.out.keep hb10)
              clear hb10
              have HBT := Lib.hid (HB5.out.trans (HS10.out.below.mono HB5.out.size))
              obtain ⟨_, bl1, ol1, hel, _, hrx1⟩ := (HEV.out.l.keep HBT.out).get i x HGx.out
              injection hel with hel
              injection hel with hel1 hel2 _
              subst hel1 hel2
              have c1 : w10.cell? ⟨bl, ol + i * 35 + 1, none⟩ = some (Rc.i x.no) := hrx1 1 _ rfl
              obtain ⟨z1, m0, m1⟩ := (HS10.out.nth 1 rfl).r2
              obtain ⟨z2, n0, n1⟩ := (HS10.out.nth 0 rfl).r2
              clear hrx1 HWN HW2 HC2
              go_wp2_with fail
              go_ret
              exact ⟨by first | rfl | simp, HBT.out⟩
            · have hw2 := Rc.when_no (xs := Rc.ofs c (l.take i ++ l.drop (i + 1)) no) (by omega)
              rw [hw2] at HW2
              clear hw1 hw2 hxn hm2 hm
              go_wp2_with fail
              ((with_reducible refine (HWN.out _ HB5.out).mono ?_); rintro e w6 ⟨rfl, hb6⟩)
              go_upto_region 8 with fail
              obtain ⟨W7, hW7⟩ : ∃ W7, W7 = w6.alloc (.cells #[.int .i64 0, .int .i64 0] 38) := ⟨_, rfl⟩
              obtain ⟨g1, hg1⟩ : ∃ g1, w6.heap.size = g1 := ⟨_, rfl⟩
              have HS7 := Lib.hid (show St wc W7 ((g1, 38, [.int .i64 0, .int .i64 0]) :: []) from by rw [hW7, ← hg1]; exact ((St.start wc).keep hb6).new 38 [.int .i64 0, .int .i64 0])
              rw [← hW7, hg1]
              clear hW7 hg1 hb6
              go_wp2_with fail
              ((with_reducible refine (HW2.out _ HS7.out.below).mono ?_); rintro e w8 ⟨rfl, hb8⟩)
              have HS8 := Lib.hid (HS7.out.keep hb8)
              clear hb8
              go_upto_region 9 with fail
              obtain ⟨W9, hW9⟩ : ∃ W9, W9 = w8.alloc (.cells #[.int .i64 0, .int .i64 0] 38) := ⟨_, rfl⟩
              obtain ⟨g2, hg2⟩ : ∃ g2, w8.heap.size = g2 := ⟨_, rfl⟩
              have HS9 := Lib.hid (show St wc W9 ((g2, 38, [.int .i64 0, .int .i64 0]) :: _) from by rw [hW9, ← hg2]; exact HS8.out.new 38 [.int .i64 0, .int .i64 0])
              rw [← hW9, hg2]
              clear hW9 hg2
              go_wp2_with fail
              ((with_reducible refine (HC2.out _ HS9.out.below).mono ?_); rintro e w10 ⟨rfl, hb10⟩)
              have HS10 := Lib.hid (HS9.out.keep hb10)
              clear hb10
              have HBT := Lib.hid (HB5.out.trans (HS10.out.below.mono HB5.out.size))
              obtain ⟨_, bl1, ol1, hel, _, hrx1⟩ := (HEV.out.l.keep HBT.out).get i x HGx.out
              injection hel with hel
              injection hel with hel1 hel2 _
              subst hel1 hel2
              have c1 : w10.cell? ⟨bl, ol + i * 35 + 1, none⟩ = some (Rc.i x.no) := hrx1 1 _ rfl
              obtain ⟨z1, m0, m1⟩ := (HS10.out.nth 1 rfl).r2
              obtain ⟨z2, n0, n1⟩ := (HS10.out.nth 0 rfl).r2
              clear hrx1 HWN HW2 HC2
              go_wp2_with fail
              go_ret
              exact ⟨by first | rfl | simp, HBT.out⟩
        · have hq : (x.no != no) = true := by simpa using hxn
          have hw := Rc.when_other (c := c) HGx.out hxn
          rw [hw] at HW2
          unfold Rc.whenV at HWN HW2
          generalize Rc.whenR 0 (Rc.ofs c l no) = wv at HWN HW2
          obtain ⟨lo, hi, e1⟩ := wv
          dsimp only at HWN HW2
          have he1 : (e1 == e1) = true := by simp
          have he2 : (lo == lo) = true := by simp
          have he3 : (hi == hi) = true := by simp
          clear hw hxn
          go_wp2_with fail
          ((with_reducible refine (HWN.out _ HB5.out).mono ?_); rintro e w6 ⟨rfl, hb6⟩)
          go_upto_region 8 with fail
          obtain ⟨W7, hW7⟩ : ∃ W7, W7 = w6.alloc (.cells #[.int .i64 lo, .int .i64 hi] 38) := ⟨_, rfl⟩
          obtain ⟨g1, hg1⟩ : ∃ g1, w6.heap.size = g1 := ⟨_, rfl⟩
          have HS7 := Lib.hid (show St wc W7 ((g1, 38, [.int .i64 lo, .int .i64 hi]) :: []) from by rw [hW7, ← hg1]; exact ((St.start wc).keep hb6).new 38 [.int .i64 lo, .int .i64 hi])
          rw [← hW7, hg1]
          clear hW7 hg1 hb6
          go_wp2_with fail
          ((with_reducible refine (HW2.out _ HS7.out.below).mono ?_); rintro e w8 ⟨rfl, hb8⟩)
          have HS8 := Lib.hid (HS7.out.keep hb8)
          clear hb8
          go_upto_region 9 with fail
          obtain ⟨W9, hW9⟩ : ∃ W9, W9 = w8.alloc (.cells #[.int .i64 lo, .int .i64 hi] 38) := ⟨_, rfl⟩
          obtain ⟨g2, hg2⟩ : ∃ g2, w8.heap.size = g2 := ⟨_, rfl⟩
          have HS9 := Lib.hid (show St wc W9 ((g2, 38, [.int .i64 lo, .int .i64 hi]) :: _) from by rw [hW9, ← hg2]; exact HS8.out.new 38 [.int .i64 lo, .int .i64 hi])
          rw [← hW9, hg2]
          clear hW9 hg2
          go_wp2_with fail
          ((with_reducible refine (HC2.out _ HS9.out.below).mono ?_); rintro e w10 ⟨rfl, hb10⟩)
          have HS10 := Lib.hid (HS9.out.keep hb10)
          clear hb10
          have HBT := Lib.hid (HB5.out.trans (HS10.out.below.mono HB5.out.size))
          obtain ⟨_, bl1, ol1, hel, _, hrx1⟩ := (HEV.out.l.keep HBT.out).get i x HGx.out
          injection hel with hel
          injection hel with hel1 hel2 _
          subst hel1 hel2
          have c1 : w10.cell? ⟨bl, ol + i * 35 + 1, none⟩ = some (Rc.i x.no) := hrx1 1 _ rfl
          obtain ⟨z1, m0, m1⟩ := (HS10.out.nth 1 rfl).r2
          obtain ⟨z2, n0, n1⟩ := (HS10.out.nth 0 rfl).r2
          clear hrx1 HWN HW2 HC2
          go_wp2_with fail
          go_ret
          exact ⟨by first | rfl | simp, HBT.out⟩
    · go_enter Tryd.func5, Tryd.ntmps5
      go_wp2_with fail
      ((with_reducible refine (HSN.out _ (Below.refl _ _)).mono ?_); rintro e w2 ⟨rfl, hb⟩)
      have HB2 := Lib.hid hb
      clear hb
      go_wp2_with fail
      ((with_reducible refine (HFW.out _ HB2.out).mono ?_); rintro e w3 ⟨rfl, hb⟩)
      have HB3 := Lib.hid (HB2.out.trans (hb.mono HB2.out.size))
      clear hb
      go_wp2_with fail
      ((with_reducible refine (HRC.out _ HB3.out).mono ?_); rintro e w4 ⟨rfl, hb⟩)
      have HB4 := Lib.hid (HB3.out.trans (hb.mono HB3.out.size))
      clear hb
      go_wp2_with fail
      go_ret
      exact ⟨rfl, HB4.out⟩
end Go.Proofs.YtnbbleajbbgmjaaDoor
