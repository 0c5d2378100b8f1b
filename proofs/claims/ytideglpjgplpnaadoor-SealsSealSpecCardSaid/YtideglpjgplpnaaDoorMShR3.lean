import Derived.Deep.RegionLaw
import Derived.Test.YtideglpjgplpnaaDoorMShR2
/- Contracts of the reference's Split. -/
namespace Go.Proofs.YtideglpjgplpnaaDoor
open Go.RowKit Go.Shelf
set_option linter.unusedVariables false

set_option maxRecDepth 100000 in
set_option maxHeartbeats 2000000 in
theorem Shr.rsplit_no (As Ac : Option Addr) (ns cs nc cc : Nat) (ep th mn : Int) (w : World) (hns : ns ≤ maxLen) (hnc : nc ≤ maxLen) (hth : -9223372036854775808 ≤ th ∧ th ≤ 9223372036854775807) (h : Shr.spE ns ep th mn nc ≠ 0) :
    Calls Tryd.prog 39 #[.slice As ns cs, .int .i64 ep, .int .i64 th, .int .i64 mn, .slice Ac nc cc] w fun e w' => e = .returned (.tuple #[.slice none 0 0, .int .i64 (Shr.spE ns ep th mn nc)]) ∧ Below w.heap.size w w' := by
  unfold maxLen at hns hnc
  by_cases h1 : 64 < ns
  · have HE := Lib.hid (show Shr.spE ns ep th mn nc = 1 by rw [Shr.spE, if_pos h1])
    go_enter Tryd.func39, Tryd.ntmps39
    go_wp2_with fail
    go_ret2
    exact ⟨by rw [HE.out]; rfl, Below.refl _ _⟩
  · by_cases h2 : th < 1 ∨ mn < th ∨ 8 < mn
    · have HE := Lib.hid (show Shr.spE ns ep th mn nc = 60 by rw [Shr.spE, if_neg h1, if_pos h2])
      by_cases g1 : th < 1
      · clear h h2
        go_enter Tryd.func39, Tryd.ntmps39
        go_wp2_with fail
        go_ret2
        exact ⟨by rw [HE.out]; rfl, Below.refl _ _⟩
      · by_cases g2 : mn < th
        · clear h h2
          go_enter Tryd.func39, Tryd.ntmps39
          go_wp2_with fail
          go_ret2
          exact ⟨by rw [HE.out]; rfl, Below.refl _ _⟩
        · have g3 : 8 < mn := by omega
          clear h h2
          go_enter Tryd.func39, Tryd.ntmps39
          go_wp2_with fail
          go_ret2
          exact ⟨by rw [HE.out]; rfl, Below.refl _ _⟩
    · have g1 : 1 ≤ th := by omega
      have g2 : th ≤ mn := by omega
      have g3 : mn ≤ 8 := by omega
      by_cases h3 : ep < 0 ∨ 1048576 < ep
      · have HE := Lib.hid (show Shr.spE ns ep th mn nc = 61 by rw [Shr.spE, if_neg h1, if_neg h2, if_pos h3])
        by_cases k1 : ep < 0
        · clear h h2 h3
          go_enter Tryd.func39, Tryd.ntmps39
          go_wp2_with fail
          go_ret2
          exact ⟨by rw [HE.out]; rfl, Below.refl _ _⟩
        · have k2 : 1048576 < ep := by omega
          clear h h2 h3
          go_enter Tryd.func39, Tryd.ntmps39
          go_wp2_with fail
          go_ret2
          exact ⟨by rw [HE.out]; rfl, Below.refl _ _⟩
      · have k1 : 0 ≤ ep := by omega
        have k2 : ep ≤ 1048576 := by omega
        have h4 : (nc : Int) ≠ (ns : Int) * (th - 1) := fun e => h (by rw [Shr.spE, if_neg h1, if_neg h2, if_neg h3, if_neg (by simp [e])])
        have HE := Lib.hid (show Shr.spE ns ep th mn nc = 1 by rw [Shr.spE, if_neg h1, if_neg h2, if_neg h3, if_pos h4])
        clear h h2 h3
        have hp : (ns : Int) * (th - 1) ≤ 64 * 8 := Int.mul_le_mul (by omega) (by omega) (by omega) (by omega)
        have hp0 : 0 ≤ (ns : Int) * (th - 1) := Int.mul_nonneg (by omega) (by omega)
        obtain ⟨p, he⟩ : ∃ p, (ns : Int) * (th - 1) = p := ⟨_, rfl⟩
        rw [he] at hp hp0 h4
        have hw : wrap64 ((ns : Int) * (th - 1)) = p := by rw [he]; exact IntWalk.wrap64_in _ ⟨by omega, by omega⟩
        clear he
        have hq : ((nc : Int) != p) = true := by simpa using h4
        clear h4
        go_enter Tryd.func39, Tryd.ntmps39
        go_wp2_with fail
        go_ret2
        exact ⟨by rw [HE.out]; rfl, Below.refl _ _⟩


/-- a call that leaves memory as it was, as one step of a region that draws -/
theorem step_call2 {P : Program} {ops : Array Oper} {o : Oper} {a : Act} {w : World} {K : Act → World → Prop} {Q : Exit → Act → World → Prop} {F : Prop} {v : Value} (f : FuncId) (x y : Operand) (tys : Array TypeId) (vx vy : Value) (hgd : o.guard = none)
    (ho : o.op = .call { callee := .value (.func f), args := #[x, y], argTypes := tys }) (heg : ∀ args w, (callFunc f args).run P w = .ok (.enter f args) w) (hx : a.eval x = vx) (hy : a.eval y = vy) (hC : Calls P f #[vx, vy] w fun e w' => e = .returned v ∧ w = w') (h : K (a.put o.dst v) w) :
    if Region.wanted o (yielded ops a.tmps) = true then Oper.wp P o a w K Q else F := by
  rw [if_pos (by simp [Region.wanted, hgd])]
  have hrun : (execOp a.eval o).run P w = .ok (.enter f #[vx, vy]) w := by
    subst hx hy
    simp [execOp, ho, resolve, invoke, Act.eval, Deferred.ofValue, go_sem, heg]
  unfold Oper.wp
  rw [hrun, Oper.upon_enter]
  exact hC.mono fun e w' ⟨he, hw⟩ => by subst he hw; exact h

/-- a part of a slice, nil let in -/
theorem RdB.sub {w : World} {A : Option Addr} {n c : Nat} {l : List UInt8} (h : RdB w A n l) (hc : n ≤ c) (hnil : A = none → c = 0) (p m : Nat) (hm : p + m ≤ n) :
    ∃ A', (if c = p then A else A.map (fun a => a.add p)) = A' ∧ RdB w A' m ((l.drop p).take m) ∧ (A' = none → c - p = 0) := by
  cases A with
  | none =>
    have h0 := hnil rfl
    refine ⟨none, by split <;> rfl, ?_, fun _ => by omega⟩
    obtain rfl : m = 0 := by omega
    rw [List.take_zero]
    exact RdB.none_
  | some a =>
    by_cases hcp : c = p
    · obtain rfl : m = 0 := by omega
      refine ⟨some a, by rw [if_pos hcp], ?_, fun e => by cases e⟩
      rw [List.take_zero]
      exact RdB.none_
    · refine ⟨some (a.add p), by rw [if_neg hcp]; rfl, ?_, fun e => by cases e⟩
      by_cases h0 : m = 0
      · subst h0
        rw [List.take_zero]
        exact RdB.none_
      · obtain ⟨b, off, e, _, _⟩ := h.byte 0 (by omega)
        injection e with e
        subst e
        have hp : (⟨b, off, none⟩ : Addr).add p = ⟨b, off + p, none⟩ := by unfold Addr.add; split <;> simp_all
        rw [hp]
        exact h.part p m hm

/-- a share under way: its data are the first j bytes of d -/
structure Shr.Acc (B : Nat) (wr wi : World) (ep ix th mn : Int) (vd : Value) (j : Nat) (d : List UInt8) : Prop where
  s : Has wi B 43 [.int .i64 ep, .int .i64 ix, .int .i64 th, .int .i64 mn, vd]
  own : wi.ownsRow (B + 1) 5 1 vd j ((d.take j).map fun a => Value.int .u8 (a.toNat : Int))
  b : Below B wr wi
  sz : B + 1 ≤ wi.heap.size
theorem Shr.Acc.keep {B : Nat} {wr wi w' : World} {ep ix th mn : Int} {vd : Value} {j : Nat} {d : List UInt8} (h : Shr.Acc B wr wi ep ix th mn vd j d) (hb : Below wi.heap.size wi w') : Shr.Acc B wr w' ep ix th mn vd j d :=
  ⟨h.s.keep hb, own_below h.own hb, h.b.trans (hb.mono (by have := h.sz; omega)), by have := h.sz; have := hb.size; omega⟩

set_option maxRecDepth 100000 in
set_option maxHeartbeats 4000000 in
theorem Shr.rsplit_yes (As Ac : Option Addr) (ns cs nc cc : Nat) (ep : Int) (t mn : Nat) (sec coins : List UInt8) (w : World) (hrs : RdB w As ns sec) (hrc : RdB w Ac nc coins) (hcc : nc ≤ cc) (hccm : cc ≤ maxLen) (hnil : Ac = none → cc = 0)
    (h1 : ns ≤ 64) (h2 : 1 ≤ t) (h3 : t ≤ mn) (h4 : mn ≤ 8) (h5 : 0 ≤ ep) (h6 : ep ≤ 1048576) (h7 : nc = ns * (t - 1)) :
    Calls Tryd.prog 39 #[.slice As ns cs, .int .i64 ep, .int .i64 t, .int .i64 mn, .slice Ac nc cc] w (Shr.RetS w mn (Shr.spl sec ep t mn coins)) := by
  obtain ⟨m, rfl⟩ : ∃ m, t = m + 1 := ⟨t - 1, by omega⟩
  have HRS := Lib.hid hrs
  have HRC := Lib.hid hrc
  have HCC := Lib.hid hcc
  have HCM := Lib.hid hccm
  have HNIL := Lib.hid hnil
  have HSL := Lib.hid hrs.len
  have HCL := Lib.hid hrc.len
  rw [Nat.add_sub_cancel] at h7
  have H7 := Lib.hid h7
  have hp : ns * m ≤ 64 * 8 := Nat.mul_le_mul (by omega) (by omega)
  have hncb : nc ≤ 512 := by omega
  have hw : wrap64 ((ns : Int) * (m : Int)) = (nc : Int) := by
    rw [h7]; exact Shr.mul_in _ _ (by omega) (by omega)
  have hw2 : wrap64 ((ns : Int) * (((m + 1 : Nat) : Int) - 1)) = (nc : Int) := by
    rw [show (((m + 1 : Nat) : Int) - 1) = (m : Int) by omega]; exact hw
  have hw3 : wrap64 ((ns : Int) * ((m : Int) + 1 - 1)) = (nc : Int) := by
    rw [show ((m : Int) + 1 - 1) = (m : Int) by omega]; exact hw
  have hwm : IntKind.i64.wrap (m : Int) = (m : Int) := IntWalk.i64_in _ (by omega)
  have HLL := Lib.hid (fun k hk => Shr.line_len sec coins (m + 1) k h2 (by rw [hrc.len, hrs.len]; exact h7) (by rw [hrs.len]; exact hk))
  have HPT := Lib.hid (show ∀ j, j < ns → j * m + m ≤ nc from fun j hj => by
    have := Nat.mul_le_mul (show j + 1 ≤ ns by omega) (Nat.le_refl m)
    rw [Nat.add_mul, Nat.one_mul] at this
    omega)
  have HM1 := Lib.hid (show ∀ j, j < ns → IntKind.i64.wrap ((j : Int) * (m : Int)) = ((j * m : Nat) : Int) from fun j hj => by
    rw [IntWalk.i64_left]; exact Shr.mul_in j m (by omega) (by omega))
  have HM2 := Lib.hid (show ∀ j, j < ns → IntKind.i64.wrap (((j : Int) + 1) * (m : Int)) = ((j * m : Nat) : Int) + (m : Int) from fun j hj => by
    rw [IntWalk.i64_left]
    have e2 := Shr.mul_in (j + 1) m (by omega) (by omega)
    rw [Nat.add_mul, Nat.one_mul] at e2
    rw [← Int.natCast_add, ← e2]; rfl)
  clear hrs hrc hcc hccm hnil h7 hp
  have d1 : decide ((64 : Int) < (ns : Int)) = false := decide_eq_false (by omega)
  have d2 : decide ((m : Int) + 1 < 1) = false := decide_eq_false (by omega)
  have d3 : decide ((8 : Int) < (mn : Int)) = false := decide_eq_false (by omega)
  have d4 : decide (ep < 0) = false := decide_eq_false (by omega)
  have d5 : decide (1048576 < ep) = false := decide_eq_false (by omega)
  have d6 : decide ((mn : Int) < (m : Int) + 1) = false := decide_eq_false (by omega)
  go_enter Tryd.func39, Tryd.ntmps39
  go_wp2_with fail
  have HWM := Lib.hid hwm
  clear hw hw2 hw3 d1 d2 d3 d4 d5 d6 hwm
  go_loopw [12, 13] (fun v i wr => ∃ (k : Nat) (xs : List Shr.C), k ≤ mn ∧ i = .int .i64 ((k : Int) + 1) ∧ Shr.Own wr w.heap.size v k xs ∧ (∀ x, x ∈ xs → Fresh w.heap.size x.A) ∧ Shr.vals xs = (Shr.spl sec ep (m + 1) mn coins).take k ∧ Below w.heap.size w wr) (fun _ i _ => mn + 1 - (intOf i).toNat)
  case atStart => exact ⟨0, [], by omega, rfl, Shr.Own.nil _ _, fun _ h => by (cases h), rfl, Below.refl _ _⟩
  case round =>
    obtain ⟨k, xs, hk, rfl, hO, hfr, hv, hB⟩ := hrel
    obtain ⟨wo, hwo⟩ : ∃ wo, wo = wr := ⟨_, rfl⟩
    subst hwo
    have HO := Lib.hid hO
    have HFR := Lib.hid hfr
    have HV := Lib.hid hv
    have HB := Lib.hid hB
    have hzr := hB.size
    clear hO hv hB hfr
    by_cases hlt : k < mn
    · have HT := Lib.hid (Shr.spl_take sec ep (m + 1) mn coins k hlt)
      have hle : (k : Int) + 1 ≤ (mn : Int) := by omega
      obtain ⟨dd, hdd⟩ : ∃ dd, dd = Shr.dat sec coins (m + 1) (k + 1) := ⟨_, rfl⟩
      have HDL := Lib.hid (show dd.length = ns by rw [hdd, Shr.dat_len, HSL.out])
      have HDG := Lib.hid (show ∀ j, j < ns → dd.getD j 0 = Fld.ev (Shr.line sec coins (m + 1) j) (UInt8.ofNat (k + 1)) from fun j hj => by
        rw [hdd, Shr.dat, List.getD_eq_getElem?_getD, List.getElem?_map, List.getElem?_range (by rw [HSL.out]; exact hj)]; rfl)
      rw [← hdd] at HT
      clear hdd
      go_wp2_with fail
      go_loopw [15] (fun i wi => ∃ (j : Nat) (vd : Value), j ≤ ns ∧ i = .int .i64 j ∧ Shr.Acc wo.heap.size wo wi ep ((k : Int) + 1) ((m : Int) + 1) (mn : Int) vd j dd) (fun i _ => ns - (intOf i).toNat)
      case atStart => exact ⟨0, .slice none 0 0, by omega, rfl, ⟨Has.new _ _ _, World.ownsRow_nil _ _ _ _, (Below.refl _ _).alloc (Nat.le_refl _) _, by simp⟩⟩
      case round =>
        obtain ⟨j, vd, hj, rfl, hAc⟩ := hrel
        have HA := Lib.hid hAc
        clear hAc
        obtain ⟨Ad, cd, rfl⟩ := own_form HA.out.own
        have zbs := HA.out.s.lt
        have hszi := HA.out.b.size
        by_cases hjl : j < ns
        · obtain ⟨bs, offs, rfl, hbs, es0⟩ := HRS.out.byte j hjl
          have es := (HA.out.b.cell (p := ⟨bs, offs + j, none⟩) (show bs < wo.heap.size by omega)).trans ((HB.out.cell (p := ⟨bs, offs + j, none⟩) hbs).trans es0)
          have hbs2 : bs < wr.heap.size := by omega
          have HLN := Lib.hid (show Shr.line sec coins (m + 1) j = [sec.getD j 0] ++ (coins.drop (j * m)).take m by rw [Shr.line, Nat.add_sub_cancel]; rfl)
          have HLJ := Lib.hid (HLL.out j hjl)
          have hpt := HPT.out j hjl
          have E1 := Lib.hid (HM1.out j hjl)
          have E2 := Lib.hid (HM2.out j hjl)
          have HTJ := Lib.hid (show (dd.take (j + 1)).map (fun a => Value.int .u8 (a.toNat : Int)) = (dd.take j).map (fun a => Value.int .u8 (a.toNat : Int)) ++ [B8 (Fld.ev (Shr.line sec coins (m + 1) j) (UInt8.ofNat (k + 1)))] by
            rw [List.take_succ_eq_append_getElem (by rw [HDL.out]; exact hjl), List.map_append, ← HDG.out j hjl, List.getD_eq_getElem?_getD, List.getElem?_eq_getElem (by rw [HDL.out]; exact hjl)]; rfl)
          obtain ⟨Ap, hAp, hrp, hnp⟩ := (((HRC.out.keep HB.out).keep (HA.out.b.mono (Nat.le_refl _)))).sub HCC.out HNIL.out (j * m) m hpt
          generalize j * m = p at *
          clear es0
          have t1 : ((p : Int) + (m : Int)).toNat = p + m := by omega
          have hcc := HCC.out
          have i1 : (0 : Int) ≤ (j : Int) := by omega
          have i2 : (j : Int) < (ns : Int) := by omega
          have i3 : (p : Int) + (m : Int) ≤ (cc : Int) := by omega
          have i4 : (p : Int) ≤ max ((p : Int) + (m : Int)) 0 := by omega
          have i5 : (0 : Int) ≤ (p : Int) + (m : Int) := by omega
          have E3 := Lib.hid (show IntKind.i64.wrap ((j : Int) + 1) = (j : Int) + 1 from IntWalk.i64_in _ (by omega))
          generalize sec.getD j 0 = x at es HLN
          have OW1 := Lib.hid (show ((wr.alloc (.cells #[B8 x] 5)).drew).ownsRow wr.heap.size 5 1 (.slice (some ⟨wr.heap.size, 0, none⟩) 1 1) 1 [B8 x] from own_drew (World.ownsRow_lit (base := wr.heap.size) (e := 5) (size := 1) wr #[B8 x] 1 (Nat.le_refl _) (by decide) rfl))
          have SR1 := Lib.hid (show Rd ((wr.alloc (.cells #[B8 x] 5)).drew) ((wr.alloc (.cells #[B8 x] 5)).drew).heap.size 1 Ap m (((coins.drop p).take m).map fun a => Value.int .u8 (a.toNat : Int)) from (hrp.alloc _).drew)
          have H11 := Lib.hid (one_bytes ((coins.drop p).take m))
          have BW1 := Lib.hid (show Below wr.heap.size wr ((wr.alloc (.cells #[B8 x] 5)).drew) from ((Below.refl _ _).alloc (Nat.le_refl _) _).drew)
          have HNP := Lib.hid hnp
          have H63 := Lib.hid (show 1 + m ≤ maxLen by unfold maxLen; omega)
          have H64 := Lib.hid (show (1 + m) * 1 ≤ 140737488355328 by omega)
          clear hrp hnp
          have e1 := E1.out
          have e2 := E2.out
          have e3 := E3.out
          have hwm := HWM.out
          go_wp2_with fail
          go_region_law (first
              | (refine step_append_rd (by rfl) (.tmp 65) (.tmp 76) (by rfl) el8 (by rfl) OW1.out (by rfl) SR1.out H11.out HNP.out H63.out H64.out BW1.out.size ?_; intro v2 w2 hG2; obtain ⟨Ae, ce, rfl⟩ := own_form hG2.own))
          have hb2 : Below wr.heap.size wr w2 := BW1.out.grown hG2.grown BW1.out.size (fun g e => by cases e; exact Nat.le_refl _)
          have HRL := Lib.hid (show RdB w2 Ae (1 + m) (Shr.line sec coins (m + 1) j) by
            rw [HLN.out]
            exact RdB.of_own (l := [x] ++ (coins.drop p).take m) (by rw [List.map_append]; exact hG2.own))
          have HA2 := Lib.hid (HA.out.keep hb2)
          clear hG2 hb2 e1 e2 e3 hwm es HA OW1 SR1 BW1 hAp i1 i2 i3 i4 i5 t1 hpt zbs hszi
          have zbs2 := HA2.out.s.lt
          have hsz2 := HA2.out.b.size
          have e4 := HA2.out.s.cell 4
          simp only [List.getElem?_cons_succ, List.getElem?_cons_zero] at e4
          have fz := HA2.out.s.frozen 4
          have HU := Lib.hid (u8_wrap (k + 1) (by omega))
          have hu : IntKind.u8.wrap ((k : Int) + 1) = ((UInt8.ofNat (k + 1)).toNat : Int) := HU.out
          have HEV := Lib.hid (Fld.reval_any Ae (1 + m) ce (Shr.line sec coins (m + 1) j) (UInt8.ofNat (k + 1)))
          generalize Fld.ev (Shr.line sec coins (m + 1) j) (UInt8.ofNat (k + 1)) = y at HTJ HEV
          generalize UInt8.ofNat (k + 1) = ub at hu HEV
          have HEG := Lib.hid (enters_of Tryd.func71 (by kernel_rfl) rfl)
          have BW3 := Lib.hid (show Below w2.heap.size w2 ((w2.alloc (.cells #[B8 y] 5)).drew) from ((Below.refl _ _).alloc (Nat.le_refl _) _).drew)
          have OW3 := Lib.hid (show ((w2.alloc (.cells #[B8 y] 5)).drew).ownsRow (wo.heap.size + 1) 5 1 (.slice Ad j cd) j ((dd.take j).map fun a => Value.int .u8 (a.toNat : Int)) from own_drew (HA2.out.own.alloc _))
          have SR3 := Lib.hid (show Rd ((w2.alloc (.cells #[B8 y] 5)).drew) (w2.heap.size + 1) 1 (some ⟨w2.heap.size, 0, none⟩) 1 [B8 y] by have h := rd_new w2 5 1 [B8 y] rfl; rw [World.size_alloc] at h; exact h)
          have H13 := Lib.hid (show ∀ u ∈ [B8 y], u.oneCell' = true by simp [Value.oneCell'])
          have HSZ := Lib.hid (show wo.heap.size + 1 ≤ ((w2.alloc (.cells #[B8 y] 5)).drew).heap.size from Nat.le_trans HA2.out.sz BW3.out.size)
          have HML := Lib.hid (show 1 + m ≤ maxLen from H63.out)
          have HJ1 := Lib.hid (show j + 1 ≤ maxLen by unfold maxLen; omega)
          have HJ2 := Lib.hid (show (j + 1) * 1 ≤ 140737488355328 by omega)
          go_wp2_with fail
          go_region_law (first
              | (refine step_call2 71 (.tmp 80) (.tmp 82) _ (.slice Ae (1 + m) ce) (B8 ub) (by rfl) (by rfl) HEG.out (by rfl) (by rfl) (HEV.out _ HML.out HRL.out.drew) ?_)
              | (refine step_append_rd (by rfl) (.tmp 79) (.tmp 84) (by rfl) el8 (by rfl) OW3.out (by rfl) SR3.out H13.out (fun h => by (cases h)) HJ1.out HJ2.out HSZ.out ?_; intro v4 w4 hG4; obtain ⟨Af, cf, rfl⟩ := own_form hG4.own; have hbC : Below wo.heap.size w2 w4 := (BW3.out.mono hsz2).grown hG4.grown (Nat.le_trans hsz2 BW3.out.size) (fun g e => Nat.le_of_succ_le (own_ge OW3.out e)); have zbs4 : wo.heap.size < w4.heap.size := Nat.lt_of_lt_of_le zbs2 hbC.size; have fz4 : w4.frozen? ⟨wo.heap.size, 4, none⟩ = false := ((HA2.out.s.alloc (.cells #[B8 y] 5)).drew.grown hG4.grown (fun e => absurd (own_ge OW3.out e) (by omega))).frozen 4; have e44 := ((HA2.out.s.alloc (.cells #[B8 y] 5)).drew.grown hG4.grown (fun e => absurd (own_ge OW3.out e) (by omega))).cell 4; simp only [List.getElem?_cons_succ, List.getElem?_cons_zero] at e44))
          all_goals (
            have HA4 := Lib.hid (show Shr.Acc wo.heap.size wo (w4.setCell ⟨wo.heap.size, 4, none⟩ (.slice Af (j + 1) cf)) ep ((k : Int) + 1) ((m : Int) + 1) (mn : Int) (.slice Af (j + 1) cf) (j + 1) dd from
              ⟨((HA2.out.s.alloc (.cells #[B8 y] 5)).drew.grown hG4.grown (fun e => absurd (own_ge OW3.out e) (by omega))).set 4 _, by rw [HTJ.out]; exact own_far hG4.own (p := ⟨wo.heap.size, 4, none⟩) (Nat.lt_succ_self _) _, (HA2.out.b.trans hbC).setCell (Nat.le_refl _) _, by simp; omega⟩)
            clear hbC hG4 e44 fz4 OW3 SR3 BW3 HSZ H13 HTJ e4 fz hu
            go_wp2_with fail
            go_roundw
            case rel =>
              repeat apply Exists.intro
              refine ⟨?_, rfl⟩
              exact ⟨j + 1, _, by omega, by go_num, HA4.out⟩
            case measure => simp [intOf]; omega)
        · obtain rfl : j = ns := by omega
          have r0 := HA.out.s.cell 0
          have r1 := HA.out.s.cell 1
          have r2 := HA.out.s.cell 2
          have r3 := HA.out.s.cell 3
          have r4 := HA.out.s.cell 4
          simp only [List.getElem?_cons_succ, List.getElem?_cons_zero] at r0 r1 r2 r3 r4
          have hdt : dd.take j = dd := List.take_of_length_le (by rw [HDL.out]; exact Nat.le_refl _)
          obtain ⟨y, hy⟩ : ∃ y : Shr.C, y = ⟨⟨ep, ((k + 1 : Nat) : Int), ((m + 1 : Nat) : Int), (mn : Int), dd⟩, Ad, cd⟩ := ⟨_, rfl⟩
          have HO8 := Lib.hid (HO.out.keep HA.out.b)
          have HYO := Lib.hid (show y.Ok wr ∧ Far y.A u12.ownBlock ∧ (∀ b off, y.A = some ⟨b, off, none⟩ → b < wr.heap.size) by
            rw [hy]
            have ho := HA.out.own
            rw [hdt] at ho
            refine ⟨⟨?_, ?_, own_nil ho⟩, Far.fresh (own_fresh ho) HO.out.row (Nat.le_succ _), own_lt ho⟩
            · show RdB wr Ad dd.length dd
              rw [HDL.out]
              exact RdB.of_own ho
            · show dd.length ≤ maxLen
              rw [HDL.out]; unfold maxLen; omega)
          have HYF := Lib.hid (show Fresh w.heap.size y.A by
            rw [hy]
            have ho := HA.out.own
            exact (own_fresh ho).mono (by omega))
          have HYC := Lib.hid (show y.cells = [.int .i64 ep, .int .i64 ((k : Int) + 1), .int .i64 ((m : Int) + 1), .int .i64 (mn : Int), .slice Ad j cd] by rw [hy]; show [_, _, _, _, Value.slice Ad dd.length cd] = _; rw [HDL.out]; rfl)
          have HYS := Lib.hid (show y.s = ⟨ep, ((k + 1 : Nat) : Int), ((m + 1 : Nat) : Int), (mn : Int), dd⟩ by rw [hy])
          clear hy hdt
          go_wp2_with (at_builtin; refine wpList_append_rd rfl _ _ rfl elS rfl (HO8.out.row.alloc _) rfl (rd_new wr 43 5 [.int .i64 ep, .int .i64 ((k : Int) + 1), .int .i64 ((m : Int) + 1), .int .i64 (mn : Int), .slice Ad j cd] rfl) (by simp [Value.oneCell']) (fun h => by (cases h)) (by simp only [maxLen]; omega) (by omega) (by simp; omega) ?_; intro v9 w9 hG9; have HG9 := Lib.hid hG9; clear hG9)
          have HO9 := Lib.hid (HO8.out.grow HYO.out (by rw [HYC.out]; exact HG9.out))
          have HB9 := Lib.hid (((HB.out.trans (HA.out.b.mono hzr)).alloc (by omega) (.cells #[.int .i64 ep, .int .i64 ((k : Int) + 1), .int .i64 ((m : Int) + 1), .int .i64 (mn : Int), .slice Ad j cd] 43)).grown HG9.out.grown (by simp; omega) (fun g e => own_ge HO8.out.row e))
          have HV9 := Lib.hid (show Shr.vals (xs ++ [y]) = (Shr.spl sec ep (m + 1) mn coins).take (k + 1) by rw [Shr.vals, List.map_append, HT.out]; show Shr.vals xs ++ [y.s] = _; rw [HV.out, HYS.out])
          have HF9 := Lib.hid (show ∀ z, z ∈ xs ++ [y] → Fresh w.heap.size z.A from fun z hz => by
            rcases List.mem_append.1 hz with h | h
            · exact HFR.out z h
            · rw [List.mem_singleton] at h; subst h; exact HYF.out)
          clear HG9 r0 r1 r2 r3 r4
          go_wp2_with fail
          go_roundw
          case rel =>
            repeat apply Exists.intro
            refine ⟨?_, rfl⟩
            exact ⟨k + 1, xs ++ [y], by omega, by go_num, HO9.out, HF9.out, HV9.out, HB9.out⟩
          case measure => simp [intOf]; omega
    · obtain rfl : k = mn := by omega
      have hle : ¬ (k : Int) + 1 ≤ (k : Int) := by omega
      go_wp2_with fail
      go_ret2
      exact ⟨_, xs, rfl, HO.out, HFR.out, by rw [HV.out, Shr.spl_take_all], HB.out⟩
end Go.Proofs.YtideglpjgplpnaaDoor
