/- Contract of the reference's encode. -/
import Derived.Test.YtnhodcjbmloeeaaCdR3
namespace Go.Proofs.Ytnhodcjbmloeeaa
open Go.RowKit Go.Shelf
set_option linter.unusedVariables false

/-- an own slice of bytes, above what was there; nothing else has changed -/
structure Cd.Ow (w w' : World) (v : Value) (l : List UInt8) : Prop where
  below : Below w.heap.size w w'
  own : w'.ownsRow w.heap.size 5 1 v l.length (l.map fun a => Value.int .u8 (a.toNat : Int))
theorem Cd.Ow.grew {w w1 w2 : World} {v v' : Value} {l l' : List UInt8} {n : Nat} {ys : List Value} (h : Cd.Ow w w1 v l) (hG : Grew w1 w.heap.size 5 1 v n ys v' w2) (hn : n = l'.length) (hy : ys = l'.map fun a => Value.int .u8 (a.toNat : Int)) : Cd.Ow w w2 v' l' := by
  subst hn hy
  exact ⟨h.below.trans ((Below.refl _ _).grown hG.grown h.below.size (fun g e => own_ge h.own e)), hG.own⟩
theorem Cd.Ow.keep {w w1 w2 : World} {v : Value} {l : List UInt8} (h : Cd.Ow w w1 v l) (hb : Below w1.heap.size w1 w2) : Cd.Ow w w2 v l := ⟨h.below.trans (hb.mono h.below.size), own_below h.own hb⟩
theorem Cd.Ow.lit {w w1 : World} (h : Below w.heap.size w w1) (b : UInt8) : Cd.Ow w (w1.alloc (.cells #[.int .u8 (b.toNat : Int)] 5)) (.slice (some ⟨w1.heap.size, 0, none⟩) 1 1) [b] := ⟨h.alloc h.size _, own_less (own_lit1 w1 b) h.size⟩
theorem Cd.Ow.ret {w w1 w2 : World} {v : Value} {l : List UInt8} (h : Cd.Ow w1 w2 v l) (hb : Below w.heap.size w w1) : Cd.RetO w l (.returned v) w2 := ⟨v, rfl, hb.trans (h.below.mono hb.size), own_less h.own hb.size⟩
/-- a new slice reads -/
theorem Cd.RetO.read {w w' : World} {v : Value} {l : List UInt8} (h : Cd.RetO w l (.returned v) w') : ∃ A c, v = .slice A l.length c ∧ (A = none → c = 0) ∧ Below w.heap.size w w' ∧ Rd w' w'.heap.size 1 A l.length (l.map fun a => Value.int .u8 (a.toNat : Int)) := by
  obtain ⟨v', e, hb, ho⟩ := h
  injection e with e
  subst e
  obtain ⟨A, c, rfl⟩ := own_slice ho
  exact ⟨A, c, rfl, own_nil ho, hb, rd_of_own ho⟩

section
variable {P : Program} {ops : Array Oper} {o : Oper} {a : Act} {w : World} {K : Act → World → Prop} {Q : Exit → Act → World → Prop} {F : Prop}
/-- a call of one argument, as one step of a region that draws -/
theorem step_callR1 (R : Ending → World → Prop) (f : FuncId) (x : Operand) (tys : Array TypeId) (vx : Value) (hgd : o.guard = none)
    (ho : o.op = .call { callee := .value (.func f), args := #[x], argTypes := tys }) (heg : ∀ args w, (callFunc f args).run P w = .ok (.enter f args) w) (hx : a.eval x = vx) (hC : Calls P f #[vx] w R)
    (hR : ∀ e w', R e w' → ∃ v, e = .returned v) (h : ∀ v w', R (.returned v) w' → K (a.put o.dst v) w') :
    if Region.wanted o (yielded ops a.tmps) = true then Oper.wp P o a w K Q else F := by
  rw [if_pos (by simp [Region.wanted, hgd])]
  have hrun : (execOp a.eval o).run P w = .ok (.enter f #[vx]) w := by
    subst hx
    simp [execOp, ho, resolve, invoke, Act.eval, Deferred.ofValue, go_sem, heg]
  unfold Oper.wp
  rw [hrun, Oper.upon_enter]
  refine hC.mono fun e w' hr => ?_
  obtain ⟨v, rfl⟩ := hR e w' hr
  exact h v w' hr
end

set_option maxRecDepth 100000 in
set_option maxHeartbeats 8000000 in
theorem Cd.rencode_step (h : Nat) (IH0 : ∀ (t : Cd.T) (cs : List Value) (w : World), t.hgt ≤ h → h ≤ 1000000 → t.fd.isSome = true → Cd.CellB w w.heap.size t cs → t.enc.length ≤ 90000000 →
    Calls Try.prog 27 #[.agg cs.toArray] w (Cd.RetO w t.enc)) :
    ∀ (t : Cd.T) (cs : List Value) (w : World), t.hgt ≤ h + 1 → h + 1 ≤ 1000000 → t.fd.isSome = true → Cd.CellB w w.heap.size t cs → t.enc.length ≤ 90000000 →
    Calls Try.prog 27 #[.agg cs.toArray] w (Cd.RetO w t.enc) := by
    intro t cs w hh hb hfd hc hlen
    have IH := Lib.hid (fun t cs w h1 => IH0 t cs w h1 (by omega))
    clear IH0
    have hcase := Cd.T.fd_cases hfd
    cases hc with
    | mk k n s l A c xss hl hx hr hn hm hs hk hi =>
    rw [Cd.T.hgt] at hh
    have HX := Lib.hid hx
    have HR := Lib.hid hr
    have HLX := Lib.hid hl
    have HHG := Lib.hid hh
    have HLE := Lib.hid hlen
    have HNI := Lib.hid hi
    clear hx hr hl hn hs hh hfd hlen hk hi
    unfold maxLen at hm
    obtain ⟨w0, hw0⟩ : ∃ w0, w0 = w.alloc (.cells #[.int .i64 k, .int .i64 n, .string ⟨s.toArray⟩, .slice A l.length c] 24) := ⟨_, rfl⟩
    have HB0 := Lib.hid (show Below w.heap.size w w0 by rw [hw0]; exact (Below.refl _ _).alloc (Nat.le_refl _) _)
    have HH0 := Lib.hid (show Has w0 w.heap.size 24 [.int .i64 k, .int .i64 n, .string ⟨s.toArray⟩, .slice A l.length c] by rw [hw0]; exact Has.new _ _ _)
    have HCL := Lib.hid (show ∀ w', Below w0.heap.size w0 w' → w.heap.size < w'.heap.size ∧ w'.cell? ⟨w.heap.size, 1, none⟩ = some (.int .i64 n) ∧ w'.cell? ⟨w.heap.size, 2, none⟩ = some (.string ⟨s.toArray⟩) ∧ w'.cell? ⟨w.heap.size, 3, none⟩ = some (.slice A l.length c) from fun w' hb => by
      have h := HH0.out.keep hb
      exact ⟨h.lt, h.cell 1, h.cell 2, h.cell 3⟩)
    have HW0 := Lib.hid hw0
    clear hw0
    rcases hcase with ⟨k1, q1, q2⟩ | ⟨k1, q1, q2⟩ | ⟨k1, q1, q2, q3⟩
    · clear q1 q2
      have k1 : k = 1 := k1
      subst k1
      have HE := Lib.hid (Cd.enc_1 (t := .mk 1 n s l) rfl)
      simp only [Cd.T.n] at HE
      have HL := Lib.hid (Cd.num_len (Cd.uns n))
      have HUL := Lib.hid (Cd.uns_lt n HNI.out)
      have HUN := Lib.hid (fun w => Cd.runsigned_any n w HNI.out)
      have HNU := Lib.hid (fun w => Cd.rnumeral_any 9 (Cd.uns n) w (Nat.lt_of_lt_of_le HUL.out (by decide)) HUL.out)
      go_enter Try.func27, Try.ntmps27
      go_upto_region 1 with fail
      rw [← HW0.out]
      obtain ⟨z0, c1, c2, c3⟩ := HCL.out w0 (Below.refl _ _)
      have c0 := HH0.out.cell 0
      simp only [List.getElem?_cons_zero] at c0
      have HO1 := Lib.hid (show Cd.Ow w0 (w0.alloc (.cells #[.int .u8 1] 5)) (.slice (some ⟨w0.heap.size, 0, none⟩) 1 1) [1] from Cd.Ow.lit (Below.refl _ _) 1)
      obtain ⟨z1, c1a, _, _⟩ := HCL.out _ HO1.out.below
      go_wp2_with ((with_reducible refine (HUN.out _).mono ?_); rintro e w5 ⟨rfl, rfl⟩)
      try go_wp2_with fail
      ((with_reducible refine (HNU.out _).mono ?_); rintro e w5 ⟨v5, rfl, hb5, ho5⟩)
      obtain ⟨A5, c5, rfl⟩ := own_slice ho5
      have HO5 := Lib.hid ho5
      have HO6 := Lib.hid (HO1.out.keep hb5)
      have hz5 : w0.heap.size ≤ w5.heap.size := HO6.out.below.size
      have hl5 := HL.out
      clear hb5 ho5
      go_wp2_with (at_builtin; refine wpList_append_rd rfl _ _ rfl el27 rfl HO6.out.own rfl (rd_of_own HO5.out) (one_bytes _) (own_nil HO5.out) (by simp only [maxLen]; simp; omega) (by simp; omega) hz5 ?_; intro v4 w4 hG4)
      have HG4 := Lib.hid (show Cd.Ow w0 w4 v4 (1 :: Cd.num (Cd.uns n)) from HO6.out.grew hG4 (by simp; omega) (by simp))
      clear hG4
      go_wp2_with fail
      go_ret
      rw [HE.out]
      exact HG4.out.ret HB0.out
    · clear q1 q2
      have k1 : k = 2 := k1
      subst k1
      have HE := Lib.hid (Cd.enc_2 (t := .mk 2 n s l) rfl)
      simp only [Cd.T.s] at HE
      have hsl : s.length ≤ 90000000 := by have h := HLE.out; rw [HE.out] at h; simp at h; omega
      have HL := Lib.hid (Cd.num_len s.length)
      have HSZ0 := Lib.hid (str_size s)
      have HSC := Lib.hid (strCells_eq s)
      have hcv : IntKind.u64.wrap ((s.length : Nat) : Int) = ((s.length : Nat) : Int) := by rw [Cd.u64_wrap]; omega
      have hsz := HSZ0.out
      have HEN := Lib.hid (enters_of Try.func42 (by kernel_rfl) rfl)
      have HO1 := Lib.hid (show Cd.Ow w0 ((w0.alloc (.cells #[.int .u8 2] 5)).drew) (.slice (some ⟨w0.heap.size, 0, none⟩) 1 1) [2] from ⟨(Cd.Ow.lit (Below.refl _ _) 2).below.drew, own_drew (Cd.Ow.lit (Below.refl _ _) 2).own⟩)
      have HNA := Lib.hid (show Calls Try.prog 42 #[.int .u64 ((s.length : Nat) : Int)] ((w0.alloc (.cells #[.int .u8 2] 5)).drew) (Cd.RetO ((w0.alloc (.cells #[.int .u8 2] 5)).drew) (Cd.num s.length)) from Cd.rnumeral_any 9 s.length _ (Nat.lt_of_lt_of_le (show s.length < 18446744073709551616 by omega) (by decide)) (by omega))
      have HNB := Lib.hid (show Calls Try.prog 42 #[.int .u64 ((s.length : Nat) : Int)] w0.drew (Cd.RetO w0.drew (Cd.num s.length)) from Cd.rnumeral_any 9 s.length _ (Nat.lt_of_lt_of_le (show s.length < 18446744073709551616 by omega) (by decide)) (by omega))
      generalize hNUM : Cd.num s.length = NUM at HE HL HNA HNB
      have HNUM := Lib.hid hNUM
      clear hNUM
      have HXA := Lib.hid (show ∀ v5 w5, Cd.RetO ((w0.alloc (.cells #[.int .u8 2] 5)).drew) NUM (.returned v5) w5 → ∃ A5 c5, v5 = .slice A5 NUM.length c5 ∧ (A5 = none → c5 = 0) ∧ Rd w5 w5.heap.size 1 A5 NUM.length (NUM.map fun a => Value.int .u8 (a.toNat : Int)) ∧ Cd.Ow w0 w5 (.slice (some ⟨w0.heap.size, 0, none⟩) 1 1) [2] from fun v5 w5 h => by
        obtain ⟨A, c, e, hn, hb, hr⟩ := h.read
        exact ⟨A, c, e, hn, hr, HO1.out.keep hb⟩)
      have HXB := Lib.hid (show ∀ v5 w5, Cd.RetO w0.drew NUM (.returned v5) w5 → ∃ A5 c5, v5 = .slice A5 NUM.length c5 ∧ (A5 = none → c5 = 0) ∧ Rd (w5.alloc (.cells #[.int .u8 2] 5)) (w5.alloc (.cells #[.int .u8 2] 5)).heap.size 1 A5 NUM.length (NUM.map fun a => Value.int .u8 (a.toNat : Int)) ∧ Cd.Ow w0 (w5.alloc (.cells #[.int .u8 2] 5)) (.slice (some ⟨w5.heap.size, 0, none⟩) 1 1) [2] ∧ Below w0.heap.size w0 w5 from fun v5 w5 h => by
        obtain ⟨A, c, e, hn, hb, hr⟩ := h.read
        have hb2 : Below w0.heap.size w0 w5 := ((Below.refl _ _).drew).trans hb
        exact ⟨A, c, e, hn, RdB.alloc (w := w5) hr _, Cd.Ow.lit hb2 2, hb2⟩)
      have HAP := Lib.hid (show ∀ w5 vv v6 w6, Cd.Ow w0 w5 vv [2] → Grew w5 w0.heap.size 5 1 vv ([(2 : UInt8)].length + NUM.length) (([(2 : UInt8)].map fun a => Value.int .u8 (a.toNat : Int)) ++ NUM.map fun a => Value.int .u8 (a.toNat : Int)) v6 w6 → Cd.Ow w0 w6 v6 (2 :: NUM) from fun w5 vv v6 w6 h hG => h.grew hG (by simp; omega) (by simp))
      have HST := Lib.hid (show ∀ w6 v6 v7 w7, Cd.Ow w0 w6 v6 (2 :: NUM) → Grew w6 w0.heap.size 5 1 v6 ((2 :: NUM).length + (⟨s.toArray⟩ : ByteArray).size) (((2 :: NUM).map fun a => Value.int .u8 (a.toNat : Int)) ++ Lib.strCells ⟨s.toArray⟩) v7 w7 → Cd.RetO w (2 :: (NUM ++ s)) (.returned v7) w7 from fun w6 v6 v7 w7 h hG => by
        rw [HSZ0.out, HSC.out] at hG
        exact (h.grew (l' := 2 :: (NUM ++ s)) hG (by simp; omega) (by simp)).ret HB0.out)
      have H1 := Lib.hid (one_bytes NUM)
      have H63 := Lib.hid (show [(2 : UInt8)].length + NUM.length ≤ maxLen by have := HL.out; unfold maxLen; simp; omega)
      have H64 := Lib.hid (show ([(2 : UInt8)].length + NUM.length) * 1 ≤ 140737488355328 by have := HL.out; simp; omega)
      have H65 := Lib.hid (show (2 :: NUM).length + (⟨s.toArray⟩ : ByteArray).size ≤ maxLen by rw [HSZ0.out]; have := HL.out; unfold maxLen; simp; omega)
      have H66 := Lib.hid (show (2 :: NUM).length + (⟨s.toArray⟩ : ByteArray).size ≤ 140737488355328 by rw [HSZ0.out]; have := HL.out; simp; omega)
      go_enter Try.func27, Try.ntmps27
      go_upto_region 1 with fail
      rw [← HW0.out]
      obtain ⟨z0, c1, c2, c3⟩ := HCL.out w0 (Below.refl _ _)
      obtain ⟨z1, c1a, c2a, c3a⟩ := HCL.out (w0.alloc (.cells #[.int .u8 2] 5)) ((Below.refl _ _).alloc (Nat.le_refl _) _)
      have c0 := HH0.out.cell 0
      simp only [List.getElem?_cons_zero] at c0
      go_upto_region 5 with fail
      go_region_law (first
        | (refine step_callR1 _ 42 (.tmp 21) _ (.int .u64 ((s.length : Nat) : Int)) (by rfl) (by rfl) HEN.out (by rfl) HNA.out (fun e w' h => by obtain ⟨v', e', _⟩ := h; exact ⟨v', e'⟩) ?_; intro v5 w5 hR5; obtain ⟨A5, c5, rfl, hn5, hr5, ho5⟩ := HXA.out v5 w5 hR5; obtain ⟨z5, c15, c25, c35⟩ := HCL.out w5 ho5.below; have HN5 := Lib.hid hn5; have HR5 := Lib.hid hr5; have HO5 := Lib.hid ho5; clear hn5 hr5 ho5 hR5)
        | (refine step_callR1 _ 42 (.tmp 21) _ (.int .u64 ((s.length : Nat) : Int)) (by rfl) (by rfl) HEN.out (by rfl) HNB.out (fun e w' h => by obtain ⟨v', e', _⟩ := h; exact ⟨v', e'⟩) ?_; intro v5 w5 hR5; obtain ⟨A5, c5, rfl, hn5, hr5, ho5, hb5⟩ := HXB.out v5 w5 hR5; obtain ⟨z5, c15, c25, c35⟩ := HCL.out w5 hb5; obtain ⟨z5a, c15a, c25a, c35a⟩ := HCL.out _ ho5.below; have HN5 := Lib.hid hn5; have HR5 := Lib.hid hr5; have HO5 := Lib.hid ho5; clear hn5 hr5 ho5 hR5)
        | (refine step_append_rd (by rfl) (.tmp 17) (.tmp 22) (by rfl) el27 (by rfl) HO5.out.own (by rfl) HR5.out H1.out HN5.out H63.out H64.out HO5.out.below.size ?_; intro v6 w6 hG6; have HO6 := Lib.hid (HAP.out _ _ v6 w6 HO5.out hG6); obtain ⟨z6, c16, c26, c36⟩ := HCL.out w6 HO6.out.below; clear hG6)
        | (refine step_append_str (by rfl) (.tmp 23) (.tmp 25) (by rfl) el27 Try.underlying9 (by rfl) HO6.out.own (by rfl) H65.out H66.out HO6.out.below.size ?_; intro v7 w7 hG7; have HR7 := Lib.hid (HST.out _ _ v7 w7 HO6.out hG7); clear hG7))
      all_goals (
        go_wp2_with fail
        go_ret
        rw [HE.out]
        exact HR7.out)
    · have k1 : k = 3 := k1
      have q1 : n = 0 := q1
      have q2 : s = [] := q2
      subst k1 q1 q2
      have HFD := Lib.hid (show (Cd.T.fds l).isSome = true from q3)
      clear q3
      have HE := Lib.hid (Cd.enc_3 (t := .mk 3 0 [] l) rfl)
      simp only [Cd.T.l] at HE
      have HLN := Lib.hid (show 1 + (Cd.num l.length).length + (Cd.T.encs l).length ≤ 90000000 by have h := HLE.out; rw [HE.out] at h; simp at h; omega)
      have hl10 := Cd.num_len l.length
      have hcv : IntKind.u64.wrap ((l.length : Nat) : Int) = ((l.length : Nat) : Int) := by rw [Cd.u64_wrap]; omega
      have HNU := Lib.hid (fun w => Cd.rnumeral_any 9 l.length w (Nat.lt_of_lt_of_le (show l.length < 18446744073709551616 by omega) (by decide)) (by omega))
      go_enter Try.func27, Try.ntmps27
      go_upto_region 1 with fail
      rw [← HW0.out]
      obtain ⟨z0, c1, c2, c3⟩ := HCL.out w0 (Below.refl _ _)
      have c0 := HH0.out.cell 0
      simp only [List.getElem?_cons_zero] at c0
      have HO1 := Lib.hid (show Cd.Ow w0 (w0.alloc (.cells #[.int .u8 3] 5)) (.slice (some ⟨w0.heap.size, 0, none⟩) 1 1) [3] from Cd.Ow.lit (Below.refl _ _) 3)
      obtain ⟨z1, _, _, c3a⟩ := HCL.out _ HO1.out.below
      go_wp2_with fail
      ((with_reducible refine (HNU.out _).mono ?_); rintro e w5 ⟨v5, rfl, hb5, ho5⟩)
      obtain ⟨A5, c5, rfl⟩ := own_slice ho5
      have HO5 := Lib.hid ho5
      have HO6 := Lib.hid (HO1.out.keep hb5)
      have hz5 : w0.heap.size ≤ w5.heap.size := HO6.out.below.size
      clear hb5 ho5 hcv
      go_wp2_with (at_builtin; refine wpList_append_rd rfl _ _ rfl el27 rfl HO6.out.own rfl (rd_of_own HO5.out) (one_bytes _) (own_nil HO5.out) (by simp only [maxLen]; simp; omega) (by simp; omega) hz5 ?_; intro v4 w4 hG4)
      have HG4 := Lib.hid (show Cd.Ow w0 w4 v4 (3 :: Cd.num l.length) from HO6.out.grew hG4 (by simp; omega) (by simp))
      obtain ⟨z4, _, _, c34⟩ := HCL.out _ HG4.out.below
      clear hG4 c1 c2 c3 c3a c0 z0 z1
      go_wp2_with fail
      clear c34 z4
      go_loopw [3, 4] (fun v' i wr => ∃ j : Nat, j ≤ l.length ∧ i = .int .i64 j ∧ Cd.Ow w0 wr v' (3 :: (Cd.num l.length ++ Cd.T.encs (l.take j)))) (fun _ i _ => l.length - (intOf i).toNat)
      case atStart => exact ⟨0, by omega, rfl, by simpa [Cd.T.encs] using HG4.out⟩
      case round =>
        obtain ⟨j, hj, rfl, hO⟩ := hrel
        have HOr := Lib.hid hO
        have HBr := Lib.hid (HB0.out.trans (hO.below.mono HB0.out.size))
        have hzr := HBr.out.size
        have hzr0 := hO.below.size
        obtain ⟨zr, _, _, c3r⟩ := HCL.out _ hO.below
        clear hO
        by_cases hlt : j < l.length
        · obtain ⟨b, off, Av, cv, rfl, hbw, hcv, e0, e1, e2, e3⟩ := Cd.cellB4 HLX.out (fun i hi => (HX.out i hi).keep HBr.out) (HR.out.below HBr.out (Nat.le_refl _)) j hlt
          have hbz : b < wr.heap.size := by omega
          have hmem : l[j]! ∈ l := by rw [getElem!_pos l j hlt]; exact List.getElem_mem _
          have HF := Lib.hid (Cd.T.fds_all HFD.out hmem)
          have HH := Lib.hid (show (l[j]!).hgt ≤ h by have h1 := Cd.T.hgts_mem hmem; have h2 := HHG.out; omega)
          have HEL := Lib.hid (Cd.T.encs_take l j hlt)
          have HES := Lib.hid (show Cd.T.encs (l.take (j + 1)) = Cd.T.encs (l.take j) ++ (l[j]!).enc by
            rw [List.take_succ_eq_append_getElem hlt, Cd.T.encs_snoc, getElem!_pos l j hlt])
          have HC := Lib.hid hcv
          clear hcv hmem
          generalize l[j]! = x at HF HH HEL HES HC e0 e1 e2 e3
          have HLX2 := Lib.hid (show x.enc.length ≤ 90000000 by have := HEL.out; have := HLN.out; omega)
          have HTOT := Lib.hid (show (3 :: (Cd.num l.length ++ Cd.T.encs (l.take j))).length + x.enc.length ≤ 90000000 by have := HEL.out; have := HLN.out; simp; omega)
          go_wp2_with fail
          ((with_reducible refine (IH.out x [.int .i64 x.k, .int .i64 x.n, .string ⟨x.s.toArray⟩, .slice Av x.l.length cv] wr HH.out HF.out (HC.out.more hzr) HLX2.out).mono ?_); rintro e w7 ⟨v7, rfl, hb7, ho7⟩)
          obtain ⟨A7, c7, rfl⟩ := own_slice ho7
          have HO7 := Lib.hid ho7
          have HO8 := Lib.hid (HOr.out.keep hb7)
          have hz7 : w0.heap.size ≤ w7.heap.size := HO8.out.below.size
          have ht7 := HTOT.out
          clear hb7 ho7 e0 e1 e2 e3 c3r
          go_wp2_with (at_builtin; refine wpList_append_rd rfl _ _ rfl el27 rfl HO8.out.own rfl (rd_of_own HO7.out) (one_bytes _) (own_nil HO7.out) (by simp only [maxLen]; omega) (by omega) hz7 ?_; intro v9 w9 hG9)
          have HG9 := Lib.hid (show Cd.Ow w0 w9 v9 (3 :: (Cd.num l.length ++ Cd.T.encs (l.take (j + 1)))) from HO8.out.grew hG9 (by rw [HES.out]; simp; omega) (by rw [HES.out]; simp))
          clear hG9
          go_wp2_with fail
          go_roundw
          case rel => exact ⟨j + 1, by omega, by go_num, HG9.out⟩
          case measure => simp [intOf]; omega
        · obtain rfl : j = l.length := by omega
          have HEND := Lib.hid (show Cd.RetO w (3 :: (Cd.num l.length ++ Cd.T.encs l)) (.returned u3) wr by
            have h := HOr.out
            rw [List.take_length] at h
            exact h.ret HB0.out)
          go_wp2_with fail
          go_ret
          rw [HE.out]
          exact HEND.out
theorem Cd.rencode_any : ∀ (h : Nat) (t : Cd.T) (cs : List Value) (w : World), t.hgt ≤ h → h ≤ 1000000 → t.fd.isSome = true → Cd.CellB w w.heap.size t cs → t.enc.length ≤ 90000000 →
    Calls Try.prog 27 #[.agg cs.toArray] w (Cd.RetO w t.enc) := by
  intro h
  induction h with
  | zero => intro t cs w hh; cases t; rw [Cd.T.hgt] at hh; omega
  | succ h ih => exact Cd.rencode_step h ih
end Go.Proofs.Ytnhodcjbmloeeaa
