import Derived.Laws.EntriesVeiled
import Derived.Test.YtideglpjgplpnaaDoorMCdW6
/- Contracts of codec.newWriter, Encode, Size. -/
namespace Go.Proofs.YtideglpjgplpnaaDoor
open Go.RowKit Go.Shelf
set_option linter.unusedVariables false

section
variable {P : Program} {ops : Array Oper} {o : Oper} {a : Act} {w : World} {K : Act → World → Prop} {Q : Exit → Act → World → Prop} {F : Prop}
/-- a call without arguments, as one step of a region that draws -/
theorem step_call0R (R : Ending → World → Prop) (f : FuncId) (tys : Array TypeId) (hgd : o.guard = none)
    (ho : o.op = .call { callee := .value (.func f), args := #[], argTypes := tys }) (heg : ∀ args w, (callFunc f args).run P w = .ok (.enter f args) w) (hC : Calls P f #[] w R)
    (hR : ∀ e w', R e w' → ∃ v, e = .returned v) (h : ∀ v w', R (.returned v) w' → K (a.put o.dst v) w') :
    if Region.wanted o (yielded ops a.tmps) = true then Oper.wp P o a w K Q else F := by
  rw [if_pos (by simp [Region.wanted, hgd])]
  have hrun : (execOp a.eval o).run P w = .ok (.enter f #[]) w := by
    simp [execOp, ho, resolve, invoke, Act.eval, Deferred.ofValue, go_sem, heg]
  unfold Oper.wp
  rw [hrun, Oper.upon_enter]
  refine hC.mono fun e w' hr => ?_
  obtain ⟨v, rfl⟩ := hR e w' hr
  exact h v w' hr
/-- a call of a function value of two arguments, as one step of a region that draws -/
theorem step_callV (R : Ending → World → Prop) (f : FuncId) (caps : Array Value) (fv x y : Operand) (tys : Array TypeId) (vx vy : Value) (hgd : o.guard = none)
    (ho : o.op = .call { callee := .value fv, args := #[x, y], argTypes := tys }) (hf : a.eval fv = .func (.func f) #[] caps) (heg : ∀ args w, (callFunc f args).run P w = .ok (.enter f args) w) (hx : a.eval x = vx) (hy : a.eval y = vy) (hC : Calls P f (#[vx, vy] ++ caps) w R)
    (hR : ∀ e w', R e w' → ∃ v, e = .returned v) (h : ∀ v w', R (.returned v) w' → K (a.put o.dst v) w') :
    if Region.wanted o (yielded ops a.tmps) = true then Oper.wp P o a w K Q else F := by
  rw [if_pos (by simp [Region.wanted, hgd])]
  have hrun : (execOp a.eval o).run P w = .ok (.enter f (#[vx, vy] ++ caps)) w := by
    unfold execOp
    simp only [ho, resolve, hf, Deferred.ofValue, invoke, Sem.run_bind, Sem.run_pure, Result.andThen_ok, List.map_toArray, List.map_cons, List.map_nil, hx, hy]
    simp [heg]
  unfold Oper.wp
  rw [hrun, Oper.upon_enter]
  refine hC.mono fun e w' hr => ?_
  obtain ⟨v, rfl⟩ := hR e w' hr
  exact h v w' hr
end
theorem own_less {w : World} {base base' e size n : Nat} {v : Value} {xs : List Value} (h : w.ownsRow base e size v n xs) (hB : base' ≤ base) : w.ownsRow base' e size v n xs := by
  refine ⟨h.1, ?_⟩
  rcases h.2 with h0 | ⟨g, c, cur, hv, h1, hh, h2⟩
  · exact .inl h0
  · exact .inr ⟨g, c, cur, hv, Nat.le_trans hB h1, hh, h2⟩

def Cd.RetW (w : World) (e : Ending) (w' : World) : Prop := ∃ bw bt, e = .returned (.pointer (some ⟨bt, 0, none⟩)) ∧ Cd.Tab w' w'.heap.size bw bt ∧ Below w.heap.size w w'

set_option maxHeartbeats 1000000 in
theorem Cd.newWriter_any (w : World) : Calls Tryd.prog 78 #[] w (Cd.RetW w) := by
  have hmf : ∀ (fn : Fn) (first cap : Array Value) (w : World), (Instr.makeFunc fn first cap).run Tryd.prog w = .ok (.func fn first cap) w := fun _ _ _ _ => rfl
  go_enter Tryd.func78, Tryd.ntmps78
  have SB : St w ((w.alloc (.cells #[.nilFunc, .nilFunc, .nilFunc, .nilFunc] 129)).alloc (.cells #[.pointer (some ⟨w.heap.size, 0, none⟩)] 110)) [(w.heap.size, 129, [.nilFunc, .nilFunc, .nilFunc, .nilFunc]), (w.heap.size + 1, 110, [.pointer (some ⟨w.heap.size, 0, none⟩)])] := by
    have h := ((St.start w).new 129 [.nilFunc, .nilFunc, .nilFunc, .nilFunc]).new 110 [.pointer (some ⟨w.heap.size, 0, none⟩)]
    rw [World.size_alloc] at h
    exact h.less (by simp)
  go_upto_region 2 with fail
  obtain ⟨w1, hw1⟩ : ∃ w1, w1 = (w.alloc (.cells #[.nilFunc, .nilFunc, .nilFunc, .nilFunc] 129)).alloc (.cells #[.pointer (some ⟨w.heap.size, 0, none⟩)] 110) := ⟨_, rfl⟩
  have S1 := Lib.hid (show St w w1 [(w.heap.size, 129, [.nilFunc, .nilFunc, .nilFunc, .nilFunc]), (w.heap.size + 1, 110, [.pointer (some ⟨w.heap.size, 0, none⟩)])] by rw [hw1]; exact SB)
  rw [← hw1]
  clear hw1 SB
  obtain ⟨p1, q1⟩ := (S1.out.nth 1 rfl).r1
  have r1 := (S1.out.nth 0 rfl).cell 1
  have f1 := (S1.out.nth 0 rfl).frozen 1
  have z1 := (S1.out.nth 0 rfl).lt
  simp only [List.getElem?_cons_succ, List.getElem?_cons_zero] at r1
  go_upto_region 3 with fail
  obtain ⟨w2, hw2⟩ : ∃ w2, w2 = w1.setCell ⟨w.heap.size, 1, none⟩ (.func (.func 96) #[] #[]) := ⟨_, rfl⟩
  have S2 := Lib.hid (show St w w2 [(w.heap.size, 129, [.nilFunc, .func (.func 96) #[] #[], .nilFunc, .nilFunc]), (w.heap.size + 1, 110, [.pointer (some ⟨w.heap.size, 0, none⟩)])] by rw [hw2]; exact S1.out.put (Nat.le_refl _) (by simp) 1 _)
  rw [← hw2]
  clear hw2 p1 q1 r1 f1 z1
  obtain ⟨p2, q2⟩ := (S2.out.nth 1 rfl).r1
  have r2 := (S2.out.nth 0 rfl).cell 2
  have f2 := (S2.out.nth 0 rfl).frozen 2
  have z2 := (S2.out.nth 0 rfl).lt
  simp only [List.getElem?_cons_succ, List.getElem?_cons_zero] at r2
  go_upto_region 4 with fail
  obtain ⟨w3, hw3⟩ : ∃ w3, w3 = w2.setCell ⟨w.heap.size, 2, none⟩ (.func (.func 99) #[] #[]) := ⟨_, rfl⟩
  have S3 := Lib.hid (show St w w3 [(w.heap.size, 129, [.nilFunc, .func (.func 96) #[] #[], .func (.func 99) #[] #[], .nilFunc]), (w.heap.size + 1, 110, [.pointer (some ⟨w.heap.size, 0, none⟩)])] by rw [hw3]; exact S2.out.put (Nat.le_refl _) (by simp) 2 _)
  rw [← hw3]
  clear hw3 p2 q2 r2 f2 z2
  obtain ⟨p3, q3⟩ := (S3.out.nth 1 rfl).r1
  have r3 := (S3.out.nth 0 rfl).cell 3
  have f3 := (S3.out.nth 0 rfl).frozen 3
  have z3 := (S3.out.nth 0 rfl).lt
  simp only [List.getElem?_cons_succ, List.getElem?_cons_zero] at r3
  go_upto_region 5 with fail
  obtain ⟨w4, hw4⟩ : ∃ w4, w4 = w3.setCell ⟨w.heap.size, 3, none⟩ (.func (.func 100) #[] #[.pointer (some ⟨w.heap.size + 1, 0, none⟩)]) := ⟨_, rfl⟩
  have S4 := Lib.hid (show St w w4 [(w.heap.size, 129, [.nilFunc, .func (.func 96) #[] #[], .func (.func 99) #[] #[], .func (.func 100) #[] #[.pointer (some ⟨w.heap.size + 1, 0, none⟩)]]), (w.heap.size + 1, 110, [.pointer (some ⟨w.heap.size, 0, none⟩)])] by rw [hw4]; exact S3.out.put (Nat.le_refl _) (by simp) 3 _)
  rw [← hw4]
  clear hw4 p3 q3 r3 f3 z3
  obtain ⟨p4, q4⟩ := (S4.out.nth 1 rfl).r1
  have r4 := (S4.out.nth 0 rfl).cell 3
  have f4 := (S4.out.nth 0 rfl).frozen 3
  have z4 := (S4.out.nth 0 rfl).lt
  simp only [List.getElem?_cons_succ, List.getElem?_cons_zero] at r4
  go_wp2_with fail
  go_ret
  exact ⟨w.heap.size + 1, w.heap.size, rfl, ⟨p4, z4, q4, (S4.out.nth 0 rfl).cell 1, (S4.out.nth 0 rfl).cell 2, (S4.out.nth 0 rfl).cell 3⟩, S4.out.below⟩

/-- what Encode hands back -/
def Cd.out (t : Cd.T) : List UInt8 := if Cd.chkE t = 0 then t.enc else []
def Cd.RetE (w : World) (t : Cd.T) (e : Ending) (w' : World) : Prop := ∃ v, e = .returned (.tuple #[v, .int .i64 (Cd.chkE t)]) ∧ Below w.heap.size w w' ∧ w'.ownsRow w.heap.size 5 1 v (Cd.out t).length ((Cd.out t).map fun a => Value.int .u8 (a.toNat : Int))
theorem Cd.chk_some {t : Cd.T} (h : Cd.chkE t = 0) : t.fd.isSome = true := by
  unfold Cd.chkE at h
  cases hf : t.fd with
  | none => rw [hf] at h; cases h
  | some d => rfl

set_option maxRecDepth 100000 in
set_option maxHeartbeats 4000000 in
theorem Cd.encode_any (t : Cd.T) (cs : List Value) (w : World) (hh : t.hgt ≤ 1000000) (hc : Cd.CellB w w.heap.size t cs) (hlen : t.enc.length ≤ 90000000) :
    Calls Tryd.prog 48 #[.agg cs.toArray] w (Cd.RetE w t) := by
  obtain ⟨Av, cv, rfl⟩ := hc.spell
  have HC := Lib.hid hc
  have HNR := Lib.hid (show -9223372036854775808 ≤ t.n ∧ t.n ≤ 9223372036854775807 by
    cases hc
    assumption)
  clear hc
  have HLE := Lib.hid hlen
  have HHG := Lib.hid hh
  clear hlen hh
  go_enter Tryd.func48, Tryd.ntmps48
  go_wp2_with fail
  obtain ⟨w0, hw0⟩ : ∃ w0, w0 = w.alloc (.cells #[.int .i64 t.k, .int .i64 t.n, .string ⟨t.s.toArray⟩, .slice Av t.l.length cv] 77) := ⟨_, rfl⟩
  have HB0 := Lib.hid (show Below w.heap.size w w0 by rw [hw0]; exact (Below.refl _ _).alloc (Nat.le_refl _) _)
  have HH0 := Lib.hid (show Has w0 w.heap.size 77 [.int .i64 t.k, .int .i64 t.n, .string ⟨t.s.toArray⟩, .slice Av t.l.length cv] by rw [hw0]; exact Has.new _ _ _)
  try rw [← hw0]
  clear hw0
  (with_reducible refine (Cd.check_any t _ _ HHG.out ((HC.out.under HB0.out (Nat.le_refl _)).cell HB0.out.size)).mono ?_)
  rintro e w1 ⟨rfl, hb1⟩
  have HB1 := Lib.hid (HB0.out.trans (hb1.mono HB0.out.size))
  have HH1 := Lib.hid (HH0.out.keep hb1)
  clear hb1
  have z1 := HH1.out.lt
  have d0 := HH1.out.cell 0
  have d1 := HH1.out.cell 1
  have d2 := HH1.out.cell 2
  have d3 := HH1.out.cell 3
  simp only [List.getElem?_cons_succ, List.getElem?_cons_zero] at d0 d1 d2 d3
  by_cases hce : Cd.chkE t = 0
  · have HCE := Lib.hid hce
    have HF := Lib.hid (Cd.chk_some hce)
    have HX := Lib.hid (HC.out.under HB1.out (Nat.le_refl _))
    rw [hce]
    clear hce
    go_wp2_with fail
    have HENW := Lib.hid (enters_of Tryd.func78 (by kernel_rfl) rfl)
    have HRW := Lib.hid (show ∀ v4 w4, Cd.RetW w1.drew (.returned v4) w4 → ∃ bw bt, v4 = .pointer (some ⟨bt, 0, none⟩) ∧ Cd.Tab w4 w4.heap.size bw bt ∧ Below w1.heap.size w1 w4 from fun v4 w4 h => by
      obtain ⟨bw, bt, e, hT, hb⟩ := h
      injection e with e
      exact ⟨bw, bt, e, hT, ((Below.refl _ _).drew).trans hb⟩)
    have HV := Lib.hid (show ∀ w4, Below w1.heap.size w1 w4 → (w.heap.size < w4.heap.size ∧ w4.cell? ⟨w.heap.size, 0, none⟩ = some (.int .i64 t.k)) ∧ w4.cell? ⟨w.heap.size, 1, none⟩ = some (.int .i64 t.n) ∧ w4.cell? ⟨w.heap.size, 2, none⟩ = some (.string ⟨t.s.toArray⟩) ∧ w4.cell? ⟨w.heap.size, 3, none⟩ = some (.slice Av t.l.length cv) from fun w4 hb => by
      have h := HH1.out.keep hb
      exact ⟨⟨h.lt, h.cell 0⟩, h.cell 1, h.cell 2, h.cell 3⟩)
    have HE1 := Lib.hid (enters_of Tryd.func96 (by kernel_rfl) rfl)
    have HE2 := Lib.hid (enters_of Tryd.func99 (by kernel_rfl) rfl)
    have HE3 := Lib.hid (enters_of Tryd.func100 (by kernel_rfl) rfl)
    have HON := Lib.hid (show ∀ w4 : World, w4.ownsRow w4.heap.size 5 1 (.slice none 0 0) ([] : List UInt8).length (([] : List UInt8).map fun a => Value.int .u8 (a.toNat : Int)) from fun w4 => World.ownsRow_nil w4 _ _ 1)
    have HFIN := Lib.hid (show ∀ w4 v5 w5, Below w1.heap.size w1 w4 → Cd.RetG w4 w4.heap.size (.slice none 0 0) ([] ++ t.enc) (.returned v5) w5 → Cd.RetE w t (.returned (.tuple #[v5, .int .i64 0])) w5 from fun w4 v5 w5 hb h => by
      obtain ⟨v6, e, hG⟩ := h
      injection e with e
      subst e
      rw [List.nil_append] at hG
      have ho : Cd.out t = t.enc := by unfold Cd.out; rw [if_pos HCE.out]
      refine ⟨v5, by rw [HCE.out], ?_, ?_⟩
      · have h1 := hG.below (HON.out w4) (Nat.le_refl _) (Nat.le_refl _)
        exact (HB1.out.trans (hb.mono HB1.out.size)).trans (h1.mono (Nat.le_trans HB1.out.size hb.size))
      · rw [ho]
        exact own_less hG.own (Nat.le_trans HB1.out.size hb.size))
    have hz0 : Cd.chkE t = 0 := HCE.out
    clear hz0
    rcases Cd.T.fd_cases HF.out with ⟨k1, q1, q2⟩ | ⟨k1, q1, q2⟩ | ⟨k1, q1, q2, q3⟩
    · have HK := Lib.hid (show ∀ bw bt w4, Cd.Tab w4 w4.heap.size bw bt → Below w1.heap.size w1 w4 → Calls Tryd.prog 96 (#[.slice none 0 0, .agg #[.int .i64 1, .int .i64 t.n, .string ⟨t.s.toArray⟩, .slice Av t.l.length cv]] ++ #[]) w4 (Cd.RetG w4 w4.heap.size (.slice none 0 0) ([] ++ t.enc)) from fun bw bt w4 hT hb => by
        rw [Cd.enc_1 k1]
        exact Cd.wInt_any (.slice none 0 0) w4.heap.size 1 t.n ⟨t.s.toArray⟩ Av t.l.length cv [] w4 (HON.out w4) (Nat.le_refl _) HNR.out (by simp))
      rw [k1] at d0 HV
      clear q1 q2 k1
      go_region_law (first
        | (refine step_call0R _ 78 _ (by rfl) (by rfl) HENW.out (Cd.newWriter_any _) (fun e w' h => by obtain ⟨bw, bt, e', _⟩ := h; exact ⟨_, e'⟩) ?_; intro v4 w4 hR4; obtain ⟨bw, bt, rfl, hT4, hb4⟩ := HRW.out v4 w4 hR4; obtain ⟨⟨z4, e0⟩, e1, e2, e3⟩ := HV.out w4 hb4; have t4 := hT4.c1; have y4 := hT4.lt; have HT4 := Lib.hid hT4; have HB4 := Lib.hid hb4; clear hT4 hb4 hR4)
        | (refine step_callV _ 96 (#[]) (.tmp 16) _ (.tmp 17) _ (.slice none 0 0) _ (by rfl) (by rfl) (by rfl) HE1.out (by rfl) (by rfl) (HK.out bw bt w4 HT4.out HB4.out) (fun e w' h => by obtain ⟨v', e', _⟩ := h; exact ⟨v', e'⟩) ?_; intro v5 w5 hR5; have HR5 := Lib.hid (HFIN.out w4 v5 w5 HB4.out hR5); clear hR5))
      all_goals (
        go_wp2_with fail
        go_ret2
        exact HR5.out)
    · have HK := Lib.hid (show ∀ bw bt w4, Cd.Tab w4 w4.heap.size bw bt → Below w1.heap.size w1 w4 → Calls Tryd.prog 99 (#[.slice none 0 0, .agg #[.int .i64 2, .int .i64 t.n, .string ⟨t.s.toArray⟩, .slice Av t.l.length cv]] ++ #[]) w4 (Cd.RetG w4 w4.heap.size (.slice none 0 0) ([] ++ t.enc)) from fun bw bt w4 hT hb => by
        rw [Cd.enc_2 k1]
        exact Cd.wText_any (.slice none 0 0) w4.heap.size 2 t.n t.s Av t.l.length cv [] w4 (HON.out w4) (Nat.le_refl _) (by have := HLE.out; rw [Cd.enc_2 k1] at this; simp at this ⊢; omega))
      rw [k1] at d0 HV
      clear q1 q2 k1
      go_region_law (first
        | (refine step_call0R _ 78 _ (by rfl) (by rfl) HENW.out (Cd.newWriter_any _) (fun e w' h => by obtain ⟨bw, bt, e', _⟩ := h; exact ⟨_, e'⟩) ?_; intro v4 w4 hR4; obtain ⟨bw, bt, rfl, hT4, hb4⟩ := HRW.out v4 w4 hR4; obtain ⟨⟨z4, e0⟩, e1, e2, e3⟩ := HV.out w4 hb4; have t4 := hT4.c2; have y4 := hT4.lt; have HT4 := Lib.hid hT4; have HB4 := Lib.hid hb4; clear hT4 hb4 hR4)
        | (refine step_callV _ 99 (#[]) (.tmp 16) _ (.tmp 17) _ (.slice none 0 0) _ (by rfl) (by rfl) (by rfl) HE2.out (by rfl) (by rfl) (HK.out bw bt w4 HT4.out HB4.out) (fun e w' h => by obtain ⟨v', e', _⟩ := h; exact ⟨v', e'⟩) ?_; intro v5 w5 hR5; have HR5 := Lib.hid (HFIN.out w4 v5 w5 HB4.out hR5); clear hR5))
      all_goals (
        go_wp2_with fail
        go_ret2
        exact HR5.out)
    · have HK := Lib.hid (show ∀ bw bt w4, Cd.Tab w4 w4.heap.size bw bt → Below w1.heap.size w1 w4 → Calls Tryd.prog 100 (#[.slice none 0 0, .agg #[.int .i64 3, .int .i64 t.n, .string ⟨t.s.toArray⟩, .slice Av t.l.length cv]] ++ #[.pointer (some ⟨bw, 0, none⟩)]) w4 (Cd.RetG w4 w4.heap.size (.slice none 0 0) ([] ++ t.enc)) from fun bw bt w4 hT hb => by
        have h := Cd.wList_any 1000000 t [.int .i64 t.k, .int .i64 t.n, .string ⟨t.s.toArray⟩, .slice Av t.l.length cv] w4 (.slice none 0 0) w4.heap.size [] bw bt HHG.out (Nat.le_refl _) k1 HF.out (((HX.out.under hb HB1.out.size).more (Nat.le_trans HB1.out.size hb.size))) hT (HON.out w4) (Nat.le_refl _) (by have := HLE.out; simp; omega)
        rw [k1] at h
        exact h)
      rw [k1] at d0 HV
      clear q1 q2 q3 k1
      go_region_law (first
        | (refine step_call0R _ 78 _ (by rfl) (by rfl) HENW.out (Cd.newWriter_any _) (fun e w' h => by obtain ⟨bw, bt, e', _⟩ := h; exact ⟨_, e'⟩) ?_; intro v4 w4 hR4; obtain ⟨bw, bt, rfl, hT4, hb4⟩ := HRW.out v4 w4 hR4; obtain ⟨⟨z4, e0⟩, e1, e2, e3⟩ := HV.out w4 hb4; have t4 := hT4.c3; have y4 := hT4.lt; have HT4 := Lib.hid hT4; have HB4 := Lib.hid hb4; clear hT4 hb4 hR4)
        | (refine step_callV _ 100 (#[.pointer (some ⟨bw, 0, none⟩)]) (.tmp 16) _ (.tmp 17) _ (.slice none 0 0) _ (by rfl) (by rfl) (by rfl) HE3.out (by rfl) (by rfl) (HK.out bw bt w4 HT4.out HB4.out) (fun e w' h => by obtain ⟨v', e', _⟩ := h; exact ⟨v', e'⟩) ?_; intro v5 w5 hR5; have HR5 := Lib.hid (HFIN.out w4 v5 w5 HB4.out hR5); clear hR5))
      all_goals (
        go_wp2_with fail
        go_ret2
        exact HR5.out)
  · have HCE := Lib.hid hce
    have hne : (Cd.chkE t != 0) = true := by simpa using hce
    clear hce
    go_wp2_with fail
    go_ret2
    exact ⟨_, rfl, HB1.out, by unfold Cd.out; rw [if_neg HCE.out]; exact World.ownsRow_nil _ _ _ 1⟩
end Go.Proofs.YtideglpjgplpnaaDoor
