/- Contracts of slices.EqualFunc over values and of codec.Same. -/
import Derived.Test.YtnhodcjbmloeeaaCdR7
namespace Go.Proofs.Ytnhodcjbmloeeaa
open Go.RowKit
set_option linter.unusedVariables false

theorem Cd.T.sms_no {l m : List Cd.T} (h : l ≠ m) : Cd.T.sms l m = false := by
  cases hb : Cd.T.sms l m with
  | false => rfl
  | true => exact absurd ((Cd.T.sms_iff l m).1 hb) h
/-- what Same answers -/
def Cd.RetS (w : World) (b : Bool) (e : Ending) (w' : World) : Prop := e = .returned (.bool b) ∧ Below w.heap.size w w'

set_option maxRecDepth 100000 in
set_option maxHeartbeats 4000000 in
theorem Cd.eqf_any (l l' : List Cd.T) (A A' : Option Addr) (c c' : Nat) (xss xss' : List (List Value)) (w : World)
    (hl : xss.length = l.length) (hx : ∀ i, i < l.length → Cd.Cell w l[i]! xss[i]!) (hr : Rd w w.heap.size 4 A l.length xss.flatten) (hm : l.length ≤ maxLen)
    (hl' : xss'.length = l'.length) (hx' : ∀ i, i < l'.length → Cd.Cell w l'[i]! xss'[i]!) (hr' : Rd w w.heap.size 4 A' l'.length xss'.flatten) (hm' : l'.length ≤ maxLen)
    (hs : ∀ (x y : Cd.T) (cs ds : List Value) (w : World), x ∈ l → Cd.Cell w x cs → Cd.Cell w y ds → Calls Try.prog 21 #[.agg cs.toArray, .agg ds.toArray] w (Cd.RetS w (x.sm y))) :
    Calls Try.prog 35 #[.slice A l.length c, .slice A' l'.length c', .func (.func 21) #[] #[]] w (Cd.RetS w (Cd.T.sms l l')) := by
  have HX := Lib.hid hx
  have HR := Lib.hid hr
  have HLX := Lib.hid hl
  have HX' := Lib.hid hx'
  have HR' := Lib.hid hr'
  have HLX' := Lib.hid hl'
  have HS := Lib.hid hs
  clear hx hr hl hs hx' hr' hl'
  unfold maxLen at hm hm'
  by_cases hll : l.length = l'.length
  · have HLL := Lib.hid hll
    have hlb : ((l.length : Int) != (l'.length : Int)) = false := by rw [hll]; simp
    clear hll
    go_enter Try.func35, Try.ntmps35
    go_wp2_with fail
    clear hlb
    go_loopw [17] (fun i wr => ∃ j : Nat, j ≤ l.length ∧ i = .int .i64 j ∧ l.take j = l'.take j ∧ Below w.heap.size w wr) (fun i _ => l.length - (intOf i).toNat)
    case atStart => exact ⟨0, by omega, rfl, by simp, Below.refl _ _⟩
    case round =>
      obtain ⟨j, hj, rfl, htk, hB⟩ := hrel
      have HTK := Lib.hid htk
      have HB := Lib.hid hB
      clear htk hB
      by_cases hlt : j < l.length
      · have hlt' : j < l'.length := by have := HLL.out; omega
        obtain ⟨b, off, v0, v1, v2, Av, nv, cv, rfl, hbw, hv, e0, e1, e2, e3⟩ := Cd.cell4 HLX.out (fun i hi => (HX.out i hi).keep HB.out) ((HR.out.below HB.out (Nat.le_refl _)).more HB.out.size) j hlt
        obtain ⟨b', off', v0', v1', v2', Av', nv', cv', rfl, hbw', hv', e0', e1', e2', e3'⟩ := Cd.cell4 HLX'.out (fun i hi => (HX'.out i hi).keep HB.out) ((HR'.out.below HB.out (Nat.le_refl _)).more HB.out.size) j hlt'
        have hmem : l[j]! ∈ l := by rw [getElem!_pos l j hlt]; exact List.getElem_mem _
        have HNX := Lib.hid (Cd.take_eq_next j hlt hlt' HTK.out)
        have HNE := Lib.hid (show l[j]! ≠ l'[j]! → Cd.T.sms l l' = false from fun h => Cd.T.sms_no (fun e => h (by rw [e])))
        have HI := Lib.hid (fun w2 (hb : Below wr.heap.size wr w2) => HS.out l[j]! l'[j]! [.int .i64 v0, .int .i64 v1, .string v2, .slice Av nv cv] [.int .i64 v0', .int .i64 v1', .string v2', .slice Av' nv' cv'] w2 hmem (by rw [← hv]; exact ((HX.out j hlt).keep HB.out).keep hb) (by rw [← hv']; exact ((HX'.out j hlt').keep HB.out).keep hb))
        clear hv hv' hmem
        generalize l[j]! = x at HNX HNE HI
        generalize l'[j]! = y at HNX HNE HI
        go_wp2_with fail
        have HB2 := Lib.hid (below_two wr (.cells #[.int .i64 v0, .int .i64 v1, .string v2, .slice Av nv cv] 24) (.cells #[.int .i64 v0', .int .i64 v1', .string v2', .slice Av' nv' cv'] 24))
        have HB3 := Lib.hid (HB.out.trans (HB2.out.mono HB.out.size))
        ((with_reducible refine (HI.out _ HB2.out).mono ?_); rintro e w5 ⟨rfl, hb5⟩)
        have HB5 := Lib.hid (HB3.out.trans (hb5.mono HB3.out.size))
        clear hb5 e0 e1 e2 e3 e0' e1' e2' e3'
        by_cases hxy : x = y
        · have HXY := Lib.hid hxy
          have hsm := (Cd.T.sm_iff x y).2 hxy
          rw [hsm]
          clear hxy hsm
          go_wp2_with fail
          exact ⟨⟨j + 1, by omega, by go_num, HNX.out HXY.out, HB5.out⟩, by simp [intOf]; omega⟩
        · have HE := Lib.hid (HNE.out hxy)
          have hsm := Cd.T.sm_no hxy
          rw [hsm]
          clear hxy hsm
          go_wp2_with fail
          go_ret
          exact ⟨by rw [HE.out]; rfl, HB5.out⟩
      · obtain rfl : j = l.length := by omega
        have HE := Lib.hid (show Cd.T.sms l l' = true by
          have h := HTK.out
          rw [List.take_length, HLL.out, List.take_length] at h
          exact (Cd.T.sms_iff l l').2 h)
        go_wp2_with fail
        go_ret
        exact ⟨by rw [HE.out]; rfl, HB.out⟩
  · have HE := Lib.hid (show Cd.T.sms l l' = false from Cd.T.sms_no (fun e => hll (by rw [e])))
    have hlb : ((l.length : Int) != (l'.length : Int)) = true := by simp; omega
    go_enter Try.func35, Try.ntmps35
    go_wp2_with fail
    go_ret
    exact ⟨by rw [HE.out]; rfl, Below.refl _ _⟩

set_option maxRecDepth 100000 in
set_option maxHeartbeats 4000000 in
theorem Cd.same_any : ∀ (h : Nat) (a b : Cd.T) (cs ds : List Value) (w : World), a.hgt ≤ h → Cd.Cell w a cs → Cd.Cell w b ds →
    Calls Try.prog 21 #[.agg cs.toArray, .agg ds.toArray] w (Cd.RetS w (a.sm b))
  | 0, a, b, cs, ds, w, hh, _, _ => by cases a; rw [Cd.T.hgt] at hh; omega
  | h + 1, a, b, cs, ds, w, hh, hca, hcb => by
    have IH := Lib.hid (fun a b cs ds w h1 h2 h3 => Cd.same_any h a b cs ds w h1 h2 h3)
    cases hca with
    | mk k n s l A c xss hl hx hr hn hm hs =>
    cases hcb with
    | mk k' n' s' l' A' c' xss' hl' hx' hr' hn' hm' hs' =>
    rw [Cd.T.hgt] at hh
    obtain ⟨w0, hw0⟩ : ∃ w0, w0 = (w.alloc (.cells #[.int .i64 k, .int .i64 n, .string ⟨s.toArray⟩, .slice A l.length c] 24)).alloc (.cells #[.int .i64 k', .int .i64 n', .string ⟨s'.toArray⟩, .slice A' l'.length c'] 24) := ⟨_, rfl⟩
    have HB0 := Lib.hid (show Below w.heap.size w w0 by rw [hw0]; exact below_two _ _ _)
    have HEQ := Lib.hid (Cd.eqf_any l l' A A' c c' xss xss' w0 hl (fun i hi => (hx i hi).keep HB0.out) ((hr.below HB0.out (Nat.le_refl _)).more HB0.out.size) hm hl' (fun i hi => (hx' i hi).keep HB0.out) ((hr'.below HB0.out (Nat.le_refl _)).more HB0.out.size) hm' (fun x y cs ds w hx h1 h2 => IH.out x y cs ds w (by have := Cd.T.hgts_mem hx; omega) h1 h2))
    clear hx hr hl hn hs hh hx' hr' hl' hn' hs' IH
    unfold maxLen at hm hm'
    have HH0 := Lib.hid (show Has w0 w.heap.size 24 [.int .i64 k, .int .i64 n, .string ⟨s.toArray⟩, .slice A l.length c] by rw [hw0]; exact (Has.new _ _ _).alloc _)
    have HH0' := Lib.hid (show Has w0 (w.heap.size + 1) 24 [.int .i64 k', .int .i64 n', .string ⟨s'.toArray⟩, .slice A' l'.length c'] by rw [hw0]; have h := Has.new (w.alloc (.cells #[.int .i64 k, .int .i64 n, .string ⟨s.toArray⟩, .slice A l.length c] 24)) 24 [.int .i64 k', .int .i64 n', .string ⟨s'.toArray⟩, .slice A' l'.length c']; rw [World.size_alloc] at h; exact h)
    have HW0 := Lib.hid hw0
    clear hw0
    have z0 := HH0.out.lt
    have z0' := HH0'.out.lt
    have c0 := HH0.out.cell 0
    have c1 := HH0.out.cell 1
    have c2 := HH0.out.cell 2
    have c3 := HH0.out.cell 3
    have c0' := HH0'.out.cell 0
    have c1' := HH0'.out.cell 1
    have c2' := HH0'.out.cell 2
    have c3' := HH0'.out.cell 3
    simp only [List.getElem?_cons_succ, List.getElem?_cons_zero] at c0 c1 c2 c3 c0' c1' c2' c3'
    by_cases hk : k = k'
    · subst hk
      by_cases hn : n = n'
      · subst hn
        by_cases hs : s = s'
        · subst hs
          have HE := Lib.hid (show (Cd.T.mk k n s l).sm (.mk k n s l') = Cd.T.sms l l' by rw [Cd.T.sm]; simp)
          go_enter Try.func21, Try.ntmps21
          go_upto_region 1 with fail
          rw [← HW0.out]
          go_wp2_with ((with_reducible refine HEQ.out.mono ?_); rintro e w5 ⟨rfl, hb5⟩; have HB5 := Lib.hid (HB0.out.trans (hb5.mono HB0.out.size)); clear hb5)
          go_ret
          exact ⟨by rw [HE.out]; rfl, HB5.out⟩
        · have HE := Lib.hid (show (Cd.T.mk k n s l).sm (.mk k n s' l') = false from Cd.T.sm_no (fun e => hs (by injection e)))
          go_enter Try.func21, Try.ntmps21
          go_upto_region 1 with fail
          rw [← HW0.out]
          go_wp2_with fail
          go_ret
          exact ⟨by rw [HE.out]; rfl, HB0.out⟩
      · have HE := Lib.hid (show (Cd.T.mk k n s l).sm (.mk k n' s' l') = false from Cd.T.sm_no (fun e => hn (by injection e)))
        have hb1 : (n == n') = false := by simpa using hn
        go_enter Try.func21, Try.ntmps21
        go_upto_region 1 with fail
        rw [← HW0.out]
        go_wp2_with fail
        go_ret
        exact ⟨by rw [HE.out]; rfl, HB0.out⟩
    · have HE := Lib.hid (show (Cd.T.mk k n s l).sm (.mk k' n' s' l') = false from Cd.T.sm_no (fun e => hk (by injection e)))
      have hb1 : (k == k') = false := by simpa using hk
      go_enter Try.func21, Try.ntmps21
      go_upto_region 1 with fail
      rw [← HW0.out]
      go_wp2_with fail
      go_ret
      exact ⟨by rw [HE.out]; rfl, HB0.out⟩
end Go.Proofs.Ytnhodcjbmloeeaa
