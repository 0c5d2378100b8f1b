/- Contracts of the reference's Formed, Depth, Check. -/
import Derived.Test.YtnhodcjbmloeeaaCdT2
namespace Go.Proofs.Ytnhodcjbmloeeaa
open Go.RowKit
set_option linter.unusedVariables false

theorem Cd.fdB_of {t : Cd.T} {b : Bool} (h : t.fd.isSome = b) : Cd.fdB t = b := h
theorem Cd.fd_3 (n : Int) (s : List UInt8) (l : List Cd.T) : (Cd.T.mk 3 n s l).fd = if ((n == 0) && s.isEmpty) = true then (Cd.T.fds l).map (· + 1) else none := by rw [Cd.fd_eq]; rfl
theorem Cd.fds_some_of {l : List Cd.T} : (∀ x ∈ l, x.fd.isSome = true) → (Cd.T.fds l).isSome = true := by
  induction l with
  | nil => intro _; rfl
  | cons x l ih =>
    intro h
    have h1 := h x (List.mem_cons_self ..)
    have h2 := ih fun y hy => h y (List.mem_cons_of_mem _ hy)
    rw [Cd.T.fds]
    cases hx : x.fd with
    | none => rw [hx] at h1; cases h1
    | some a =>
      cases hl : Cd.T.fds l with
      | none => rw [hl] at h2; cases h2
      | some b => rfl

set_option maxRecDepth 100000 in
set_option maxHeartbeats 8000000 in
theorem Cd.rformed_any : ∀ (h : Nat) (t : Cd.T) (cs : List Value) (w : World), t.hgt ≤ h → h ≤ 1000000 → Cd.Cell w t cs →
    Calls Try.prog 29 #[.agg cs.toArray] w fun e w' => e = .returned (.bool (Cd.fdB t)) ∧ Below w.heap.size w w'
  | 0, t, cs, w, hh, _, _ => by cases t; rw [Cd.T.hgt] at hh; omega
  | h + 1, t, cs, w, hh, hb, hc => by
    have IH := Lib.hid (fun t cs w h1 h2 => Cd.rformed_any h t cs w h1 (by omega) h2)
    cases hc with
    | mk k n s l A c xss hl hx hr hn hm hs =>
    rw [Cd.T.hgt] at hh
    have HFD := Lib.hid (Cd.fd_eq k n s l)
    have HX := Lib.hid hx
    have HR := Lib.hid hr
    have HLX := Lib.hid hl
    have HHG := Lib.hid hh
    have HB0 := Lib.hid ((Below.refl w.heap.size w).alloc (Nat.le_refl _) (.cells #[.int .i64 k, .int .i64 n, .string ⟨s.toArray⟩, .slice A l.length c] 24))
    have hz0 := HB0.out.size
    clear hx hr hl hn hs hh
    unfold maxLen at hm
    by_cases k1 : k = 1
    · subst k1
      cases bs : s.isEmpty <;> cases bl : ((l.length : Int) == 0) <;> (
        have HV := Lib.hid (show Cd.fdB (.mk 1 n s l) = (s.isEmpty && ((l.length : Int) == 0)) by unfold Cd.fdB; rw [HFD.out, bs, bl]; rfl)
        go_enter Try.func29, Try.ntmps29
        go_wp2_with fail
        go_ret
        exact ⟨by rw [HV.out, bs, bl]; rfl, HB0.out⟩)
    · by_cases k2 : k = 2
      · subst k2
        cases bn : (n == 0) <;> cases bl : ((l.length : Int) == 0) <;> (
          have HV := Lib.hid (show Cd.fdB (.mk 2 n s l) = ((n == 0) && ((l.length : Int) == 0)) by unfold Cd.fdB; rw [HFD.out, bn, bl]; rfl)
          go_enter Try.func29, Try.ntmps29
          go_wp2_with fail
          go_ret
          exact ⟨by rw [HV.out, bn, bl]; rfl, HB0.out⟩)
      · by_cases k3 : k = 3
        · subst k3
          have HV := Lib.hid (Cd.fd_3 n s l)
          clear k1 k2 HFD
          go_enter Try.func29, Try.ntmps29
          go_wp2_with fail
          obtain ⟨w0, hw0⟩ : ∃ w0, w0 = w.alloc (.cells #[.int .i64 3, .int .i64 n, .string ⟨s.toArray⟩, .slice A l.length c] 24) := ⟨_, rfl⟩
          have HH0 := Lib.hid (show Has w0 w.heap.size 24 [.int .i64 3, .int .i64 n, .string ⟨s.toArray⟩, .slice A l.length c] by rw [hw0]; exact Has.new _ _ _)
          rw [← hw0] at HB0 hz0
          try rw [← hw0]
          clear hw0
          go_loopw [3] (fun i wr => ∃ j : Nat, j ≤ l.length ∧ i = .int .i64 j ∧ (∀ x ∈ l.take j, x.fd.isSome = true) ∧ Below w0.heap.size w0 wr) (fun i _ => l.length - (intOf i).toNat)
          case atStart => exact ⟨0, by omega, rfl, by simp, Below.refl _ _⟩
          case round =>
            obtain ⟨j, hj, rfl, hall, hB⟩ := hrel
            have HAL := Lib.hid hall
            have HBr := Lib.hid hB
            have HB := Lib.hid (HB0.out.trans (hB.mono hz0))
            have hzr := hB.size
            have HHr := Lib.hid (HH0.out.keep hB)
            clear hall hB
            have c1 := HHr.out.cell 1
            have c2 := HHr.out.cell 2
            have c3 := HHr.out.cell 3
            have zz := HHr.out.lt
            simp only [List.getElem?_cons_succ, List.getElem?_cons_zero] at c1 c2 c3
            by_cases hlt : j < l.length
            · obtain ⟨b, off, v0, v1, v2, Av, nv, cv, rfl, hbw, hv, e0, e1, e2, e3⟩ := Cd.cell4 HLX.out (fun i hi => (HX.out i hi).keep HB.out) ((HR.out.below HB.out (Nat.le_refl _)).more HB.out.size) j hlt
              have HT := Lib.hid (show l.take (j + 1) = l.take j ++ [l[j]!] by rw [List.take_succ_eq_append_getElem hlt, getElem!_pos l j hlt])
              have hmem : l[j]! ∈ l := by rw [getElem!_pos l j hlt]; exact List.getElem_mem _
              have HBD := Lib.hid (fun hx : (l[j]!).fd = none => Cd.T.fds_bad hx hmem)
              have HH := Lib.hid (show (l[j]!).hgt ≤ h by have h1 := Cd.T.hgts_mem hmem; have h2 := HHG.out; omega)
              have HC := Lib.hid (show Cd.Cell wr l[j]! [.int .i64 v0, .int .i64 v1, .string v2, .slice Av nv cv] by rw [← hv]; exact (HX.out j hlt).keep HB.out)
              clear hv hmem
              generalize l[j]! = x at HT HBD HH HC
              go_wp2_with fail
              ((with_reducible refine (IH.out x [.int .i64 v0, .int .i64 v1, .string v2, .slice Av nv cv] _ HH.out HC.out).mono ?_); rintro e w5 ⟨rfl, hb5⟩; have HB5 := Lib.hid (HB.out.trans (hb5.mono HB.out.size)); have HBr5 := Lib.hid (HBr.out.trans (hb5.mono HBr.out.size)); clear hb5 e0 e1 e2 e3)
              cases hfd : x.fd with
              | none =>
                have hf2 : Cd.fdB x = false := by unfold Cd.fdB; rw [hfd]; rfl
                have HE := Lib.hid (show Cd.fdB (.mk 3 n s l) = false by unfold Cd.fdB; rw [HV.out, HBD.out hfd]; split <;> rfl)
                rw [hf2]
                clear hf2 hfd
                go_wp2_with fail
                go_ret
                exact ⟨by rw [HE.out]; rfl, HB5.out⟩
              | some a =>
                have hf2 : Cd.fdB x = true := by unfold Cd.fdB; rw [hfd]; rfl
                have HA2 := Lib.hid (show ∀ y ∈ l.take (j + 1), y.fd.isSome = true by
                  intro y hy
                  rw [HT.out] at hy
                  rcases List.mem_append.1 hy with hy | hy
                  · exact HAL.out y hy
                  · rw [List.mem_singleton.1 hy, hfd]; rfl)
                rw [hf2]
                clear hf2 hfd
                go_wp2_with fail
                exact ⟨⟨j + 1, by omega, by go_num, HA2.out, HBr5.out⟩, by simp [intOf]; omega⟩
            · obtain rfl : j = l.length := by omega
              have HSO := Lib.hid (show (Cd.T.fds l).isSome = true by have h := HAL.out; rw [List.take_length] at h; exact Cd.fds_some_of h)
              have HE := Lib.hid (show Cd.fdB (.mk 3 n s l) = ((n == 0) && s.isEmpty) by
                unfold Cd.fdB
                rw [HV.out]
                cases hb2 : ((n == 0) && s.isEmpty)
                · rfl
                · have h := HSO.out
                  cases hf : Cd.T.fds l with
                  | none => rw [hf] at h; cases h
                  | some d => rfl)
              cases bn : (n == 0) <;> cases bs : s.isEmpty <;> (
                go_wp2_with fail
                go_ret
                exact ⟨by rw [HE.out, bn, bs]; rfl, HB.out⟩)
        · have HV := Lib.hid (show Cd.fdB (.mk k n s l) = false by unfold Cd.fdB; rw [HFD.out, if_neg k1, if_neg k2, if_neg k3]; rfl)
          go_enter Try.func29, Try.ntmps29
          have b1 : (k == 1) = false := by simpa using k1
          have b2 : (k == 2) = false := by simpa using k2
          have b3 : (k == 3) = false := by simpa using k3
          go_wp2_with fail
          go_ret
          exact ⟨by rw [HV.out]; rfl, HB0.out⟩
end Go.Proofs.Ytnhodcjbmloeeaa
