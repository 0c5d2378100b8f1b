import Derived.Test.YtideglpjgplpnaaDoorMCdW7
import Derived.Test.YtideglpjgplpnaaDoorMCdW3
/- A row of the call's own is a slice. -/
namespace Go.Proofs.YtideglpjgplpnaaDoor
open Go.RowKit Go.Shelf
set_option linter.unusedVariables false

theorem own_slice {w : World} {base e size n : Nat} {v : Value} {xs : List Value} (h : w.ownsRow base e size v n xs) : ∃ A c, v = .slice A n c := by
  rcases h.2 with ⟨e, h0⟩ | ⟨g, c, cur, hv, _⟩
  · exact ⟨none, 0, by rw [e, h0]⟩
  · exact ⟨_, c, hv⟩

end Go.Proofs.YtideglpjgplpnaaDoor
/- Contracts of the reference's Formed, Depth, Check. -/
namespace Go.Proofs.YtideglpjgplpnaaDoor
open Go.RowKit
set_option linter.unusedVariables false

theorem Cd.fdB_of {t : Cd.T} {b : Bool} (h : t.fd.isSome = b) : Cd.fdB t = b := h
theorem Cd.fd_3 (n : Int) (s : List UInt8) (l : List Cd.T) : (Cd.T.mk 3 n s l).fd = if ((n == 0) && s.isEmpty) = true then (Cd.T.fds l).map (· + 1) else none := by rw [Cd.fd_eq]; rfl
theorem Cd.fds_some_of {l : List Cd.T} : (∀ x ∈ l, x.fd.isSome = true) → (Cd.T.fds l).isSome = true := by
  induction l with
  | nil => intro _; rfl
  | cons x l ih =>
    intro h
    have h1 := h x (List.mem_cons_self ..)
    have h2 := ih fun y hy => h y (List.mem_cons_of_mem _ hy)
    rw [Cd.T.fds]
    cases hx : x.fd with
    | none => rw [hx] at h1; cases h1
    | some a =>
      cases hl : Cd.T.fds l with
      | none => rw [hl] at h2; cases h2
      | some b => rfl

set_option maxRecDepth 100000 in
set_option maxHeartbeats 8000000 in
theorem Cd.rformed_any : ∀ (h : Nat) (t : Cd.T) (cs : List Value) (w : World), t.hgt ≤ h → h ≤ 1000000 → Cd.Cell w t cs →
    Calls Tryd.prog 101 #[.agg cs.toArray] w fun e w' => e = .returned (.bool (Cd.fdB t)) ∧ Below w.heap.size w w'
  | 0, t, cs, w, hh, _, _ => by cases t; rw [Cd.T.hgt] at hh; omega
  | h + 1, t, cs, w, hh, hb, hc => by
    have IH := Lib.hid (fun t cs w h1 h2 => Cd.rformed_any h t cs w h1 (by omega) h2)
    cases hc with
    | mk k n s l A c xss hl hx hr hn hm hs =>
    rw [Cd.T.hgt] at hh
    have HFD := Lib.hid (Cd.fd_eq k n s l)
    have HX := Lib.hid hx
    have HR := Lib.hid hr
    have HLX := Lib.hid hl
    have HHG := Lib.hid hh
    have HB0 := Lib.hid ((Below.refl w.heap.size w).alloc (Nat.le_refl _) (.cells #[.int .i64 k, .int .i64 n, .string ⟨s.toArray⟩, .slice A l.length c] 77))
    have hz0 := HB0.out.size
    clear hx hr hl hn hs hh
    unfold maxLen at hm
    by_cases k1 : k = 1
    · subst k1
      cases bs : s.isEmpty <;> cases bl : ((l.length : Int) == 0) <;> (
        have HV := Lib.hid (show Cd.fdB (.mk 1 n s l) = (s.isEmpty && ((l.length : Int) == 0)) by unfold Cd.fdB; rw [HFD.out, bs, bl]; rfl)
        go_enter Tryd.func101, Tryd.ntmps101
        go_wp2_with fail
        go_ret
        exact ⟨by rw [HV.out, bs, bl]; rfl, HB0.out⟩)
    · by_cases k2 : k = 2
      · subst k2
        cases bn : (n == 0) <;> cases bl : ((l.length : Int) == 0) <;> (
          have HV := Lib.hid (show Cd.fdB (.mk 2 n s l) = ((n == 0) && ((l.length : Int) == 0)) by unfold Cd.fdB; rw [HFD.out, bn, bl]; rfl)
          go_enter Tryd.func101, Tryd.ntmps101
          go_wp2_with fail
          go_ret
          exact ⟨by rw [HV.out, bn, bl]; rfl, HB0.out⟩)
      · by_cases k3 : k = 3
        · subst k3
          have HV := Lib.hid (Cd.fd_3 n s l)
          clear k1 k2 HFD
          go_enter Tryd.func101, Tryd.ntmps101
          go_wp2_with fail
          obtain ⟨w0, hw0⟩ : ∃ w0, w0 = w.alloc (.cells #[.int .i64 3, .int .i64 n, .string ⟨s.toArray⟩, .slice A l.length c] 77) := ⟨_, rfl⟩
          have HH0 := Lib.hid (show Has w0 w.heap.size 77 [.int .i64 3, .int .i64 n, .string ⟨s.toArray⟩, .slice A l.length c] by rw [hw0]; exact Has.new _ _ _)
          rw [← hw0] at HB0 hz0
          try rw [← hw0]
          clear hw0
          go_loopw [3] (fun i wr => ∃ j : Nat, j ≤ l.length ∧ i = .int .i64 j ∧ (∀ x ∈ l.take j, x.fd.isSome = true) ∧ Below w0.heap.size w0 wr) (fun i _ => l.length - (intOf i).toNat)
          case atStart => exact ⟨0, by omega, rfl, by simp, Below.refl _ _⟩
          case round =>
            obtain ⟨j, hj, rfl, hall, hB⟩ := hrel
            have HAL := Lib.hid hall
            have HBr := Lib.hid hB
            have HB := Lib.hid (HB0.out.trans (hB.mono hz0))
            have hzr := hB.size
            have HHr := Lib.hid (HH0.out.keep hB)
            clear hall hB
            have c1 := HHr.out.cell 1
            have c2 := HHr.out.cell 2
            have c3 := HHr.out.cell 3
            have zz := HHr.out.lt
            simp only [List.getElem?_cons_succ, List.getElem?_cons_zero] at c1 c2 c3
            by_cases hlt : j < l.length
            · obtain ⟨b, off, v0, v1, v2, Av, nv, cv, rfl, hbw, hv, e0, e1, e2, e3⟩ := Cd.cell4 HLX.out (fun i hi => (HX.out i hi).keep HB.out) ((HR.out.below HB.out (Nat.le_refl _)).more HB.out.size) j hlt
              have HT := Lib.hid (show l.take (j + 1) = l.take j ++ [l[j]!] by rw [List.take_succ_eq_append_getElem hlt, getElem!_pos l j hlt])
              have hmem : l[j]! ∈ l := by rw [getElem!_pos l j hlt]; exact List.getElem_mem _
              have HBD := Lib.hid (fun hx : (l[j]!).fd = none => Cd.T.fds_bad hx hmem)
              have HH := Lib.hid (show (l[j]!).hgt ≤ h by have h1 := Cd.T.hgts_mem hmem; have h2 := HHG.out; omega)
              have HC := Lib.hid (show Cd.Cell wr l[j]! [.int .i64 v0, .int .i64 v1, .string v2, .slice Av nv cv] by rw [← hv]; exact (HX.out j hlt).keep HB.out)
              clear hv hmem
              generalize l[j]! = x at HT HBD HH HC
              go_wp2_with fail
              ((with_reducible refine (IH.out x [.int .i64 v0, .int .i64 v1, .string v2, .slice Av nv cv] _ HH.out HC.out).mono ?_); rintro e w5 ⟨rfl, hb5⟩; have HB5 := Lib.hid (HB.out.trans (hb5.mono HB.out.size)); have HBr5 := Lib.hid (HBr.out.trans (hb5.mono HBr.out.size)); clear hb5 e0 e1 e2 e3)
              cases hfd : x.fd with
              | none =>
                have hf2 : Cd.fdB x = false := by unfold Cd.fdB; rw [hfd]; rfl
                have HE := Lib.hid (show Cd.fdB (.mk 3 n s l) = false by unfold Cd.fdB; rw [HV.out, HBD.out hfd]; split <;> rfl)
                rw [hf2]
                clear hf2 hfd
                go_wp2_with fail
                go_ret
                exact ⟨by rw [HE.out]; rfl, HB5.out⟩
              | some a =>
                have hf2 : Cd.fdB x = true := by unfold Cd.fdB; rw [hfd]; rfl
                have HA2 := Lib.hid (show ∀ y ∈ l.take (j + 1), y.fd.isSome = true by
                  intro y hy
                  rw [HT.out] at hy
                  rcases List.mem_append.1 hy with hy | hy
                  · exact HAL.out y hy
                  · rw [List.mem_singleton.1 hy, hfd]; rfl)
                rw [hf2]
                clear hf2 hfd
                go_wp2_with fail
                exact ⟨⟨j + 1, by omega, by go_num, HA2.out, HBr5.out⟩, by simp [intOf]; omega⟩
            · obtain rfl : j = l.length := by omega
              have HSO := Lib.hid (show (Cd.T.fds l).isSome = true by have h := HAL.out; rw [List.take_length] at h; exact Cd.fds_some_of h)
              have HE := Lib.hid (show Cd.fdB (.mk 3 n s l) = ((n == 0) && s.isEmpty) by
                unfold Cd.fdB
                rw [HV.out]
                cases hb2 : ((n == 0) && s.isEmpty)
                · rfl
                · have h := HSO.out
                  cases hf : Cd.T.fds l with
                  | none => rw [hf] at h; cases h
                  | some d => rfl)
              cases bn : (n == 0) <;> cases bs : s.isEmpty <;> (
                go_wp2_with fail
                go_ret
                exact ⟨by rw [HE.out, bn, bs]; rfl, HB.out⟩)
        · have HV := Lib.hid (show Cd.fdB (.mk k n s l) = false by unfold Cd.fdB; rw [HFD.out, if_neg k1, if_neg k2, if_neg k3]; rfl)
          go_enter Tryd.func101, Tryd.ntmps101
          have b1 : (k == 1) = false := by simpa using k1
          have b2 : (k == 2) = false := by simpa using k2
          have b3 : (k == 3) = false := by simpa using k3
          go_wp2_with fail
          go_ret
          exact ⟨by rw [HV.out]; rfl, HB0.out⟩
end Go.Proofs.YtideglpjgplpnaaDoor
/- Contracts of the reference's Depth, Check. -/
namespace Go.Proofs.YtideglpjgplpnaaDoor
open Go.RowKit
set_option linter.unusedVariables false

theorem Cd.fds_take {l : List Cd.T} {d : Nat} (h : Cd.T.fds l = some d) (j : Nat) (hj : j < l.length) : ∃ a, (l[j]!).fd = some a ∧ ∀ m, Cd.T.fds (l.take j) = some m → Cd.T.fds (l.take (j + 1)) = some (max m a) := by
  have h1 := Cd.T.fds_all (l := l) (x := l[j]!) (by rw [h]; rfl) (by rw [getElem!_pos l j hj]; exact List.getElem_mem _)
  cases hf : (l[j]!).fd with
  | none => rw [hf] at h1; cases h1
  | some a =>
    refine ⟨a, rfl, fun m hm => ?_⟩
    rw [List.take_succ_eq_append_getElem hj, Cd.T.fds_snoc, hm]
    rw [getElem!_pos l j hj] at hf
    rw [hf]

set_option maxRecDepth 100000 in
set_option maxHeartbeats 8000000 in
theorem Cd.rdepth_any : ∀ (h : Nat) (t : Cd.T) (d : Nat) (cs : List Value) (w : World), t.hgt ≤ h → h ≤ 1000000 → t.fd = some d → Cd.Cell w t cs →
    Calls Tryd.prog 102 #[.agg cs.toArray] w fun e w' => e = .returned (.int .i64 (d : Int)) ∧ Below w.heap.size w w'
  | 0, t, d, cs, w, hh, _, _, _ => by cases t; rw [Cd.T.hgt] at hh; omega
  | h + 1, t, d, cs, w, hh, hb, hfd, hc => by
    have IH := Lib.hid (fun t d cs w h1 h2 h3 => Cd.rdepth_any h t d cs w h1 (by omega) h2 h3)
    have hdh := Cd.T.fd_hgt t d hfd
    have hcase := Cd.T.fd_cases (t := t) (by rw [hfd]; rfl)
    cases hc with
    | mk k n s l A c xss hl hx hr hn hm hs =>
    rw [Cd.T.hgt] at hh
    have HX := Lib.hid hx
    have HR := Lib.hid hr
    have HLX := Lib.hid hl
    have HHG := Lib.hid hh
    have HFD := Lib.hid hfd
    have HB0 := Lib.hid ((Below.refl w.heap.size w).alloc (Nat.le_refl _) (.cells #[.int .i64 k, .int .i64 n, .string ⟨s.toArray⟩, .slice A l.length c] 77))
    have hz0 := HB0.out.size
    have hd1 : d ≤ 1000001 := by rw [Cd.T.hgt] at hdh; omega
    clear hx hr hl hn hs hh hfd hdh
    unfold maxLen at hm
    by_cases k3 : k = 3
    · have HV := Lib.hid (show (Cd.T.fds l).map (· + 1) = some d by
        have h1 := HFD.out
        subst k3
        rw [Cd.fd_3] at h1
        split at h1
        · exact h1
        · cases h1)
      obtain ⟨d0, hd0, rfl⟩ : ∃ d0, Cd.T.fds l = some d0 ∧ d = d0 + 1 := by
        have h1 := HV.out
        cases hf : Cd.T.fds l with
        | none => rw [hf] at h1; cases h1
        | some d0 => rw [hf] at h1; exact ⟨d0, rfl, by injection h1 with h1; exact h1.symm⟩
      have HD := Lib.hid hd0
      clear hd0 hcase HV HFD
      subst k3
      go_enter Tryd.func102, Tryd.ntmps102
      go_wp2_with fail
      obtain ⟨w0, hw0⟩ : ∃ w0, w0 = w.alloc (.cells #[.int .i64 3, .int .i64 n, .string ⟨s.toArray⟩, .slice A l.length c] 77) := ⟨_, rfl⟩
      have HH0 := Lib.hid (show Has w0 w.heap.size 77 [.int .i64 3, .int .i64 n, .string ⟨s.toArray⟩, .slice A l.length c] by rw [hw0]; exact Has.new _ _ _)
      rw [← hw0] at HB0 hz0
      try rw [← hw0]
      clear hw0
      go_loopw [3, 4] (fun n i wr => ∃ j m : Nat, j ≤ l.length ∧ i = .int .i64 j ∧ n = .int .i64 m ∧ Cd.T.fds (l.take j) = some m ∧ m ≤ 1000001 ∧ Below w0.heap.size w0 wr) (fun _ i _ => l.length - (intOf i).toNat)
      case atStart => exact ⟨0, 0, by omega, rfl, rfl, by simp [Cd.T.fds], by omega, Below.refl _ _⟩
      case round =>
        obtain ⟨j, m, hj, rfl, rfl, hfm, hm1, hB⟩ := hrel
        have HM := Lib.hid hfm
        have HBr := Lib.hid hB
        have HB := Lib.hid (HB0.out.trans (hB.mono hz0))
        have hzr := hB.size
        have HHr := Lib.hid (HH0.out.keep hB)
        clear hfm hB
        have c3 := HHr.out.cell 3
        have zz := HHr.out.lt
        simp only [List.getElem?_cons_succ, List.getElem?_cons_zero] at c3
        by_cases hlt : j < l.length
        · obtain ⟨b, off, v0, v1, v2, Av, nv, cv, rfl, hbw, hv, e0, e1, e2, e3⟩ := Cd.cell4 HLX.out (fun i hi => (HX.out i hi).keep HB.out) ((HR.out.below HB.out (Nat.le_refl _)).more HB.out.size) j hlt
          obtain ⟨a, hfa, hstep⟩ := Cd.fds_take HD.out j hlt
          have HT := Lib.hid (hstep m HM.out)
          have hmem : l[j]! ∈ l := by rw [getElem!_pos l j hlt]; exact List.getElem_mem _
          have HH := Lib.hid (show (l[j]!).hgt ≤ h by have h1 := Cd.T.hgts_mem hmem; have h2 := HHG.out; omega)
          have ha1 : a ≤ 1000001 := by have := Cd.T.fd_hgt _ _ hfa; have := HH.out; omega
          have HC := Lib.hid (show Cd.Cell wr l[j]! [.int .i64 v0, .int .i64 v1, .string v2, .slice Av nv cv] by rw [← hv]; exact (HX.out j hlt).keep HB.out)
          have HA := Lib.hid hfa
          clear hv hmem hfa hstep
          generalize l[j]! = x at HH HC HA
          go_wp2_with fail
          ((with_reducible refine (IH.out x a [.int .i64 v0, .int .i64 v1, .string v2, .slice Av nv cv] _ HH.out HA.out HC.out).mono ?_); rintro e w5 ⟨rfl, hb5⟩; have HBr5 := Lib.hid (HBr.out.trans (hb5.mono HBr.out.size)); clear hb5 e0 e1 e2 e3)
          go_wp2_with fail
          exact ⟨⟨j + 1, max m a, by omega, by go_num, congrArg (Value.int .i64) (by split <;> omega), HT.out, by omega, HBr5.out⟩, by simp [intOf]; omega⟩
        · obtain rfl : j = l.length := by omega
          have HE := Lib.hid (show m = d0 by
            have h1 := HM.out
            rw [List.take_length, HD.out] at h1
            injection h1 with h1
            exact h1.symm)
          go_wp2_with fail
          go_ret
          exact ⟨by rw [← HE.out]; simp, HB.out⟩
    · obtain rfl : d = 0 := by
        have h1 := HFD.out
        rw [Cd.fd_eq] at h1
        split at h1
        · split at h1
          · injection h1 with h1; exact h1.symm
          · cases h1
        · split at h1
          · split at h1
            · injection h1 with h1; exact h1.symm
            · cases h1
          · cases h1
      have b3 : (k != 3) = true := by simpa using k3
      clear hcase
      go_enter Tryd.func102, Tryd.ntmps102
      go_wp2_with fail
      go_ret
      exact ⟨rfl, HB0.out⟩

set_option maxHeartbeats 1000000 in
theorem Cd.rcheck_any (t : Cd.T) (cs : List Value) (w : World) (hh : t.hgt ≤ 1000000) (hc : Cd.Cell w t cs) :
    Calls Tryd.prog 79 #[.agg cs.toArray] w fun e w' => e = .returned (.int .i64 (Cd.chkE t)) ∧ Below w.heap.size w w' := by
  obtain ⟨v0, v1, v2, Av, nv, cv, rfl⟩ : ∃ v0 v1 v2 Av nv cv, cs = [.int .i64 v0, .int .i64 v1, .string v2, .slice Av nv cv] := by cases hc; exact ⟨_, _, _, _, _, _, rfl⟩
  have HC := Lib.hid hc
  have HF := Lib.hid (fun w h => Cd.rformed_any 1000000 t [.int .i64 v0, .int .i64 v1, .string v2, .slice Av nv cv] w hh (Nat.le_refl _) h)
  have HD := Lib.hid (fun d w h1 h => Cd.rdepth_any 1000000 t d [.int .i64 v0, .int .i64 v1, .string v2, .slice Av nv cv] w hh (Nat.le_refl _) h1 h)
  clear hc
  go_enter Tryd.func79, Tryd.ntmps79
  go_wp2_with fail
  obtain ⟨w0, hw0⟩ : ∃ w0, w0 = w.alloc (.cells #[.int .i64 v0, .int .i64 v1, .string v2, .slice Av nv cv] 77) := ⟨_, rfl⟩
  have HB0 := Lib.hid (show Below w.heap.size w w0 by rw [hw0]; exact (Below.refl _ _).alloc (Nat.le_refl _) _)
  have HH0 := Lib.hid (show Has w0 w.heap.size 77 [.int .i64 v0, .int .i64 v1, .string v2, .slice Av nv cv] by rw [hw0]; exact Has.new _ _ _)
  try rw [← hw0]
  clear hw0
  (with_reducible refine (HF.out _ (HC.out.keep HB0.out)).mono ?_)
  rintro e w1 ⟨rfl, hb1⟩
  have HB1 := Lib.hid (HB0.out.trans (hb1.mono HB0.out.size))
  have HH1 := Lib.hid (HH0.out.keep hb1)
  clear hb1
  have z1 := HH1.out.lt
  have d0 := HH1.out.cell 0
  have d1 := HH1.out.cell 1
  have d2 := HH1.out.cell 2
  have d3 := HH1.out.cell 3
  simp only [List.getElem?_cons_succ, List.getElem?_cons_zero] at d0 d1 d2 d3
  cases hf : t.fd with
  | none =>
    have h2 : Cd.fdB t = false := by unfold Cd.fdB; rw [hf]; rfl
    have HE := Lib.hid (show Cd.chkE t = 1 by unfold Cd.chkE; rw [hf])
    rw [h2]
    clear h2 hf
    go_wp2_with fail
    go_ret
    exact ⟨by rw [HE.out]; rfl, HB1.out⟩
  | some d =>
    have h2 : Cd.fdB t = true := by unfold Cd.fdB; rw [hf]; rfl
    have HFD := Lib.hid hf
    rw [h2]
    clear h2 hf
    go_wp2_with fail
    ((with_reducible refine (HD.out d _ HFD.out (HC.out.keep HB1.out)).mono ?_); rintro e w2 ⟨rfl, hb2⟩; have HB2 := Lib.hid (HB1.out.trans (hb2.mono HB1.out.size)); clear hb2 d0 d1 d2 d3)
    by_cases hd : 16 < d
    · have HE := Lib.hid (show Cd.chkE t = 2 by unfold Cd.chkE; rw [HFD.out]; exact if_pos hd)
      have d1 : decide ((16 : Int) < (d : Int)) = true := decide_eq_true (by omega)
      go_wp2_with fail
      go_ret
      exact ⟨by rw [HE.out]; rfl, HB2.out⟩
    · have HE := Lib.hid (show Cd.chkE t = 0 by unfold Cd.chkE; rw [HFD.out]; exact if_neg hd)
      have d1 : decide ((16 : Int) < (d : Int)) = false := decide_eq_false (by omega)
      go_wp2_with fail
      go_ret
      exact ⟨by rw [HE.out]; rfl, HB2.out⟩
end Go.Proofs.YtideglpjgplpnaaDoor
/- Contracts of the reference's unsigned, numeral, Int, Text, List. -/
namespace Go.Proofs.YtideglpjgplpnaaDoor
open Go.RowKit Go.Shelf
set_option linter.unusedVariables false

set_option maxHeartbeats 1000000 in
theorem Cd.runsigned_any (n : Int) (w : World) (hn : -9223372036854775808 ≤ n ∧ n ≤ 9223372036854775807) :
    Calls Tryd.prog 104 #[.int .i64 n] w fun e w' => e = .returned (.int .u64 (Cd.uns n)) ∧ w = w' := by
  obtain ⟨h1, h2⟩ := hn
  by_cases h0 : 0 ≤ n
  · have HE := Lib.hid (show 2 * n = ((Cd.uns n : Nat) : Int) by
      unfold Cd.uns
      rw [if_pos h0]
      omega)
    go_enter Tryd.func104, Tryd.ntmps104
    go_wp2_with fail
    go_ret
    exact ⟨by rw [← HE.out]; rfl, rfl⟩
  · have HE := Lib.hid (show 2 * -(n + 1) + 1 = ((Cd.uns n : Nat) : Int) by
      unfold Cd.uns
      rw [if_neg h0]
      omega)
    go_enter Tryd.func104, Tryd.ntmps104
    go_wp2_with fail
    go_ret
    exact ⟨by rw [← HE.out]; rfl, rfl⟩

set_option maxHeartbeats 1000000 in
theorem Cd.rint_any (n : Int) (w : World) :
    Calls Tryd.prog 50 #[.int .i64 n] w fun e w' => e = .returned (.agg #[.int .i64 1, .int .i64 n, .string ⟨([] : List UInt8).toArray⟩, .slice none 0 0]) ∧ Below w.heap.size w w' := by
  go_enter Tryd.func50, Tryd.ntmps50
  go_wp2_with fail
  refine bodyPost_ret (v := .agg #[.int .i64 1, .int .i64 n, .string ⟨([] : List UInt8).toArray⟩, .slice none 0 0]) (by simp [results, Tryd.results50, go_sem]) rfl ⟨rfl, ?_⟩
  exact (Below.refl _ _).alloc (Nat.le_refl _) _

set_option maxHeartbeats 1000000 in
theorem Cd.rlist_any (A : Option Addr) (n c : Nat) (w : World) :
    Calls Tryd.prog 49 #[.slice A n c] w fun e w' => e = .returned (.agg #[.int .i64 3, .int .i64 0, .string ⟨([] : List UInt8).toArray⟩, .slice A n c]) ∧ Below w.heap.size w w' := by
  go_enter Tryd.func49, Tryd.ntmps49
  go_wp2_with fail
  refine bodyPost_ret (v := .agg #[.int .i64 3, .int .i64 0, .string ⟨([] : List UInt8).toArray⟩, .slice A n c]) (by simp [results, Tryd.results49, go_sem]) rfl ⟨rfl, ?_⟩
  exact (Below.refl _ _).alloc (Nat.le_refl _) _

/-- a new slice of bytes -/
def Cd.RetO (w : World) (l : List UInt8) (e : Ending) (w' : World) : Prop := ∃ v, e = .returned v ∧ Below w.heap.size w w' ∧ w'.ownsRow w.heap.size 5 1 v l.length (l.map fun a => Value.int .u8 (a.toNat : Int))
theorem own_lit1 (w : World) (b : UInt8) : (w.alloc (.cells #[.int .u8 (b.toNat : Int)] 5)).ownsRow w.heap.size 5 1 (.slice (some ⟨w.heap.size, 0, none⟩) 1 1) [b].length ([b].map fun a => Value.int .u8 (a.toNat : Int)) :=
  World.ownsRow_lit w #[.int .u8 (b.toNat : Int)] 1 (Nat.le_refl _) (by decide) rfl

set_option maxRecDepth 100000 in
set_option maxHeartbeats 2000000 in
theorem Cd.rnumeral_any : ∀ (f u : Nat) (w : World), u < 128 ^ (f + 1) → u < 18446744073709551616 →
    Calls Tryd.prog 103 #[.int .u64 u] w (Cd.RetO w (Cd.num u))
  | f, u, w, hf, hu => by
    by_cases hlt : u < 128
    · have HN := Lib.hid (Cd.num_lo u hlt)
      have HBY := Lib.hid (Cd.byte_lo u hlt)
      have d1 : decide ((u : Int) < 128) = true := decide_eq_true (by omega)
      generalize UInt8.ofNat u = y at HN HBY
      have HR := Lib.hid (show (w.alloc (.cells #[.int .u8 (u : Int)] 5)).ownsRow w.heap.size 5 1 (.slice (some ⟨w.heap.size, 0, none⟩) 1 1) [y].length ([y].map fun a => Value.int .u8 (a.toNat : Int)) by rw [HBY.out]; exact own_lit1 w y)
      go_enter Tryd.func103, Tryd.ntmps103
      go_wp2_with fail
      go_ret
      refine ⟨_, rfl, (Below.refl _ _).alloc (Nat.le_refl _) _, ?_⟩
      rw [HN.out]
      exact HR.out
    · cases f with
      | zero => exact absurd (by simpa using hf) hlt
      | succ f =>
      have IH := Lib.hid (fun w => Cd.rnumeral_any f (u / 128) w (by rw [Nat.pow_succ] at hf; omega) (by omega))
      clear hf
      have HN := Lib.hid (Cd.num_hi u hlt hu)
      have HL := Lib.hid (Cd.num_len (u / 128))
      have HBY := Lib.hid (show (u : Int) % 128 + 128 = ((UInt8.ofNat (u % 128 + 128)).toNat : Int) by
        have e : (UInt8.ofNat (u % 128 + 128)).toNat = u % 128 + 128 := by rw [UInt8.toNat_ofNat']; omega
        rw [e]
        omega)
      have d1 : decide ((u : Int) < 128) = false := decide_eq_false (by omega)
      generalize UInt8.ofNat (u % 128 + 128) = y at HN HBY
      go_enter Tryd.func103, Tryd.ntmps103
      go_wp2_with fail
      obtain ⟨w0, hw0⟩ : ∃ w0, w0 = w.alloc (.cells #[.int .u8 ((u : Int) % 128 + 128)] 5) := ⟨_, rfl⟩
      have HB0 := Lib.hid (show Below w.heap.size w w0 by rw [hw0]; exact (Below.refl _ _).alloc (Nat.le_refl _) _)
      have HO0 := Lib.hid (show w0.ownsRow w.heap.size 5 1 (.slice (some ⟨w.heap.size, 0, none⟩) 1 1) [y].length ([y].map fun a => Value.int .u8 (a.toNat : Int)) by rw [hw0, HBY.out]; exact own_lit1 w y)
      rw [← hw0]
      clear hw0
      rw [show (((u / 128 : Nat)) : Int) = (u : Int) / 128 by omega] at IH
      ((with_reducible refine (IH.out _).mono ?_); rintro e w1 ⟨v1, rfl, hb1, ho1⟩)
      obtain ⟨A1, c1, rfl⟩ := own_slice ho1
      have HO1 := Lib.hid ho1
      have HOW := Lib.hid (own_below HO0.out hb1)
      have HB1 := Lib.hid (HB0.out.trans (hb1.mono HB0.out.size))
      have hz1 : w.heap.size ≤ w1.heap.size := HB1.out.size
      have hl := HL.out
      clear hb1 ho1
      go_wp2_with (at_builtin; refine wpList_append_rd rfl _ _ rfl el27 rfl HOW.out rfl (rd_of_own HO1.out) (one_bytes _) (own_nil HO1.out) (by simp only [maxLen]; simp; omega) (by simp; omega) hz1 ?_; intro v4 w4 hG4)
      have HG4 := Lib.hid (show Grw w1 w.heap.size (.slice (some ⟨w.heap.size, 0, none⟩) 1 1) (Cd.num u).length (Cd.num u) v4 w4 by
        rw [HN.out]
        have h := Grw.of hG4 (xs := y :: Cd.num (u / 128)) (by simp)
        rw [show ([y].length + (Cd.num (u / 128)).length) = (y :: Cd.num (u / 128)).length by simp; omega] at h
        exact h)
      clear hG4
      go_wp2_with fail
      go_ret
      exact ⟨_, rfl, HB1.out.trans (HG4.out.below HOW.out (Nat.le_refl _) hz1), HG4.out.own⟩
end Go.Proofs.YtideglpjgplpnaaDoor
/- Contract of the reference's encode. -/
namespace Go.Proofs.YtideglpjgplpnaaDoor
open Go.RowKit Go.Shelf
set_option linter.unusedVariables false

/-- an own slice of bytes, above what was there; nothing else has changed -/
structure Cd.Ow (w w' : World) (v : Value) (l : List UInt8) : Prop where
  below : Below w.heap.size w w'
  own : w'.ownsRow w.heap.size 5 1 v l.length (l.map fun a => Value.int .u8 (a.toNat : Int))
theorem Cd.Ow.grew {w w1 w2 : World} {v v' : Value} {l l' : List UInt8} {n : Nat} {ys : List Value} (h : Cd.Ow w w1 v l) (hG : Grew w1 w.heap.size 5 1 v n ys v' w2) (hn : n = l'.length) (hy : ys = l'.map fun a => Value.int .u8 (a.toNat : Int)) : Cd.Ow w w2 v' l' := by
  subst hn hy
  exact ⟨h.below.trans ((Below.refl _ _).grown hG.grown h.below.size (fun g e => own_ge h.own e)), hG.own⟩
theorem Cd.Ow.keep {w w1 w2 : World} {v : Value} {l : List UInt8} (h : Cd.Ow w w1 v l) (hb : Below w1.heap.size w1 w2) : Cd.Ow w w2 v l := ⟨h.below.trans (hb.mono h.below.size), own_below h.own hb⟩
theorem Cd.Ow.lit {w w1 : World} (h : Below w.heap.size w w1) (b : UInt8) : Cd.Ow w (w1.alloc (.cells #[.int .u8 (b.toNat : Int)] 5)) (.slice (some ⟨w1.heap.size, 0, none⟩) 1 1) [b] := ⟨h.alloc h.size _, own_less (own_lit1 w1 b) h.size⟩
theorem Cd.Ow.ret {w w1 w2 : World} {v : Value} {l : List UInt8} (h : Cd.Ow w1 w2 v l) (hb : Below w.heap.size w w1) : Cd.RetO w l (.returned v) w2 := ⟨v, rfl, hb.trans (h.below.mono hb.size), own_less h.own hb.size⟩
/-- a new slice reads -/
theorem Cd.RetO.read {w w' : World} {v : Value} {l : List UInt8} (h : Cd.RetO w l (.returned v) w') : ∃ A c, v = .slice A l.length c ∧ (A = none → c = 0) ∧ Below w.heap.size w w' ∧ Rd w' w'.heap.size 1 A l.length (l.map fun a => Value.int .u8 (a.toNat : Int)) := by
  obtain ⟨v', e, hb, ho⟩ := h
  injection e with e
  subst e
  obtain ⟨A, c, rfl⟩ := own_slice ho
  exact ⟨A, c, rfl, own_nil ho, hb, rd_of_own ho⟩

section
variable {P : Program} {ops : Array Oper} {o : Oper} {a : Act} {w : World} {K : Act → World → Prop} {Q : Exit → Act → World → Prop} {F : Prop}
/-- a call of one argument, as one step of a region that draws -/
theorem step_callR1 (R : Ending → World → Prop) (f : FuncId) (x : Operand) (tys : Array TypeId) (vx : Value) (hgd : o.guard = none)
    (ho : o.op = .call { callee := .value (.func f), args := #[x], argTypes := tys }) (heg : ∀ args w, (callFunc f args).run P w = .ok (.enter f args) w) (hx : a.eval x = vx) (hC : Calls P f #[vx] w R)
    (hR : ∀ e w', R e w' → ∃ v, e = .returned v) (h : ∀ v w', R (.returned v) w' → K (a.put o.dst v) w') :
    if Region.wanted o (yielded ops a.tmps) = true then Oper.wp P o a w K Q else F := by
  rw [if_pos (by simp [Region.wanted, hgd])]
  have hrun : (execOp a.eval o).run P w = .ok (.enter f #[vx]) w := by
    subst hx
    simp [execOp, ho, resolve, invoke, Act.eval, Deferred.ofValue, go_sem, heg]
  unfold Oper.wp
  rw [hrun, Oper.upon_enter]
  refine hC.mono fun e w' hr => ?_
  obtain ⟨v, rfl⟩ := hR e w' hr
  exact h v w' hr
end

set_option maxRecDepth 100000 in
set_option maxHeartbeats 8000000 in
theorem Cd.rencode_step (h : Nat) (IH0 : ∀ (t : Cd.T) (cs : List Value) (w : World), t.hgt ≤ h → h ≤ 1000000 → t.fd.isSome = true → Cd.CellB w w.heap.size t cs → t.enc.length ≤ 90000000 →
    Calls Tryd.prog 80 #[.agg cs.toArray] w (Cd.RetO w t.enc)) :
    ∀ (t : Cd.T) (cs : List Value) (w : World), t.hgt ≤ h + 1 → h + 1 ≤ 1000000 → t.fd.isSome = true → Cd.CellB w w.heap.size t cs → t.enc.length ≤ 90000000 →
    Calls Tryd.prog 80 #[.agg cs.toArray] w (Cd.RetO w t.enc) := by
    intro t cs w hh hb hfd hc hlen
    have IH := Lib.hid (fun t cs w h1 => IH0 t cs w h1 (by omega))
    clear IH0
    have hcase := Cd.T.fd_cases hfd
    cases hc with
    | mk k n s l A c xss hl hx hr hn hm hs hk hi =>
    rw [Cd.T.hgt] at hh
    have HX := Lib.hid hx
    have HR := Lib.hid hr
    have HLX := Lib.hid hl
    have HHG := Lib.hid hh
    have HLE := Lib.hid hlen
    have HNI := Lib.hid hi
    clear hx hr hl hn hs hh hfd hlen hk hi
    unfold maxLen at hm
    obtain ⟨w0, hw0⟩ : ∃ w0, w0 = w.alloc (.cells #[.int .i64 k, .int .i64 n, .string ⟨s.toArray⟩, .slice A l.length c] 77) := ⟨_, rfl⟩
    have HB0 := Lib.hid (show Below w.heap.size w w0 by rw [hw0]; exact (Below.refl _ _).alloc (Nat.le_refl _) _)
    have HH0 := Lib.hid (show Has w0 w.heap.size 77 [.int .i64 k, .int .i64 n, .string ⟨s.toArray⟩, .slice A l.length c] by rw [hw0]; exact Has.new _ _ _)
    have HCL := Lib.hid (show ∀ w', Below w0.heap.size w0 w' → w.heap.size < w'.heap.size ∧ w'.cell? ⟨w.heap.size, 1, none⟩ = some (.int .i64 n) ∧ w'.cell? ⟨w.heap.size, 2, none⟩ = some (.string ⟨s.toArray⟩) ∧ w'.cell? ⟨w.heap.size, 3, none⟩ = some (.slice A l.length c) from fun w' hb => by
      have h := HH0.out.keep hb
      exact ⟨h.lt, h.cell 1, h.cell 2, h.cell 3⟩)
    have HW0 := Lib.hid hw0
    clear hw0
    rcases hcase with ⟨k1, q1, q2⟩ | ⟨k1, q1, q2⟩ | ⟨k1, q1, q2, q3⟩
    · clear q1 q2
      have k1 : k = 1 := k1
      subst k1
      have HE := Lib.hid (Cd.enc_1 (t := .mk 1 n s l) rfl)
      simp only [Cd.T.n] at HE
      have HL := Lib.hid (Cd.num_len (Cd.uns n))
      have HUL := Lib.hid (Cd.uns_lt n HNI.out)
      have HUN := Lib.hid (fun w => Cd.runsigned_any n w HNI.out)
      have HNU := Lib.hid (fun w => Cd.rnumeral_any 9 (Cd.uns n) w (Nat.lt_of_lt_of_le HUL.out (by decide)) HUL.out)
      go_enter Tryd.func80, Tryd.ntmps80
      go_upto_region 1 with fail
      rw [← HW0.out]
      obtain ⟨z0, c1, c2, c3⟩ := HCL.out w0 (Below.refl _ _)
      have c0 := HH0.out.cell 0
      simp only [List.getElem?_cons_zero] at c0
      have HO1 := Lib.hid (show Cd.Ow w0 (w0.alloc (.cells #[.int .u8 1] 5)) (.slice (some ⟨w0.heap.size, 0, none⟩) 1 1) [1] from Cd.Ow.lit (Below.refl _ _) 1)
      obtain ⟨z1, c1a, _, _⟩ := HCL.out _ HO1.out.below
      go_wp2_with ((with_reducible refine (HUN.out _).mono ?_); rintro e w5 ⟨rfl, rfl⟩)
      try go_wp2_with fail
      ((with_reducible refine (HNU.out _).mono ?_); rintro e w5 ⟨v5, rfl, hb5, ho5⟩)
      obtain ⟨A5, c5, rfl⟩ := own_slice ho5
      have HO5 := Lib.hid ho5
      have HO6 := Lib.hid (HO1.out.keep hb5)
      have hz5 : w0.heap.size ≤ w5.heap.size := HO6.out.below.size
      have hl5 := HL.out
      clear hb5 ho5
      go_wp2_with (at_builtin; refine wpList_append_rd rfl _ _ rfl el27 rfl HO6.out.own rfl (rd_of_own HO5.out) (one_bytes _) (own_nil HO5.out) (by simp only [maxLen]; simp; omega) (by simp; omega) hz5 ?_; intro v4 w4 hG4)
      have HG4 := Lib.hid (show Cd.Ow w0 w4 v4 (1 :: Cd.num (Cd.uns n)) from HO6.out.grew hG4 (by simp; omega) (by simp))
      clear hG4
      go_wp2_with fail
      go_ret
      rw [HE.out]
      exact HG4.out.ret HB0.out
    · clear q1 q2
      have k1 : k = 2 := k1
      subst k1
      have HE := Lib.hid (Cd.enc_2 (t := .mk 2 n s l) rfl)
      simp only [Cd.T.s] at HE
      have hsl : s.length ≤ 90000000 := by have h := HLE.out; rw [HE.out] at h; simp at h; omega
      have HL := Lib.hid (Cd.num_len s.length)
      have HSZ0 := Lib.hid (str_size s)
      have HSC := Lib.hid (strCells_eq s)
      have hcv : IntKind.u64.wrap ((s.length : Nat) : Int) = ((s.length : Nat) : Int) := by rw [Cd.u64_wrap]; omega
      have hsz := HSZ0.out
      have HEN := Lib.hid (enters_of Tryd.func103 (by kernel_rfl) rfl)
      have HO1 := Lib.hid (show Cd.Ow w0 ((w0.alloc (.cells #[.int .u8 2] 5)).drew) (.slice (some ⟨w0.heap.size, 0, none⟩) 1 1) [2] from ⟨(Cd.Ow.lit (Below.refl _ _) 2).below.drew, own_drew (Cd.Ow.lit (Below.refl _ _) 2).own⟩)
      have HNA := Lib.hid (show Calls Tryd.prog 103 #[.int .u64 ((s.length : Nat) : Int)] ((w0.alloc (.cells #[.int .u8 2] 5)).drew) (Cd.RetO ((w0.alloc (.cells #[.int .u8 2] 5)).drew) (Cd.num s.length)) from Cd.rnumeral_any 9 s.length _ (Nat.lt_of_lt_of_le (show s.length < 18446744073709551616 by omega) (by decide)) (by omega))
      have HNB := Lib.hid (show Calls Tryd.prog 103 #[.int .u64 ((s.length : Nat) : Int)] w0.drew (Cd.RetO w0.drew (Cd.num s.length)) from Cd.rnumeral_any 9 s.length _ (Nat.lt_of_lt_of_le (show s.length < 18446744073709551616 by omega) (by decide)) (by omega))
      generalize hNUM : Cd.num s.length = NUM at HE HL HNA HNB
      have HNUM := Lib.hid hNUM
      clear hNUM
      have HXA := Lib.hid (show ∀ v5 w5, Cd.RetO ((w0.alloc (.cells #[.int .u8 2] 5)).drew) NUM (.returned v5) w5 → ∃ A5 c5, v5 = .slice A5 NUM.length c5 ∧ (A5 = none → c5 = 0) ∧ Rd w5 w5.heap.size 1 A5 NUM.length (NUM.map fun a => Value.int .u8 (a.toNat : Int)) ∧ Cd.Ow w0 w5 (.slice (some ⟨w0.heap.size, 0, none⟩) 1 1) [2] from fun v5 w5 h => by
        obtain ⟨A, c, e, hn, hb, hr⟩ := h.read
        exact ⟨A, c, e, hn, hr, HO1.out.keep hb⟩)
      have HXB := Lib.hid (show ∀ v5 w5, Cd.RetO w0.drew NUM (.returned v5) w5 → ∃ A5 c5, v5 = .slice A5 NUM.length c5 ∧ (A5 = none → c5 = 0) ∧ Rd (w5.alloc (.cells #[.int .u8 2] 5)) (w5.alloc (.cells #[.int .u8 2] 5)).heap.size 1 A5 NUM.length (NUM.map fun a => Value.int .u8 (a.toNat : Int)) ∧ Cd.Ow w0 (w5.alloc (.cells #[.int .u8 2] 5)) (.slice (some ⟨w5.heap.size, 0, none⟩) 1 1) [2] ∧ Below w0.heap.size w0 w5 from fun v5 w5 h => by
        obtain ⟨A, c, e, hn, hb, hr⟩ := h.read
        have hb2 : Below w0.heap.size w0 w5 := ((Below.refl _ _).drew).trans hb
        exact ⟨A, c, e, hn, RdB.alloc (w := w5) hr _, Cd.Ow.lit hb2 2, hb2⟩)
      have HAP := Lib.hid (show ∀ w5 vv v6 w6, Cd.Ow w0 w5 vv [2] → Grew w5 w0.heap.size 5 1 vv ([(2 : UInt8)].length + NUM.length) (([(2 : UInt8)].map fun a => Value.int .u8 (a.toNat : Int)) ++ NUM.map fun a => Value.int .u8 (a.toNat : Int)) v6 w6 → Cd.Ow w0 w6 v6 (2 :: NUM) from fun w5 vv v6 w6 h hG => h.grew hG (by simp; omega) (by simp))
      have HST := Lib.hid (show ∀ w6 v6 v7 w7, Cd.Ow w0 w6 v6 (2 :: NUM) → Grew w6 w0.heap.size 5 1 v6 ((2 :: NUM).length + (⟨s.toArray⟩ : ByteArray).size) (((2 :: NUM).map fun a => Value.int .u8 (a.toNat : Int)) ++ Lib.strCells ⟨s.toArray⟩) v7 w7 → Cd.RetO w (2 :: (NUM ++ s)) (.returned v7) w7 from fun w6 v6 v7 w7 h hG => by
        rw [HSZ0.out, HSC.out] at hG
        exact (h.grew (l' := 2 :: (NUM ++ s)) hG (by simp; omega) (by simp)).ret HB0.out)
      have H1 := Lib.hid (one_bytes NUM)
      have H63 := Lib.hid (show [(2 : UInt8)].length + NUM.length ≤ maxLen by have := HL.out; unfold maxLen; simp; omega)
      have H64 := Lib.hid (show ([(2 : UInt8)].length + NUM.length) * 1 ≤ 140737488355328 by have := HL.out; simp; omega)
      have H65 := Lib.hid (show (2 :: NUM).length + (⟨s.toArray⟩ : ByteArray).size ≤ maxLen by rw [HSZ0.out]; have := HL.out; unfold maxLen; simp; omega)
      have H66 := Lib.hid (show (2 :: NUM).length + (⟨s.toArray⟩ : ByteArray).size ≤ 140737488355328 by rw [HSZ0.out]; have := HL.out; simp; omega)
      go_enter Tryd.func80, Tryd.ntmps80
      go_upto_region 1 with fail
      rw [← HW0.out]
      obtain ⟨z0, c1, c2, c3⟩ := HCL.out w0 (Below.refl _ _)
      obtain ⟨z1, c1a, c2a, c3a⟩ := HCL.out (w0.alloc (.cells #[.int .u8 2] 5)) ((Below.refl _ _).alloc (Nat.le_refl _) _)
      have c0 := HH0.out.cell 0
      simp only [List.getElem?_cons_zero] at c0
      go_upto_region 5 with fail
      go_region_law (first
        | (refine step_callR1 _ 103 (.tmp 21) _ (.int .u64 ((s.length : Nat) : Int)) (by rfl) (by rfl) HEN.out (by rfl) HNA.out (fun e w' h => by obtain ⟨v', e', _⟩ := h; exact ⟨v', e'⟩) ?_; intro v5 w5 hR5; obtain ⟨A5, c5, rfl, hn5, hr5, ho5⟩ := HXA.out v5 w5 hR5; obtain ⟨z5, c15, c25, c35⟩ := HCL.out w5 ho5.below; have HN5 := Lib.hid hn5; have HR5 := Lib.hid hr5; have HO5 := Lib.hid ho5; clear hn5 hr5 ho5 hR5)
        | (refine step_callR1 _ 103 (.tmp 21) _ (.int .u64 ((s.length : Nat) : Int)) (by rfl) (by rfl) HEN.out (by rfl) HNB.out (fun e w' h => by obtain ⟨v', e', _⟩ := h; exact ⟨v', e'⟩) ?_; intro v5 w5 hR5; obtain ⟨A5, c5, rfl, hn5, hr5, ho5, hb5⟩ := HXB.out v5 w5 hR5; obtain ⟨z5, c15, c25, c35⟩ := HCL.out w5 hb5; obtain ⟨z5a, c15a, c25a, c35a⟩ := HCL.out _ ho5.below; have HN5 := Lib.hid hn5; have HR5 := Lib.hid hr5; have HO5 := Lib.hid ho5; clear hn5 hr5 ho5 hR5)
        | (refine step_append_rd (by rfl) (.tmp 17) (.tmp 22) (by rfl) el27 (by rfl) HO5.out.own (by rfl) HR5.out H1.out HN5.out H63.out H64.out HO5.out.below.size ?_; intro v6 w6 hG6; have HO6 := Lib.hid (HAP.out _ _ v6 w6 HO5.out hG6); obtain ⟨z6, c16, c26, c36⟩ := HCL.out w6 HO6.out.below; clear hG6)
        | (refine step_append_str (by rfl) (.tmp 23) (.tmp 25) (by rfl) el27 Tryd.underlying9 (by rfl) HO6.out.own (by rfl) H65.out H66.out HO6.out.below.size ?_; intro v7 w7 hG7; have HR7 := Lib.hid (HST.out _ _ v7 w7 HO6.out hG7); clear hG7))
      all_goals (
        go_wp2_with fail
        go_ret
        rw [HE.out]
        exact HR7.out)
    · have k1 : k = 3 := k1
      have q1 : n = 0 := q1
      have q2 : s = [] := q2
      subst k1 q1 q2
      have HFD := Lib.hid (show (Cd.T.fds l).isSome = true from q3)
      clear q3
      have HE := Lib.hid (Cd.enc_3 (t := .mk 3 0 [] l) rfl)
      simp only [Cd.T.l] at HE
      have HLN := Lib.hid (show 1 + (Cd.num l.length).length + (Cd.T.encs l).length ≤ 90000000 by have h := HLE.out; rw [HE.out] at h; simp at h; omega)
      have hl10 := Cd.num_len l.length
      have hcv : IntKind.u64.wrap ((l.length : Nat) : Int) = ((l.length : Nat) : Int) := by rw [Cd.u64_wrap]; omega
      have HNU := Lib.hid (fun w => Cd.rnumeral_any 9 l.length w (Nat.lt_of_lt_of_le (show l.length < 18446744073709551616 by omega) (by decide)) (by omega))
      go_enter Tryd.func80, Tryd.ntmps80
      go_upto_region 1 with fail
      rw [← HW0.out]
      obtain ⟨z0, c1, c2, c3⟩ := HCL.out w0 (Below.refl _ _)
      have c0 := HH0.out.cell 0
      simp only [List.getElem?_cons_zero] at c0
      have HO1 := Lib.hid (show Cd.Ow w0 (w0.alloc (.cells #[.int .u8 3] 5)) (.slice (some ⟨w0.heap.size, 0, none⟩) 1 1) [3] from Cd.Ow.lit (Below.refl _ _) 3)
      obtain ⟨z1, _, _, c3a⟩ := HCL.out _ HO1.out.below
      go_wp2_with fail
      ((with_reducible refine (HNU.out _).mono ?_); rintro e w5 ⟨v5, rfl, hb5, ho5⟩)
      obtain ⟨A5, c5, rfl⟩ := own_slice ho5
      have HO5 := Lib.hid ho5
      have HO6 := Lib.hid (HO1.out.keep hb5)
      have hz5 : w0.heap.size ≤ w5.heap.size := HO6.out.below.size
      clear hb5 ho5 hcv
      go_wp2_with (at_builtin; refine wpList_append_rd rfl _ _ rfl el27 rfl HO6.out.own rfl (rd_of_own HO5.out) (one_bytes _) (own_nil HO5.out) (by simp only [maxLen]; simp; omega) (by simp; omega) hz5 ?_; intro v4 w4 hG4)
      have HG4 := Lib.hid (show Cd.Ow w0 w4 v4 (3 :: Cd.num l.length) from HO6.out.grew hG4 (by simp; omega) (by simp))
      obtain ⟨z4, _, _, c34⟩ := HCL.out _ HG4.out.below
      clear hG4 c1 c2 c3 c3a c0 z0 z1
      go_wp2_with fail
      clear c34 z4
      go_loopw [3, 4] (fun v' i wr => ∃ j : Nat, j ≤ l.length ∧ i = .int .i64 j ∧ Cd.Ow w0 wr v' (3 :: (Cd.num l.length ++ Cd.T.encs (l.take j)))) (fun _ i _ => l.length - (intOf i).toNat)
      case atStart => exact ⟨0, by omega, rfl, by simpa [Cd.T.encs] using HG4.out⟩
      case round =>
        obtain ⟨j, hj, rfl, hO⟩ := hrel
        have HOr := Lib.hid hO
        have HBr := Lib.hid (HB0.out.trans (hO.below.mono HB0.out.size))
        have hzr := HBr.out.size
        have hzr0 := hO.below.size
        obtain ⟨zr, _, _, c3r⟩ := HCL.out _ hO.below
        clear hO
        by_cases hlt : j < l.length
        · obtain ⟨b, off, Av, cv, rfl, hbw, hcv, e0, e1, e2, e3⟩ := Cd.cellB4 HLX.out (fun i hi => (HX.out i hi).keep HBr.out) (HR.out.below HBr.out (Nat.le_refl _)) j hlt
          have hbz : b < wr.heap.size := by omega
          have hmem : l[j]! ∈ l := by rw [getElem!_pos l j hlt]; exact List.getElem_mem _
          have HF := Lib.hid (Cd.T.fds_all HFD.out hmem)
          have HH := Lib.hid (show (l[j]!).hgt ≤ h by have h1 := Cd.T.hgts_mem hmem; have h2 := HHG.out; omega)
          have HEL := Lib.hid (Cd.T.encs_take l j hlt)
          have HES := Lib.hid (show Cd.T.encs (l.take (j + 1)) = Cd.T.encs (l.take j) ++ (l[j]!).enc by
            rw [List.take_succ_eq_append_getElem hlt, Cd.T.encs_snoc, getElem!_pos l j hlt])
          have HC := Lib.hid hcv
          clear hcv hmem
          generalize l[j]! = x at HF HH HEL HES HC e0 e1 e2 e3
          have HLX2 := Lib.hid (show x.enc.length ≤ 90000000 by have := HEL.out; have := HLN.out; omega)
          have HTOT := Lib.hid (show (3 :: (Cd.num l.length ++ Cd.T.encs (l.take j))).length + x.enc.length ≤ 90000000 by have := HEL.out; have := HLN.out; simp; omega)
          go_wp2_with fail
          ((with_reducible refine (IH.out x [.int .i64 x.k, .int .i64 x.n, .string ⟨x.s.toArray⟩, .slice Av x.l.length cv] wr HH.out HF.out (HC.out.more hzr) HLX2.out).mono ?_); rintro e w7 ⟨v7, rfl, hb7, ho7⟩)
          obtain ⟨A7, c7, rfl⟩ := own_slice ho7
          have HO7 := Lib.hid ho7
          have HO8 := Lib.hid (HOr.out.keep hb7)
          have hz7 : w0.heap.size ≤ w7.heap.size := HO8.out.below.size
          have ht7 := HTOT.out
          clear hb7 ho7 e0 e1 e2 e3 c3r
          go_wp2_with (at_builtin; refine wpList_append_rd rfl _ _ rfl el27 rfl HO8.out.own rfl (rd_of_own HO7.out) (one_bytes _) (own_nil HO7.out) (by simp only [maxLen]; omega) (by omega) hz7 ?_; intro v9 w9 hG9)
          have HG9 := Lib.hid (show Cd.Ow w0 w9 v9 (3 :: (Cd.num l.length ++ Cd.T.encs (l.take (j + 1)))) from HO8.out.grew hG9 (by rw [HES.out]; simp; omega) (by rw [HES.out]; simp))
          clear hG9
          go_wp2_with fail
          go_roundw
          case rel => exact ⟨j + 1, by omega, by go_num, HG9.out⟩
          case measure => simp [intOf]; omega
        · obtain rfl : j = l.length := by omega
          have HEND := Lib.hid (show Cd.RetO w (3 :: (Cd.num l.length ++ Cd.T.encs l)) (.returned u3) wr by
            have h := HOr.out
            rw [List.take_length] at h
            exact h.ret HB0.out)
          go_wp2_with fail
          go_ret
          rw [HE.out]
          exact HEND.out
theorem Cd.rencode_any : ∀ (h : Nat) (t : Cd.T) (cs : List Value) (w : World), t.hgt ≤ h → h ≤ 1000000 → t.fd.isSome = true → Cd.CellB w w.heap.size t cs → t.enc.length ≤ 90000000 →
    Calls Tryd.prog 80 #[.agg cs.toArray] w (Cd.RetO w t.enc) := by
  intro h
  induction h with
  | zero => intro t cs w hh; cases t; rw [Cd.T.hgt] at hh; omega
  | succ h ih => exact Cd.rencode_step h ih
end Go.Proofs.YtideglpjgplpnaaDoor
/- Contracts of the reference's Encode, Size. -/
namespace Go.Proofs.YtideglpjgplpnaaDoor
open Go.RowKit Go.Shelf
set_option linter.unusedVariables false

set_option maxHeartbeats 2000000 in
theorem Cd.rencode2_any (t : Cd.T) (cs : List Value) (w : World) (hh : t.hgt ≤ 1000000) (hc : Cd.CellB w w.heap.size t cs) (hlen : t.enc.length ≤ 90000000) :
    Calls Tryd.prog 52 #[.agg cs.toArray] w (Cd.RetE w t) := by
  obtain ⟨Av, cv, rfl⟩ := hc.spell
  have HC := Lib.hid hc
  have HCH := Lib.hid (fun w h => Cd.rcheck_any t [.int .i64 t.k, .int .i64 t.n, .string ⟨t.s.toArray⟩, .slice Av t.l.length cv] w hh h)
  have HEN := Lib.hid (fun w hf h => Cd.rencode_any 1000000 t [.int .i64 t.k, .int .i64 t.n, .string ⟨t.s.toArray⟩, .slice Av t.l.length cv] w hh (Nat.le_refl _) hf h hlen)
  clear hc hh hlen
  go_enter Tryd.func52, Tryd.ntmps52
  go_wp2_with fail
  obtain ⟨w0, hw0⟩ : ∃ w0, w0 = w.alloc (.cells #[.int .i64 t.k, .int .i64 t.n, .string ⟨t.s.toArray⟩, .slice Av t.l.length cv] 77) := ⟨_, rfl⟩
  have HB0 := Lib.hid (show Below w.heap.size w w0 by rw [hw0]; exact (Below.refl _ _).alloc (Nat.le_refl _) _)
  have HH0 := Lib.hid (show Has w0 w.heap.size 77 [.int .i64 t.k, .int .i64 t.n, .string ⟨t.s.toArray⟩, .slice Av t.l.length cv] by rw [hw0]; exact Has.new _ _ _)
  try rw [← hw0]
  clear hw0
  (with_reducible refine (HCH.out _ ((HC.out.under HB0.out (Nat.le_refl _)).cell HB0.out.size)).mono ?_)
  rintro e w1 ⟨rfl, hb1⟩
  have HB1 := Lib.hid (HB0.out.trans (hb1.mono HB0.out.size))
  have HH1 := Lib.hid (HH0.out.keep hb1)
  clear hb1
  have z1 := HH1.out.lt
  have d0 := HH1.out.cell 0
  have d1 := HH1.out.cell 1
  have d2 := HH1.out.cell 2
  have d3 := HH1.out.cell 3
  simp only [List.getElem?_cons_succ, List.getElem?_cons_zero] at d0 d1 d2 d3
  by_cases hce : Cd.chkE t = 0
  · have HCE := Lib.hid hce
    have HF := Lib.hid (Cd.chk_some hce)
    have HX := Lib.hid ((HC.out.under HB1.out (Nat.le_refl _)).more HB1.out.size)
    rw [hce]
    clear hce
    go_wp2_with fail
    ((with_reducible refine (HEN.out _ HF.out HX.out).mono ?_); rintro e w2 ⟨v2, rfl, hb2, ho2⟩)
    have HB2 := Lib.hid (HB1.out.trans (hb2.mono HB1.out.size))
    have HO2 := Lib.hid (own_less ho2 HB1.out.size)
    clear hb2 ho2 d0 d1 d2 d3
    go_wp2_with fail
    go_ret2
    have ho : Cd.out t = t.enc := by unfold Cd.out; rw [if_pos HCE.out]
    exact ⟨_, by rw [HCE.out]; rfl, HB2.out, by rw [ho]; exact HO2.out⟩
  · have HCE := Lib.hid hce
    have hne : (Cd.chkE t != 0) = true := by simpa using hce
    clear hce
    go_wp2_with fail
    go_ret2
    exact ⟨_, rfl, HB1.out, by unfold Cd.out; rw [if_neg HCE.out]; exact World.ownsRow_nil _ _ _ 1⟩

end Go.Proofs.YtideglpjgplpnaaDoor
/- Contract of the reference's Text. -/
namespace Go.Proofs.YtideglpjgplpnaaDoor
open Go.RowKit Go.Shelf
set_option linter.unusedVariables false

set_option maxHeartbeats 1000000 in
theorem Cd.rtext_any (s : ByteArray) (w : World) :
    Calls Tryd.prog 51 #[.string s] w fun e w' => e = .returned (.agg #[.int .i64 2, .int .i64 0, .string s, .slice none 0 0]) ∧ Below w.heap.size w w' := by
  go_enter Tryd.func51, Tryd.ntmps51
  go_wp2_with fail
  refine bodyPost_ret (v := .agg #[.int .i64 2, .int .i64 0, .string s, .slice none 0 0]) (by simp [results, Tryd.results51, go_sem]) rfl ⟨rfl, ?_⟩
  exact (Below.refl _ _).alloc (Nat.le_refl _) _
end Go.Proofs.YtideglpjgplpnaaDoor
