/- Contracts of the reference's Depth, Check. -/
import Derived.Test.YtnhodcjbmloeeaaCdR1
namespace Go.Proofs.Ytnhodcjbmloeeaa
open Go.RowKit
set_option linter.unusedVariables false

theorem Cd.fds_take {l : List Cd.T} {d : Nat} (h : Cd.T.fds l = some d) (j : Nat) (hj : j < l.length) : ∃ a, (l[j]!).fd = some a ∧ ∀ m, Cd.T.fds (l.take j) = some m → Cd.T.fds (l.take (j + 1)) = some (max m a) := by
  have h1 := Cd.T.fds_all (l := l) (x := l[j]!) (by rw [h]; rfl) (by rw [getElem!_pos l j hj]; exact List.getElem_mem _)
  cases hf : (l[j]!).fd with
  | none => rw [hf] at h1; cases h1
  | some a =>
    refine ⟨a, rfl, fun m hm => ?_⟩
    rw [List.take_succ_eq_append_getElem hj, Cd.T.fds_snoc, hm]
    rw [getElem!_pos l j hj] at hf
    rw [hf]

set_option maxRecDepth 100000 in
set_option maxHeartbeats 8000000 in
theorem Cd.rdepth_any : ∀ (h : Nat) (t : Cd.T) (d : Nat) (cs : List Value) (w : World), t.hgt ≤ h → h ≤ 1000000 → t.fd = some d → Cd.Cell w t cs →
    Calls Try.prog 30 #[.agg cs.toArray] w fun e w' => e = .returned (.int .i64 (d : Int)) ∧ Below w.heap.size w w'
  | 0, t, d, cs, w, hh, _, _, _ => by cases t; rw [Cd.T.hgt] at hh; omega
  | h + 1, t, d, cs, w, hh, hb, hfd, hc => by
    have IH := Lib.hid (fun t d cs w h1 h2 h3 => Cd.rdepth_any h t d cs w h1 (by omega) h2 h3)
    have hdh := Cd.T.fd_hgt t d hfd
    have hcase := Cd.T.fd_cases (t := t) (by rw [hfd]; rfl)
    cases hc with
    | mk k n s l A c xss hl hx hr hn hm hs =>
    rw [Cd.T.hgt] at hh
    have HX := Lib.hid hx
    have HR := Lib.hid hr
    have HLX := Lib.hid hl
    have HHG := Lib.hid hh
    have HFD := Lib.hid hfd
    have HB0 := Lib.hid ((Below.refl w.heap.size w).alloc (Nat.le_refl _) (.cells #[.int .i64 k, .int .i64 n, .string ⟨s.toArray⟩, .slice A l.length c] 24))
    have hz0 := HB0.out.size
    have hd1 : d ≤ 1000001 := by rw [Cd.T.hgt] at hdh; omega
    clear hx hr hl hn hs hh hfd hdh
    unfold maxLen at hm
    by_cases k3 : k = 3
    · have HV := Lib.hid (show (Cd.T.fds l).map (· + 1) = some d by
        have h1 := HFD.out
        subst k3
        rw [Cd.fd_3] at h1
        split at h1
        · exact h1
        · cases h1)
      obtain ⟨d0, hd0, rfl⟩ : ∃ d0, Cd.T.fds l = some d0 ∧ d = d0 + 1 := by
        have h1 := HV.out
        cases hf : Cd.T.fds l with
        | none => rw [hf] at h1; cases h1
        | some d0 => rw [hf] at h1; exact ⟨d0, rfl, by injection h1 with h1; exact h1.symm⟩
      have HD := Lib.hid hd0
      clear hd0 hcase HV HFD
      subst k3
      go_enter Try.func30, Try.ntmps30
      go_wp2_with fail
      obtain ⟨w0, hw0⟩ : ∃ w0, w0 = w.alloc (.cells #[.int .i64 3, .int .i64 n, .string ⟨s.toArray⟩, .slice A l.length c] 24) := ⟨_, rfl⟩
      have HH0 := Lib.hid (show Has w0 w.heap.size 24 [.int .i64 3, .int .i64 n, .string ⟨s.toArray⟩, .slice A l.length c] by rw [hw0]; exact Has.new _ _ _)
      rw [← hw0] at HB0 hz0
      try rw [← hw0]
      clear hw0
      go_loopw [3, 4] (fun n i wr => ∃ j m : Nat, j ≤ l.length ∧ i = .int .i64 j ∧ n = .int .i64 m ∧ Cd.T.fds (l.take j) = some m ∧ m ≤ 1000001 ∧ Below w0.heap.size w0 wr) (fun _ i _ => l.length - (intOf i).toNat)
      case atStart => exact ⟨0, 0, by omega, rfl, rfl, by simp [Cd.T.fds], by omega, Below.refl _ _⟩
      case round =>
        obtain ⟨j, m, hj, rfl, rfl, hfm, hm1, hB⟩ := hrel
        have HM := Lib.hid hfm
        have HBr := Lib.hid hB
        have HB := Lib.hid (HB0.out.trans (hB.mono hz0))
        have hzr := hB.size
        have HHr := Lib.hid (HH0.out.keep hB)
        clear hfm hB
        have c3 := HHr.out.cell 3
        have zz := HHr.out.lt
        simp only [List.getElem?_cons_succ, List.getElem?_cons_zero] at c3
        by_cases hlt : j < l.length
        · obtain ⟨b, off, v0, v1, v2, Av, nv, cv, rfl, hbw, hv, e0, e1, e2, e3⟩ := Cd.cell4 HLX.out (fun i hi => (HX.out i hi).keep HB.out) ((HR.out.below HB.out (Nat.le_refl _)).more HB.out.size) j hlt
          obtain ⟨a, hfa, hstep⟩ := Cd.fds_take HD.out j hlt
          have HT := Lib.hid (hstep m HM.out)
          have hmem : l[j]! ∈ l := by rw [getElem!_pos l j hlt]; exact List.getElem_mem _
          have HH := Lib.hid (show (l[j]!).hgt ≤ h by have h1 := Cd.T.hgts_mem hmem; have h2 := HHG.out; omega)
          have ha1 : a ≤ 1000001 := by have := Cd.T.fd_hgt _ _ hfa; have := HH.out; omega
          have HC := Lib.hid (show Cd.Cell wr l[j]! [.int .i64 v0, .int .i64 v1, .string v2, .slice Av nv cv] by rw [← hv]; exact (HX.out j hlt).keep HB.out)
          have HA := Lib.hid hfa
          clear hv hmem hfa hstep
          generalize l[j]! = x at HH HC HA
          go_wp2_with fail
          ((with_reducible refine (IH.out x a [.int .i64 v0, .int .i64 v1, .string v2, .slice Av nv cv] _ HH.out HA.out HC.out).mono ?_); rintro e w5 ⟨rfl, hb5⟩; have HBr5 := Lib.hid (HBr.out.trans (hb5.mono HBr.out.size)); clear hb5 e0 e1 e2 e3)
          go_wp2_with fail
          exact ⟨⟨j + 1, max m a, by omega, by go_num, congrArg (Value.int .i64) (by split <;> omega), HT.out, by omega, HBr5.out⟩, by simp [intOf]; omega⟩
        · obtain rfl : j = l.length := by omega
          have HE := Lib.hid (show m = d0 by
            have h1 := HM.out
            rw [List.take_length, HD.out] at h1
            injection h1 with h1
            exact h1.symm)
          go_wp2_with fail
          go_ret
          exact ⟨by rw [← HE.out]; simp, HB.out⟩
    · obtain rfl : d = 0 := by
        have h1 := HFD.out
        rw [Cd.fd_eq] at h1
        split at h1
        · split at h1
          · injection h1 with h1; exact h1.symm
          · cases h1
        · split at h1
          · split at h1
            · injection h1 with h1; exact h1.symm
            · cases h1
          · cases h1
      have b3 : (k != 3) = true := by simpa using k3
      clear hcase
      go_enter Try.func30, Try.ntmps30
      go_wp2_with fail
      go_ret
      exact ⟨rfl, HB0.out⟩

set_option maxHeartbeats 1000000 in
theorem Cd.rcheck_any (t : Cd.T) (cs : List Value) (w : World) (hh : t.hgt ≤ 1000000) (hc : Cd.Cell w t cs) :
    Calls Try.prog 17 #[.agg cs.toArray] w fun e w' => e = .returned (.int .i64 (Cd.chkE t)) ∧ Below w.heap.size w w' := by
  obtain ⟨v0, v1, v2, Av, nv, cv, rfl⟩ : ∃ v0 v1 v2 Av nv cv, cs = [.int .i64 v0, .int .i64 v1, .string v2, .slice Av nv cv] := by cases hc; exact ⟨_, _, _, _, _, _, rfl⟩
  have HC := Lib.hid hc
  have HF := Lib.hid (fun w h => Cd.rformed_any 1000000 t [.int .i64 v0, .int .i64 v1, .string v2, .slice Av nv cv] w hh (Nat.le_refl _) h)
  have HD := Lib.hid (fun d w h1 h => Cd.rdepth_any 1000000 t d [.int .i64 v0, .int .i64 v1, .string v2, .slice Av nv cv] w hh (Nat.le_refl _) h1 h)
  clear hc
  go_enter Try.func17, Try.ntmps17
  go_wp2_with fail
  obtain ⟨w0, hw0⟩ : ∃ w0, w0 = w.alloc (.cells #[.int .i64 v0, .int .i64 v1, .string v2, .slice Av nv cv] 24) := ⟨_, rfl⟩
  have HB0 := Lib.hid (show Below w.heap.size w w0 by rw [hw0]; exact (Below.refl _ _).alloc (Nat.le_refl _) _)
  have HH0 := Lib.hid (show Has w0 w.heap.size 24 [.int .i64 v0, .int .i64 v1, .string v2, .slice Av nv cv] by rw [hw0]; exact Has.new _ _ _)
  try rw [← hw0]
  clear hw0
  (with_reducible refine (HF.out _ (HC.out.keep HB0.out)).mono ?_)
  rintro e w1 ⟨rfl, hb1⟩
  have HB1 := Lib.hid (HB0.out.trans (hb1.mono HB0.out.size))
  have HH1 := Lib.hid (HH0.out.keep hb1)
  clear hb1
  have z1 := HH1.out.lt
  have d0 := HH1.out.cell 0
  have d1 := HH1.out.cell 1
  have d2 := HH1.out.cell 2
  have d3 := HH1.out.cell 3
  simp only [List.getElem?_cons_succ, List.getElem?_cons_zero] at d0 d1 d2 d3
  cases hf : t.fd with
  | none =>
    have h2 : Cd.fdB t = false := by unfold Cd.fdB; rw [hf]; rfl
    have HE := Lib.hid (show Cd.chkE t = 1 by unfold Cd.chkE; rw [hf])
    rw [h2]
    clear h2 hf
    go_wp2_with fail
    go_ret
    exact ⟨by rw [HE.out]; rfl, HB1.out⟩
  | some d =>
    have h2 : Cd.fdB t = true := by unfold Cd.fdB; rw [hf]; rfl
    have HFD := Lib.hid hf
    rw [h2]
    clear h2 hf
    go_wp2_with fail
    ((with_reducible refine (HD.out d _ HFD.out (HC.out.keep HB1.out)).mono ?_); rintro e w2 ⟨rfl, hb2⟩; have HB2 := Lib.hid (HB1.out.trans (hb2.mono HB1.out.size)); clear hb2 d0 d1 d2 d3)
    by_cases hd : 16 < d
    · have HE := Lib.hid (show Cd.chkE t = 2 by unfold Cd.chkE; rw [HFD.out]; exact if_pos hd)
      have d1 : decide ((16 : Int) < (d : Int)) = true := decide_eq_true (by omega)
      go_wp2_with fail
      go_ret
      exact ⟨by rw [HE.out]; rfl, HB2.out⟩
    · have HE := Lib.hid (show Cd.chkE t = 0 by unfold Cd.chkE; rw [HFD.out]; exact if_neg hd)
      have d1 : decide ((16 : Int) < (d : Int)) = false := decide_eq_false (by omega)
      go_wp2_with fail
      go_ret
      exact ⟨by rw [HE.out]; rfl, HB2.out⟩
end Go.Proofs.Ytnhodcjbmloeeaa
