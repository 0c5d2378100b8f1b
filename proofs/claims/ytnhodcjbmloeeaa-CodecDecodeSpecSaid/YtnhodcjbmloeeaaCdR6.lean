/- Contracts of the reference's count, Few. -/
import Derived.Test.YtnhodcjbmloeeaaCdW5
import Derived.Test.YtnhodcjbmloeeaaCdT2
namespace Go.Proofs.Ytnhodcjbmloeeaa
open Go.RowKit
set_option linter.unusedVariables false

/-- a value with few parts is small -/
def Cd.Fw (t : Cd.T) (d : Int) (c : Nat) : Prop := c ≤ 200 → (t.hgt : Int) ≤ d + 2 ∧ t.enc.length ≤ 210 * c
/-- what count answers -/
def Cd.RetC (w : World) (t : Cd.T) (d : Int) (e : Ending) (w' : World) : Prop := ∃ c : Nat, e = .returned (.int .i64 (c : Int)) ∧ (c : Int) ≤ 46116860184274880 + 1000 * (d + 2) ∧ Cd.Fw t d c ∧ Below w.heap.size w w'

theorem Cd.enc_len (t : Cd.T) : t.enc.length ≤ 11 + t.s.length + (Cd.T.encs t.l).length := by
  cases t with
  | mk k n s l =>
    rw [Cd.T.enc]
    have h1 := Cd.num_len (Cd.uns n)
    have h2 := Cd.num_len s.length
    have h3 := Cd.num_len l.length
    simp only [Cd.T.s, Cd.T.l]
    split
    · simp; omega
    · split
      · simp; omega
      · simp; omega
theorem Cd.encs_next (l : List Cd.T) (j : Nat) (hj : j < l.length) : (Cd.T.encs (l.take (j + 1))).length = (Cd.T.encs (l.take j)).length + (l[j]!).enc.length := by
  rw [List.take_succ_eq_append_getElem hj, Cd.T.encs_snoc, getElem!_pos l j hj, List.length_append]
theorem Cd.hgts_next (l : List Cd.T) (j : Nat) (hj : j < l.length) : Cd.T.hgts (l.take (j + 1)) = max (Cd.T.hgts (l.take j)) (l[j]!).hgt := by
  rw [List.take_succ_eq_append_getElem hj, getElem!_pos l j hj]
  generalize l.take j = m
  induction m with
  | nil => simp [Cd.T.hgts]
  | cons y m ih => rw [List.cons_append, Cd.T.hgts, Cd.T.hgts, ih, Nat.max_assoc]

set_option maxRecDepth 100000 in
set_option maxHeartbeats 8000000 in
theorem Cd.count_any : ∀ (f : Nat) (t : Cd.T) (cs : List Value) (w : World) (d : Int), d < f → -1 ≤ d → d ≤ 1000 → Cd.Cell w t cs →
    Calls Try.prog 36 #[.agg cs.toArray, .int .i64 d] w (Cd.RetC w t d)
  | f, t, cs, w, d, hf, hd1, hd2, hc => by
    cases hc with
    | mk k n s l A c xss hl hx hr hn hm hs =>
    have HX := Lib.hid hx
    have HR := Lib.hid hr
    have HLX := Lib.hid hl
    have HSZ := Lib.hid (str_size s)
    clear hx hr hl hn
    unfold maxLen at hm hs
    obtain ⟨w0, hw0⟩ : ∃ w0, w0 = w.alloc (.cells #[.int .i64 k, .int .i64 n, .string ⟨s.toArray⟩, .slice A l.length c] 24) := ⟨_, rfl⟩
    have HB0 := Lib.hid (show Below w.heap.size w w0 by rw [hw0]; exact (Below.refl _ _).alloc (Nat.le_refl _) _)
    have HH0 := Lib.hid (show Has w0 w.heap.size 24 [.int .i64 k, .int .i64 n, .string ⟨s.toArray⟩, .slice A l.length c] by rw [hw0]; exact Has.new _ _ _)
    have HW0 := Lib.hid hw0
    clear hw0
    have hsz := HSZ.out
    by_cases hdn : d < 0
    · have HE := Lib.hid (show Cd.RetC w (.mk k n s l) d (.returned (.int .i64 1000)) w0 from ⟨1000, rfl, by omega, fun h => by omega, HB0.out⟩)
      have hd : decide (d < 0) = true := decide_eq_true hdn
      go_enter Try.func36, Try.ntmps36
      go_upto_region 1 with fail
      rw [← HW0.out]
      have z0 := HH0.out.lt
      have c2 := HH0.out.cell 2
      have c3 := HH0.out.cell 3
      simp only [List.getElem?_cons_succ, List.getElem?_cons_zero] at c2 c3
      go_wp2_with fail
      go_ret
      exact HE.out
    · have hd : decide (d < 0) = false := decide_eq_false hdn
      by_cases hbig : 150 < l.length
      · have HE := Lib.hid (show Cd.RetC w (.mk k n s l) d (.returned (.int .i64 1000)) w0 from ⟨1000, rfl, by omega, fun h => by omega, HB0.out⟩)
        have hb2 : decide ((150 : Int) < (l.length : Int)) = true := decide_eq_true (by omega)
        go_enter Try.func36, Try.ntmps36
        go_upto_region 1 with fail
        rw [← HW0.out]
        have z0 := HH0.out.lt
        have c2 := HH0.out.cell 2
        have c3 := HH0.out.cell 3
        simp only [List.getElem?_cons_succ, List.getElem?_cons_zero] at c2 c3
        go_wp2_with fail
        go_ret
        exact HE.out
      · have hb2 : decide ((150 : Int) < (l.length : Int)) = false := decide_eq_false (by omega)
        cases f with
        | zero => omega
        | succ f =>
        have IH := Lib.hid (fun t cs w h => Cd.count_any f t cs w (d - 1) (by omega) (by omega) (by omega) h)
        go_enter Try.func36, Try.ntmps36
        go_upto_region 1 with fail
        rw [← HW0.out]
        have z0 := HH0.out.lt
        have c2 := HH0.out.cell 2
        have c3 := HH0.out.cell 3
        simp only [List.getElem?_cons_succ, List.getElem?_cons_zero] at c2 c3
        go_wp2_with fail
        clear c2 c3 z0
        go_loopw [5, 6] (fun n i wr => ∃ j m : Nat, j ≤ l.length ∧ i = .int .i64 j ∧ n = .int .i64 m ∧ (m : Int) ≤ 46116860184274880 + 1000 * (d + 2) ∧ (m ≤ 200 → (Cd.T.hgts (l.take j) : Int) ≤ d + 1 ∧ 11 + s.length + (Cd.T.encs (l.take j)).length ≤ 210 * m) ∧ Below w0.heap.size w0 wr) (fun _ i _ => l.length - (intOf i).toNat)
        case atStart => exact ⟨0, 1 + s.length / 200, by omega, rfl, by go_num, by omega, fun h => by simp [Cd.T.hgts, Cd.T.encs]; omega, Below.refl _ _⟩
        case round =>
          obtain ⟨j, m, hj, rfl, rfl, hm1, hm2, hB⟩ := hrel
          have HM := Lib.hid hm2
          have HBr := Lib.hid hB
          have HB := Lib.hid (HB0.out.trans (hB.mono HB0.out.size))
          have HHr := Lib.hid (HH0.out.keep hB)
          clear hm2 hB
          have zr := HHr.out.lt
          have c3r := HHr.out.cell 3
          simp only [List.getElem?_cons_succ, List.getElem?_cons_zero] at c3r
          by_cases hlt : j < l.length
          · have hlt2 : decide (j < l.length) = true := decide_eq_true hlt
            by_cases hmm : m ≤ 1000
            · have hm3 : decide ((m : Int) ≤ 1000) = true := decide_eq_true (by omega)
              obtain ⟨b, off, v0, v1, v2, Av, nv, cv, rfl, hbw, hv, e0, e1, e2, e3⟩ := Cd.cell4 HLX.out (fun i hi => (HX.out i hi).keep HB.out) ((HR.out.below HB.out (Nat.le_refl _)).more HB.out.size) j hlt
              have HEN := Lib.hid (Cd.encs_next l j hlt)
              have HHN := Lib.hid (Cd.hgts_next l j hlt)
              have HC := Lib.hid (show Cd.Cell wr l[j]! [.int .i64 v0, .int .i64 v1, .string v2, .slice Av nv cv] by rw [← hv]; exact (HX.out j hlt).keep HB.out)
              clear hv
              generalize l[j]! = x at HEN HHN HC
              go_wp2_with fail
              ((with_reducible refine (IH.out x [.int .i64 v0, .int .i64 v1, .string v2, .slice Av nv cv] _ HC.out).mono ?_); rintro e w5 ⟨cn, rfl, hcb, hcf, hb5⟩)
              have HCF := Lib.hid hcf
              have HBr5 := Lib.hid (HBr.out.trans (hb5.mono HBr.out.size))
              clear hcf hb5 e0 e1 e2 e3
              go_wp2_with fail
              exact ⟨⟨j + 1, m + cn, by omega, by go_num, by go_num, by omega, fun h => by
                have h1 := HM.out (by omega)
                have h2 := HCF.out (by omega)
                rw [HEN.out, HHN.out]
                omega, HBr5.out⟩, by simp [intOf]; omega⟩
            · have hm3 : decide ((m : Int) ≤ 1000) = false := decide_eq_false (by omega)
              have HE := Lib.hid (show Cd.RetC w (.mk k n s l) d (.returned (.int .i64 (m : Int))) wr from ⟨m, rfl, hm1, fun h => by omega, HB.out⟩)
              go_wp2_with fail
              go_ret
              exact HE.out
          · obtain rfl : j = l.length := by omega
            have hlt2 : decide (l.length < l.length) = false := decide_eq_false (by omega)
            have HE := Lib.hid (show Cd.RetC w (.mk k n s l) d (.returned (.int .i64 (m : Int))) wr from ⟨m, rfl, hm1, fun h => by
              have h1 := HM.out h
              rw [List.take_length] at h1
              have h2 := Cd.enc_len (.mk k n s l)
              simp only [Cd.T.s, Cd.T.l] at h2
              rw [Cd.T.hgt]
              omega, HB.out⟩)
            go_wp2_with fail
            go_ret
            exact HE.out

/-- what Few answers -/
def Cd.RetF (w : World) (t : Cd.T) (d : Int) (e : Ending) (w' : World) : Prop := ∃ b : Bool, e = .returned (.bool b) ∧ (b = true → (t.hgt : Int) ≤ d + 2 ∧ t.enc.length ≤ 42000) ∧ Below w.heap.size w w'
set_option maxHeartbeats 1000000 in
theorem Cd.few_any (t : Cd.T) (cs : List Value) (w : World) (d : Int) (hd1 : -1 ≤ d) (hd2 : d ≤ 1000) (hc : Cd.Cell w t cs) :
    Calls Try.prog 25 #[.agg cs.toArray, .int .i64 d] w (Cd.RetF w t d) := by
  obtain ⟨v0, v1, v2, Av, nv, cv, rfl⟩ : ∃ v0 v1 v2 Av nv cv, cs = [.int .i64 v0, .int .i64 v1, .string v2, .slice Av nv cv] := by cases hc; exact ⟨_, _, _, _, _, _, rfl⟩
  have HC := Lib.hid (hc.keep ((Below.refl _ _).alloc (Nat.le_refl _) (.cells #[.int .i64 v0, .int .i64 v1, .string v2, .slice Av nv cv] 24)))
  have HF := Lib.hid (fun w h => Cd.count_any 1001 t [.int .i64 v0, .int .i64 v1, .string v2, .slice Av nv cv] w d (by omega) hd1 hd2 h)
  clear hc
  go_enter Try.func25, Try.ntmps25
  go_wp2_with fail
  refine (HF.out _ HC.out).mono ?_
  rintro e w1 ⟨c, rfl, hcb, hcf, hb1⟩
  have HB1 := Lib.hid (((Below.refl w.heap.size w).alloc (Nat.le_refl _) (.cells #[.int .i64 v0, .int .i64 v1, .string v2, .slice Av nv cv] 24)).trans (hb1.mono (by simp)))
  have HCF := Lib.hid hcf
  clear hb1 hcf
  by_cases hle : c ≤ 200
  · have HE := Lib.hid (show Cd.RetF w t d (.returned (.bool true)) w1 from ⟨true, rfl, fun _ => by have := HCF.out hle; omega, HB1.out⟩)
    have hm3 : decide ((c : Int) ≤ 200) = true := decide_eq_true (by omega)
    go_wp2_with fail
    go_ret
    exact HE.out
  · have HE := Lib.hid (show Cd.RetF w t d (.returned (.bool false)) w1 from ⟨false, rfl, (fun h => by cases h), HB1.out⟩)
    have hm3 : decide ((c : Int) ≤ 200) = false := decide_eq_false (by omega)
    go_wp2_with fail
    go_ret
    exact HE.out
end Go.Proofs.Ytnhodcjbmloeeaa
