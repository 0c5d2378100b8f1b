/- The law SharesExplainSpec returns true. -/
import Derived.Test.YtpijkjpefdlefaaShR6
namespace Go.Proofs.Ytpijkjpefdlefaa
open Go.RowKit Go.Shelf
set_option linter.unusedVariables false

/-- a slice of bytes and an error -/
def RetBX (w : World) (r : List UInt8) (z : Int) (e : Ending) (w' : World) : Prop := ∃ A n c, e = .returned (.tuple #[.slice A n c, .int .i64 z]) ∧ RdB w' A n r ∧ Below w.heap.size w w'
/-- a slice of shares and an error -/
def Shr.RetSX (w : World) (r : List Shr.S) (z : Int) (e : Ending) (w' : World) : Prop := ∃ A n c xs, e = .returned (.tuple #[.slice A n c, .int .i64 z]) ∧ Shr.Rds w' A n xs ∧ Shr.vals xs = r ∧ n ≤ maxLen ∧ Below w.heap.size w w'
def Shr.exR (l : List Shr.S) (sec : List UInt8) (ns : Nat) : List UInt8 := if Shr.explE l ns = 0 then Shr.explV l sec else []
def Shr.rfR (l : List Shr.S) (coins : List UInt8) (nc : Nat) : List Shr.S := if Shr.refE l nc = 0 then Shr.refV l coins else []

theorem Shr.expl_any (A : Option Addr) (n c : Nat) (A2 : Option Addr) (ns cs : Nat) (xs : List Shr.C) (sec : List UInt8) (w : World) (hr : Shr.Rds w A n xs) (hn : n ≤ maxLen) (hsec : RdB w A2 ns sec) (hns : ns ≤ maxLen) :
    Calls Try.prog 19 #[.slice A n c, .slice A2 ns cs] w (RetBX w (Shr.exR (Shr.vals xs) sec ns) (Shr.explE (Shr.vals xs) ns)) := by
  by_cases h : Shr.explE (Shr.vals xs) ns = 0
  · refine (Shr.expl_cap A n c A2 ns cs xs sec w hr hn hsec hns h).mono ?_
    rintro e w' ⟨A1, c1, rfl, _, h1, _, _, h2, _⟩
    exact ⟨A1, _, c1, by rw [h], by rw [Shr.exR, if_pos h]; exact h1, h2⟩
  · refine (Shr.expl_no A n c A2 ns cs xs w hr hn hns h).mono ?_
    rintro e w' ⟨rfl, h2⟩
    exact ⟨none, 0, 0, rfl, by rw [Shr.exR, if_neg h]; exact RdB.none_, h2⟩

theorem Shr.rexpl_any (A : Option Addr) (n c : Nat) (A2 : Option Addr) (ns cs : Nat) (xs : List Shr.C) (sec : List UInt8) (w : World) (hr : Shr.Rds w A n xs) (hn : n ≤ maxLen) (hsec : RdB w A2 ns sec) (hns : ns ≤ maxLen) :
    Calls Try.prog 20 #[.slice A n c, .slice A2 ns cs] w (RetBX w (Shr.exR (Shr.vals xs) sec ns) (Shr.explE (Shr.vals xs) ns)) := by
  by_cases h : Shr.explE (Shr.vals xs) ns = 0
  · refine (Shr.rexpl_cap A n c A2 ns cs xs sec w hr hn hsec hns h).mono ?_
    rintro e w' ⟨A1, c1, rfl, _, h1, _, _, h2, _⟩
    exact ⟨A1, _, c1, by rw [h], by rw [Shr.exR, if_pos h]; exact h1, h2⟩
  · refine (Shr.rexpl_no A n c A2 ns cs xs w hr hn hns h).mono ?_
    rintro e w' ⟨rfl, h2⟩
    exact ⟨none, 0, 0, rfl, by rw [Shr.exR, if_neg h]; exact RdB.none_, h2⟩

theorem Shr.ref_any (A : Option Addr) (n c : Nat) (A2 : Option Addr) (nc cc : Nat) (xs : List Shr.C) (coins : List UInt8) (w : World) (hr : Shr.Rds w A n xs) (hnm : n ≤ maxLen) (hco : RdB w A2 nc coins) (hncc : nc ≤ cc) (hccm : cc ≤ maxLen) (hnil : A2 = none → cc = 0) :
    Calls Try.prog 21 #[.slice A n c, .slice A2 nc cc] w (Shr.RetSX w (Shr.rfR (Shr.vals xs) coins nc) (Shr.refE (Shr.vals xs) nc)) := by
  by_cases h1 : Shr.chkE (Shr.vals xs) = 0
  · have hg := Shr.good _ h1
    have hpos : 0 < xs.length := by have := hg.pos; rw [Shr.vals_len] at this; exact this
    have hv0 := Shr.vals_at xs 0 hpos
    have g1 := hg.th1
    have g2 := hg.thm
    have g3 := hg.mn8
    have g5 := (hg.ep 0 hg.pos).2
    rw [hv0] at g1 g2 g3 g5
    have hl : (Shr.vals xs).length = n := by rw [Shr.vals_len, hr.len]
    have hE : Shr.refE (Shr.vals xs) nc = if (n : Int) ≠ (xs[0]!).s.mn then 60 else if (xs[0]!).s.ep = 1048576 then 61 else if (nc : Int) ≠ ((xs[0]!).s.d.length : Int) * ((xs[0]!).s.th - 1) then 1 else 0 := by
      rw [Shr.refE, if_neg (by simp [h1]), hl, hv0]
    obtain ⟨t, ht⟩ : ∃ t : Nat, (xs[0]!).s.th = (t : Int) := ⟨(xs[0]!).s.th.toNat, by omega⟩
    by_cases k1 : (n : Int) = (xs[0]!).s.mn
    · rw [if_neg (by simp [k1])] at hE
      by_cases k2 : (xs[0]!).s.ep = 1048576
      · rw [if_pos k2] at hE
        refine (Shr.ref_ep A n c A2 nc cc xs coins w hr hnm hco hncc hccm hnil t _ _ _ h1 ht rfl rfl rfl k1 k2).mono ?_
        rintro e w' ⟨rfl, h2⟩
        exact ⟨none, 0, 0, [], by rw [hE], Shr.Rds.nil, by rw [Shr.rfR, if_neg (by rw [hE]; decide)]; rfl, by simp [maxLen], h2⟩
      · rw [if_neg k2] at hE
        by_cases k3 : (nc : Int) = ((xs[0]!).s.d.length : Int) * ((xs[0]!).s.th - 1)
        · rw [if_neg (by simp [k3])] at hE
          have k4 : nc = (xs[0]!).s.d.length * (t - 1) := by
            rw [ht, show ((t : Int) - 1) = ((t - 1 : Nat) : Int) by omega, ← Int.natCast_mul] at k3
            omega
          refine (Shr.ref_yes A n c A2 nc cc xs coins w hr hnm hco hncc hccm hnil t _ _ h1 ht rfl rfl k1.symm (by omega) k4).mono ?_
          rintro e w' ⟨v, ys, rfl, h3, _, h4, h2⟩
          obtain ⟨A3, c3, rfl⟩ := own_form h3.row
          exact ⟨A3, n, c3, ys, by rw [hE], h3.rds, by rw [Shr.rfR, if_pos hE]; exact h4, hnm, h2⟩
        · rw [if_pos k3] at hE
          refine (Shr.ref_co A n c A2 nc cc xs coins w hr hnm hco hncc hccm hnil t _ _ _ h1 ht rfl rfl rfl k1 k2 (by rw [← ht]; exact k3)).mono ?_
          rintro e w' ⟨rfl, h2⟩
          exact ⟨none, 0, 0, [], by rw [hE], Shr.Rds.nil, by rw [Shr.rfR, if_neg (by rw [hE]; decide)]; rfl, by simp [maxLen], h2⟩
    · rw [if_pos k1] at hE
      refine (Shr.ref_mn A n c A2 nc cc xs coins w hr hnm hco hncc hccm hnil t _ _ _ h1 ht rfl rfl rfl k1).mono ?_
      rintro e w' ⟨rfl, h2⟩
      exact ⟨none, 0, 0, [], by rw [hE], Shr.Rds.nil, by rw [Shr.rfR, if_neg (by rw [hE]; decide)]; rfl, by simp [maxLen], h2⟩
  · have hE : Shr.refE (Shr.vals xs) nc = Shr.chkE (Shr.vals xs) := by rw [Shr.refE, if_pos h1]
    refine (Shr.ref_chk A n c A2 nc cc xs w hr hnm h1).mono ?_
    rintro e w' ⟨rfl, h2⟩
    exact ⟨none, 0, 0, [], by rw [hE], Shr.Rds.nil, by rw [Shr.rfR, if_neg (by rw [hE]; exact h1)]; rfl, by simp [maxLen], h2⟩

theorem Shr.rref_any (A : Option Addr) (n c : Nat) (A2 : Option Addr) (nc cc : Nat) (xs : List Shr.C) (coins : List UInt8) (w : World) (hr : Shr.Rds w A n xs) (hnm : n ≤ maxLen) (hco : RdB w A2 nc coins) (hncc : nc ≤ cc) (hccm : cc ≤ maxLen) (hnil : A2 = none → cc = 0) :
    Calls Try.prog 22 #[.slice A n c, .slice A2 nc cc] w (Shr.RetSX w (Shr.rfR (Shr.vals xs) coins nc) (Shr.refE (Shr.vals xs) nc)) := by
  by_cases h1 : Shr.chkE (Shr.vals xs) = 0
  · have hg := Shr.good _ h1
    have hpos : 0 < xs.length := by have := hg.pos; rw [Shr.vals_len] at this; exact this
    have hv0 := Shr.vals_at xs 0 hpos
    have g1 := hg.th1
    have g2 := hg.thm
    have g3 := hg.mn8
    have g5 := (hg.ep 0 hg.pos).2
    rw [hv0] at g1 g2 g3 g5
    have hl : (Shr.vals xs).length = n := by rw [Shr.vals_len, hr.len]
    have hE : Shr.refE (Shr.vals xs) nc = if (n : Int) ≠ (xs[0]!).s.mn then 60 else if (xs[0]!).s.ep = 1048576 then 61 else if (nc : Int) ≠ ((xs[0]!).s.d.length : Int) * ((xs[0]!).s.th - 1) then 1 else 0 := by
      rw [Shr.refE, if_neg (by simp [h1]), hl, hv0]
    obtain ⟨t, ht⟩ : ∃ t : Nat, (xs[0]!).s.th = (t : Int) := ⟨(xs[0]!).s.th.toNat, by omega⟩
    by_cases k1 : (n : Int) = (xs[0]!).s.mn
    · rw [if_neg (by simp [k1])] at hE
      by_cases k2 : (xs[0]!).s.ep = 1048576
      · rw [if_pos k2] at hE
        refine (Shr.rref_ep A n c A2 nc cc xs coins w hr hnm hco hncc hccm hnil t _ _ _ h1 ht rfl rfl rfl k1 k2).mono ?_
        rintro e w' ⟨rfl, h2⟩
        exact ⟨none, 0, 0, [], by rw [hE], Shr.Rds.nil, by rw [Shr.rfR, if_neg (by rw [hE]; decide)]; rfl, by simp [maxLen], h2⟩
      · rw [if_neg k2] at hE
        by_cases k3 : (nc : Int) = ((xs[0]!).s.d.length : Int) * ((xs[0]!).s.th - 1)
        · rw [if_neg (by simp [k3])] at hE
          have k4 : nc = (xs[0]!).s.d.length * (t - 1) := by
            rw [ht, show ((t : Int) - 1) = ((t - 1 : Nat) : Int) by omega, ← Int.natCast_mul] at k3
            omega
          refine (Shr.rref_yes A n c A2 nc cc xs coins w hr hnm hco hncc hccm hnil t _ _ _ h1 ht rfl rfl rfl k1 (by omega) k4).mono ?_
          rintro e w' ⟨v, ys, rfl, h3, _, h4, h2⟩
          obtain ⟨A3, c3, rfl⟩ := own_form h3.row
          exact ⟨A3, n, c3, ys, by rw [hE], h3.rds, by rw [Shr.rfR, if_pos hE]; exact h4, hnm, h2⟩
        · rw [if_pos k3] at hE
          refine (Shr.rref_co A n c A2 nc cc xs coins w hr hnm hco hncc hccm hnil t _ _ _ h1 ht rfl rfl rfl k1 k2 (by rw [← ht]; exact k3)).mono ?_
          rintro e w' ⟨rfl, h2⟩
          exact ⟨none, 0, 0, [], by rw [hE], Shr.Rds.nil, by rw [Shr.rfR, if_neg (by rw [hE]; decide)]; rfl, by simp [maxLen], h2⟩
    · rw [if_pos k1] at hE
      refine (Shr.rref_mn A n c A2 nc cc xs coins w hr hnm hco hncc hccm hnil t _ _ _ h1 ht rfl rfl rfl k1).mono ?_
      rintro e w' ⟨rfl, h2⟩
      exact ⟨none, 0, 0, [], by rw [hE], Shr.Rds.nil, by rw [Shr.rfR, if_neg (by rw [hE]; decide)]; rfl, by simp [maxLen], h2⟩
  · have hE : Shr.refE (Shr.vals xs) nc = Shr.chkE (Shr.vals xs) := by rw [Shr.refE, if_pos h1]
    refine (Shr.rref_chk A n c A2 nc cc xs w hr hnm h1).mono ?_
    rintro e w' ⟨rfl, h2⟩
    exact ⟨none, 0, 0, [], by rw [hE], Shr.Rds.nil, by rw [Shr.rfR, if_neg (by rw [hE]; exact h1)]; rfl, by simp [maxLen], h2⟩

set_option maxRecDepth 100000 in
set_option maxHeartbeats 4000000 in
theorem Shr.law3a (A As Ac : Option Addr) (n c ns cs nc cc : Nat) (xs : List Shr.C) (w : World) (hr : Shr.Rds w A n xs) (hn : n ≤ maxLen) (hns : ns ≤ maxLen) (hnc : nc ≤ maxLen) (hbig : Shr.fewB (Shr.vals xs) = false ∨ 70 < ns ∨ 600 < nc) :
    Calls Try.prog 5 #[.slice A n c, .slice As ns cs, .slice Ac nc cc] w fun e w' => e = .returned (.bool true) ∧ Below w.heap.size w w' := by
  have HR := Lib.hid hr
  have HN := Lib.hid hn
  clear hr hn
  cases hf : Shr.fewB (Shr.vals xs) with
  | false =>
    have HF := Lib.hid hf
    clear hf hbig
    go_enter Try.func5, Try.ntmps5
    go_wp2_with fail
    refine (Shr.sane_any _).mono ?_
    rintro e w1 ⟨rfl, hb1⟩
    have HB1 := Lib.hid hb1
    clear hb1
    go_wp2_with fail
    refine (Shr.few_any A n c xs w1 (HR.out.keep HB1.out) HN.out).mono ?_
    rintro e w2 ⟨rfl, rfl⟩
    rw [HF.out]
    go_wp2_with fail
    go_ret
    exact ⟨rfl, HB1.out⟩
  | true =>
    have HF := Lib.hid hf
    rw [hf] at hbig
    clear hf
    by_cases h1 : 70 < ns
    · clear hbig
      go_enter Try.func5, Try.ntmps5
      go_wp2_with fail
      refine (Shr.sane_any _).mono ?_
      rintro e w1 ⟨rfl, hb1⟩
      have HB1 := Lib.hid hb1
      clear hb1
      go_wp2_with fail
      refine (Shr.few_any A n c xs w1 (HR.out.keep HB1.out) HN.out).mono ?_
      rintro e w2 ⟨rfl, rfl⟩
      rw [HF.out]
      go_wp2_with fail
      go_ret
      exact ⟨rfl, HB1.out⟩
    · have h2 : 600 < nc := by
        rcases hbig with h | h | h
        · cases h
        · omega
        · exact h
      clear hbig
      go_enter Try.func5, Try.ntmps5
      go_wp2_with fail
      refine (Shr.sane_any _).mono ?_
      rintro e w1 ⟨rfl, hb1⟩
      have HB1 := Lib.hid hb1
      clear hb1
      go_wp2_with fail
      refine (Shr.few_any A n c xs w1 (HR.out.keep HB1.out) HN.out).mono ?_
      rintro e w2 ⟨rfl, rfl⟩
      rw [HF.out]
      go_wp2_with fail
      go_ret
      exact ⟨rfl, HB1.out⟩

set_option maxRecDepth 100000 in
set_option maxHeartbeats 4000000 in
theorem Shr.law3b (A As Ac : Option Addr) (n c ns cs nc cc : Nat) (xs : List Shr.C) (sec coins : List UInt8) (w : World) (hr : Shr.Rds w A n xs) (hn : n ≤ maxLen) (hrs : RdB w As ns sec) (hrc : RdB w Ac nc coins) (hcc : nc ≤ cc) (hccm : cc ≤ maxLen) (hnil : Ac = none → cc = 0) (h1 : ns ≤ 70) (h2 : nc ≤ 600) (hf : Shr.fewB (Shr.vals xs) = true) :
    Calls Try.prog 5 #[.slice A n c, .slice As ns cs, .slice Ac nc cc] w fun e w' => e = .returned (.bool true) ∧ Below w.heap.size w w' := by
  have HR := Lib.hid hr
  have HN := Lib.hid hn
  have HF := Lib.hid hf
  have HRS := Lib.hid hrs
  have HRC := Lib.hid hrc
  have HQ := Lib.hid (show ∀ z : Int, (z == z) = true from fun z => by simp)
  have HS := Lib.hid (fun w hr hrs => Shr.expl_any A n c As ns cs xs sec w hr hn hrs (by unfold maxLen; omega))
  have HT := Lib.hid (fun w hr hrs => Shr.rexpl_any A n c As ns cs xs sec w hr hn hrs (by unfold maxLen; omega))
  have HU := Lib.hid (fun w hr hrc => Shr.ref_any A n c Ac nc cc xs coins w hr hn hrc hcc hccm hnil)
  have HV := Lib.hid (fun w hr hrc => Shr.rref_any A n c Ac nc cc xs coins w hr hn hrc hcc hccm hnil)
  generalize Shr.explE (Shr.vals xs) ns = z at HS HT
  generalize Shr.exR (Shr.vals xs) sec ns = rz at HS HT
  generalize Shr.refE (Shr.vals xs) nc = y at HU HV
  generalize Shr.rfR (Shr.vals xs) coins nc = ry at HU HV
  clear hr hn hf hrs hrc hcc hccm hnil
  have d1 : decide ((70 : Int) < (ns : Int)) = false := decide_eq_false (by omega)
  have d2 : decide ((600 : Int) < (nc : Int)) = false := decide_eq_false (by omega)
  go_enter Try.func5, Try.ntmps5
  go_wp2_with fail
  refine (Shr.sane_any _).mono ?_
  rintro e w1 ⟨rfl, hb1⟩
  have HB1 := Lib.hid hb1
  clear hb1
  go_wp2_with fail
  refine (Shr.few_any A n c xs w1 (HR.out.keep HB1.out) HN.out).mono ?_
  rintro e w2 ⟨rfl, rfl⟩
  rw [HF.out]
  go_wp2_with fail
  refine (HS.out w1 (HR.out.keep HB1.out) (HRS.out.keep HB1.out)).mono ?_
  rintro e w3 ⟨A3, n3, c3, rfl, hr3, hb3⟩
  have HB3 := Lib.hid (HB1.out.trans (hb3.mono HB1.out.size))
  have HR3 := Lib.hid hr3
  clear hb3 hr3
  go_wp2_with fail
  refine (HT.out w3 (HR.out.keep HB3.out) (HRS.out.keep HB3.out)).mono ?_
  rintro e w4 ⟨A4, n4, c4, rfl, hr4, hb4⟩
  have HB4 := Lib.hid (HB3.out.trans (hb4.mono HB3.out.size))
  have HR3' := Lib.hid (HR3.out.keep hb4)
  have HR4 := Lib.hid hr4
  clear hb4 hr4
  go_wp2_with fail
  refine (HU.out w4 (HR.out.keep HB4.out) (HRC.out.keep HB4.out)).mono ?_
  rintro e w5 ⟨A5, n5, c5, ys, rfl, hr5, hv5, hn5, hb5⟩
  have HB5 := Lib.hid (HB4.out.trans (hb5.mono HB4.out.size))
  have HX3 := Lib.hid (HR3'.out.keep hb5)
  have HX4 := Lib.hid (HR4.out.keep hb5)
  have HR5 := Lib.hid hr5
  have HV5 := Lib.hid hv5
  have HN5 := Lib.hid hn5
  clear hb5 hr5 hv5 hn5
  go_wp2_with fail
  refine (HV.out w5 (HR.out.keep HB5.out) (HRC.out.keep HB5.out)).mono ?_
  rintro e w6 ⟨A6, n6, c6, zs, rfl, hr6, hv6, hn6, hb6⟩
  have HB6 := Lib.hid (HB5.out.trans (hb6.mono HB5.out.size))
  have y3 := (HX3.out.keep hb6).str (P := Try.prog) Try.underlying23 Try.underlying5 Try.underlying9 c3
  have y4 := (HX4.out.keep hb6).str (P := Try.prog) Try.underlying23 Try.underlying5 Try.underlying9 c4
  have HY6 := Lib.hid (HR5.out.keep hb6)
  have HZ6 := Lib.hid hr6
  have HNN := Lib.hid (show n5 = n6 by rw [← HR5.out.len, ← hr6.len, ← Shr.vals_len, ← Shr.vals_len, HV5.out, hv6])
  have HVV := Lib.hid (show Shr.vals ys = Shr.vals zs by rw [HV5.out, hv6])
  clear hb6 hr6 hv6 hn6
  have q1 := HQ.out y
  have q2 := HQ.out z
  obtain rfl : n5 = n6 := HNN.out
  go_wp2_with fail
  refine (Shr.same_any A5 A6 n5 c5 c6 ys zs w6 HY6.out HZ6.out HN5.out HVV.out).mono ?_
  rintro e w7 ⟨rfl, hb7⟩
  have HB7 := Lib.hid (HB6.out.trans (hb7.mono HB6.out.size))
  clear hb7
  go_wp2_with fail
  go_ret
  exact ⟨rfl, HB7.out⟩

theorem Shr.law3 (A As Ac : Option Addr) (n c ns cs nc cc : Nat) (xs : List Shr.C) (sec coins : List UInt8) (w : World) (hr : Shr.Rds w A n xs) (hn : n ≤ maxLen) (hrs : RdB w As ns sec) (hns : ns ≤ maxLen) (hrc : RdB w Ac nc coins) (hcc : nc ≤ cc) (hccm : cc ≤ maxLen) (hnil : Ac = none → cc = 0) :
    Calls Try.prog 5 #[.slice A n c, .slice As ns cs, .slice Ac nc cc] w fun e w' => e = .returned (.bool true) ∧ Below w.heap.size w w' := by
  by_cases hbig : Shr.fewB (Shr.vals xs) = false ∨ 70 < ns ∨ 600 < nc
  · exact Shr.law3a A As Ac n c ns cs nc cc xs w hr hn hns (Nat.le_trans hcc hccm) hbig
  · have hf : Shr.fewB (Shr.vals xs) = true := by
      cases h : Shr.fewB (Shr.vals xs) with
      | true => rfl
      | false => exact absurd (.inl h) hbig
    exact Shr.law3b A As Ac n c ns cs nc cc xs sec coins w hr hn hrs hrc hcc hccm hnil (by omega) (by omega) hf
end Go.Proofs.Ytpijkjpefdlefaa
