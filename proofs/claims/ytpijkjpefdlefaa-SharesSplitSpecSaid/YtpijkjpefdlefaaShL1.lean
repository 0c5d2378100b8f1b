/- The law SharesSplitSpec returns true. -/
import Derived.Test.YtpijkjpefdlefaaShR3
namespace Go.Proofs.Ytpijkjpefdlefaa
open Go.RowKit Go.Shelf
set_option linter.unusedVariables false

set_option maxRecDepth 100000 in
set_option maxHeartbeats 4000000 in
theorem Shr.law1a (A As Ac : Option Addr) (n c ns cs nc cc : Nat) (ep th mn : Int) (xs : List Shr.C) (w : World) (hr : Shr.Rds w A n xs) (hn : n ≤ maxLen) (hns : ns ≤ maxLen) (hnc : nc ≤ maxLen) (hbig : Shr.fewB (Shr.vals xs) = false ∨ 70 < ns ∨ 600 < nc) :
    Calls Try.prog 3 #[.slice A n c, .slice As ns cs, .int .i64 ep, .int .i64 th, .int .i64 mn, .slice Ac nc cc] w fun e w' => e = .returned (.bool true) ∧ Below w.heap.size w w' := by
  have HR := Lib.hid hr
  have HN := Lib.hid hn
  clear hr hn
  cases hf : Shr.fewB (Shr.vals xs) with
  | false =>
    have HF := Lib.hid hf
    clear hf hbig
    go_enter Try.func3, Try.ntmps3
    go_wp2_with fail
    refine (Shr.sane_any _).mono ?_
    rintro e w1 ⟨rfl, hb1⟩
    have HB1 := Lib.hid hb1
    clear hb1
    go_wp2_with fail
    refine (Shr.few_any A n c xs w1 (HR.out.keep HB1.out) HN.out).mono ?_
    rintro e w2 ⟨rfl, rfl⟩
    rw [HF.out]
    go_wp2_with fail
    go_ret
    exact ⟨rfl, HB1.out⟩
  | true =>
    have HF := Lib.hid hf
    rw [hf] at hbig
    clear hf
    by_cases h1 : 70 < ns
    · clear hbig
      go_enter Try.func3, Try.ntmps3
      go_wp2_with fail
      refine (Shr.sane_any _).mono ?_
      rintro e w1 ⟨rfl, hb1⟩
      have HB1 := Lib.hid hb1
      clear hb1
      go_wp2_with fail
      refine (Shr.few_any A n c xs w1 (HR.out.keep HB1.out) HN.out).mono ?_
      rintro e w2 ⟨rfl, rfl⟩
      rw [HF.out]
      go_wp2_with fail
      go_ret
      exact ⟨rfl, HB1.out⟩
    · have h2 : 600 < nc := by
        rcases hbig with h | h | h
        · cases h
        · omega
        · exact h
      clear hbig
      go_enter Try.func3, Try.ntmps3
      go_wp2_with fail
      refine (Shr.sane_any _).mono ?_
      rintro e w1 ⟨rfl, hb1⟩
      have HB1 := Lib.hid hb1
      clear hb1
      go_wp2_with fail
      refine (Shr.few_any A n c xs w1 (HR.out.keep HB1.out) HN.out).mono ?_
      rintro e w2 ⟨rfl, rfl⟩
      rw [HF.out]
      go_wp2_with fail
      go_ret
      exact ⟨rfl, HB1.out⟩

set_option maxRecDepth 100000 in
set_option maxHeartbeats 4000000 in
theorem Shr.law1b (A As Ac : Option Addr) (n c ns cs nc cc : Nat) (ep th mn : Int) (xs : List Shr.C) (w : World) (hr : Shr.Rds w A n xs) (hn : n ≤ maxLen) (h1 : ns ≤ 70) (h2 : nc ≤ 600) (hf : Shr.fewB (Shr.vals xs) = true) (hth : -9223372036854775808 ≤ th ∧ th ≤ 9223372036854775807) (hE : Shr.spE ns ep th mn nc ≠ 0) :
    Calls Try.prog 3 #[.slice A n c, .slice As ns cs, .int .i64 ep, .int .i64 th, .int .i64 mn, .slice Ac nc cc] w fun e w' => e = .returned (.bool true) ∧ Below w.heap.size w w' := by
  have HR := Lib.hid hr
  have HN := Lib.hid hn
  have HF := Lib.hid hf
  have HQ := Lib.hid (show ∀ z : Int, (z == z) = true from fun z => by simp)
  have HS := Lib.hid (fun w => Shr.split_no As Ac ns cs nc cc ep th mn w (by unfold maxLen; omega) (by unfold maxLen; omega) hth hE)
  have HT := Lib.hid (fun w => Shr.rsplit_no As Ac ns cs nc cc ep th mn w (by unfold maxLen; omega) (by unfold maxLen; omega) hth hE)
  clear hr hn hf hE hth
  generalize Shr.spE ns ep th mn nc = z at HS HT
  have d1 : decide ((70 : Int) < (ns : Int)) = false := decide_eq_false (by omega)
  have d2 : decide ((600 : Int) < (nc : Int)) = false := decide_eq_false (by omega)
  go_enter Try.func3, Try.ntmps3
  go_wp2_with fail
  refine (Shr.sane_any _).mono ?_
  rintro e w1 ⟨rfl, hb1⟩
  have HB1 := Lib.hid hb1
  clear hb1
  go_wp2_with fail
  refine (Shr.few_any A n c xs w1 (HR.out.keep HB1.out) HN.out).mono ?_
  rintro e w2 ⟨rfl, rfl⟩
  rw [HF.out]
  go_wp2_with fail
  refine (HS.out w1).mono ?_
  rintro e w3 ⟨rfl, hb3⟩
  have HB3 := Lib.hid (HB1.out.trans (hb3.mono HB1.out.size))
  clear hb3
  go_wp2_with fail
  refine (HT.out w3).mono ?_
  rintro e w4 ⟨rfl, hb4⟩
  have HB4 := Lib.hid (HB3.out.trans (hb4.mono HB3.out.size))
  clear hb4
  go_wp2_with fail
  refine (Shr.check_any A n c xs w4 (HR.out.keep HB4.out) HN.out).mono ?_
  rintro e w5 ⟨rfl, hb5⟩
  have HB5 := Lib.hid (HB4.out.trans (hb5.mono HB4.out.size))
  clear hb5
  go_wp2_with fail
  refine (Shr.rcheck_any A n c xs w5 (HR.out.keep HB5.out) HN.out).mono ?_
  rintro e w6 ⟨rfl, hb6⟩
  have HB6 := Lib.hid (HB5.out.trans (hb6.mono HB5.out.size))
  clear hb6
  generalize Shr.chkE (Shr.vals xs) = y
  have q1 := HQ.out y
  have q2 := HQ.out z
  go_wp2_with fail
  refine (Shr.same_any none none 0 0 0 [] [] w6 Shr.Rds.nil Shr.Rds.nil (by simp [maxLen]) rfl).mono ?_
  rintro e w7 ⟨rfl, hb7⟩
  have HB7 := Lib.hid (HB6.out.trans (hb7.mono HB6.out.size))
  clear hb7
  go_wp2_with fail
  go_ret
  exact ⟨rfl, HB7.out⟩

set_option maxRecDepth 100000 in
set_option maxHeartbeats 4000000 in
theorem Shr.law1c (A As Ac : Option Addr) (n c ns cs nc cc t mn : Nat) (ep : Int) (xs : List Shr.C) (sec coins : List UInt8) (w : World) (hr : Shr.Rds w A n xs) (hn : n ≤ maxLen) (hrs : RdB w As ns sec) (hrc : RdB w Ac nc coins) (hcc : nc ≤ cc) (hccm : cc ≤ maxLen) (hnil : Ac = none → cc = 0) (hnc : nc ≤ 600) (hf : Shr.fewB (Shr.vals xs) = true)
    (h1 : ns ≤ 64) (h2 : 1 ≤ t) (h3 : t ≤ mn) (h4 : mn ≤ 8) (h5 : 0 ≤ ep) (h6 : ep ≤ 1048576) (h7 : nc = ns * (t - 1)) :
    Calls Try.prog 3 #[.slice A n c, .slice As ns cs, .int .i64 ep, .int .i64 (t : Int), .int .i64 (mn : Int), .slice Ac nc cc] w fun e w' => e = .returned (.bool true) ∧ Below w.heap.size w w' := by
  have HR := Lib.hid hr
  have HN := Lib.hid hn
  have HF := Lib.hid hf
  have HQ := Lib.hid (show ∀ z : Int, (z == z) = true from fun z => by simp)
  have HRS := Lib.hid hrs
  have HRC := Lib.hid hrc
  have HS := Lib.hid (fun w hrs hrc => Shr.split_yes As Ac ns cs nc cc ep t mn sec coins w hrs hrc hcc hccm hnil h1 h2 h3 h4 h5 h6 h7)
  have HT := Lib.hid (fun w hrs hrc => Shr.rsplit_yes As Ac ns cs nc cc ep t mn sec coins w hrs hrc hcc hccm hnil h1 h2 h3 h4 h5 h6 h7)
  clear hr hn hf hrs hrc hcc hccm hnil h7
  have d1 : decide ((70 : Int) < (ns : Int)) = false := decide_eq_false (by omega)
  have d2 : decide ((600 : Int) < (nc : Int)) = false := decide_eq_false (by omega)
  go_enter Try.func3, Try.ntmps3
  go_wp2_with fail
  refine (Shr.sane_any _).mono ?_
  rintro e w1 ⟨rfl, hb1⟩
  have HB1 := Lib.hid hb1
  clear hb1
  go_wp2_with fail
  refine (Shr.few_any A n c xs w1 (HR.out.keep HB1.out) HN.out).mono ?_
  rintro e w2 ⟨rfl, rfl⟩
  rw [HF.out]
  go_wp2_with fail
  refine (HS.out w1 (HRS.out.keep HB1.out) (HRC.out.keep HB1.out)).mono ?_
  rintro e w3 ⟨v3, ys, rfl, hO3, _, hv3, hb3⟩
  obtain ⟨A3, c3, rfl⟩ := own_form hO3.row
  have HB3 := Lib.hid (HB1.out.trans (hb3.mono HB1.out.size))
  have HO3 := Lib.hid hO3
  have HV3 := Lib.hid hv3
  clear hb3 hO3 hv3
  go_wp2_with fail
  refine (HT.out w3 (HRS.out.keep HB3.out) (HRC.out.keep HB3.out)).mono ?_
  rintro e w4 ⟨v4, zs, rfl, hO4, _, hv4, hb4⟩
  obtain ⟨A4, c4, rfl⟩ := own_form hO4.row
  have HB4 := Lib.hid (HB3.out.trans (hb4.mono HB3.out.size))
  have HY4 := Lib.hid (HO3.out.keep hb4).rds
  have HZ4 := Lib.hid hO4.rds
  have HV4 := Lib.hid hv4
  clear hb4 hO4 hv4 HO3
  go_wp2_with fail
  refine (Shr.check_any A n c xs w4 (HR.out.keep HB4.out) HN.out).mono ?_
  rintro e w5 ⟨rfl, hb5⟩
  have HB5 := Lib.hid (HB4.out.trans (hb5.mono HB4.out.size))
  have HY5 := Lib.hid (HY4.out.keep hb5)
  have HZ5 := Lib.hid (HZ4.out.keep hb5)
  clear hb5
  go_wp2_with fail
  refine (Shr.rcheck_any A n c xs w5 (HR.out.keep HB5.out) HN.out).mono ?_
  rintro e w6 ⟨rfl, hb6⟩
  have HB6 := Lib.hid (HB5.out.trans (hb6.mono HB5.out.size))
  have HY6 := Lib.hid (HY5.out.keep hb6)
  have HZ6 := Lib.hid (HZ5.out.keep hb6)
  clear hb6
  generalize Shr.chkE (Shr.vals xs) = y
  have q1 := HQ.out y
  go_wp2_with fail
  refine (Shr.same_any A3 A4 mn c3 c4 ys zs w6 HY6.out HZ6.out (by unfold maxLen; omega) (by rw [HV3.out, HV4.out])).mono ?_
  rintro e w7 ⟨rfl, hb7⟩
  have HB7 := Lib.hid (HB6.out.trans (hb7.mono HB6.out.size))
  clear hb7
  go_wp2_with fail
  go_ret
  exact ⟨rfl, HB7.out⟩

theorem Shr.law1 (A As Ac : Option Addr) (n c ns cs nc cc : Nat) (ep th mn : Int) (xs : List Shr.C) (sec coins : List UInt8) (w : World) (hr : Shr.Rds w A n xs) (hn : n ≤ maxLen) (hrs : RdB w As ns sec) (hns : ns ≤ maxLen) (hrc : RdB w Ac nc coins) (hcc : nc ≤ cc) (hccm : cc ≤ maxLen) (hnil : Ac = none → cc = 0) (hth : -9223372036854775808 ≤ th ∧ th ≤ 9223372036854775807) :
    Calls Try.prog 3 #[.slice A n c, .slice As ns cs, .int .i64 ep, .int .i64 th, .int .i64 mn, .slice Ac nc cc] w fun e w' => e = .returned (.bool true) ∧ Below w.heap.size w w' := by
  by_cases hbig : Shr.fewB (Shr.vals xs) = false ∨ 70 < ns ∨ 600 < nc
  · exact Shr.law1a A As Ac n c ns cs nc cc ep th mn xs w hr hn hns (Nat.le_trans hcc hccm) hbig
  · have hf : Shr.fewB (Shr.vals xs) = true := by
      cases h : Shr.fewB (Shr.vals xs) with
      | true => rfl
      | false => exact absurd (.inl h) hbig
    by_cases hE : Shr.spE ns ep th mn nc = 0
    · obtain ⟨e1, e2, e3, e4, e5, e6, e7⟩ := Shr.spE_pos _ _ _ _ _ hE
      obtain ⟨t, rfl⟩ : ∃ t : Nat, th = (t : Int) := ⟨th.toNat, by omega⟩
      obtain ⟨mn', rfl⟩ : ∃ mn' : Nat, mn = (mn' : Int) := ⟨mn.toNat, by omega⟩
      have e7' : nc = ns * (t - 1) := by
        rw [show ((t : Int) - 1) = ((t - 1 : Nat) : Int) by omega, ← Int.natCast_mul] at e7
        omega
      exact Shr.law1c A As Ac n c ns cs nc cc t mn' ep xs sec coins w hr hn hrs hrc hcc hccm hnil (by omega) hf e1 (by omega) (by omega) (by omega) e5 e6 e7'
    · exact Shr.law1b A As Ac n c ns cs nc cc ep th mn xs w hr hn (by omega) (by omega) hf hth hE
end Go.Proofs.Ytpijkjpefdlefaa
