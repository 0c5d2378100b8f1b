/- The law SharesSum returns true. -/
import Derived.Test.YtpijkjpefdlefaaShPl7
import Derived.Test.YtpijkjpefdlefaaShL6
namespace Go.Proofs.Ytpijkjpefdlefaa
open Go.RowKit Go.Shelf
set_option linter.unusedVariables false

set_option maxRecDepth 100000 in
set_option maxHeartbeats 4000000 in
theorem Shr.law7a (A A1 A3 A4 : Option Addr) (n c n1 c1 n3 c3 n4 c4 : Nat) (th mn : Int) (w : World) (hn : n ≤ maxLen) (hn1 : n1 ≤ maxLen) (hn3 : n3 ≤ maxLen) (hn4 : n4 ≤ maxLen) (hbig : 20 < n ∨ n ≠ n1 ∨ 200 < n3 ∨ 200 < n4) :
    Calls Try.prog 9 #[.slice A n c, .slice A1 n1 c1, .int .i64 th, .int .i64 mn, .slice A3 n3 c3, .slice A4 n4 c4] w fun e w' => e = .returned (.bool true) ∧ Below w.heap.size w w' := by
  by_cases h1 : 20 < n
  · go_enter Try.func9, Try.ntmps9
    go_wp2_with fail
    refine (Shr.sane_any _).mono ?_
    rintro e w1 ⟨rfl, hb1⟩
    have HB1 := Lib.hid hb1
    clear hb1
    go_wp2_with fail
    go_ret
    exact ⟨rfl, HB1.out⟩
  · by_cases h2 : n = n1
    · subst h2
      by_cases h3 : 200 < n3
      · go_enter Try.func9, Try.ntmps9
        go_wp2_with fail
        refine (Shr.sane_any _).mono ?_
        rintro e w1 ⟨rfl, hb1⟩
        have HB1 := Lib.hid hb1
        clear hb1
        go_wp2_with fail
        go_ret
        exact ⟨rfl, HB1.out⟩
      · have h4 : 200 < n4 := by omega
        go_enter Try.func9, Try.ntmps9
        go_wp2_with fail
        refine (Shr.sane_any _).mono ?_
        rintro e w1 ⟨rfl, hb1⟩
        have HB1 := Lib.hid hb1
        clear hb1
        go_wp2_with fail
        go_ret
        exact ⟨rfl, HB1.out⟩
    · have h2' : ((n : Int) != (n1 : Int)) = true := by simp; omega
      go_enter Try.func9, Try.ntmps9
      go_wp2_with fail
      refine (Shr.sane_any _).mono ?_
      rintro e w1 ⟨rfl, hb1⟩
      have HB1 := Lib.hid hb1
      clear hb1
      go_wp2_with fail
      go_ret
      exact ⟨rfl, HB1.out⟩

/-- what a call of Split answers, whatever it is handed -/
def Shr.RetAny (w : World) (e : Ending) (w' : World) : Prop := ∃ A n c se, e = .returned (.tuple #[.slice A n c, .int .i64 se]) ∧ Below w.heap.size w w'
theorem Shr.split_some (As Ac : Option Addr) (ns cs nc cc : Nat) (ep th mn : Int) (sec coins : List UInt8) (w : World) (hrs : RdB w As ns sec) (hrc : RdB w Ac nc coins) (hns : ns ≤ maxLen) (hcc : nc ≤ cc) (hccm : cc ≤ maxLen) (hnil : Ac = none → cc = 0) (hth : -9223372036854775808 ≤ th ∧ th ≤ 9223372036854775807) :
    Calls Try.prog 12 #[.slice As ns cs, .int .i64 ep, .int .i64 th, .int .i64 mn, .slice Ac nc cc] w (Shr.RetAny w) := by
  by_cases hE : Shr.spE ns ep th mn nc = 0
  · obtain ⟨e1, e2, e3, e4, e5, e6, e7⟩ := Shr.spE_pos _ _ _ _ _ hE
    obtain ⟨t, rfl⟩ : ∃ t : Nat, th = (t : Int) := ⟨th.toNat, by omega⟩
    obtain ⟨mn', rfl⟩ : ∃ mn' : Nat, mn = (mn' : Int) := ⟨mn.toNat, by omega⟩
    have e7' : nc = ns * (t - 1) := by
      rw [show ((t : Int) - 1) = ((t - 1 : Nat) : Int) by omega, ← Int.natCast_mul] at e7
      omega
    refine (Shr.split_yes As Ac ns cs nc cc ep t mn' sec coins w hrs hrc hcc hccm hnil e1 (by omega) (by omega) (by omega) e5 e6 e7').mono ?_
    rintro e w' ⟨v, xs, rfl, hO, _, _, hb⟩
    obtain ⟨A, c, rfl⟩ := own_form hO.row
    exact ⟨A, _, c, 0, rfl, hb⟩
  · refine (Shr.split_no As Ac ns cs nc cc ep th mn w hns (Nat.le_trans hcc hccm) hth hE).mono ?_
    rintro e w' ⟨rfl, hb⟩
    exact ⟨none, 0, 0, _, rfl, hb⟩

set_option maxRecDepth 100000 in
set_option maxHeartbeats 4000000 in
theorem Shr.law7b (A A1 A3 A4 : Option Addr) (n c c1 n3 c3 n4 c4 : Nat) (th mn : Int) (sb p q : List UInt8) (w : World) (hr1 : RdB w A1 n sb) (hr4 : RdB w A4 n4 q) (hc4 : n4 ≤ c4) (hcm4 : c4 ≤ maxLen) (hnil4 : A4 = none → c4 = 0) (h1 : n ≤ 20) (h3 : n3 ≤ 200) (h4 : n4 ≤ 200) (hth : -9223372036854775808 ≤ th ∧ th ≤ 9223372036854775807) (hE : Shr.spE n 0 th mn n3 ≠ 0) :
    Calls Try.prog 9 #[.slice A n c, .slice A1 n c1, .int .i64 th, .int .i64 mn, .slice A3 n3 c3, .slice A4 n4 c4] w fun e w' => e = .returned (.bool true) ∧ Below w.heap.size w w' := by
  have HE := Lib.hid hE
  obtain ⟨se, hse⟩ : ∃ se, se = Shr.spE n 0 th mn n3 := ⟨_, rfl⟩
  have hq : (se != 0) = true := by rw [hse]; simpa using hE
  have HSE := Lib.hid hse
  have HTH := Lib.hid hth
  have HR1 := Lib.hid hr1
  have HR4 := Lib.hid hr4
  have HC4 := Lib.hid hc4
  have HCM4 := Lib.hid hcm4
  have HNIL := Lib.hid hnil4
  clear hE hse hth hr1 hr4 hc4 hcm4 hnil4
  go_enter Try.func9, Try.ntmps9
  go_wp2_with fail
  refine (Shr.sane_any _).mono ?_
  rintro e w1 ⟨rfl, hb1⟩
  have HB1 := Lib.hid hb1
  clear hb1
  go_wp2_with fail
  refine (Shr.split_no A A3 n c n3 c3 0 th mn w1 (by unfold maxLen; omega) (by unfold maxLen; omega) HTH.out HE.out).mono ?_
  rintro e w2 ⟨rfl, hb2⟩
  rw [← HSE.out]
  have HB2 := Lib.hid (HB1.out.trans (hb2.mono HB1.out.size))
  clear hb2
  go_wp2_with fail
  refine (Shr.split_some A1 A4 n c1 n4 c4 0 th mn sb q w2 (HR1.out.keep HB2.out) (HR4.out.keep HB2.out) (by unfold maxLen; omega) HC4.out HCM4.out HNIL.out HTH.out).mono ?_
  rintro e w3 ⟨A9, n9, c9, se9, rfl, hb3⟩
  have HB3 := Lib.hid (HB2.out.trans (hb3.mono HB2.out.size))
  clear hb3
  go_wp2_with fail
  go_ret
  exact ⟨rfl, HB3.out⟩

set_option maxRecDepth 100000 in
set_option maxHeartbeats 4000000 in
theorem Shr.law7b2 (A A1 A3 A4 : Option Addr) (n c c1 n3 c3 n4 c4 : Nat) (th mn : Int) (sa p : List UInt8) (w : World) (hr1 : RdB w A n sa) (hr4 : RdB w A3 n3 p) (hc4 : n3 ≤ c3) (hcm4 : c3 ≤ maxLen) (hnil4 : A3 = none → c3 = 0) (h1 : n ≤ 20) (h3 : n3 ≤ 200) (h4 : n4 ≤ 200) (hth : -9223372036854775808 ≤ th ∧ th ≤ 9223372036854775807) (hE0 : Shr.spE n 0 th mn n3 = 0) (hE : Shr.spE n 0 th mn n4 ≠ 0) :
    Calls Try.prog 9 #[.slice A n c, .slice A1 n c1, .int .i64 th, .int .i64 mn, .slice A3 n3 c3, .slice A4 n4 c4] w fun e w' => e = .returned (.bool true) ∧ Below w.heap.size w w' := by
  have HE := Lib.hid hE
  obtain ⟨se, hse⟩ : ∃ se, se = Shr.spE n 0 th mn n4 := ⟨_, rfl⟩
  have hq : (se != 0) = true := by rw [hse]; simpa using hE
  have HSE := Lib.hid hse
  have HTH := Lib.hid hth
  have HR1 := Lib.hid hr1
  have HR4 := Lib.hid hr4
  have HC4 := Lib.hid hc4
  have HCM4 := Lib.hid hcm4
  have HNIL := Lib.hid hnil4
  clear hE hE0 hse hth hr1 hr4 hc4 hcm4 hnil4
  go_enter Try.func9, Try.ntmps9
  go_wp2_with fail
  refine (Shr.sane_any _).mono ?_
  rintro e w1 ⟨rfl, hb1⟩
  have HB1 := Lib.hid hb1
  clear hb1
  go_wp2_with fail
  refine (Shr.split_some A A3 n c n3 c3 0 th mn sa p w1 (HR1.out.keep HB1.out) (HR4.out.keep HB1.out) (by unfold maxLen; omega) HC4.out HCM4.out HNIL.out HTH.out).mono ?_
  rintro e w2 ⟨A9, n9, c9, se9, rfl, hb2⟩
  have HB2 := Lib.hid (HB1.out.trans (hb2.mono HB1.out.size))
  clear hb2
  go_wp2_with fail
  refine (Shr.split_no A1 A4 n c1 n4 c4 0 th mn w2 (by unfold maxLen; omega) (by unfold maxLen; omega) HTH.out HE.out).mono ?_
  rintro e w3 ⟨rfl, hb3⟩
  rw [← HSE.out]
  have HB3 := Lib.hid (HB2.out.trans (hb3.mono HB2.out.size))
  clear hb3
  go_wp2_with fail
  all_goals (go_ret; exact ⟨by first | rfl | simp_all, HB3.out⟩)
end Go.Proofs.Ytpijkjpefdlefaa
