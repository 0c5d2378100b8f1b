/- The law SharesRefresh returns true; how a slice of slices of bytes is opened. -/
import Derived.Test.YtpijkjpefdlefaaShL5
import Derived.Test.YtpijkjpefdlefaaShOpen
namespace Go.Proofs.Ytpijkjpefdlefaa
open Go.RowKit Go.Shelf
set_option linter.unusedVariables false

set_option maxRecDepth 100000 in
set_option maxHeartbeats 4000000 in
theorem Shr.law5a (A A1 A3 A5 : Option Addr) (n c n1 c1 n3 c3 n5 c5 : Nat) (th mn : Int) (a m : UInt8) (w : World) (hn : n ≤ maxLen) (hn1 : n1 ≤ maxLen) (hn3 : n3 ≤ maxLen) (hn5 : n5 ≤ maxLen) (hbig : 10 < n ∨ 80 < n3 ∨ 5 < n5 ∨ n1 ≠ n) :
    Calls Try.prog 7 #[.slice A n c, .slice A1 n1 c1, .int .i64 th, .int .i64 mn, .slice A3 n3 c3, .slice A5 n5 c5, B8 a, B8 m] w fun e w' => e = .returned (.bool true) ∧ Below w.heap.size w w' := by
  by_cases h1 : 10 < n
  · go_enter Try.func7, Try.ntmps7
    go_wp2_with fail
    refine (Shr.sane_any _).mono ?_
    rintro e w1 ⟨rfl, hb1⟩
    have HB1 := Lib.hid hb1
    clear hb1
    go_wp2_with fail
    go_ret
    exact ⟨rfl, HB1.out⟩
  · by_cases h2 : 80 < n3
    · go_enter Try.func7, Try.ntmps7
      go_wp2_with fail
      refine (Shr.sane_any _).mono ?_
      rintro e w1 ⟨rfl, hb1⟩
      have HB1 := Lib.hid hb1
      clear hb1
      go_wp2_with fail
      go_ret
      exact ⟨rfl, HB1.out⟩
    · by_cases h3 : 5 < n5
      · go_enter Try.func7, Try.ntmps7
        go_wp2_with fail
        refine (Shr.sane_any _).mono ?_
        rintro e w1 ⟨rfl, hb1⟩
        have HB1 := Lib.hid hb1
        clear hb1
        go_wp2_with fail
        go_ret
        exact ⟨rfl, HB1.out⟩
      · have h4 : n1 ≠ n := by omega
        have q1 : ((n1 : Int) != (n : Int)) = true := by simp; omega
        clear hbig
        go_enter Try.func7, Try.ntmps7
        go_wp2_with fail
        refine (Shr.sane_any _).mono ?_
        rintro e w1 ⟨rfl, hb1⟩
        have HB1 := Lib.hid hb1
        clear hb1
        go_wp2_with fail
        go_ret
        exact ⟨rfl, HB1.out⟩

set_option maxRecDepth 100000 in
set_option maxHeartbeats 4000000 in
theorem Shr.law5b (A A1 A3 A5 : Option Addr) (n c c1 n3 c3 n5 c5 : Nat) (th mn : Int) (a m : UInt8) (w : World) (h1 : n ≤ 10) (h2 : n3 ≤ 80) (h5 : n5 ≤ 5) (hth : -9223372036854775808 ≤ th ∧ th ≤ 9223372036854775807) (hE : Shr.spE n 3 th mn n3 ≠ 0) :
    Calls Try.prog 7 #[.slice A n c, .slice A1 n c1, .int .i64 th, .int .i64 mn, .slice A3 n3 c3, .slice A5 n5 c5, B8 a, B8 m] w fun e w' => e = .returned (.bool true) ∧ Below w.heap.size w w' := by
  have HS := Lib.hid (fun w => Shr.split_no A A3 n c n3 c3 3 th mn w (by unfold maxLen; omega) (by unfold maxLen; omega) hth hE)
  have hq : (Shr.spE n 3 th mn n3 != 0) = true := by simpa using hE
  generalize Shr.spE n 3 th mn n3 = z at HS hq
  clear hE
  go_enter Try.func7, Try.ntmps7
  go_wp2_with fail
  refine (Shr.sane_any _).mono ?_
  rintro e w1 ⟨rfl, hb1⟩
  have HB1 := Lib.hid hb1
  clear hb1
  go_wp2_with fail
  refine (HS.out w1).mono ?_
  rintro e w2 ⟨rfl, hb2⟩
  have HB2 := Lib.hid (HB1.out.trans (hb2.mono HB1.out.size))
  clear hb2
  go_wp2_with fail
  go_ret
  exact ⟨rfl, HB2.out⟩

theorem Shr.law5 (A A1 A3 A5 : Option Addr) (n c n1 c1 n3 c3 n5 c5 : Nat) (th mn : Int) (sec oth coins : List UInt8) (qs : List Bq) (a m : UInt8) (w : World) (hr : RdB w A n sec) (hr1 : RdB w A1 n1 oth) (hr3 : RdB w A3 n3 coins) (hn : n ≤ maxLen) (hn1 : n1 ≤ maxLen) (hc3 : n3 ≤ c3) (hcm3 : c3 ≤ maxLen) (hnil : A3 = none → c3 = 0) (hr5 : Ms w A5 n5 qs) (hn5 : n5 ≤ maxLen) (hth : -9223372036854775808 ≤ th ∧ th ≤ 9223372036854775807) :
    Calls Try.prog 7 #[.slice A n c, .slice A1 n1 c1, .int .i64 th, .int .i64 mn, .slice A3 n3 c3, .slice A5 n5 c5, B8 a, B8 m] w fun e w' => e = .returned (.bool true) ∧ Below w.heap.size w w' := by
  by_cases hbig : 10 < n ∨ 80 < n3 ∨ 5 < n5 ∨ n1 ≠ n
  · exact Shr.law5a A A1 A3 A5 n c n1 c1 n3 c3 n5 c5 th mn a m w hn hn1 (Nat.le_trans hc3 hcm3) hn5 hbig
  · obtain rfl : n1 = n := by omega
    by_cases hE : Shr.spE n1 3 th mn n3 = 0
    · obtain ⟨_, e2, e3, e4, _, _, e7⟩ := Shr.spE_pos _ _ _ _ _ hE
      obtain ⟨t, rfl⟩ : ∃ t : Nat, th = (t : Int) := ⟨th.toNat, by omega⟩
      obtain ⟨mn', rfl⟩ : ∃ mn' : Nat, mn = (mn' : Int) := ⟨mn.toNat, by omega⟩
      have e7' : n3 = n1 * (t - 1) := by
        rw [show ((t : Int) - 1) = ((t - 1 : Nat) : Int) by omega, ← Int.natCast_mul] at e7
        omega
      exact Shr.law5c A A1 A3 A5 n1 c c1 n3 c3 n5 c5 t mn' sec oth coins qs a m w hr hr1 hr3 hc3 hcm3 hnil hr5 (by omega) (by omega) (by omega) (by omega) (by omega) (by omega) e7'
    · exact Shr.law5b A A1 A3 A5 n1 c c1 n3 c3 n5 c5 th mn a m w (by omega) (by omega) (by omega) hth hE

open Go.ChangeShapes Go.WideShapes Go.ChangeAt Go.Deep in
theorem open_byteslices {H : Type} {enc : TypeId × Value → H} {w : World} {base : Nat} {spare : Nat → Bool} {held : Bool} {r : Reach} {b0 : Nat} {v : Value} {d : DataW H} {p : List MemPlace}
    (hv : Value.okWide Try.prog w r b0 39 v) (h : DataW.Trod enc Try.prog w base spare held 39 v d p) :
    ∃ (A : Option Addr) (n c : Nat) (qs : List Bq), v = .slice A n c ∧ n ≤ c ∧ c ≤ maxLen ∧ Ms w A n qs := by
  obtain ⟨A, n, c, xss, rfl, hnc, hcm, hlen, hrd, hel⟩ := open_rd_slice Try.underlying39 (show Try.prog.cellsOf 23 = 1 by kernel_rfl) (by decide) hv h
  have key : ∀ xss : List (List Value), (∀ xs ∈ xss, xs.length = 1 ∧ ∃ m y, DataW.trod enc Try.prog w base spare held m 23 xs = some y) → ∃ qs : List Bq, xss.flatten = qs.map Bq.cell ∧ ∀ q, q ∈ qs → RdB w q.A q.l.length q.l ∧ (q.A = none → q.c = 0) ∧ q.l.length ≤ q.c ∧ q.c ≤ maxLen := by
    intro xss
    induction xss with
    | nil => exact fun _ => ⟨[], rfl, fun _ h => by cases h⟩
    | cons xs xss ih =>
      intro hx
      obtain ⟨qs, e, hq⟩ := ih (fun y hy => hx y (List.mem_cons_of_mem _ hy))
      obtain ⟨h1, m, y, hy⟩ := hx xs (List.mem_cons_self ..)
      obtain ⟨x0, rfl⟩ := List.length_eq_one_iff.1 h1
      obtain ⟨A', k, cp, l, rfl, hkc, hcm', hr, hnil⟩ := open_bytes_cell Try.underlying23 Try.underlying5 (show Try.prog.cellsOf 5 = 1 by kernel_rfl) hy
      have hl : l.length = k := hr.len
      subst hl
      refine ⟨⟨A', cp, l⟩ :: qs, by rw [List.flatten_cons, e]; rfl, fun q hq' => ?_⟩
      rcases List.mem_cons.1 hq' with rfl | hq'
      · exact ⟨hr, hnil, hkc, hcm'⟩
      · exact hq q hq'
  obtain ⟨qs, e, hq⟩ := key xss hel
  exact ⟨A, n, c, qs, rfl, hnc, hcm, by rw [← e]; exact hrd, hq⟩
end Go.Proofs.Ytpijkjpefdlefaa
