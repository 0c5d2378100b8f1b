/- The law SharesJoinSpec returns true. -/
import Derived.Test.YtpijkjpefdlefaaShR2
namespace Go.Proofs.Ytpijkjpefdlefaa
open Go.RowKit Go.Shelf
set_option linter.unusedVariables false

set_option maxRecDepth 100000 in
set_option maxHeartbeats 4000000 in
theorem Shr.law2 (A : Option Addr) (n c : Nat) (xs : List Shr.C) (w : World) (hr : Shr.Rds w A n xs) (hnc : n ≤ c) (hcm : c ≤ maxLen) :
    Calls Try.prog 4 #[.slice A n c] w fun e w' => e = .returned (.bool true) ∧ Below w.heap.size w w' := by
  have HR := Lib.hid hr
  have HN := Lib.hid (Nat.le_trans hnc hcm)
  have HNC := Lib.hid hnc
  have HCM := Lib.hid hcm
  clear hr hnc hcm
  cases hf : Shr.fewB (Shr.vals xs) with
  | false =>
    have HF := Lib.hid hf
    clear hf
    go_enter Try.func4, Try.ntmps4
    go_wp2_with fail
    refine (Shr.sane_any _).mono ?_
    rintro e w1 ⟨rfl, hb1⟩
    have HB1 := Lib.hid hb1
    clear hb1
    go_wp2_with fail
    refine (Shr.few_any A n c xs w1 (HR.out.keep HB1.out) HN.out).mono ?_
    rintro e w2 ⟨rfl, rfl⟩
    rw [HF.out]
    go_wp2_with fail
    go_ret
    exact ⟨rfl, HB1.out⟩
  | true =>
    have HF := Lib.hid hf
    clear hf
    by_cases hE : Shr.joinE (Shr.vals xs) = 0
    · have HE := Lib.hid hE
      have HJ := Lib.hid (fun w hr => Shr.join_yes A n c xs w hr HNC.out HCM.out HE.out)
      have HK := Lib.hid (fun w hr => Shr.rjoin_yes A n c xs w hr HNC.out HCM.out HE.out)
      generalize (Shr.vals xs)[0]!.d.length = dl at HJ HK
      generalize Shr.joinV (Shr.vals xs) = jv at HJ HK
      clear hE
      go_enter Try.func4, Try.ntmps4
      go_wp2_with fail
      refine (Shr.sane_any _).mono ?_
      rintro e w1 ⟨rfl, hb1⟩
      have HB1 := Lib.hid hb1
      clear hb1
      go_wp2_with fail
      refine (Shr.few_any A n c xs w1 (HR.out.keep HB1.out) HN.out).mono ?_
      rintro e w2 ⟨rfl, rfl⟩
      rw [HF.out]
      go_wp2_with fail
      refine (HJ.out w1 (HR.out.keep HB1.out)).mono ?_
      rintro e w3 ⟨A3, c3, rfl, hn3, hr3, _, _, hb3⟩
      have HB3 := Lib.hid (HB1.out.trans (hb3.mono HB1.out.size))
      have HR3 := Lib.hid hr3
      clear hb3 hr3 hn3
      go_wp2_with fail
      refine (HK.out w3 (HR.out.keep HB3.out)).mono ?_
      rintro e w4 ⟨A4, c4, rfl, hn4, hr4, _, _, hb4⟩
      have HB4 := Lib.hid (HB3.out.trans (hb4.mono HB3.out.size))
      have y3 := (HR3.out.keep hb4).str (P := Try.prog) Try.underlying23 Try.underlying5 Try.underlying9 c3
      have y4 := hr4.str (P := Try.prog) Try.underlying23 Try.underlying5 Try.underlying9 c4
      clear hb4 hr4 hn4
      go_wp2_with fail
      go_ret
      exact ⟨rfl, HB4.out⟩
    · have HE := Lib.hid hE
      have HQ := Lib.hid (show ∀ z : Int, (z == z) = true from fun z => by simp)
      clear hE
      go_enter Try.func4, Try.ntmps4
      go_wp2_with fail
      refine (Shr.sane_any _).mono ?_
      rintro e w1 ⟨rfl, hb1⟩
      have HB1 := Lib.hid hb1
      clear hb1
      go_wp2_with fail
      refine (Shr.few_any A n c xs w1 (HR.out.keep HB1.out) HN.out).mono ?_
      rintro e w2 ⟨rfl, rfl⟩
      rw [HF.out]
      go_wp2_with fail
      refine (Shr.join_no A n c xs w1 (HR.out.keep HB1.out) HN.out HE.out).mono ?_
      rintro e w3 ⟨rfl, hb3⟩
      have HB3 := Lib.hid (HB1.out.trans (hb3.mono HB1.out.size))
      clear hb3
      go_wp2_with fail
      refine (Shr.rjoin_no A n c xs w3 (HR.out.keep HB3.out) HN.out HE.out).mono ?_
      rintro e w4 ⟨rfl, hb4⟩
      have HB4 := Lib.hid (HB3.out.trans (hb4.mono HB3.out.size))
      generalize Shr.joinE (Shr.vals xs) = je
      have hq := HQ.out je
      have y0 := (RdB.none_ (w := w4) (A := none)).str (P := Try.prog) Try.underlying23 Try.underlying5 Try.underlying9 0
      clear hb4
      go_wp2_with fail
      go_ret
      exact ⟨rfl, HB4.out⟩
end Go.Proofs.Ytpijkjpefdlefaa
