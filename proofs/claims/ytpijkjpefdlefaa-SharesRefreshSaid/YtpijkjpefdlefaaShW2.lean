/- Contract of shares.Check. -/
import Derived.Test.YtpijkjpefdlefaaShW1
namespace Go.Proofs.Ytpijkjpefdlefaa
open Go.RowKit Go.Shelf
set_option linter.unusedVariables false

theorem Shr.eps_bad (l : List Shr.S) (ha : Shr.alikeB l = true) (k : Nat) (hk : k < l.length) (h : ¬ Shr.epAt l k) : Shr.chkE l = 61 := by
  rw [Shr.chkE, if_pos ha, if_neg]
  intro h2
  exact h (of_decide_eq_true h2 k hk)
theorem Shr.eps_yes (l : List Shr.S) (ha : Shr.alikeB l = true) (h : ∀ k, k < l.length → Shr.epAt l k) : Shr.chkE l = 0 := by
  rw [Shr.chkE, if_pos ha, if_pos (show Shr.epsB l = true from decide_eq_true h)]

set_option maxRecDepth 100000 in
set_option maxHeartbeats 2000000 in
theorem Shr.check_any (A : Option Addr) (n c : Nat) (xs : List Shr.C) (w : World) (hr : Shr.Rds w A n xs) (hn : n ≤ maxLen) :
    Calls Try.prog 14 #[.slice A n c] w fun e w' => e = .returned (.int .i64 (Shr.chkE (Shr.vals xs))) ∧ Below w.heap.size w w' := by
  cases ha : Shr.alikeB (Shr.vals xs) with
  | false =>
    have HN := Lib.hid (show Shr.chkE (Shr.vals xs) = 60 by rw [Shr.chkE, ha]; rfl)
    have HA := Lib.hid ha
    clear ha
    go_enter Try.func14, Try.ntmps14
    go_wp2_with fail
    refine (Shr.alike_any A n c xs w hr hn).mono ?_
    rintro e w1 ⟨rfl, hb1⟩
    rw [HA.out]
    have HB1 := Lib.hid hb1
    clear hb1
    go_wp2_with fail
    go_ret
    exact ⟨by rw [HN.out]; rfl, HB1.out⟩
  | true =>
    have HA := Lib.hid ha
    have HBAD := Lib.hid (fun k hk => Shr.eps_bad (Shr.vals xs) ha k hk)
    have HY := Lib.hid (Shr.eps_yes (Shr.vals xs) ha)
    have HL := Lib.hid hr.len
    have hpos : 0 < n := by have := Shr.alikeB_len _ ha; rw [Shr.vals_len, hr.len] at this; exact this
    obtain ⟨b, off, rfl, _⟩ := hr.first hpos
    have HV0 := Lib.hid (Shr.vals_at xs 0 (by rw [hr.len]; exact hpos))
    have HR := Lib.hid hr
    clear ha hr
    go_enter Try.func14, Try.ntmps14
    go_wp2_with fail
    refine (Shr.alike_any (some ⟨b, off, none⟩) n c xs w HR.out hn).mono ?_
    rintro e w1 ⟨rfl, hb1⟩
    rw [HA.out]
    have HB1 := Lib.hid hb1
    clear hb1
    unfold maxLen at hn
    go_wp2_with fail
    go_loopw [10] (fun i wr => ∃ k : Nat, k ≤ n ∧ i = .int .i64 k ∧ (∀ j, j < k → Shr.epAt (Shr.vals xs) j) ∧ Below w.heap.size w wr) (fun i _ => n - (intOf i).toNat)
    case atStart => exact ⟨0, by omega, rfl, fun j hj => absurd hj (by omega), HB1.out⟩
    case round =>
      obtain ⟨k, hk, rfl, hall, hB⟩ := hrel
      have HALL := Lib.hid hall
      have HB := Lib.hid hB
      clear hall hB
      by_cases hlt : k < n
      · obtain ⟨hbw, e0, e1, e2, e3, e4⟩ := (HR.out.keep HB.out).at2 k hlt
        obtain ⟨_, f0, _, _, _, _⟩ := (HR.out.keep HB.out).first2 hpos
        have HVK := Lib.hid (Shr.vals_at xs k (by rw [HL.out]; exact hlt))
        have hG : (∀ (sk s0 : Shr.S), sk = (xs[k]!).s → s0 = (xs[0]!).s → (sk.ep = s0.ep ∧ 0 ≤ sk.ep ∧ sk.ep ≤ 1048576) → ∀ j, j < k + 1 → Shr.epAt (Shr.vals xs) j) := by
          rintro _ _ rfl rfl h j hj
          by_cases hjk : j = k
          · subst hjk; unfold Shr.epAt; rw [HVK.out, HV0.out]; exact h
          · exact HALL.out j (by omega)
        have hF : (∀ (sk s0 : Shr.S), sk = (xs[k]!).s → s0 = (xs[0]!).s → ¬ (sk.ep = s0.ep ∧ 0 ≤ sk.ep ∧ sk.ep ≤ 1048576) → Shr.chkE (Shr.vals xs) = 61) := by
          rintro _ _ rfl rfl h
          refine HBAD.out k (by rw [Shr.vals_len, HL.out]; exact hlt) (fun h2 => h ?_)
          unfold Shr.epAt at h2
          rw [HVK.out, HV0.out] at h2
          exact h2
        obtain ⟨sk, hsk⟩ : ∃ sk, sk = (xs[k]!).s := ⟨_, rfl⟩
        obtain ⟨s0, hs0⟩ : ∃ s0, s0 = (xs[0]!).s := ⟨_, rfl⟩
        have HG := Lib.hid (hG sk s0 hsk hs0)
        have HF := Lib.hid (hF sk s0 hsk hs0)
        rw [← hsk] at e0 e1 e2 e3 e4
        rw [← hs0] at f0
        generalize (xs[k]!).A = Ak at e4
        generalize (xs[k]!).c = ck at e4
        clear hG hF hsk hs0
        by_cases h1 : sk.ep = s0.ep
        · have d1 : (sk.ep != s0.ep) = false := by simp [h1]
          by_cases h2 : 0 ≤ sk.ep
          · have d2 : decide (sk.ep < 0) = false := decide_eq_false (by omega)
            by_cases h3 : sk.ep ≤ 1048576
            · have d3 : decide (1048576 < sk.ep) = false := decide_eq_false (by omega)
              have HOK := Lib.hid (HG.out ⟨h1, h2, h3⟩)
              clear h1
              go_wp2_with fail
              go_quiet (fail)
              go_wp2
              go_roundw
              case rel => exact ⟨k + 1, by omega, by go_num, HOK.out, below_drewN (HB.out.alloc HB.out.size _) _⟩
              case measure => simp [intOf]; omega
            · have d3 : decide (1048576 < sk.ep) = true := decide_eq_true (by omega)
              have HN := Lib.hid (HF.out (fun h => h3 h.2.2))
              clear h1 h2 h3
              go_wp2_with fail
              go_quiet (fail)
              go_wp2
              go_ret
              exact ⟨by rw [HN.out]; rfl, below_drewN (HB.out.alloc HB.out.size _) _⟩
          · have d2 : decide (sk.ep < 0) = true := decide_eq_true (by omega)
            have HN := Lib.hid (HF.out (fun h => h2 h.2.1))
            clear h1 h2
            go_wp2_with fail
            go_quiet (fail)
            go_wp2
            go_ret
            exact ⟨by rw [HN.out]; rfl, below_drewN (HB.out.alloc HB.out.size _) _⟩
        · have d1 : (sk.ep != s0.ep) = true := by simp; omega
          have HN := Lib.hid (HF.out (fun h => h1 h.1))
          clear h1
          go_wp2_with fail
          go_quiet (fail)
          go_wp2
          go_ret
          exact ⟨by rw [HN.out]; rfl, below_drewN (HB.out.alloc HB.out.size _) _⟩
      · obtain rfl : k = n := by omega
        have HN := Lib.hid (HY.out (fun j hj => HALL.out j (by rw [Shr.vals_len, HL.out] at hj; exact hj)))
        go_wp2
        go_ret
        exact ⟨by rw [HN.out]; rfl, HB.out⟩
end Go.Proofs.Ytpijkjpefdlefaa
