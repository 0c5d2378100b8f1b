/- Contracts of shares.alike and shares.Check. -/
import Derived.BigQuiet
import Derived.Test.YtpijkjpefdlefaaShMem
import Derived.Test.YtpijkjpefdlefaaFldW7
namespace Go.Proofs.Ytpijkjpefdlefaa
open Go.RowKit Go.Shelf
set_option linter.unusedVariables false

/-- the facts on the first share that decide -/
theorem Shr.alike_no (l : List Shr.S) (h : ¬ (0 < l.length ∧ Shr.headOk l[0]!)) : Shr.alikeB l = false := decide_eq_false fun h2 => h ⟨h2.1, h2.2.1⟩

theorem Shr.alike_bad (l : List Shr.S) (k : Nat) (hk : k < l.length) (h : ¬ Shr.okAt l k) : Shr.alikeB l = false := decide_eq_false fun h2 => h (h2.2.2 k hk)
theorem Shr.alike_yes (l : List Shr.S) (h0 : 0 < l.length) (h1 : Shr.headOk l[0]!) (h : ∀ k, k < l.length → Shr.okAt l k) : Shr.alikeB l = true := decide_eq_true ⟨h0, h1, h⟩
theorem Shr.last_succ (l : List Shr.S) (k : Nat) : Shr.last l (k + 1) = l[k]!.ix := by simp [Shr.last]

set_option maxRecDepth 100000 in
set_option maxHeartbeats 2000000 in
theorem Shr.alike_any (A : Option Addr) (n c : Nat) (xs : List Shr.C) (w : World) (hr : Shr.Rds w A n xs) (hn : n ≤ maxLen) :
    Calls Try.prog 31 #[.slice A n c] w fun e w' => e = .returned (.bool (Shr.alikeB (Shr.vals xs))) ∧ Below w.heap.size w w' := by
  unfold maxLen at hn
  by_cases h0 : n = 0
  · subst h0
    have HN := Lib.hid (Shr.alike_no (Shr.vals xs) (fun h => by have := h.1; rw [Shr.vals_len, hr.len] at this; omega))
    have d : (((0 : Nat) : Int) == 0) = true := rfl
    go_enter Try.func31, Try.ntmps31
    go_wp2_with fail
    go_quiet (fail)
    go_wp2
    go_ret
    exact ⟨by rw [HN.out]; rfl, below_drewN (Below.refl _ _) _⟩
  · have hpos : 0 < n := by omega
    obtain ⟨b, off, rfl, hb, e0, e1, e2, e3, e4⟩ := hr.first hpos
    have d0 : ((n : Int) == 0) = false := by simp; omega
    have hl0 := (hr.mem 0 hpos).len
    have HV0 := Lib.hid (Shr.vals_at xs 0 (by rw [hr.len]; exact hpos))
    by_cases hh : Shr.headOk (xs[0]!).s
    · have HY := Lib.hid (Shr.alike_yes (Shr.vals xs) (by rw [Shr.vals_len, hr.len]; exact hpos) (by rw [HV0.out]; exact hh))
      have HBAD := Lib.hid (fun k hk => Shr.alike_bad (Shr.vals xs) k hk)
      have HL := Lib.hid hr.len
      have HR := Lib.hid hr
      obtain ⟨g1, g2, g3, g4⟩ := hh
      obtain ⟨t0, ht0⟩ : ∃ t0, t0 = (xs[0]!).s := ⟨_, rfl⟩
      rw [← ht0] at e0 e1 e2 e3 e4 g1 g2 g3 g4
      generalize (xs[0]!).A = A0 at e4
      generalize (xs[0]!).c = c0 at e4
      have d1 : decide (t0.th < 1) = false := decide_eq_false (by omega)
      have d2 : decide (t0.mn < t0.th) = false := decide_eq_false (by omega)
      have d3 : decide (8 < t0.mn) = false := decide_eq_false (by omega)
      have d4 : decide ((64 : Int) < (t0.d.length : Int)) = false := decide_eq_false (by omega)
      clear hr ht0
      go_enter Try.func31, Try.ntmps31
      go_wp2_with fail
      go_quiet (fail)
      clear d1 d2 d3 d4
      go_wp2_with fail
      clear e0 e1 e2 e3 e4
      go_loopw [3, 44] (fun la i wr => ∃ k : Nat, k ≤ n ∧ la = .int .i64 (Shr.last (Shr.vals xs) k) ∧ i = .int .i64 k ∧ (∀ j, j < k → Shr.okAt (Shr.vals xs) j) ∧ Below w.heap.size w wr) (fun _ i _ => n - (intOf i).toNat)
      case atStart => exact ⟨0, by omega, rfl, rfl, fun j hj => absurd hj (by omega), below_drewN (Below.refl _ _) _⟩
      case round =>
        obtain ⟨k, hk, rfl, rfl, hall, hB⟩ := hrel
        have HALL := Lib.hid hall
        have HB := Lib.hid hB
        clear hall hB
        by_cases hlt : k < n
        · obtain ⟨hbw, e0, e1, e2, e3, e4⟩ := (HR.out.keep HB.out).at2 k hlt
          obtain ⟨_, f0, f1, f2, f3, f4⟩ := (HR.out.keep HB.out).first2 hpos
          have hlk := (HR.out.mem k hlt).len
          unfold maxLen at hlk hl0
          have HVK := Lib.hid (Shr.vals_at xs k (by rw [HL.out]; exact hlt))
          have hG : (∀ (sk s0 : Shr.S) (la : Int), sk = (xs[k]!).s → s0 = (xs[0]!).s → la = Shr.last (Shr.vals xs) k → (sk.th = s0.th ∧ sk.mn = s0.mn ∧ sk.d.length = s0.d.length ∧ la < sk.ix ∧ sk.ix ≤ sk.mn) → ∀ j, j < k + 1 → Shr.okAt (Shr.vals xs) j) := by
            rintro _ _ _ rfl rfl rfl h j hj
            by_cases hjk : j = k
            · subst hjk; unfold Shr.okAt; rw [HVK.out, HV0.out]; exact h
            · exact HALL.out j (by omega)
          have hF : (∀ (sk s0 : Shr.S) (la : Int), sk = (xs[k]!).s → s0 = (xs[0]!).s → la = Shr.last (Shr.vals xs) k → ¬ (sk.th = s0.th ∧ sk.mn = s0.mn ∧ sk.d.length = s0.d.length ∧ la < sk.ix ∧ sk.ix ≤ sk.mn) → Shr.alikeB (Shr.vals xs) = false) := by
            rintro _ _ _ rfl rfl rfl h
            refine HBAD.out k (by rw [Shr.vals_len, HL.out]; exact hlt) (fun h2 => h ?_)
            unfold Shr.okAt at h2
            rw [HVK.out, HV0.out] at h2
            exact h2
          have HLS0 := Lib.hid (show Shr.last (Shr.vals xs) (k + 1) = (xs[k]!).s.ix by rw [Shr.last_succ, HVK.out])
          obtain ⟨sk, hsk⟩ : ∃ sk, sk = (xs[k]!).s := ⟨_, rfl⟩
          obtain ⟨s0, hs0⟩ : ∃ s0, s0 = (xs[0]!).s := ⟨_, rfl⟩
          obtain ⟨la, hla⟩ : ∃ la, la = Shr.last (Shr.vals xs) k := ⟨_, rfl⟩
          have HG := Lib.hid (hG sk s0 la hsk hs0 hla)
          have HF := Lib.hid (hF sk s0 la hsk hs0 hla)
          rw [← hsk] at e0 e1 e2 e3 e4 hlk HLS0
          rw [← hs0] at f0 f1 f2 f3 f4 hl0
          generalize (xs[0]!).A = A0 at f4
          generalize (xs[0]!).c = c0 at f4
          generalize (xs[k]!).A = Ak at e4
          generalize (xs[k]!).c = ck at e4
          rw [← hla]
          have HLS := HLS0
          clear hG hF hsk hs0 hla HLS0 g1 g2 g3 g4
          by_cases h1 : sk.th = s0.th
          · have d1 : (sk.th != s0.th) = false := by simp [h1]
            by_cases h2 : sk.mn = s0.mn
            · have d2 : (sk.mn != s0.mn) = false := by simp [h2]
              by_cases h3 : sk.d.length = s0.d.length
              · have d3 : ((sk.d.length : Int) != (s0.d.length : Int)) = false := by simp [h3]
                by_cases h4 : la < sk.ix
                · have d4 : decide (sk.ix ≤ la) = false := decide_eq_false (by omega)
                  by_cases h5 : sk.ix ≤ sk.mn
                  · have d5 : decide (sk.mn < sk.ix) = false := decide_eq_false (by omega)
                    have HOK := Lib.hid (HG.out ⟨h1, h2, h3, h4, h5⟩)
                    clear h1 h2 h3
                    go_wp2_with fail
                    go_quiet (fail)
                    go_wp2
                    go_roundw
                    case rel => exact ⟨k + 1, by omega, by rw [HLS.out], by go_num, HOK.out, below_drewN (HB.out.alloc HB.out.size _) _⟩
                    case measure => simp [intOf]; omega
                  · have d5 : decide (sk.mn < sk.ix) = true := decide_eq_true (by omega)
                    have HN := Lib.hid (HF.out (fun h => h5 h.2.2.2.2))
                    go_wp2_with fail
                    go_quiet (fail)
                    go_wp2
                    go_ret
                    exact ⟨by rw [HN.out]; rfl, below_drewN (HB.out.alloc HB.out.size _) _⟩
                · have d4 : decide (sk.ix ≤ la) = true := decide_eq_true (by omega)
                  have HN := Lib.hid (HF.out (fun h => h4 h.2.2.2.1))
                  go_wp2_with fail
                  go_quiet (fail)
                  go_wp2
                  go_ret
                  exact ⟨by rw [HN.out]; rfl, below_drewN (HB.out.alloc HB.out.size _) _⟩
              · have d3 : ((sk.d.length : Int) != (s0.d.length : Int)) = true := by simp; omega
                have HN := Lib.hid (HF.out (fun h => h3 h.2.2.1))
                go_wp2_with fail
                go_quiet (fail)
                go_wp2
                go_ret
                exact ⟨by rw [HN.out]; rfl, below_drewN (HB.out.alloc HB.out.size _) _⟩
            · have d2 : (sk.mn != s0.mn) = true := by simp; omega
              have HN := Lib.hid (HF.out (fun h => h2 h.2.1))
              go_wp2_with fail
              go_quiet (fail)
              go_wp2
              go_ret
              exact ⟨by rw [HN.out]; rfl, below_drewN (HB.out.alloc HB.out.size _) _⟩
          · have d1 : (sk.th != s0.th) = true := by simp; omega
            have HN := Lib.hid (HF.out (fun h => h1 h.1))
            go_wp2_with fail
            go_quiet (fail)
            go_wp2
            go_ret
            exact ⟨by rw [HN.out]; rfl, below_drewN (HB.out.alloc HB.out.size _) _⟩
        · obtain rfl : k = n := by omega
          have HN := Lib.hid (HY.out (fun j hj => HALL.out j (by rw [Shr.vals_len, HL.out] at hj; exact hj)))
          go_wp2
          go_ret
          exact ⟨by rw [HN.out]; rfl, HB.out⟩
    · have HN := Lib.hid (Shr.alike_no (Shr.vals xs) (fun h => hh (by rw [← HV0.out]; exact h.2)))
      unfold Shr.headOk at hh
      generalize (xs[0]!).s = s0 at *
      by_cases h1 : 1 ≤ s0.th
      · have d1 : decide (s0.th < 1) = false := decide_eq_false (by omega)
        by_cases h2 : s0.th ≤ s0.mn
        · have d2 : decide (s0.mn < s0.th) = false := decide_eq_false (by omega)
          by_cases h3 : s0.mn ≤ 8
          · have d3 : decide (8 < s0.mn) = false := decide_eq_false (by omega)
            have h4 : 64 < s0.d.length := by omega
            have d4 : decide ((64 : Int) < (s0.d.length : Int)) = true := decide_eq_true (by omega)
            clear hh
            go_enter Try.func31, Try.ntmps31
            go_wp2_with fail
            go_quiet (fail)
            go_wp2
            go_ret
            exact ⟨by rw [HN.out]; rfl, below_drewN (Below.refl _ _) _⟩
          · have d3 : decide (8 < s0.mn) = true := decide_eq_true (by omega)
            clear hh
            go_enter Try.func31, Try.ntmps31
            go_wp2_with fail
            go_quiet (fail)
            go_wp2
            go_ret
            exact ⟨by rw [HN.out]; rfl, below_drewN (Below.refl _ _) _⟩
        · have d2 : decide (s0.mn < s0.th) = true := decide_eq_true (by omega)
          clear hh
          go_enter Try.func31, Try.ntmps31
          go_wp2_with fail
          go_quiet (fail)
          go_wp2
          go_ret
          exact ⟨by rw [HN.out]; rfl, below_drewN (Below.refl _ _) _⟩
      · have d1 : decide (s0.th < 1) = true := decide_eq_true (by omega)
        clear hh
        go_enter Try.func31, Try.ntmps31
        go_wp2_with fail
        go_quiet (fail)
        go_wp2
        go_ret
        exact ⟨by rw [HN.out]; rfl, below_drewN (Below.refl _ _) _⟩
end Go.Proofs.Ytpijkjpefdlefaa
