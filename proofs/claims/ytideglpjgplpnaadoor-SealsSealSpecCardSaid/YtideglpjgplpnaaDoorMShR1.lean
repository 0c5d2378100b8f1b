import Derived.BigQuiet
import Derived.Test.YtideglpjgplpnaaDoorMSlF
import Derived.Test.YtideglpjgplpnaaDoorMFldR1
/- Contracts of the references' Eval, Few, alike and Check. -/
namespace Go.Proofs.YtideglpjgplpnaaDoor
open Go.RowKit Go.Shelf
set_option linter.unusedVariables false

set_option maxHeartbeats 1000000 in
theorem Fld.reval_any (A : Option Addr) (m c : Nat) (l : List UInt8) (a : UInt8) (w : World) (hm : m ≤ maxLen) (hrd : RdB w A m l) :
    Calls Tryd.prog 71 #[.slice A m c, B8 a] w fun e w' => e = .returned (B8 (Fld.ev l a)) ∧ w = w' := by
  unfold maxLen at hm
  have HR := Lib.hid hrd
  have HE := Lib.hid (show Fld.evs l a m = Fld.ev l a by rw [← hrd.len, Fld.evs_eq])
  clear hrd
  go_enter Tryd.func71, Tryd.ntmps71
  go_wp2_with fail
  go_loop [5, 6, 7] (fun y p i => ∃ k : Nat, k ≤ m ∧ i = .int .i64 k ∧ y = B8 (Fld.evs l a k) ∧ p = B8 (Fld.pwr a k)) (fun _ _ i => m - (intOf i).toNat)
  case atStart => exact ⟨0, by omega, rfl, rfl, rfl⟩
  case round =>
    obtain ⟨k, hk, rfl, rfl, rfl⟩ := hrel
    by_cases hlt : k < m
    · obtain ⟨b, off, rfl, hb, e0⟩ := HR.out.byte k hlt
      have HX := Lib.hid (Fld.xor8 (Fld.evs l a k) (Fld.mul (l.getD k 0) (Fld.pwr a k)))
      have HS := Lib.hid (show Fld.evs l a (k + 1) = Fld.evs l a k ^^^ Fld.mul (l.getD k 0) (Fld.pwr a k) from rfl)
      have HP := Lib.hid (show Fld.pwr a (k + 1) = Fld.mul (Fld.pwr a k) a from rfl)
      generalize l.getD k 0 = x at e0 HX HS
      generalize Fld.evs l a k = y at HX HS ⊢
      generalize Fld.pwr a k = p at HX HS HP ⊢
      go_wp2_with fail
      refine (Fld.rmul_any x p _).mono ?_
      rintro e w1 ⟨rfl, rfl⟩
      go_wp2_with fail
      refine (Fld.rmul_any p a _).mono ?_
      rintro e w2 ⟨rfl, rfl⟩
      go_wp2_with fail
      go_round
      case rel => exact ⟨k + 1, by omega, by go_num, by rw [HS.out]; exact congrArg (Value.int .u8) HX.out, by rw [HP.out]⟩
      case measure => simp [intOf]; omega
    · obtain rfl : k = m := by omega
      go_wp2_with fail
      go_ret
      exact ⟨by rw [← HE.out]; rfl, rfl⟩

/-- few shares, with few bytes -/
def Shr.fewB (l : List Shr.S) : Bool := decide (∀ k, k < l.length → l[k]!.d.length ≤ 70) && decide (l.length ≤ 10)
theorem Shr.fewB_yes (l : List Shr.S) (h : Shr.fewB l = true) : (∀ k, k < l.length → l[k]!.d.length ≤ 70) ∧ l.length ≤ 10 := by
  rw [Shr.fewB, Bool.and_eq_true] at h
  exact ⟨of_decide_eq_true h.1, of_decide_eq_true h.2⟩

set_option maxHeartbeats 1000000 in
theorem Shr.few_any (A : Option Addr) (n c : Nat) (xs : List Shr.C) (w : World) (hr : Shr.Rds w A n xs) (hn : n ≤ maxLen) :
    Calls Tryd.prog 12 #[.slice A n c] w fun e w' => e = .returned (.bool (Shr.fewB (Shr.vals xs))) ∧ w = w' := by
  unfold maxLen at hn
  have HR := Lib.hid hr
  have HL := Lib.hid hr.len
  clear hr
  go_enter Tryd.func12, Tryd.ntmps12
  go_wp2_with fail
  go_loop [3] (fun i => ∃ k : Nat, k ≤ n ∧ i = .int .i64 k ∧ ∀ j, j < k → (Shr.vals xs)[j]!.d.length ≤ 70) (fun i => n - (intOf i).toNat)
  case atStart => exact ⟨0, by omega, rfl, fun j hj => absurd hj (by omega)⟩
  case round =>
    obtain ⟨k, hk, rfl, hall⟩ := hrel
    have HALL := Lib.hid hall
    clear hall
    by_cases hlt : k < n
    · obtain ⟨b, off, rfl, hb, _, _, _, _, e4⟩ := HR.out.at k hlt
      have HVK := Lib.hid (Shr.vals_at xs k (by rw [HL.out]; exact hlt))
      have hlk := (HR.out.mem k hlt).len
      unfold maxLen at hlk
      generalize xs[k]! = x at e4 HVK hlk
      by_cases h7 : x.s.d.length ≤ 70
      · go_wp2_with fail
        go_round
        case rel => exact ⟨k + 1, by omega, by go_num, fun j hj => by (by_cases hjk : j = k; subst hjk; rw [HVK.out]; exact h7; exact HALL.out j (by omega))⟩
        case measure => simp [intOf]; omega
      · have HN := Lib.hid (show Shr.fewB (Shr.vals xs) = false by
          rw [Shr.fewB, decide_eq_false, Bool.false_and]
          intro h
          have := h k (by rw [Shr.vals_len, HL.out]; exact hlt)
          rw [HVK.out] at this
          omega)
        go_wp2_with fail
        go_ret
        exact ⟨by rw [HN.out]; rfl, rfl⟩
    · obtain rfl : k = n := by omega
      have HN := Lib.hid (show Shr.fewB (Shr.vals xs) = decide (k ≤ 10) by
        rw [Shr.fewB, decide_eq_true (fun j hj => HALL.out j (by rw [Shr.vals_len, HL.out] at hj; exact hj)), Bool.true_and, Shr.vals_len, HL.out])
      by_cases h10 : k ≤ 10
      · rw [decide_eq_true h10] at HN
        have d1 : decide ((k : Int) ≤ 10) = true := decide_eq_true (by omega)
        go_wp2_with fail
        go_ret
        exact ⟨by rw [HN.out]; rfl, rfl⟩
      · rw [decide_eq_false h10] at HN
        have d1 : decide ((k : Int) ≤ 10) = false := decide_eq_false (by omega)
        go_wp2_with fail
        go_ret
        exact ⟨by rw [HN.out]; rfl, rfl⟩

set_option maxRecDepth 100000 in
set_option maxHeartbeats 4000000 in
theorem Shr.ralike_any (A : Option Addr) (n c : Nat) (xs : List Shr.C) (w : World) (hr : Shr.Rds w A n xs) (hn : n ≤ maxLen) :
    Calls Tryd.prog 89 #[.slice A n c] w fun e w' => e = .returned (.bool (Shr.alikeB (Shr.vals xs))) ∧ Below w.heap.size w w' := by
  unfold maxLen at hn
  by_cases h0 : n = 0
  · subst h0
    have HN := Lib.hid (Shr.alike_no (Shr.vals xs) (fun h => by have := h.1; rw [Shr.vals_len, hr.len] at this; omega))
    have d : (((0 : Nat) : Int) == 0) = true := rfl
    go_enter Tryd.func89, Tryd.ntmps89
    go_wp2_with fail
    go_ret
    exact ⟨by rw [HN.out]; rfl, Below.refl _ _⟩
  · have hpos : 0 < n := by omega
    obtain ⟨b, off, rfl, hb, e0, e1, e2, e3, e4⟩ := hr.first hpos
    have d0 : ((n : Int) == 0) = false := by simp; omega
    have hl0 := (hr.mem 0 hpos).len
    unfold maxLen at hl0
    have HV0 := Lib.hid (Shr.vals_at xs 0 (by rw [hr.len]; exact hpos))
    by_cases hh : Shr.headOk (xs[0]!).s
    · have HY := Lib.hid (Shr.alike_yes (Shr.vals xs) (by rw [Shr.vals_len, hr.len]; exact hpos) (by rw [HV0.out]; exact hh))
      have HBAD := Lib.hid (fun k hk => Shr.alike_bad (Shr.vals xs) k hk)
      have HL := Lib.hid hr.len
      have HR := Lib.hid hr
      obtain ⟨g1, g2, g3, g4⟩ := hh
      obtain ⟨t0, ht0⟩ : ∃ t0, t0 = (xs[0]!).s := ⟨_, rfl⟩
      rw [← ht0] at e0 e1 e2 e3 e4 g1 g2 g3 g4 hl0
      have HT0 := Lib.hid ht0
      generalize (xs[0]!).A = A0 at e4
      generalize (xs[0]!).c = c0 at e4
      have d1 : decide (t0.th < 1) = false := decide_eq_false (by omega)
      have d2 : decide (t0.mn < t0.th) = false := decide_eq_false (by omega)
      have d3 : decide (8 < t0.mn) = false := decide_eq_false (by omega)
      have d4 : decide ((64 : Int) < (t0.d.length : Int)) = false := decide_eq_false (by omega)
      clear hr ht0
      go_enter Tryd.func89, Tryd.ntmps89
      go_wp2_with fail
      clear d1 d2 d3 d4 e0 e1 e2 e3 e4
      obtain ⟨W0, hW0⟩ : ∃ W0, W0 = w.alloc (.cells #[.int .i64 t0.ep, .int .i64 t0.ix, .int .i64 t0.th, .int .i64 t0.mn, .slice A0 t0.d.length c0] 43) := ⟨_, rfl⟩
      have HH0 := Lib.hid (show Has W0 w.heap.size 43 [.int .i64 t0.ep, .int .i64 t0.ix, .int .i64 t0.th, .int .i64 t0.mn, .slice A0 t0.d.length c0] by rw [hW0]; exact Has.new _ _ _)
      have HBW := Lib.hid (show Below w.heap.size w W0 by rw [hW0]; exact (Below.refl _ _).alloc (Nat.le_refl _) _)
      rw [← hW0]
      clear hW0
      go_loopw [4] (fun i wr => ∃ k : Nat, k ≤ n ∧ i = .int .i64 k ∧ (∀ j, j < k → Shr.okAt (Shr.vals xs) j) ∧ Below W0.heap.size W0 wr) (fun i _ => n - (intOf i).toNat)
      case atStart => exact ⟨0, by omega, rfl, fun j hj => absurd hj (by omega), Below.refl _ _⟩
      case round =>
        obtain ⟨k, hk, rfl, hall, hB⟩ := hrel
        have HALL := Lib.hid hall
        have HB := Lib.hid (HBW.out.trans (hB.mono HBW.out.size))
        have HB0 := Lib.hid hB
        obtain ⟨f2, f3, f4⟩ : wr.cell? ⟨w.heap.size, 2, none⟩ = some (.int .i64 t0.th) ∧ wr.cell? ⟨w.heap.size, 3, none⟩ = some (.int .i64 t0.mn) ∧ wr.cell? ⟨w.heap.size, 4, none⟩ = some (.slice A0 t0.d.length c0) := ⟨(HH0.out.keep hB).cell 2, (HH0.out.keep hB).cell 3, (HH0.out.keep hB).cell 4⟩
        have zw : w.heap.size < wr.heap.size := (HH0.out.keep hB).lt
        clear hall hB
        by_cases hlt : k < n
        · obtain ⟨hbw, e0, e1, e2, e3, e4⟩ := (HR.out.keep HB.out).at2 k hlt
          have hlk := (HR.out.mem k hlt).len
          unfold maxLen at hlk
          have HVK := Lib.hid (Shr.vals_at xs k (by rw [HL.out]; exact hlt))
          obtain ⟨sk, hsk⟩ : ∃ sk, sk = (xs[k]!).s := ⟨_, rfl⟩
          have HG := Lib.hid (show ∀ la, la = Shr.last (Shr.vals xs) k → (sk.th = t0.th ∧ sk.mn = t0.mn ∧ sk.d.length = t0.d.length ∧ la < sk.ix ∧ sk.ix ≤ t0.mn) → ∀ j, j < k + 1 → Shr.okAt (Shr.vals xs) j from by
            rintro _ rfl h j hj
            by_cases hjk : j = k
            · subst hjk; unfold Shr.okAt; rw [HVK.out, HV0.out, ← hsk, ← HT0.out]; exact ⟨h.1, h.2.1, h.2.2.1, h.2.2.2.1, by rw [h.2.1]; exact h.2.2.2.2⟩
            · exact HALL.out j (by omega))
          have HF := Lib.hid (show ∀ la, la = Shr.last (Shr.vals xs) k → ¬ (sk.th = t0.th ∧ sk.mn = t0.mn ∧ sk.d.length = t0.d.length ∧ la < sk.ix ∧ sk.ix ≤ t0.mn) → Shr.alikeB (Shr.vals xs) = false from by
            rintro _ rfl h
            refine HBAD.out k (by rw [Shr.vals_len, HL.out]; exact hlt) (fun h2 => h ?_)
            unfold Shr.okAt at h2
            rw [HVK.out, HV0.out, ← hsk, ← HT0.out] at h2
            exact ⟨h2.1, h2.2.1, h2.2.2.1, h2.2.2.2.1, by rw [← h2.2.1]; exact h2.2.2.2.2⟩)
          rw [← hsk] at e0 e1 e2 e3 e4 hlk
          have HSK := Lib.hid hsk
          generalize (xs[k]!).A = Ak at e4
          generalize (xs[k]!).c = ck at e4
          clear hsk g1 g2 g3 g4
          have i1 : (0 : Int) ≤ (k : Int) := by omega
          have i2 : (k : Int) < (n : Int) := by omega
          have HBN := Lib.hid (fun m => below_drewN (HB.out.alloc HB.out.size (.cells #[.int .i64 sk.ep, .int .i64 sk.ix, .int .i64 sk.th, .int .i64 sk.mn, .slice Ak sk.d.length ck] 43)) m)
          have HBN0 := Lib.hid (fun m => below_drewN (HB0.out.alloc HB0.out.size (.cells #[.int .i64 sk.ep, .int .i64 sk.ix, .int .i64 sk.th, .int .i64 sk.mn, .slice Ak sk.d.length ck] 43)) m)
          by_cases hk0 : k = 0
          · subst hk0
            simp only [Nat.zero_mul, Nat.add_zero] at e0 e1 e2 e3 e4
            have HLA := Lib.hid (show (0 : Int) = Shr.last (Shr.vals xs) 0 from rfl)
            have t9 : decide ((0 : Int) < ((0 : Nat) : Int)) = false := rfl
            have t8 : decide ((0 : Int) < 0) = false := rfl
            by_cases h1 : sk.th = t0.th
            · have d1 : (sk.th != t0.th) = false := by simp [h1]
              by_cases h2 : sk.mn = t0.mn
              · have d2 : (sk.mn != t0.mn) = false := by simp [h2]
                by_cases h3 : sk.d.length = t0.d.length
                · have d3 : ((sk.d.length : Int) != (t0.d.length : Int)) = false := by simp [h3]
                  by_cases h4 : 1 ≤ sk.ix
                  · have d4 : decide (sk.ix < 1) = false := decide_eq_false (by omega)
                    by_cases h5 : sk.ix ≤ t0.mn
                    · have d5 : decide (t0.mn < sk.ix) = false := decide_eq_false (by omega)
                      have HOK := Lib.hid (HG.out _ HLA.out ⟨h1, h2, h3, by omega, h5⟩)
                      clear h1 h2 h3 HG HF
                      go_wp2_with fail
                      go_quiet (fail)
                      go_wp2
                      go_roundw
                      case rel => exact ⟨0 + 1, by omega, by go_num, HOK.out, HBN0.out _⟩
                      case measure => simp [intOf]; omega
                    · have d5 : decide (t0.mn < sk.ix) = true := decide_eq_true (by omega)
                      have HN := Lib.hid (HF.out _ HLA.out (fun h => by have := h.2.2.2.2; omega))
                      clear HG HF
                      try clear h1
                      try clear h2
                      try clear h3
                      go_wp2_with fail
                      go_quiet (fail)
                      go_wp2
                      go_ret
                      exact ⟨by rw [HN.out]; rfl, HBN.out _⟩
                  · have d4 : decide (sk.ix < 1) = true := decide_eq_true (by omega)
                    have HN := Lib.hid (HF.out _ HLA.out (fun h => by have := h.2.2.2.1; omega))
                    clear HG HF
                    try clear h1
                    try clear h2
                    try clear h3
                    go_wp2_with fail
                    go_quiet (fail)
                    go_wp2
                    go_ret
                    exact ⟨by rw [HN.out]; rfl, HBN.out _⟩
                · have d3 : ((sk.d.length : Int) != (t0.d.length : Int)) = true := by simp; omega
                  have HN := Lib.hid (HF.out _ HLA.out (fun h => by have := h.2.2.1; omega))
                  clear HG HF
                  try clear h1
                  try clear h2
                  try clear h3
                  go_wp2_with fail
                  go_quiet (fail)
                  go_wp2
                  go_ret
                  exact ⟨by rw [HN.out]; rfl, HBN.out _⟩
              · have d2 : (sk.mn != t0.mn) = true := by simp; omega
                have HN := Lib.hid (HF.out _ HLA.out (fun h => by have := h.2.1; omega))
                clear HG HF
                try clear h1
                try clear h2
                try clear h3
                go_wp2_with fail
                go_quiet (fail)
                go_wp2
                go_ret
                exact ⟨by rw [HN.out]; rfl, HBN.out _⟩
            · have d1 : (sk.th != t0.th) = true := by simp; omega
              have HN := Lib.hid (HF.out _ HLA.out (fun h => by have := h.1; omega))
              clear HG HF
              try clear h1
              try clear h2
              try clear h3
              go_wp2_with fail
              go_quiet (fail)
              go_wp2
              go_ret
              exact ⟨by rw [HN.out]; rfl, HBN.out _⟩
          · obtain ⟨k', rfl⟩ : ∃ k', k = k' + 1 := ⟨k - 1, by omega⟩
            obtain ⟨_, _, r1, _, _, _⟩ := (HR.out.keep HB.out).at2 k' (by omega)
            have hpi : 0 < (xs[k']!).s.ix := by
              have h := HALL.out k' (by omega)
              unfold Shr.okAt at h
              have h4 := h.2.2.2.1
              rw [Shr.vals_at xs k' (by rw [HL.out]; omega)] at h4
              have h5 : 0 ≤ Shr.last (Shr.vals xs) k' := by
                by_cases hz : k' = 0
                · subst hz; exact Int.le_refl _
                · obtain ⟨k2, rfl⟩ : ∃ k2, k' = k2 + 1 := ⟨k' - 1, by omega⟩
                  rw [Shr.last_succ]
                  have g := (HALL.out k2 (by omega)).2.2.2.1
                  have g0 : ∀ q, q ≤ k2 → 0 ≤ Shr.last (Shr.vals xs) q := fun q => by
                    induction q with
                    | zero => exact fun _ => Int.le_refl _
                    | succ q ih => intro hq; rw [Shr.last_succ]; have := ih (by omega); have := (HALL.out q (by omega)).2.2.2.1; omega
                  have := g0 k2 (Nat.le_refl _)
                  omega
              omega
            have HLA := Lib.hid (show (xs[k']!).s.ix = Shr.last (Shr.vals xs) (k' + 1) by rw [Shr.last_succ, Shr.vals_at xs k' (by rw [HL.out]; omega)])
            generalize (xs[k']!).s.ix = pi at r1 hpi HLA
            have t9 : decide ((0 : Int) < ((k' + 1 : Nat) : Int)) = true := decide_eq_true (by omega)
            have t8 : decide ((0 : Int) < (k' : Int) + 1) = true := decide_eq_true (by omega)
            have hw1 : IntKind.i64.wrap (k' : Int) = (k' : Int) := IntWalk.i64_in _ (by omega)
            have hw2 : IntKind.i64.wrap (((k' + 1 : Nat) : Int) - 1) = (k' : Int) := by rw [show (((k' + 1 : Nat) : Int) - 1) = (k' : Int) by omega]; exact hw1
            have hw3 : IntKind.i64.wrap ((k' : Int) + 1 - 1) = (k' : Int) := by rw [show ((k' : Int) + 1 - 1) = (k' : Int) by omega]; exact hw1
            have j1 : (0 : Int) ≤ (k' : Int) := by omega
            have j2 : (k' : Int) < (n : Int) := by omega
            by_cases h1 : sk.th = t0.th
            · have d1 : (sk.th != t0.th) = false := by simp [h1]
              by_cases h2 : sk.mn = t0.mn
              · have d2 : (sk.mn != t0.mn) = false := by simp [h2]
                by_cases h3 : sk.d.length = t0.d.length
                · have d3 : ((sk.d.length : Int) != (t0.d.length : Int)) = false := by simp [h3]
                  by_cases h4 : 1 ≤ sk.ix
                  · have d4 : decide (sk.ix < 1) = false := decide_eq_false (by omega)
                    by_cases h5 : sk.ix ≤ t0.mn
                    · have d5 : decide (t0.mn < sk.ix) = false := decide_eq_false (by omega)
                      by_cases h6 : pi < sk.ix
                      · have d6 : decide (sk.ix ≤ pi) = false := decide_eq_false (by omega)
                        have HOK := Lib.hid (HG.out _ HLA.out ⟨h1, h2, h3, h6, h5⟩)
                        clear h1 h2 h3 HG HF
                        go_wp2_with fail
                        go_quiet (fail)
                        go_wp2
                        go_roundw
                        case rel => exact ⟨k' + 1 + 1, by omega, by go_num, HOK.out, HBN0.out _⟩
                        case measure => simp [intOf]; omega
                      · have d6 : decide (sk.ix ≤ pi) = true := decide_eq_true (by omega)
                        have HN := Lib.hid (HF.out _ HLA.out (fun h => by have := h.2.2.2.1; omega))
                        clear HG HF
                        try clear h1
                        try clear h2
                        try clear h3
                        go_wp2_with fail
                        go_quiet (fail)
                        go_wp2
                        go_ret
                        exact ⟨by rw [HN.out]; rfl, HBN.out _⟩
                    · have d5 : decide (t0.mn < sk.ix) = true := decide_eq_true (by omega)
                      have HN := Lib.hid (HF.out _ HLA.out (fun h => by have := h.2.2.2.2; omega))
                      clear HG HF
                      try clear h1
                      try clear h2
                      try clear h3
                      go_wp2_with fail
                      go_quiet (fail)
                      go_wp2
                      go_ret
                      exact ⟨by rw [HN.out]; rfl, HBN.out _⟩
                  · have d4 : decide (sk.ix < 1) = true := decide_eq_true (by omega)
                    have HN := Lib.hid (HF.out _ HLA.out (fun h => by have := h.2.2.2.1; omega))
                    clear HG HF
                    try clear h1
                    try clear h2
                    try clear h3
                    go_wp2_with fail
                    go_quiet (fail)
                    go_wp2
                    go_ret
                    exact ⟨by rw [HN.out]; rfl, HBN.out _⟩
                · have d3 : ((sk.d.length : Int) != (t0.d.length : Int)) = true := by simp; omega
                  have HN := Lib.hid (HF.out _ HLA.out (fun h => by have := h.2.2.1; omega))
                  clear HG HF
                  try clear h1
                  try clear h2
                  try clear h3
                  go_wp2_with fail
                  go_quiet (fail)
                  go_wp2
                  go_ret
                  exact ⟨by rw [HN.out]; rfl, HBN.out _⟩
              · have d2 : (sk.mn != t0.mn) = true := by simp; omega
                have HN := Lib.hid (HF.out _ HLA.out (fun h => by have := h.2.1; omega))
                clear HG HF
                try clear h1
                try clear h2
                try clear h3
                go_wp2_with fail
                go_quiet (fail)
                go_wp2
                go_ret
                exact ⟨by rw [HN.out]; rfl, HBN.out _⟩
            · have d1 : (sk.th != t0.th) = true := by simp; omega
              have HN := Lib.hid (HF.out _ HLA.out (fun h => by have := h.1; omega))
              clear HG HF
              try clear h1
              try clear h2
              try clear h3
              go_wp2_with fail
              go_quiet (fail)
              go_wp2
              go_ret
              exact ⟨by rw [HN.out]; rfl, HBN.out _⟩
        · obtain rfl : k = n := by omega
          have HN := Lib.hid (HY.out (fun j hj => HALL.out j (by rw [Shr.vals_len, HL.out] at hj; exact hj)))
          go_wp2
          go_ret
          exact ⟨by rw [HN.out]; rfl, HB.out⟩
    · have HN := Lib.hid (Shr.alike_no (Shr.vals xs) (fun h => hh (by rw [← HV0.out]; exact h.2)))
      unfold Shr.headOk at hh
      generalize (xs[0]!).s = s0 at *
      by_cases h1 : 1 ≤ s0.th
      · have d1 : decide (s0.th < 1) = false := decide_eq_false (by omega)
        by_cases h2 : s0.th ≤ s0.mn
        · have d2 : decide (s0.mn < s0.th) = false := decide_eq_false (by omega)
          by_cases h3 : s0.mn ≤ 8
          · have d3 : decide (8 < s0.mn) = false := decide_eq_false (by omega)
            by_cases h4 : s0.d.length ≤ 64
            · have d4 : decide ((64 : Int) < (s0.d.length : Int)) = false := decide_eq_false (by omega)
              exact absurd ⟨h1, h2, h3, h4⟩ hh
            · have d4 : decide ((64 : Int) < (s0.d.length : Int)) = true := decide_eq_true (by omega)
              clear hh
              go_enter Tryd.func89, Tryd.ntmps89
              go_wp2_with fail
              go_ret
              exact ⟨by rw [HN.out]; rfl, (Below.refl _ _).alloc (Nat.le_refl _) _⟩
          · have d3 : decide (8 < s0.mn) = true := decide_eq_true (by omega)
            clear hh
            go_enter Tryd.func89, Tryd.ntmps89
            go_wp2_with fail
            go_ret
            exact ⟨by rw [HN.out]; rfl, (Below.refl _ _).alloc (Nat.le_refl _) _⟩
        · have d2 : decide (s0.mn < s0.th) = true := decide_eq_true (by omega)
          clear hh
          go_enter Tryd.func89, Tryd.ntmps89
          go_wp2_with fail
          go_ret
          exact ⟨by rw [HN.out]; rfl, (Below.refl _ _).alloc (Nat.le_refl _) _⟩
      · have d1 : decide (s0.th < 1) = true := decide_eq_true (by omega)
        clear hh
        go_enter Tryd.func89, Tryd.ntmps89
        go_wp2_with fail
        go_ret
        exact ⟨by rw [HN.out]; rfl, (Below.refl _ _).alloc (Nat.le_refl _) _⟩

set_option maxRecDepth 100000 in
set_option maxHeartbeats 2000000 in
theorem Shr.rcheck_any (A : Option Addr) (n c : Nat) (xs : List Shr.C) (w : World) (hr : Shr.Rds w A n xs) (hn : n ≤ maxLen) :
    Calls Tryd.prog 72 #[.slice A n c] w fun e w' => e = .returned (.int .i64 (Shr.chkE (Shr.vals xs))) ∧ Below w.heap.size w w' := by
  cases ha : Shr.alikeB (Shr.vals xs) with
  | false =>
    have HN := Lib.hid (show Shr.chkE (Shr.vals xs) = 60 by rw [Shr.chkE, ha]; rfl)
    have HA := Lib.hid ha
    clear ha
    go_enter Tryd.func72, Tryd.ntmps72
    go_wp2_with fail
    refine (Shr.ralike_any A n c xs w hr hn).mono ?_
    rintro e w1 ⟨rfl, hb1⟩
    rw [HA.out]
    have HB1 := Lib.hid hb1
    clear hb1
    go_wp2_with fail
    go_ret
    exact ⟨by rw [HN.out]; rfl, HB1.out⟩
  | true =>
    have HA := Lib.hid ha
    have HBAD := Lib.hid (fun k hk => Shr.eps_bad (Shr.vals xs) ha k hk)
    have HY := Lib.hid (Shr.eps_yes (Shr.vals xs) ha)
    have HL := Lib.hid hr.len
    have hpos : 0 < n := by have := Shr.alikeB_len _ ha; rw [Shr.vals_len, hr.len] at this; exact this
    obtain ⟨b, off, rfl, _⟩ := hr.first hpos
    have HV0 := Lib.hid (Shr.vals_at xs 0 (by rw [hr.len]; exact hpos))
    have HR := Lib.hid hr
    clear ha hr
    go_enter Tryd.func72, Tryd.ntmps72
    go_wp2_with fail
    refine (Shr.ralike_any (some ⟨b, off, none⟩) n c xs w HR.out hn).mono ?_
    rintro e w1 ⟨rfl, hb1⟩
    rw [HA.out]
    have HB1 := Lib.hid hb1
    clear hb1
    unfold maxLen at hn
    go_wp2_with fail
    go_loopw [3] (fun i wr => ∃ k : Nat, k ≤ n ∧ i = .int .i64 k ∧ (∀ j, j < k → Shr.epAt (Shr.vals xs) j) ∧ Below w.heap.size w wr) (fun i _ => n - (intOf i).toNat)
    case atStart => exact ⟨0, by omega, rfl, fun j hj => absurd hj (by omega), HB1.out⟩
    case round =>
      obtain ⟨k, hk, rfl, hall, hB⟩ := hrel
      have HALL := Lib.hid hall
      have HB := Lib.hid hB
      clear hall hB
      by_cases hlt : k < n
      · obtain ⟨hbw, e0, e1, e2, e3, e4⟩ := (HR.out.keep HB.out).at2 k hlt
        obtain ⟨_, f0, _, _, _, _⟩ := (HR.out.keep HB.out).first2 hpos
        have HVK := Lib.hid (Shr.vals_at xs k (by rw [HL.out]; exact hlt))
        have hG : (∀ (sk s0 : Shr.S), sk = (xs[k]!).s → s0 = (xs[0]!).s → (sk.ep = s0.ep ∧ 0 ≤ sk.ep ∧ sk.ep ≤ 1048576) → ∀ j, j < k + 1 → Shr.epAt (Shr.vals xs) j) := by
          rintro _ _ rfl rfl h j hj
          by_cases hjk : j = k
          · subst hjk; unfold Shr.epAt; rw [HVK.out, HV0.out]; exact h
          · exact HALL.out j (by omega)
        have hF : (∀ (sk s0 : Shr.S), sk = (xs[k]!).s → s0 = (xs[0]!).s → ¬ (sk.ep = s0.ep ∧ 0 ≤ sk.ep ∧ sk.ep ≤ 1048576) → Shr.chkE (Shr.vals xs) = 61) := by
          rintro _ _ rfl rfl h
          refine HBAD.out k (by rw [Shr.vals_len, HL.out]; exact hlt) (fun h2 => h ?_)
          unfold Shr.epAt at h2
          rw [HVK.out, HV0.out] at h2
          exact h2
        obtain ⟨sk, hsk⟩ : ∃ sk, sk = (xs[k]!).s := ⟨_, rfl⟩
        obtain ⟨s0, hs0⟩ : ∃ s0, s0 = (xs[0]!).s := ⟨_, rfl⟩
        have HG := Lib.hid (hG sk s0 hsk hs0)
        have HF := Lib.hid (hF sk s0 hsk hs0)
        rw [← hsk] at e0 e1 e2 e3 e4
        rw [← hs0] at f0
        generalize (xs[k]!).A = Ak at e4
        generalize (xs[k]!).c = ck at e4
        clear hG hF hsk hs0
        have i1 : (0 : Int) ≤ (k : Int) := by omega
        have i2 : (k : Int) < (n : Int) := by omega
        have i3 : (0 : Int) < (n : Int) := by omega
        by_cases h1 : sk.ep = s0.ep
        · have d1 : (sk.ep != s0.ep) = false := by simp [h1]
          by_cases h2 : 0 ≤ sk.ep
          · have d2 : decide (sk.ep < 0) = false := decide_eq_false (by omega)
            by_cases h3 : sk.ep ≤ 1048576
            · have d3 : decide (1048576 < sk.ep) = false := decide_eq_false (by omega)
              have HOK := Lib.hid (HG.out ⟨h1, h2, h3⟩)
              clear h1
              go_wp2_with fail
              go_quiet (fail)
              go_wp2
              go_roundw
              case rel => exact ⟨k + 1, by omega, by go_num, HOK.out, below_drewN HB.out _⟩
              case measure => simp [intOf]; omega
            · have d3 : decide (1048576 < sk.ep) = true := decide_eq_true (by omega)
              have HN := Lib.hid (HF.out (fun h => h3 h.2.2))
              clear h1 h2 h3
              go_wp2_with fail
              go_quiet (fail)
              go_wp2
              go_ret
              exact ⟨by rw [HN.out]; rfl, below_drewN HB.out _⟩
          · have d2 : decide (sk.ep < 0) = true := decide_eq_true (by omega)
            have HN := Lib.hid (HF.out (fun h => h2 h.2.1))
            clear h1 h2
            go_wp2_with fail
            go_quiet (fail)
            go_wp2
            go_ret
            exact ⟨by rw [HN.out]; rfl, below_drewN HB.out _⟩
        · have d1 : (sk.ep != s0.ep) = true := by simp; omega
          have HN := Lib.hid (HF.out (fun h => h1 h.1))
          clear h1
          go_wp2_with fail
          go_quiet (fail)
          go_wp2
          go_ret
          exact ⟨by rw [HN.out]; rfl, below_drewN HB.out _⟩
      · obtain rfl : k = n := by omega
        have HN := Lib.hid (HY.out (fun j hj => HALL.out j (by rw [Shr.vals_len, HL.out] at hj; exact hj)))
        go_wp2
        go_ret
        exact ⟨by rw [HN.out]; rfl, HB.out⟩
end Go.Proofs.YtideglpjgplpnaaDoor
