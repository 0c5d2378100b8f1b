/- The law ReceiptsBefore returns true, if sane does. -/
import Derived.Test.YtnbbleajbbgmjaaDoorRcW9
namespace Go.Proofs.YtnbbleajbbgmjaaDoor
open Go.RowKit
set_option linter.unusedVariables false

/-- the state behind the three calls of the law -/
def Rc.midB (w W : World) (a0 a1 b0 b1 c0 c1 s t : Int) (ab bc ac : Bool) : Exit → Act → World → Prop := fun e a' W' => e = .normal ∧ ∃ (u17 u18 u19 u20 u21 u22 u23 u24 u25 u26 u27 u28 u29 u30 u31 u32 u33 u34 u35 : Value), a' = { tmps := #[.agg #[Rc.i a0, Rc.i a1], .agg #[Rc.i b0, Rc.i b1], .agg #[Rc.i c0, Rc.i c1], Rc.i s, Rc.i t, .pointer (some ⟨w.heap.size, 0, none⟩), .pointer (some ⟨w.heap.size + 1, 0, none⟩), .pointer (some ⟨w.heap.size + 1 + 1, 0, none⟩), undef, undef, .bool false, .bool ab, .bool bc, .bool ac, undef, .bool true, .bool false, u17, u18, u19, u20, u21, u22, u23, u24, u25, u26, u27, u28, u29, u30, u31, u32, u33, u34, u35, .agg #[Rc.i a0, Rc.i a1], .agg #[Rc.i b0, Rc.i b1], .bool ab, .agg #[Rc.i b0, Rc.i b1], .agg #[Rc.i c0, Rc.i c1], .bool bc, .agg #[Rc.i a0, Rc.i a1], .agg #[Rc.i c0, Rc.i c1], .bool ac, undef, undef, undef, undef, undef, undef, undef, undef, undef, undef, undef, undef, undef, undef, undef, undef, undef, undef, undef, undef, undef, undef, undef, undef, undef, undef, undef, undef, undef, undef, undef, undef, undef, undef, undef, undef, undef, undef, undef, undef, undef, undef, undef, undef, undef, undef, undef, undef, undef, undef, undef, undef, undef, undef], defers := [] } ∧ Below W.heap.size W W'
set_option maxRecDepth 100000 in
set_option maxHeartbeats 8000000 in
theorem Rc.before_law (K : List UInt32) (I : Dg.S) (hsn : ∀ W, Dg.G W K I → Calls Tryd.prog 10 #[] W fun e w' => e = .returned (.bool true) ∧ Below W.heap.size W w') (a0 a1 b0 b1 c0 c1 s t : Int) (w : World) (hG : Dg.G w K I) :
    Calls Tryd.prog 7 #[.agg #[Rc.i a0, Rc.i a1], .agg #[Rc.i b0, Rc.i b1], .agg #[Rc.i c0, Rc.i c1], Rc.i s, Rc.i t] w fun e w' => e = .returned (.bool true) ∧ Below w.heap.size w w' := by
  have HG := Lib.hid hG
  have HSN := Lib.hid hsn
  have HS0 := Lib.hid (show St w (((w.alloc (.cells #[Rc.i a0, Rc.i a1] 38)).alloc (.cells #[Rc.i b0, Rc.i b1] 38)).alloc (.cells #[Rc.i c0, Rc.i c1] 38)) [(w.heap.size + 1 + 1, 38, [Rc.i c0, Rc.i c1]), (w.heap.size + 1, 38, [Rc.i b0, Rc.i b1]), (w.heap.size, 38, [Rc.i a0, Rc.i a1])] from by
    have h := (((St.start w).new 38 [Rc.i a0, Rc.i a1]).new 38 [Rc.i b0, Rc.i b1]).new 38 [Rc.i c0, Rc.i c1]
    simp only [World.size_alloc] at h
    exact h)
  clear hG hsn
  by_cases hA : a1 < a0
  · go_enter Tryd.func7, Tryd.ntmps7
    go_wp2_with fail
    ((with_reducible refine (HSN.out _ (HG.out.keep HS0.out.below)).mono ?_); rintro e w1 ⟨rfl, hb⟩)
    have HS1 := Lib.hid (HS0.out.keep hb)
    obtain ⟨za, a_0, a_1⟩ := (HS1.out.nth 2 rfl).r2
    obtain ⟨zb, b_0, b_1⟩ := (HS1.out.nth 1 rfl).r2
    obtain ⟨zc, c_0, c_1⟩ := (HS1.out.nth 0 rfl).r2
    clear hb
    go_wp2_with fail
    go_ret
    exact ⟨rfl, HS1.out.below⟩
  by_cases hB : b1 < b0
  · have hA' : a0 ≤ a1 := by omega
    go_enter Tryd.func7, Tryd.ntmps7
    go_wp2_with fail
    ((with_reducible refine (HSN.out _ (HG.out.keep HS0.out.below)).mono ?_); rintro e w1 ⟨rfl, hb⟩)
    have HS1 := Lib.hid (HS0.out.keep hb)
    obtain ⟨za, a_0, a_1⟩ := (HS1.out.nth 2 rfl).r2
    obtain ⟨zb, b_0, b_1⟩ := (HS1.out.nth 1 rfl).r2
    obtain ⟨zc, c_0, c_1⟩ := (HS1.out.nth 0 rfl).r2
    clear hb
    go_wp2_with fail
    go_ret
    exact ⟨rfl, HS1.out.below⟩
  by_cases hC : c1 < c0
  · have hA' : a0 ≤ a1 := by omega
    have hB' : b0 ≤ b1 := by omega
    go_enter Tryd.func7, Tryd.ntmps7
    go_wp2_with fail
    ((with_reducible refine (HSN.out _ (HG.out.keep HS0.out.below)).mono ?_); rintro e w1 ⟨rfl, hb⟩)
    have HS1 := Lib.hid (HS0.out.keep hb)
    obtain ⟨za, a_0, a_1⟩ := (HS1.out.nth 2 rfl).r2
    obtain ⟨zb, b_0, b_1⟩ := (HS1.out.nth 1 rfl).r2
    obtain ⟨zc, c_0, c_1⟩ := (HS1.out.nth 0 rfl).r2
    clear hb
    go_wp2_with fail
    go_ret
    exact ⟨rfl, HS1.out.below⟩
  have hA' : a0 ≤ a1 := by omega
  have hB' : b0 ≤ b1 := by omega
  have hC' : c0 ≤ c1 := by omega
  obtain ⟨ab, hab0⟩ : ∃ ab, ab = decide (a1 < b0) := ⟨_, rfl⟩
  obtain ⟨bc, hbc0⟩ : ∃ bc, bc = decide (b1 < c0) := ⟨_, rfl⟩
  obtain ⟨ac, hac0⟩ : ∃ ac, ac = decide (a1 < c0) := ⟨_, rfl⟩
  have HAB := Lib.hid (fun W => Rc.Before_any a0 a1 b0 b1 W)
  have HBC := Lib.hid (fun W => Rc.Before_any b0 b1 c0 c1 W)
  have HACC := Lib.hid (fun W => Rc.Before_any a0 a1 c0 c1 W)
  have HAA := Lib.hid (fun W => Rc.Before_any a0 a1 a0 a1 W)
  have HBA := Lib.hid (fun W => Rc.Before_any b0 b1 a0 a1 W)
  rw [← hab0] at HAB
  rw [← hbc0] at HBC
  rw [← hac0] at HACC
  rw [show decide (a1 < a0) = false from decide_eq_false (by omega)] at HAA
  have HABT := Lib.hid (show ab = true → a1 < b0 from fun h => by rw [hab0] at h; exact of_decide_eq_true h)
  have HAC := Lib.hid (show ab = true → bc = true → ac = true from fun h1 h2 => by
    rw [hab0] at h1; rw [hbc0] at h2; rw [hac0]
    have := of_decide_eq_true h1; have := of_decide_eq_true h2
    exact decide_eq_true (by omega))
  have HBAF := Lib.hid (show ab = true → decide (b1 < a0) = false from fun h1 => by
    rw [hab0] at h1
    have := of_decide_eq_true h1
    exact decide_eq_false (by omega))
  clear hA hB hC hab0 hbc0 hac0
  go_enter Tryd.func7, Tryd.ntmps7
  go_wp2_with fail
  ((with_reducible refine (HSN.out _ (HG.out.keep HS0.out.below)).mono ?_); rintro e w1 ⟨rfl, hb⟩)
  have HS1 := Lib.hid (HS0.out.keep hb)
  obtain ⟨za, a_0, a_1⟩ := (HS1.out.nth 2 rfl).r2
  obtain ⟨zb, b_0, b_1⟩ := (HS1.out.nth 1 rfl).r2
  obtain ⟨zc, c_0, c_1⟩ := (HS1.out.nth 0 rfl).r2
  clear hb
  go_upto_region 5 with fail
  refine Code.wp_mono (Q := Rc.midB w w1 a0 a1 b0 b1 c0 c1 s t ab bc ac) ?tail ?region
  case region =>
    have s0 : Below w1.heap.size w1 w1.drew := (Below.refl _ w1).drew
    have KP := Lib.hid (fun (w' : World) (h : Below w1.heap.size w1 w') => (⟨((HS1.out.nth 2 rfl).keep h).cell 0, ((HS1.out.nth 2 rfl).keep h).cell 1, ((HS1.out.nth 1 rfl).keep h).cell 0, ((HS1.out.nth 1 rfl).keep h).cell 1, ((HS1.out.nth 0 rfl).keep h).cell 0, ((HS1.out.nth 0 rfl).keep h).cell 1, h⟩ : w'.cell? ⟨w.heap.size, 0, none⟩ = some (Rc.i a0) ∧ w'.cell? ⟨w.heap.size, 1, none⟩ = some (Rc.i a1) ∧ w'.cell? ⟨w.heap.size + 1, 0, none⟩ = some (Rc.i b0) ∧ w'.cell? ⟨w.heap.size + 1, 1, none⟩ = some (Rc.i b1) ∧ w'.cell? ⟨w.heap.size + 1 + 1, 0, none⟩ = some (Rc.i c0) ∧ w'.cell? ⟨w.heap.size + 1 + 1, 1, none⟩ = some (Rc.i c1) ∧ Below w1.heap.size w1 w'))
    go_region_held3 (fun w' => w'.cell? ⟨w.heap.size, 0, none⟩ = some (Rc.i a0) ∧ w'.cell? ⟨w.heap.size, 1, none⟩ = some (Rc.i a1) ∧ w'.cell? ⟨w.heap.size + 1, 0, none⟩ = some (Rc.i b0) ∧ w'.cell? ⟨w.heap.size + 1, 1, none⟩ = some (Rc.i b1) ∧ w'.cell? ⟨w.heap.size + 1 + 1, 0, none⟩ = some (Rc.i c0) ∧ w'.cell? ⟨w.heap.size + 1 + 1, 1, none⟩ = some (Rc.i c1) ∧ Below w1.heap.size w1 w')
      (first | exact KP.out _ (by assumption))
      (first
        | (go_at_call 20; (with_reducible refine (HAB.out _).mono ?_); rintro e w2 ⟨rfl, hb⟩; have s2 := Below.trans (by assumption) (Below.mono hb (Below.size (by assumption))))
        | (go_at_call 20; (with_reducible refine (HBC.out _).mono ?_); rintro e w2 ⟨rfl, hb⟩; have s2 := Below.trans (by assumption) (Below.mono hb (Below.size (by assumption))))
        | (go_at_call 20; (with_reducible refine (HACC.out _).mono ?_); rintro e w2 ⟨rfl, hb⟩; have s2 := Below.trans (by assumption) (Below.mono hb (Below.size (by assumption)))))
    all_goals exact ⟨rfl, _, _, _, _, _, _, _, _, _, _, _, _, _, _, _, _, _, _, _, rfl, s2⟩
  case tail =>
    rintro e a' W' ⟨rfl, u17, u18, u19, u20, u21, u22, u23, u24, u25, u26, u27, u28, u29, u30, u31, u32, u33, u34, u35, rfl, hBW⟩
    have HS2 := Lib.hid (HS1.out.keep hBW)
    clear hBW za zb zc a_0 a_1 b_0 b_1 c_0 c_1
    obtain ⟨za, a_0, a_1⟩ := (HS2.out.nth 2 rfl).r2
    obtain ⟨zb, b_0, b_1⟩ := (HS2.out.nth 1 rfl).r2
    obtain ⟨zc, c_0, c_1⟩ := (HS2.out.nth 0 rfl).r2
    cases hab : ab with
    | false =>
      subst hab
      go_wp2_with fail
      ((with_reducible refine (HAA.out _).mono ?_); rintro e w3 ⟨rfl, hb⟩)
      have HS3 := Lib.hid (HS2.out.keep hb)
      clear hb za zb zc a_0 a_1 b_0 b_1 c_0 c_1
      obtain ⟨za, a_0, a_1⟩ := (HS3.out.nth 2 rfl).r2
      obtain ⟨zb, b_0, b_1⟩ := (HS3.out.nth 1 rfl).r2
      obtain ⟨zc, c_0, c_1⟩ := (HS3.out.nth 0 rfl).r2
      have H89 := trivial
      by_cases h0 : a0 ≤ s
      · by_cases h1 : s ≤ a1
        · by_cases h2 : b0 ≤ t
          · by_cases h3 : t ≤ b1
            · go_wp2_with fail
              go_ret
              exact ⟨by first | rfl | simp_all | (simp; omega), HS3.out.below⟩
            · go_wp2_with fail
              go_ret
              exact ⟨by first | rfl | simp_all | (simp; omega), HS3.out.below⟩
          · go_wp2_with fail
            go_ret
            exact ⟨by first | rfl | simp_all | (simp; omega), HS3.out.below⟩
        · go_wp2_with fail
          go_ret
          exact ⟨by first | rfl | simp_all | (simp; omega), HS3.out.below⟩
      · go_wp2_with fail
        go_ret
        exact ⟨by first | rfl | simp_all | (simp; omega), HS3.out.below⟩
    | true =>
      subst hab
      rw [HBAF.out (by first | rfl | trivial)] at HBA
      go_wp2_with fail
      ((with_reducible refine (HAA.out _).mono ?_); rintro e w3 ⟨rfl, hb⟩)
      have HS3 := Lib.hid (HS2.out.keep hb)
      clear hb za zb zc a_0 a_1 b_0 b_1 c_0 c_1
      obtain ⟨za, a_0, a_1⟩ := (HS3.out.nth 2 rfl).r2
      obtain ⟨zb, b_0, b_1⟩ := (HS3.out.nth 1 rfl).r2
      obtain ⟨zc, c_0, c_1⟩ := (HS3.out.nth 0 rfl).r2
      go_wp2_with fail
      ((with_reducible refine (HBA.out _).mono ?_); rintro e w4 ⟨rfl, hb⟩)
      have HS4 := Lib.hid (HS3.out.keep hb)
      clear hb za zb zc a_0 a_1 b_0 b_1 c_0 c_1
      obtain ⟨za, a_0, a_1⟩ := (HS4.out.nth 2 rfl).r2
      obtain ⟨zb, b_0, b_1⟩ := (HS4.out.nth 1 rfl).r2
      obtain ⟨zc, c_0, c_1⟩ := (HS4.out.nth 0 rfl).r2
      cases hbc : bc with
      | false =>
        subst hbc
        by_cases h0 : a0 ≤ s
        · by_cases h1 : s ≤ a1
          · by_cases h2 : b0 ≤ t
            · by_cases h3 : t ≤ b1
              · have hst : s < t := by have := HABT.out (by first | rfl | trivial); omega
                go_wp2_with fail
                go_ret
                exact ⟨by first | rfl | simp_all | (simp; omega), HS4.out.below⟩
              · go_wp2_with fail
                go_ret
                exact ⟨by first | rfl | simp_all | (simp; omega), HS4.out.below⟩
            · go_wp2_with fail
              go_ret
              exact ⟨by first | rfl | simp_all | (simp; omega), HS4.out.below⟩
          · go_wp2_with fail
            go_ret
            exact ⟨by first | rfl | simp_all | (simp; omega), HS4.out.below⟩
        · go_wp2_with fail
          go_ret
          exact ⟨by first | rfl | simp_all | (simp; omega), HS4.out.below⟩
      | true =>
        subst hbc
        obtain rfl : ac = true := HAC.out (by first | rfl | trivial) (by first | rfl | trivial)
        by_cases h0 : a0 ≤ s
        · by_cases h1 : s ≤ a1
          · by_cases h2 : b0 ≤ t
            · by_cases h3 : t ≤ b1
              · have hst : s < t := by have := HABT.out (by first | rfl | trivial); omega
                go_wp2_with fail
                go_ret
                exact ⟨by first | rfl | simp_all | (simp; omega), HS4.out.below⟩
              · go_wp2_with fail
                go_ret
                exact ⟨by first | rfl | simp_all | (simp; omega), HS4.out.below⟩
            · go_wp2_with fail
              go_ret
              exact ⟨by first | rfl | simp_all | (simp; omega), HS4.out.below⟩
          · go_wp2_with fail
            go_ret
            exact ⟨by first | rfl | simp_all | (simp; omega), HS4.out.below⟩
        · go_wp2_with fail
          go_ret
          exact ⟨by first | rfl | simp_all | (simp; omega), HS4.out.below⟩

end Go.Proofs.YtnbbleajbbgmjaaDoor
