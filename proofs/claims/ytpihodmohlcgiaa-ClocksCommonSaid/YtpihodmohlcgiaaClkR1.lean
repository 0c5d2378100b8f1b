/- Contracts of the reference's Check, distance, Shows, May: for every argument, the same answers as the program's. -/
import Derived.Test.YtpihodmohlcgiaaClkW6
namespace Go.Proofs.Ytpihodmohlcgiaa
open Go.RowKit Go.Shelf
set_option linter.unusedVariables false

theorem Clk.rcheck_ok (s er d : Int) (w : World) (h : Clk.okB s er d = true) :
    Calls Try.prog 14 #[.agg #[.int .i64 s, .int .i64 er, .int .i64 d]] w fun e w' => e = .returned (.int .i64 0) ∧ Below w.heap.size w w' := by
  rw [Clk.okB_iff] at h
  obtain ⟨h1, h2, h3, h4, h5, h6⟩ := h
  go_enter Try.func14, Try.ntmps14
  go_wp2
  go_ret
  exact ⟨rfl, (Below.refl _ _).alloc (Nat.le_refl _) _⟩

theorem Clk.rcheck_no (s er d : Int) (w : World) (h : Clk.okB s er d = false) :
    Calls Try.prog 14 #[.agg #[.int .i64 s, .int .i64 er, .int .i64 d]] w fun e w' => e = .returned (.int .i64 490) ∧ Below w.heap.size w w' := by
  have h' : ¬ (0 ≤ s ∧ s ≤ 1048576 ∧ 0 ≤ er ∧ er ≤ 65536 ∧ 0 ≤ d ∧ d ≤ 999) := fun k => by rw [(Clk.okB_iff s er d).2 k] at h; cases h
  have HH := Lib.hid h'
  clear h h'
  go_enter Try.func14, Try.ntmps14
  go_wp2
  all_goals first
    | (go_ret; exact ⟨rfl, (Below.refl _ _).alloc (Nat.le_refl _) _⟩)
    | (exfalso; have := HH.out; omega)

theorem Clk.rdist_any (a b : Int) (w : World) (ha : 0 ≤ a) (ha' : a ≤ 2097152) (hb : 0 ≤ b) (hb' : b ≤ 2097152) :
    Calls Try.prog 26 #[.int .i64 a, .int .i64 b] w fun e w' => e = .returned (.int .i64 (Clk.apart a b)) ∧ w = w' := by
  by_cases h : a < b
  · have hv := Lib.hid (show Clk.apart a b = b - a by simp [Clk.apart, h])
    go_enter Try.func26, Try.ntmps26
    go_wp2
    go_ret
    exact ⟨by rw [hv.out]; rfl, rfl⟩
  · have hv := Lib.hid (show Clk.apart a b = a - b by simp [Clk.apart, h])
    go_enter Try.func26, Try.ntmps26
    go_wp2
    go_ret
    exact ⟨by rw [hv.out]; rfl, rfl⟩

theorem Clk.rshows_any (s er d t x : Int) (w : World) (ho : Clk.okB s er d = true) (ht : Clk.tmB t = true) (hx : Clk.tmB x = true) :
    Calls Try.prog 22 #[.agg #[.int .i64 s, .int .i64 er, .int .i64 d], .int .i64 t, .int .i64 x] w fun e w' => e = .returned (.bool (Clk.shB s er d t x)) ∧ Below w.heap.size w w' := by
  rw [Clk.okB_iff] at ho
  rw [Clk.tmB_iff] at ht hx
  obtain ⟨h1, h2, h3, h4, h5, h6⟩ := ho
  obtain ⟨t1, t2⟩ := ht
  obtain ⟨x1, x2⟩ := hx
  have p1 := Clk.apart_nn t s
  have p2 := Clk.apart_le t s t1 t2 h1 h2
  obtain ⟨q1, q2⟩ := Clk.prod_bd _ d p1 p2 h5 h6
  go_enter Try.func22, Try.ntmps22
  go_wp2
  go_quiet ((go_at_call 26; exact Go.Proofs.Ytpihodmohlcgiaa.quiet_left (Clk.rdist_any _ _ _ (by omega) (by omega) (by omega) (by omega))))
  go_wp2
  go_ret
  exact ⟨rfl, below_drewN ((Below.refl _ _).alloc (Nat.le_refl _) _) _⟩

theorem Clk.rcheck_any (s er d : Int) (w : World) :
    Calls Try.prog 14 #[.agg #[.int .i64 s, .int .i64 er, .int .i64 d]] w fun e w' => e = .returned (.int .i64 (Clk.chkE s er d)) ∧ Below w.heap.size w w' := by
  cases h : Clk.okB s er d with
  | true => exact (Clk.rcheck_ok s er d w h).mono fun _ _ ⟨he, hb⟩ => ⟨by rw [he, Clk.chkE, if_pos h], hb⟩
  | false => exact (Clk.rcheck_no s er d w h).mono fun _ _ ⟨he, hb⟩ => ⟨by rw [he, Clk.chkE, if_neg (by rw [h]; decide)], hb⟩


theorem Clk.rmay_any (s er d t x : Int) (w : World) :
    Calls Try.prog 12 #[.agg #[.int .i64 s, .int .i64 er, .int .i64 d], .int .i64 t, .int .i64 x] w fun e w' => e = .returned (.tuple #[.bool (Clk.mayB s er d t x), .int .i64 (Clk.mayE s er d t x)]) ∧ Below w.heap.size w w' := by
  cases h : Clk.okB s er d with
  | false =>
    have e1 := Lib.hid (show Clk.mayB s er d t x = false by simp [Clk.mayB, h])
    have e2 := Lib.hid (show Clk.mayE s er d t x = 490 by simp [Clk.mayE, h])
    have H := Lib.hid h
    clear h
    go_enter Try.func12, Try.ntmps12
    go_wp2_with (go_at_call 14; refine (Clk.rcheck_no _ _ _ _ H.out).mono ?_; rintro e w1 ⟨rfl, hb⟩)
    go_ret2
    exact ⟨by rw [e1.out, e2.out]; rfl, (((Below.refl _ _).alloc (Nat.le_refl _) _).trans (hb.mono (by simp)))⟩
  | true =>
    have H := Lib.hid h
    clear h
    by_cases hok : 0 ≤ t ∧ t ≤ 1048576 ∧ 0 ≤ x ∧ x ≤ 1048576
    · obtain ⟨t0, t1, x0, x1⟩ := hok
      have Ht := Lib.hid ((Clk.tmB_iff t).2 ⟨t0, t1⟩)
      have Hx := Lib.hid ((Clk.tmB_iff x).2 ⟨x0, x1⟩)
      have e1 := Lib.hid (show Clk.mayB s er d t x = Clk.shB s er d t x by simp [Clk.mayB, Hx.out, Ht.out, H.out])
      have e2 := Lib.hid (show Clk.mayE s er d t x = 0 by simp [Clk.mayE, H.out, Hx.out, Ht.out])
      go_enter Try.func12, Try.ntmps12
      go_wp2_with (first | (go_at_call 14; refine (Clk.rcheck_ok _ _ _ _ H.out).mono ?_; rintro e w1 ⟨rfl, hb⟩; obtain ⟨hc, hf⟩ := bcell hb) | (go_at_call 22; refine (Clk.rshows_any _ _ _ _ _ _ H.out Ht.out Hx.out).mono ?_; rintro e w3 ⟨rfl, hb3⟩))
      go_ret2
      exact ⟨by rw [e1.out, e2.out]; rfl, ((((Below.refl _ _).alloc (Nat.le_refl _) _).trans (hb.mono (by simp)))).trans (hb3.mono (by have := hb.size; simp at this; omega))⟩
    · have hn : (Clk.tmB t && Clk.tmB x) = false := by
        cases h1 : Clk.tmB t with
        | false => rfl
        | true => cases h2 : Clk.tmB x with
          | false => rfl
          | true => rw [Clk.tmB_iff] at h1 h2; exact absurd ⟨h1.1, h1.2, h2.1, h2.2⟩ hok
      have e1 := Lib.hid (show Clk.mayB s er d t x = false by simp [Clk.mayB, hn])
      have e2 := Lib.hid (show Clk.mayE s er d t x = 1 by simp [Clk.mayE, H.out, hn])
      have HN := Lib.hid hok
      clear hok hn
      go_enter Try.func12, Try.ntmps12
      go_wp2_with (go_at_call 14; refine (Clk.rcheck_ok _ _ _ _ H.out).mono ?_; rintro e w1 ⟨rfl, hb⟩; obtain ⟨hc, hf⟩ := bcell hb)
      all_goals first
        | (go_ret2; exact ⟨by rw [e1.out, e2.out]; rfl, (((Below.refl _ _).alloc (Nat.le_refl _) _).trans (hb.mono (by simp)))⟩)
        | (exfalso; have := HN.out; omega)

end Go.Proofs.Ytpihodmohlcgiaa
