/- Contract of clocks.May: for every clock, time and stamp. -/
import Derived.Test.YtnbbleajbbgmjaaDoorClkW1
namespace Go.Proofs.YtnbbleajbbgmjaaDoor
open Go.RowKit
set_option linter.unusedVariables false

theorem Clk.check_any (s er d : Int) (w : World) :
    Calls Tryd.prog 38 #[.agg #[.int .i64 s, .int .i64 er, .int .i64 d]] w fun e w' => e = .returned (.int .i64 (Clk.chkE s er d)) ∧ Below w.heap.size w w' := by
  cases h : Clk.okB s er d with
  | true => exact (Clk.check_ok s er d w h).mono fun _ _ ⟨he, hb⟩ => ⟨by rw [he, Clk.chkE, if_pos h], hb⟩
  | false => exact (Clk.check_no s er d w h).mono fun _ _ ⟨he, hb⟩ => ⟨by rw [he, Clk.chkE, if_neg (by rw [h]; decide)], hb⟩

theorem Clk.may_any (s er d t x : Int) (w : World) :
    Calls Tryd.prog 23 #[.agg #[.int .i64 s, .int .i64 er, .int .i64 d], .int .i64 t, .int .i64 x] w fun e w' => e = .returned (.tuple #[.bool (Clk.mayB s er d t x), .int .i64 (Clk.mayE s er d t x)]) ∧ Below w.heap.size w w' := by
  cases h : Clk.okB s er d with
  | false =>
    have e1 := Lib.hid (show Clk.mayB s er d t x = false by simp [Clk.mayB, h])
    have e2 := Lib.hid (show Clk.mayE s er d t x = 490 by simp [Clk.mayE, h])
    have H := Lib.hid h
    clear h
    go_enter Tryd.func23, Tryd.ntmps23
    go_wp2_with (go_at_call 38; refine (Clk.check_no _ _ _ _ H.out).mono ?_; rintro e w1 ⟨rfl, hb⟩)
    go_ret2
    exact ⟨by rw [e1.out, e2.out]; rfl, (((Below.refl _ _).alloc (Nat.le_refl _) _).trans (hb.mono (by simp)))⟩
  | true =>
    have H := Lib.hid h
    clear h
    cases ht : Clk.tmB t with
    | false =>
      have e1 := Lib.hid (show Clk.mayB s er d t x = false by simp [Clk.mayB, ht])
      have e2 := Lib.hid (show Clk.mayE s er d t x = 1 by simp [Clk.mayE, H.out, ht])
      go_enter Tryd.func23, Tryd.ntmps23
      go_wp2_with (first | (go_at_call 38; refine (Clk.check_ok _ _ _ _ H.out).mono ?_; rintro e w1 ⟨rfl, hb⟩) | (go_at_call 50; refine (Clk.valid_any _ _).mono ?_; rintro e w2 ⟨rfl, rfl⟩))
      go_ret2
      exact ⟨by rw [e1.out, e2.out]; rfl, (((Below.refl _ _).alloc (Nat.le_refl _) _).trans (hb.mono (by simp)))⟩
    | true =>
      cases hx : Clk.tmB x with
      | false =>
        have e1 := Lib.hid (show Clk.mayB s er d t x = false by simp [Clk.mayB, hx])
        have e2 := Lib.hid (show Clk.mayE s er d t x = 1 by simp [Clk.mayE, H.out, hx])
        go_enter Tryd.func23, Tryd.ntmps23
        go_wp2_with (first | (go_at_call 38; refine (Clk.check_ok _ _ _ _ H.out).mono ?_; rintro e w1 ⟨rfl, hb⟩) | (go_at_call 50; refine (Clk.valid_any _ _).mono ?_; rintro e w2 ⟨rfl, rfl⟩))
        go_ret2
        exact ⟨by rw [e1.out, e2.out]; rfl, (((Below.refl _ _).alloc (Nat.le_refl _) _).trans (hb.mono (by simp)))⟩
      | true =>
        have e1 := Lib.hid (show Clk.mayB s er d t x = Clk.shB s er d t x by simp [Clk.mayB, hx, ht, H.out])
        have e2 := Lib.hid (show Clk.mayE s er d t x = 0 by simp [Clk.mayE, H.out, hx, ht])
        have Ht := Lib.hid ht
        have Hx := Lib.hid hx
        go_enter Tryd.func23, Tryd.ntmps23
        go_wp2_with (first | (go_at_call 38; refine (Clk.check_ok _ _ _ _ H.out).mono ?_; rintro e w1 ⟨rfl, hb⟩; obtain ⟨hc, hf⟩ := bcell hb) | (go_at_call 50; refine (Clk.valid_any _ _).mono ?_; rintro e w2 ⟨rfl, rfl⟩) | (go_at_call 51; refine (Clk.shows_any _ _ _ _ _ _ H.out Ht.out Hx.out).mono ?_; rintro e w3 ⟨rfl, hb3⟩))
        go_ret2
        exact ⟨by rw [e1.out, e2.out]; rfl, ((((Below.refl _ _).alloc (Nat.le_refl _) _).trans (hb.mono (by simp)))).trans (hb3.mono (by have := hb.size; simp at this; omega))⟩

end Go.Proofs.YtnbbleajbbgmjaaDoor
