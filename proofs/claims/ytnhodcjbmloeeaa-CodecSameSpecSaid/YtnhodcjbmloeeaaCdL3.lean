/- The law CodecSameSpec returns true. -/
import Derived.Test.YtnhodcjbmloeeaaCdG
namespace Go.Proofs.Ytnhodcjbmloeeaa
open Go.RowKit Go.Shelf
set_option linter.unusedVariables false

set_option maxRecDepth 100000 in
set_option maxHeartbeats 8000000 in
theorem Cd.law3 (a b : Cd.T) (cs ds : List Value) (w : World) (hca : Cd.CellB w w.heap.size a cs) (hcb : Cd.CellB w w.heap.size b ds) :
    Calls Try.prog 5 #[.agg cs.toArray, .agg ds.toArray] w fun e w' => e = .returned (.bool true) ∧ Below w.heap.size w w' := by
  obtain ⟨A, c, rfl⟩ := hca.spell
  obtain ⟨A', c', rfl⟩ := hcb.spell
  obtain ⟨w0, hw0⟩ : ∃ w0, w0 = (w.alloc (.cells #[.int .i64 a.k, .int .i64 a.n, .string ⟨a.s.toArray⟩, .slice A a.l.length c] 24)).alloc (.cells #[.int .i64 b.k, .int .i64 b.n, .string ⟨b.s.toArray⟩, .slice A' b.l.length c'] 24) := ⟨_, rfl⟩
  have X0 := Lib.hid (show Cd.P2 w w0 w.heap.size a A c (w.heap.size + 1) b A' c' by
    rw [hw0]
    refine ⟨below_two _ _ _, (Cd.Bx.new hca).keep ((Below.refl _ _).alloc (Nat.le_refl _) _), ?_⟩
    have h := Cd.Bx.new (w := w.alloc (.cells #[.int .i64 a.k, .int .i64 a.n, .string ⟨a.s.toArray⟩, .slice A a.l.length c] 24)) ((hcb.keep ((Below.refl _ _).alloc (Nat.le_refl _) _)).more (by simp))
    rw [World.size_alloc] at h
    exact h)
  have HW0 := Lib.hid hw0
  clear hw0 hca hcb
  go_enter Try.func5, Try.ntmps5
  go_upto_region 1 with fail
  rw [← HW0.out]
  go_wp2_with fail
  ((with_reducible refine (Cd.sane_any _).mono ?_); rintro e w1 ⟨rfl, hb1⟩)
  have X1 := Lib.hid (X0.out.keep hb1)
  clear hb1
  obtain ⟨z0, c0, c1, c2, c3⟩ := X1.out.bx.facts
  obtain ⟨z0', c0', c1', c2', c3'⟩ := X1.out.bx'.facts
  have HF := Lib.hid (Cd.few2 X1.out.bx X1.out.bx')
  go_wp2_with fail
  ((with_reducible refine HF.out.mono ?_); rintro e w2 ⟨v, rfl, hq, hb2⟩)
  have X2 := Lib.hid (X1.out.keep hb2)
  have HQ := Lib.hid hq
  clear hb2 hq z0 c0 c1 c2 c3 z0' c0' c1' c2' c3'
  cases v with
  | false =>
    go_wp2_with fail
    go_ret
    exact ⟨rfl, X2.out.below⟩
  | true =>
    have HA := Lib.hid (show a.hgt ≤ 1000000 by have := (HQ.out rfl).1.1; omega)
    have HB := Lib.hid (show b.hgt ≤ 1000000 by have := (HQ.out rfl).2.1; omega)
    obtain ⟨z0, _⟩ := X2.out.bx.facts
    obtain ⟨z0', _⟩ := X2.out.bx'.facts
    cases hab : a.sm b
    all_goals (
      have HAB := Lib.hid hab
      clear hab
      go_wp2_with fail
      have s0 : Cd.P2 w w2.drew w.heap.size a A c (w.heap.size + 1) b A' c' := X2.out.drew
      go_region_held3 (fun w' => w'.cell? ⟨w.heap.size, 0, none⟩ = some (.int .i64 a.k) ∧ w'.cell? ⟨w.heap.size, 1, none⟩ = some (.int .i64 a.n) ∧ w'.cell? ⟨w.heap.size, 2, none⟩ = some (.string ⟨a.s.toArray⟩) ∧ w'.cell? ⟨w.heap.size, 3, none⟩ = some (.slice A a.l.length c) ∧ w'.cell? ⟨w.heap.size + 1, 0, none⟩ = some (.int .i64 b.k) ∧ w'.cell? ⟨w.heap.size + 1, 1, none⟩ = some (.int .i64 b.n) ∧ w'.cell? ⟨w.heap.size + 1, 2, none⟩ = some (.string ⟨b.s.toArray⟩) ∧ w'.cell? ⟨w.heap.size + 1, 3, none⟩ = some (.slice A' b.l.length c') ∧ Cd.P2 w w' w.heap.size a A c (w.heap.size + 1) b A' c')
        (first | exact Cd.P2.cells (by assumption))
        (first
          | (go_at_call 20; (with_reducible refine (Cd.rsame_12 HA.out HAB.out (by assumption)).mono ?_); rintro e w5 ⟨rfl, s5⟩)
          | (go_at_call 21; (with_reducible refine (Cd.same_12 HA.out HAB.out (by assumption)).mono ?_); rintro e w5 ⟨rfl, s5⟩)
          | (go_at_call 21; (with_reducible refine (Cd.same_11 HA.out (by assumption)).mono ?_); rintro e w5 ⟨rfl, s5⟩)
          | (go_at_call 21; (with_reducible refine (Cd.same_22 HB.out (by assumption)).mono ?_); rintro e w5 ⟨rfl, s5⟩)))
    all_goals (
      have HX := Lib.hid s5.below
      clear s5 s0
      go_wp2_with fail
      go_ret
      exact ⟨rfl, HX.out⟩)
end Go.Proofs.Ytnhodcjbmloeeaa
