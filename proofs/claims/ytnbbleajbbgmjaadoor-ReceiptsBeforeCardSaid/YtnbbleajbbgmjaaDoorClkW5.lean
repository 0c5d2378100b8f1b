/- Contracts of clocks.Times and clocks.Meet: for every argument. -/
import Derived.Test.YtnbbleajbbgmjaaDoorClkW4
namespace Go.Proofs.YtnbbleajbbgmjaaDoor
open Go.RowKit Go.Shelf
set_option linter.unusedVariables false

theorem Clk.last_any (s er d x step : Int) (bs bc : Nat) (w : World) (ho : Clk.okB s er d = true) (hx : Clk.tmB x = true) (hs : step = 1 ∨ step = -1)
    (hbs : bs < w.heap.size) (hbc : bc < w.heap.size) (cs : w.cell? ⟨bs, 0, none⟩ = some (.int .i64 x)) (c0 : w.cell? ⟨bc, 0, none⟩ = some (.int .i64 s)) (c1 : w.cell? ⟨bc, 1, none⟩ = some (.int .i64 er)) (c2 : w.cell? ⟨bc, 2, none⟩ = some (.int .i64 d)) :
    Calls Tryd.prog 52 #[.int .i64 step, .pointer (some ⟨bs, 0, none⟩), .pointer (some ⟨bc, 0, none⟩)] w fun e w' => e = .returned (.int .i64 (Clk.lastB s er d x step)) ∧ Below w.heap.size w w' :=
  callsIn_wide.1 (Clk.last_in 5 (Nat.le_refl _) s er d x step bs bc w ho hx hs hbs hbc cs c0 c1 c2)

theorem Clk.times_any (s er d x : Int) (w : World) :
    Calls Tryd.prog 24 #[.agg #[.int .i64 s, .int .i64 er, .int .i64 d], .int .i64 x] w fun e w' => e = .returned (.tuple #[.agg #[.int .i64 (Clk.timLo s er d x), .int .i64 (Clk.timHi s er d x)], .bool (Clk.timOk s er d x), .int .i64 (Clk.timE s er d x)]) ∧ Below w.heap.size w w' := by
  have hmf : ∀ (fn : Fn) (first cap : Array Value) (w : World), (Instr.makeFunc fn first cap).run Tryd.prog w = .ok (.func fn first cap) w := fun _ _ _ _ => rfl
  cases h : Clk.okB s er d with
  | false =>
    have e0 := Lib.hid (show Clk.timOk s er d x = false by simp [Clk.timOk, h])
    have e1 := Lib.hid (show Clk.timLo s er d x = 0 by simp [Clk.timLo, e0.out])
    have e2 := Lib.hid (show Clk.timHi s er d x = 0 by simp [Clk.timHi, e0.out])
    have e3 := Lib.hid (show Clk.timE s er d x = 490 by simp [Clk.timE, h])
    have H := Lib.hid h
    clear h
    go_enter Tryd.func24, Tryd.ntmps24
    go_wp2_with (go_at_call 38; refine (Clk.check_no _ _ _ _ H.out).mono ?_; rintro e w1 ⟨rfl, hb⟩; obtain ⟨hc, hf⟩ := bcell hb)
    refine bodyPost_ret (v := .tuple #[.agg #[.int .i64 0, .int .i64 0], .bool false, .int .i64 490]) (by simp [results, Tryd.results24, go_sem, hc]) rfl ⟨by rw [e0.out, e1.out, e2.out, e3.out], ?_⟩
    have h0 : Below w.heap.size w w1 := ((((Below.refl _ _).alloc (Nat.le_refl _) _).alloc (by simp) _).alloc (by simp; omega) _).trans (hb.mono (by simp; omega))
    exact (h0.setCell (by simp; omega) _).setCell (by simp; omega) _
  | true =>
    have H := Lib.hid h
    clear h
    cases hx : Clk.tmB x with
    | false =>
      have e0 := Lib.hid (show Clk.timOk s er d x = false by simp [Clk.timOk, hx])
      have e1 := Lib.hid (show Clk.timLo s er d x = 0 by simp [Clk.timLo, e0.out])
      have e2 := Lib.hid (show Clk.timHi s er d x = 0 by simp [Clk.timHi, e0.out])
      have e3 := Lib.hid (show Clk.timE s er d x = 1 by simp [Clk.timE, H.out, hx])
      go_enter Tryd.func24, Tryd.ntmps24
      go_wp2_with (first | (go_at_call 38; refine (Clk.check_ok _ _ _ _ H.out).mono ?_; rintro e w1 ⟨rfl, hb⟩; obtain ⟨hc, hf⟩ := bcell hb) | (go_at_call 50; refine (Clk.valid_any _ _).mono ?_; rintro e w2 ⟨rfl, rfl⟩))
      refine bodyPost_ret (v := .tuple #[.agg #[.int .i64 0, .int .i64 0], .bool false, .int .i64 1]) (by simp [results, Tryd.results24, go_sem, hc]) rfl ⟨by rw [e0.out, e1.out, e2.out, e3.out], ?_⟩
      have h0 : Below w.heap.size w w1 := ((((Below.refl _ _).alloc (Nat.le_refl _) _).alloc (by simp) _).alloc (by simp; omega) _).trans (hb.mono (by simp; omega))
      exact (h0.setCell (by simp; omega) _).setCell (by simp; omega) _
    | true =>
      have e0 := Lib.hid (show Clk.timOk s er d x = true by simp [Clk.timOk, hx, H.out])
      have e1 := Lib.hid (show Clk.timLo s er d x = Clk.lastB s er d x (-1) by simp [Clk.timLo, e0.out])
      have e2 := Lib.hid (show Clk.timHi s er d x = Clk.lastB s er d x 1 by simp [Clk.timHi, e0.out])
      have e3 := Lib.hid (show Clk.timE s er d x = 0 by simp [Clk.timE, H.out, hx])
      have HX := Lib.hid hx
      go_enter Tryd.func24, Tryd.ntmps24
      go_wp2_with (first | (go_at_call 38; refine (Clk.check_ok _ _ _ _ H.out).mono ?_; rintro e w1 ⟨rfl, hb⟩; obtain ⟨hc, hf⟩ := bcell hb) | (go_at_call 50; refine (Clk.valid_any _ _).mono ?_; rintro e w2 ⟨rfl, rfl⟩))
      have hz1 : w.heap.size + 3 ≤ w1.heap.size := by have := hb.size; simp at this; omega
      have k0 : w1.cell? ⟨w.heap.size, 0, none⟩ = some (.int .i64 s) := (hc _ _ (by simp; omega)).trans (by simp [go_sem])
      have k1 : w1.cell? ⟨w.heap.size, 1, none⟩ = some (.int .i64 er) := (hc _ _ (by simp; omega)).trans (by simp [go_sem])
      have k2 : w1.cell? ⟨w.heap.size, 2, none⟩ = some (.int .i64 d) := (hc _ _ (by simp; omega)).trans (by simp [go_sem])
      have kx : w1.cell? ⟨w.heap.size + 1, 0, none⟩ = some (.int .i64 x) := (hc _ _ (by simp)).trans (by simp [go_sem])
      refine (Clk.last_any s er d x (-1) (w.heap.size + 1) w.heap.size w1 H.out HX.out (.inr rfl) (by omega) (by omega) kx k0 k1 k2).mono ?_
      rintro e w3 ⟨rfl, hb3⟩
      have hz3 : w.heap.size + 3 ≤ w3.heap.size := by have := hb3.size; omega
      obtain ⟨hc3, hf3⟩ := bcell hb3
      go_wp2_with fail
      refine (Clk.last_any s er d x 1 (w.heap.size + 1) w.heap.size w3 H.out HX.out (.inl rfl) (by omega) (by omega) ((hc3 _ _ (by omega)).trans kx) ((hc3 _ _ (by omega)).trans k0) ((hc3 _ _ (by omega)).trans k1) ((hc3 _ _ (by omega)).trans k2)).mono ?_
      rintro e w4 ⟨rfl, hb4⟩
      have hz4 : w.heap.size + 3 ≤ w4.heap.size := by have := hb4.size; omega
      obtain ⟨hc4, hf4⟩ := bcell hb4
      have r0 : w4.cell? ⟨w.heap.size + 1 + 1, 0, none⟩ = some (.int .i64 0) := (hc4 _ _ (by omega)).trans ((hc3 _ _ (by omega)).trans ((hc _ _ (by simp)).trans (by simp [go_sem])))
      have r1 : w4.cell? ⟨w.heap.size + 1 + 1, 1, none⟩ = some (.int .i64 0) := (hc4 _ _ (by omega)).trans ((hc3 _ _ (by omega)).trans ((hc _ _ (by simp)).trans (by simp [go_sem])))
      have g0 : w4.frozen? ⟨w.heap.size + 1 + 1, 0, none⟩ = false := (hf4 _ _ (by omega)).trans ((hf3 _ _ (by omega)).trans ((hf _ _ (by simp)).trans (by simp [go_sem])))
      have g1 : w4.frozen? ⟨w.heap.size + 1 + 1, 1, none⟩ = false := (hf4 _ _ (by omega)).trans ((hf3 _ _ (by omega)).trans ((hf _ _ (by simp)).trans (by simp [go_sem])))
      have h0 : Below w.heap.size w w4 := ((((((Below.refl _ _).alloc (Nat.le_refl _) _).alloc (by simp) _).alloc (by simp; omega) _).trans (hb.mono (by simp; omega))).trans (hb3.mono (by omega))).trans (hb4.mono (by omega))
      clear hc hf hc3 hf3 hc4 hf4 hb hb3 hb4 kx k0 k1 k2
      go_wp2_with fail
      refine bodyPost_ret (v := .tuple #[.agg #[.int .i64 (Clk.lastB s er d x (-1)), .int .i64 (Clk.lastB s er d x 1)], .bool true, .int .i64 0]) (by simp [results, Tryd.results24, go_sem, r0, r1]) rfl ⟨by rw [e0.out, e1.out, e2.out, e3.out], ?_⟩
      exact (h0.setCell (by simp; omega) _).setCell (by simp; omega) _
end Go.Proofs.YtnbbleajbbgmjaaDoor
