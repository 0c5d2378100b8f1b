/- Contract of codec.Decode. -/
import Derived.Test.YtnhodcjbmloeeaaCdD4
import Derived.Test.YtnhodcjbmloeeaaCdD5
namespace Go.Proofs.Ytnhodcjbmloeeaa
open Go.RowKit Go.Shelf
set_option linter.unusedVariables false

theorem Cd.cell_none (w : World) (B : Nat) : Cd.CellB w B (.mk 0 0 [] []) [.int .i64 0, .int .i64 0, .string ⟨([] : List UInt8).toArray⟩, .slice none ([] : List Cd.T).length 0] :=
  .mk 0 0 [] [] none 0 [] rfl (fun i hi => absurd hi (by simp)) Rd.none_ (fun _ => rfl) (by simp) (by simp) (by omega) (by omega)
theorem Cd.decode_no {w : World} {b : List UInt8} (hD : Cd.dec b = none) {w6 : World} (hb : Below w.heap.size w w6) :
    Cd.RetD w b (.returned (.tuple #[.agg #[.int .i64 0, .int .i64 0, .string ⟨#[]⟩, .slice none 0 0], .int .i64 10])) w6 :=
  ⟨[.int .i64 0, .int .i64 0, .string ⟨([] : List UInt8).toArray⟩, .slice none ([] : List Cd.T).length 0], by rw [hD]; rfl, hb, by rw [hD]; exact Cd.cell_none w6 _⟩
set_option maxRecDepth 100000 in
set_option maxHeartbeats 8000000 in
theorem Cd.decode_any (w : World) (A : Option Addr) (c : Nat) (b : List UInt8) (hrd : RdB w A b.length b) (hbc : b.length ≤ c) (hc : c ≤ maxLen) (hlen : b.length ≤ 1000000000) :
    Calls Try.prog 18 #[.slice A b.length c] w (Cd.RetD w b) := by
  have hmf : ∀ (fn : Fn) (first cap : Array Value) (w : World), (Instr.makeFunc fn first cap).run Try.prog w = .ok (.func fn first cap) w := fun _ _ _ _ => rfl
  obtain ⟨w0, hw0⟩ : ∃ w0, w0 = ((w.alloc (.cells #[.int .i64 0, .int .i64 0, .string ⟨#[]⟩, .slice none 0 0] 24)).alloc (.cells #[.int .i64 0] 28)).alloc (.cells #[.slice A b.length c] 58) := ⟨_, rfl⟩
  have S0 := Lib.hid (show St w w0 [(w.heap.size + 2, 58, [.slice A b.length c]), (w.heap.size + 1, 28, [.int .i64 0]), (w.heap.size, 24, [.int .i64 0, .int .i64 0, .string ⟨#[]⟩, .slice none 0 0])] by
    rw [hw0]
    have h := (((St.start w).new 24 [.int .i64 0, .int .i64 0, .string ⟨#[]⟩, .slice none 0 0]).new 28 [.int .i64 0]).new 58 [.slice A b.length c]
    rw [World.size_alloc, World.size_alloc] at h
    exact h)
  have HW0 := Lib.hid hw0
  clear hw0
  have HR0 := Lib.hid (show Cd.Re w0 w.heap.size (w.heap.size + 2) A c b from ⟨S0.out.nth 0 rfl, Rd.below hrd S0.out.below (Nat.le_refl _), hbc, hc, by omega⟩)
  have HV := Lib.hid (show Calls Try.prog 32 #[.pointer (some ⟨w.heap.size + 2, 0, none⟩), .int .i64 0] w0 (Cd.RetV w0 w.heap.size (w.heap.size + 2) (Cd.dv 16 b)) from Cd.value_any 16 0 w0 w.heap.size (w.heap.size + 2) A c b rfl hlen HR0.out)
  clear hrd hbc hc hlen
  go_enter_defers Try.func18, Try.ntmps18
  go_upto_region 3 with fail
  rw [← HW0.out]
  go_wp2_with fail
  cases hd : Cd.dv 16 b with
  | none =>
    rw [hd] at HV
    have HD := Lib.hid (show Cd.dec b = none by unfold Cd.dec; rw [hd])
    clear hd
    (with_reducible refine HV.out.mono ?_)
    rintro e w5 ⟨rfl, hg5⟩
    have hv5 := (S0.out.nth 2 rfl).grown hg5 (fun e => by injection e with e; omega)
    have he5 := (S0.out.nth 1 rfl).grown hg5 (fun e => by injection e with e; omega)
    have hb5 := S0.out.below.grown hg5 S0.out.below.size (fun k e => by injection e with e; omega)
    refine leaves_cons (f := 31) (args := #[.pointer (some ⟨w.heap.size, 0, none⟩), .pointer (some ⟨w.heap.size + 1, 0, none⟩)]) (by simp) (by simp [go_sem]) ?_
    refine (Cd.catch_boom w.heap.size (w.heap.size + 1) w5 _ _ _ _ _ hv5 he5 (by omega)).mono ?_
    rintro e u' w6 ⟨rfl, rfl, h1, h2, hb⟩
    have HB6 := Lib.hid (hb5.trans (hb w.heap.size (Nat.le_refl _) (by omega)))
    have q0 := h1.cell 0
    have q1 := h1.cell 1
    have q2 := h1.cell 2
    have q3 := h1.cell 3
    have x0 := h2.cell 0
    simp only [List.getElem?_cons_succ, List.getElem?_cons_zero] at q0 q1 q2 q3 x0
    simp [Leaves, settle, results, Try.results18, go_sem, q0, q1, q2, q3, x0]
    exact Cd.decode_no HD.out HB6.out
  | some p =>
    obtain ⟨t, r⟩ := p
    rw [hd] at HV
    have HD := Lib.hid (show Cd.dec b = if r = [] then some t else none by unfold Cd.dec; rw [hd])
    clear hd
    (with_reducible refine HV.out.mono ?_)
    rintro e w5 ⟨⟨cs, rfl, hX⟩, hg5, A5, c5, hR5⟩
    obtain ⟨Av, cv, rfl⟩ := hX.spell
    have HX := Lib.hid hX
    have HR5 := Lib.hid hR5
    have HV5 := Lib.hid ((S0.out.nth 2 rfl).grown hg5 (fun e => by injection e with e; omega))
    have HE5 := Lib.hid ((S0.out.nth 1 rfl).grown hg5 (fun e => by injection e with e; omega))
    have HB5 := Lib.hid (S0.out.below.grown hg5 S0.out.below.size (fun k e => by injection e with e; omega))
    have hz05 : w.heap.size + 2 < w0.heap.size := (S0.out.nth 0 rfl).lt
    clear hX hg5 hR5
    have q0 := HV5.out.cell 0
    have q1 := HV5.out.cell 1
    have q2 := HV5.out.cell 2
    have q3 := HV5.out.cell 3
    have f0 := HV5.out.frozen 0
    have f1 := HV5.out.frozen 1
    have f2 := HV5.out.frozen 2
    have f3 := HV5.out.frozen 3
    have qz := HV5.out.lt
    simp only [List.getElem?_cons_succ, List.getElem?_cons_zero] at q0 q1 q2 q3
    go_upto_region 4 with fail
    obtain ⟨w6, hw6⟩ : ∃ w6, w6 = (((w5.setCell ⟨w.heap.size, 0, none⟩ (.int .i64 t.k)).setCell ⟨w.heap.size, 1, none⟩ (.int .i64 t.n)).setCell ⟨w.heap.size, 2, none⟩ (.string ⟨t.s.toArray⟩)).setCell ⟨w.heap.size, 3, none⟩ (.slice Av t.l.length cv) := ⟨_, rfl⟩
    have HV6 := Lib.hid (show Has w6 w.heap.size 24 [.int .i64 t.k, .int .i64 t.n, .string ⟨t.s.toArray⟩, .slice Av t.l.length cv] by rw [hw6]; exact (((HV5.out.set 0 _).set 1 _).set 2 _).set 3 _)
    have HE6 := Lib.hid (show Has w6 (w.heap.size + 1) 28 [.int .i64 0] by rw [hw6]; exact (((HE5.out.far (by simp) _).far (by simp) _).far (by simp) _).far (by simp) _)
    have HH6 := Lib.hid (show Has w6 (w.heap.size + 2) 58 [.slice A5 r.length c5] by rw [hw6]; exact (((HR5.out.has.far (by simp) _).far (by simp) _).far (by simp) _).far (by simp) _)
    have HB6 := Lib.hid (show Below w.heap.size w w6 by rw [hw6]; exact (((HB5.out.setCell (Nat.le_refl _) _).setCell (Nat.le_refl _) _).setCell (Nat.le_refl _) _).setCell (Nat.le_refl _) _)
    have HX6 := Lib.hid (show Cd.CellX w6 (fun b => w.heap.size + 1 < b) t [.int .i64 t.k, .int .i64 t.n, .string ⟨t.s.toArray⟩, .slice Av t.l.length cv] by
      rw [hw6]
      refine HX.out.turn (by simp) fun b hb hq => ⟨by omega, ?_⟩
      have hne : b ≠ w.heap.size := by omega
      rw [Below.heap_setCell _ _ _ b hne, Below.heap_setCell _ _ _ b hne, Below.heap_setCell _ _ _ b hne, Below.heap_setCell _ _ _ b hne])
    rw [← hw6]
    clear hw6 q0 q1 q2 q3 f0 f1 f2 f3 qz
    obtain ⟨zr, cr⟩ := HH6.out.r1
    have hrm : r.length ≤ 9223372036854775807 := by have h1 := HR5.out.le; have h2 := HR5.out.mx; unfold maxLen at h2; omega
    cases r with
    | nil =>
      have HDY := Lib.hid (show Cd.dec b = some t by rw [HD.out]; rfl)
      have q0 := HV6.out.cell 0
      have q1 := HV6.out.cell 1
      have q2 := HV6.out.cell 2
      have q3 := HV6.out.cell 3
      have f0 := HV6.out.frozen 0
      have f1 := HV6.out.frozen 1
      have f2 := HV6.out.frozen 2
      have f3 := HV6.out.frozen 3
      have qz := HV6.out.lt
      have x0 := HE6.out.cell 0
      have y0 := HE6.out.frozen 0
      have xz := HE6.out.lt
      simp only [List.getElem?_cons_succ, List.getElem?_cons_zero] at q0 q1 q2 q3 x0
      have HFB := Lib.hid (show ∀ v0 v1 v2 v3 v4, Cd.RetD w b (.returned (.tuple #[.agg #[.int .i64 t.k, .int .i64 t.n, .string ⟨t.s.toArray⟩, .slice Av t.l.length cv], .int .i64 0])) (((((w6.setCell ⟨w.heap.size, 0, none⟩ v0).setCell ⟨w.heap.size, 1, none⟩ v1).setCell ⟨w.heap.size, 2, none⟩ v2).setCell ⟨w.heap.size, 3, none⟩ v3).setCell ⟨w.heap.size + 1, 0, none⟩ v4) from fun v0 v1 v2 v3 v4 => by
        refine ⟨[.int .i64 t.k, .int .i64 t.n, .string ⟨t.s.toArray⟩, .slice Av t.l.length cv], by rw [HDY.out]; rfl, ((((HB6.out.setCell (Nat.le_refl _) _).setCell (Nat.le_refl _) _).setCell (Nat.le_refl _) _).setCell (Nat.le_refl _) _).setCell (by simp) _, ?_⟩
        rw [HDY.out]
        refine Cd.CellX.cellB (X := fun _ => True) (HX6.out.turn (by simp) fun b hb hq => ⟨trivial, ?_⟩)
        have hne : b ≠ w.heap.size := by omega
        have hne2 : b ≠ w.heap.size + 1 := by omega
        rw [Below.heap_setCell _ _ _ b hne2, Below.heap_setCell _ _ _ b hne, Below.heap_setCell _ _ _ b hne, Below.heap_setCell _ _ _ b hne, Below.heap_setCell _ _ _ b hne])
      go_wp2_with ((with_reducible refine (Cd.want_yes _ _).mono ?_); rintro e w7 ⟨rfl, rfl⟩)
      refine leaves_cons (f := 31) (args := #[.pointer (some ⟨w.heap.size, 0, none⟩), .pointer (some ⟨w.heap.size + 1, 0, none⟩)]) (by simp) (by simp [go_sem]) ?_
      refine (Cd.catch_idle _ _ _).mono ?_
      rintro e u' w8 ⟨rfl, rfl, rfl⟩
      simp [Leaves, settle, results, Try.results18, go_sem, q0, q1, q2, q3, x0]
      exact HFB.out _ _ _ _ _
    | cons x r =>
      have HD := Lib.hid (show Cd.dec b = none by rw [HD.out]; rfl)
      have e1 : ((r.length : Int) + 1 == 0) = false := by simp; omega
      go_wp2_with fail
      ((with_reducible refine (Cd.want_no _ _).mono ?_); rintro e w7 ⟨rfl, rfl⟩)
      refine leaves_cons (f := 31) (args := #[.pointer (some ⟨w.heap.size, 0, none⟩), .pointer (some ⟨w.heap.size + 1, 0, none⟩)]) (by simp) (by simp [go_sem]) ?_
      refine (Cd.catch_boom w.heap.size (w.heap.size + 1) w6 _ _ _ _ _ HV6.out HE6.out (by omega)).mono ?_
      rintro e u' w8 ⟨rfl, rfl, h1, h2, hb⟩
      have HB6 := Lib.hid (HB6.out.trans (hb w.heap.size (Nat.le_refl _) (by omega)))
      have q0 := h1.cell 0
      have q1 := h1.cell 1
      have q2 := h1.cell 2
      have q3 := h1.cell 3
      have x0 := h2.cell 0
      simp only [List.getElem?_cons_succ, List.getElem?_cons_zero] at q0 q1 q2 q3 x0
      simp [Leaves, settle, results, Try.results18, go_sem, q0, q1, q2, q3, x0]
      exact Cd.decode_no HD.out HB6.out
end Go.Proofs.Ytnhodcjbmloeeaa
