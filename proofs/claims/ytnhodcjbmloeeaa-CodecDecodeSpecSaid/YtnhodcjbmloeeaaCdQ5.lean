/- Contract of the reference's Decode. -/
import Derived.Test.YtnhodcjbmloeeaaCdQ4
import Derived.Test.YtnhodcjbmloeeaaCdD6
import Derived.Test.YtnhodcjbmloeeaaCdR5
import Derived.Test.YtnhodcjbmloeeaaCdF
import Derived.BigQuiet
namespace Go.Proofs.Ytnhodcjbmloeeaa
open Go.RowKit Go.Shelf
set_option linter.unusedVariables false

/-- what stands behind the reader's Value -/
theorem Cd.rdec_cases {w0 w5 : World} {B g : Nat} {A : Option Addr} {c : Nat} {b : List UInt8} {e : Ending} (h : Cd.RetRV w0 B g A c b (Cd.dv 16 b) e w5) :
    ∃ (k n : Int) (s : ByteArray) (A' : Option Addr) (m c' : Nat), e = .returned (.agg #[.int .i64 k, .int .i64 n, .string s, .slice A' m c']) ∧ w0.grownBy w5 (some g) ∧ ∃ at_ bad, Cd.Rf w5 B g A c b at_ bad ∧
      ((bad = true ∧ Cd.dec b = none) ∨ (bad = false ∧ at_ ≠ b.length ∧ Cd.dec b = none) ∨
       (bad = false ∧ at_ = b.length ∧ ∃ t, Cd.dv 16 b = some (t, []) ∧ Cd.dec b = some t ∧ Cd.CellX w5 (fun d => w0.heap.size ≤ d) t [.int .i64 k, .int .i64 n, .string s, .slice A' m c'])) := by
  cases hd : Cd.dv 16 b with
  | none =>
    rw [hd] at h
    obtain ⟨⟨k, n, s, A', m, c', e1⟩, hg, at_, hR⟩ := h
    exact ⟨k, n, s, A', m, c', e1, hg, at_, true, hR, .inl ⟨rfl, by unfold Cd.dec; rw [hd]⟩⟩
  | some p =>
    obtain ⟨t, r⟩ := p
    rw [hd] at h
    obtain ⟨⟨cs, e1, hX⟩, hg, at_, hdr, hR⟩ := h
    obtain ⟨A9, c9, rfl⟩ := hX.spell
    refine ⟨_, _, _, _, _, _, e1, hg, at_, false, hR, .inr ?_⟩
    by_cases ha : at_ = b.length
    · have hr : r = [] := by rw [← hdr, ha, List.drop_length]
      subst hr
      exact .inr ⟨rfl, ha, t, rfl, by unfold Cd.dec; rw [hd]; rfl, hX⟩
    · have hr : r ≠ [] := fun e => by
        subst e
        have h1 := congrArg List.length hdr
        rw [List.length_drop, List.length_nil] at h1
        have := hR.at_le
        omega
      exact .inl ⟨rfl, ha, by unfold Cd.dec; rw [hd]; exact if_neg hr⟩

set_option maxRecDepth 100000 in
set_option maxHeartbeats 8000000 in
theorem Cd.rdecode_any (w : World) (A : Option Addr) (c : Nat) (b : List UInt8) (hrd : RdB w A b.length b) (hbc : b.length ≤ c) (hc : c ≤ maxLen) (hlen : b.length ≤ 90000000) :
    Calls Try.prog 19 #[.slice A b.length c] w (Cd.RetD w b) := by
  obtain ⟨w0, hw0⟩ : ∃ w0, w0 = (w.alloc (.cells #[.int .i64 0, .int .i64 0, .string ⟨#[]⟩, .slice none 0 0] 24)).alloc (.cells #[.slice A b.length c, .int .i64 0, .bool false] 62) := ⟨_, rfl⟩
  have S0 := Lib.hid (show St w w0 [(w.heap.size + 1, 62, [.slice A b.length c, .int .i64 0, .bool false]), (w.heap.size, 24, [.int .i64 0, .int .i64 0, .string ⟨#[]⟩, .slice none 0 0])] by
    rw [hw0]
    have h := ((St.start w).new 24 [.int .i64 0, .int .i64 0, .string ⟨#[]⟩, .slice none 0 0]).new 62 [.slice A b.length c, .int .i64 0, .bool false]
    rw [World.size_alloc] at h
    exact h)
  have HW0 := Lib.hid hw0
  clear hw0
  have HR0 := Lib.hid (show Cd.Rf w0 w.heap.size (w.heap.size + 1) A c b 0 false from ⟨S0.out.nth 0 rfl, Rd.below hrd S0.out.below (Nat.le_refl _), hbc, hc, by omega, by omega⟩)
  have HV := Lib.hid (show Calls Try.prog 34 #[.pointer (some ⟨w.heap.size + 1, 0, none⟩), .int .i64 0] w0 (Cd.RetRV w0 w.heap.size (w.heap.size + 1) A c b (Cd.dv 16 b)) from by
    have h := Cd.rvalue_any 16 0 w0 w.heap.size (w.heap.size + 1) A c b 0 rfl (by omega) HR0.out
    rw [List.drop_zero] at h
    exact h)
  clear hrd
  go_enter Try.func19, Try.ntmps19
  go_upto_region 2 with fail
  rw [← HW0.out]
  go_wp2_with fail
  ((with_reducible refine HV.out.mono ?_); intro e w5 h5; obtain ⟨k, n, s, A', m, c', rfl, hg5, at5, bad, hR5, hcond⟩ := Cd.rdec_cases h5; clear h5)
  have HG5 := Lib.hid (S0.out.below.grown hg5 S0.out.below.size (fun k e => by injection e with e; omega))
  have H5 := Lib.hid ((S0.out.nth 1 rfl).grown hg5 (fun e => by injection e with e; omega))
  have HR5 := Lib.hid hR5
  have HC := Lib.hid hcond
  have HZ5 := Lib.hid hg5.size
  clear hg5 hR5 hcond
  obtain ⟨w6, hw6⟩ : ∃ w6, w6 = w5.alloc (.cells #[.int .i64 k, .int .i64 n, .string s, .slice A' m c'] 24) := ⟨_, rfl⟩
  have HB56 := Lib.hid (show Below w5.heap.size w5 w6 by rw [hw6]; exact (Below.refl _ _).alloc (Nat.le_refl _) _)
  have HR6 := Lib.hid (HR5.out.keep HB56.out)
  have H6 := Lib.hid (H5.out.keep HB56.out)
  have HV6 := Lib.hid (show Has w6 w5.heap.size 24 [.int .i64 k, .int .i64 n, .string s, .slice A' m c'] by rw [hw6]; exact Has.new _ _ _)
  have HZ0 := Lib.hid S0.out.below.size
  have HB6 := Lib.hid (show Below w.heap.size w w6 from HG5.out.trans (HB56.out.mono (by have := HZ5.out; have := HZ0.out; omega)))
  go_wp2_with fail
  rw [← hw6]
  clear hw6
  obtain ⟨⟨z0, c0, c1, c2⟩, f1, f2⟩ := HR6.out.facts
  rcases HC.out with ⟨rfl, hD⟩ | ⟨rfl, hne, hD⟩ | ⟨rfl, rfl, t, hdv, hD, hX⟩
  · have HD := Lib.hid hD
    clear HC hD
    go_wp2_with fail
    go_quiet (fail)
    have q0 := H6.out.cell 0
    have q1 := H6.out.cell 1
    have q2 := H6.out.cell 2
    have q3 := H6.out.cell 3
    have g0 := H6.out.frozen 0
    have g1 := H6.out.frozen 1
    have g2 := H6.out.frozen 2
    have g3 := H6.out.frozen 3
    have qz := H6.out.lt
    simp only [List.getElem?_cons_succ, List.getElem?_cons_zero] at q0 q1 q2 q3
    have HF := Lib.hid (fun v0 v1 v2 v3 => Cd.decode_no HD.out (((((below_drewN HB6.out nq).setCell (p := ⟨w.heap.size, 0, none⟩) (Nat.le_refl _) v0).setCell (p := ⟨w.heap.size, 1, none⟩) (Nat.le_refl _) v1).setCell (p := ⟨w.heap.size, 2, none⟩) (Nat.le_refl _) v2).setCell (p := ⟨w.heap.size, 3, none⟩) (Nat.le_refl _) v3))
    go_wp2_with fail
    refine bodyPost_ret (v := .tuple #[.agg #[.int .i64 0, .int .i64 0, .string ⟨#[]⟩, .slice none 0 0], .int .i64 10]) (by simp [results, Try.results19, go_sem, q0, q1, q2, q3]) rfl ?_
    exact HF.out _ _ _ _
  · have HD := Lib.hid hD
    have hne1 : ((at5 : Int) != (b.length : Int)) = true := by simp; omega
    have hne2 : (!((at5 : Int) == (b.length : Int))) = true := by simp; omega
    have hne3 : (at5 != b.length) = true := by simp; omega
    have hne4 : (!(at5 == b.length)) = true := by simp; omega
    clear HC hD
    go_wp2_with fail
    go_quiet (fail)
    have q0 := H6.out.cell 0
    have q1 := H6.out.cell 1
    have q2 := H6.out.cell 2
    have q3 := H6.out.cell 3
    have g0 := H6.out.frozen 0
    have g1 := H6.out.frozen 1
    have g2 := H6.out.frozen 2
    have g3 := H6.out.frozen 3
    have qz := H6.out.lt
    simp only [List.getElem?_cons_succ, List.getElem?_cons_zero] at q0 q1 q2 q3
    have HF := Lib.hid (fun v0 v1 v2 v3 => Cd.decode_no HD.out (((((below_drewN HB6.out nq).setCell (p := ⟨w.heap.size, 0, none⟩) (Nat.le_refl _) v0).setCell (p := ⟨w.heap.size, 1, none⟩) (Nat.le_refl _) v1).setCell (p := ⟨w.heap.size, 2, none⟩) (Nat.le_refl _) v2).setCell (p := ⟨w.heap.size, 3, none⟩) (Nat.le_refl _) v3))
    go_wp2_with fail
    refine bodyPost_ret (v := .tuple #[.agg #[.int .i64 0, .int .i64 0, .string ⟨#[]⟩, .slice none 0 0], .int .i64 10]) (by simp [results, Try.results19, go_sem, q0, q1, q2, q3]) rfl ?_
    exact HF.out _ _ _ _
  · obtain ⟨hk, _, he, hh⟩ := Cd.dec_some hD
    have HD := Lib.hid hD
    have HX := Lib.hid hX
    have HCB := Lib.hid (show Cd.CellB w6 w6.heap.size t [.int .i64 k, .int .i64 n, .string s, .slice A' m c'] from (hX.cellB.keep HB56.out).more HB56.out.size)
    have HRB := Lib.hid (show RdB w6 A b.length b from HR6.out.rd.more (by have := HR6.out.lt; have := HR6.out.has.lt; omega))
    clear HC hD hX hdv
    have HFin := Lib.hid (show ∀ w9 v0 v1 v2 v3, Below w6.heap.size w6 w9 → Cd.RetD w b (.returned (.tuple #[.agg #[.int .i64 k, .int .i64 n, .string s, .slice A' m c'], .int .i64 0])) ((((w9.setCell ⟨w.heap.size, 0, none⟩ v0).setCell ⟨w.heap.size, 1, none⟩ v1).setCell ⟨w.heap.size, 2, none⟩ v2).setCell ⟨w.heap.size, 3, none⟩ v3) from fun w9 v0 v1 v2 v3 h9 => by
      have h59 : Below w5.heap.size w5 w9 := HB56.out.trans (h9.mono HB56.out.size)
      have h0 : w0.heap.size = w.heap.size + 2 := by rw [HW0.out]; simp
      refine ⟨[.int .i64 k, .int .i64 n, .string s, .slice A' m c'], by rw [HD.out]; rfl, ((((HB6.out.trans (h9.mono HB6.out.size)).setCell (p := ⟨w.heap.size, 0, none⟩) (Nat.le_refl _) v0).setCell (p := ⟨w.heap.size, 1, none⟩) (Nat.le_refl _) v1).setCell (p := ⟨w.heap.size, 2, none⟩) (Nat.le_refl _) v2).setCell (p := ⟨w.heap.size, 3, none⟩) (Nat.le_refl _) v3, ?_⟩
      rw [HD.out]
      refine Cd.CellX.cellB (X := fun _ => True) (HX.out.turn (by have := h59.size; simp; omega) fun d hb hq => ⟨trivial, ?_⟩)
      have hne : d ≠ w.heap.size := by omega
      rw [Below.heap_setCell _ _ _ d hne, Below.heap_setCell _ _ _ d hne, Below.heap_setCell _ _ _ d hne, Below.heap_setCell _ _ _ d hne]
      exact h59.block d hb)
    have HK := Lib.hid (show Calls Try.prog 17 #[.agg #[.int .i64 k, .int .i64 n, .string s, .slice A' m c']] w6.drew (fun e w' => e = .returned (.int .i64 0) ∧ Below w6.drew.heap.size w6.drew w') from by
      have h := Cd.rcheck_any t [.int .i64 k, .int .i64 n, .string s, .slice A' m c'] w6.drew (by omega) ((HCB.out.keep ((Below.refl _ _).drew)).cell (Nat.le_refl _))
      rw [hk] at h
      exact h)
    have HE := Lib.hid (show ∀ w7, Below w6.drew.heap.size w6.drew w7 → Calls Try.prog 27 #[.agg #[.int .i64 k, .int .i64 n, .string s, .slice A' m c']] w7 (Cd.RetO w7 b) from fun w7 h7 => by
      have hb : Below w6.heap.size w6 w7 := ((Below.refl _ _).drew).trans h7
      have h := Cd.rencode_any 1000000 t [.int .i64 k, .int .i64 n, .string s, .slice A' m c'] w7 (by omega) (Nat.le_refl _) (by unfold Cd.chkE at hk; cases hf : t.fd with | none => rw [hf] at hk; simp at hk | some d => rfl) ((HCB.out.keep hb).more hb.size) (by rw [he]; omega)
      rw [he] at h
      exact h)
    have H7 := Lib.hid (show ∀ w7, Below w6.drew.heap.size w6.drew w7 → (w5.heap.size < w7.heap.size ∧ w7.cell? ⟨w5.heap.size, 0, none⟩ = some (.int .i64 k) ∧ w7.cell? ⟨w5.heap.size, 1, none⟩ = some (.int .i64 n) ∧ w7.cell? ⟨w5.heap.size, 2, none⟩ = some (.string s) ∧ w7.cell? ⟨w5.heap.size, 3, none⟩ = some (.slice A' m c')) ∧ (convert 27 9 (.slice A b.length c)).run Try.prog w7 = .ok (.string ⟨b.toArray⟩) w7 ∧ Below w6.heap.size w6 w7 from fun w7 h7 => by
      have hb : Below w6.heap.size w6 w7 := ((Below.refl _ _).drew).trans h7
      have h := HV6.out.keep hb
      exact ⟨⟨h.lt, h.cell 0, h.cell 1, h.cell 2, h.cell 3⟩, (HRB.out.keep hb).str (P := Try.prog) Try.underlying27 Try.underlying5 Try.underlying9 c, hb⟩)
    have H9 := Lib.hid (show ∀ w9, Below w6.heap.size w6 w9 → (w.heap.size < w9.heap.size ∧ w9.cell? ⟨w.heap.size, 0, none⟩ = some (.int .i64 0) ∧ w9.cell? ⟨w.heap.size, 1, none⟩ = some (.int .i64 0) ∧ w9.cell? ⟨w.heap.size, 2, none⟩ = some (.string ⟨#[]⟩) ∧ w9.cell? ⟨w.heap.size, 3, none⟩ = some (.slice none 0 0)) ∧ (w9.frozen? ⟨w.heap.size, 0, none⟩ = false ∧ w9.frozen? ⟨w.heap.size, 1, none⟩ = false ∧ w9.frozen? ⟨w.heap.size, 2, none⟩ = false ∧ w9.frozen? ⟨w.heap.size, 3, none⟩ = false) from fun w9 hb => by
      have h := H6.out.keep hb
      exact ⟨⟨h.lt, h.cell 0, h.cell 1, h.cell 2, h.cell 3⟩, h.frozen 0, h.frozen 1, h.frozen 2, h.frozen 3⟩)
    have hp := HV6.out
    have p0 := hp.cell 0
    have p1 := hp.cell 1
    have p2 := hp.cell 2
    have p3 := hp.cell 3
    have pz := hp.lt
    simp only [List.getElem?_cons_succ, List.getElem?_cons_zero] at p0 p1 p2 p3
    clear hp hk he hh
    go_wp2_with fail
    go_region_with (first
      | (go_at_call 17; (with_reducible refine HK.out.mono ?_); rintro e w7 ⟨rfl, hb7⟩; obtain ⟨⟨z7, u0, u1, u2, u3⟩, y7, hb67⟩ := H7.out w7 hb7; have HE7 := Lib.hid (HE.out w7 hb7); have HB67 := Lib.hid hb67; clear hb7 hb67)
      | (go_at_call 27; (with_reducible refine HE7.out.mono ?_); rintro e w9 ⟨v9, rfl, hb9, ho9⟩; obtain ⟨A9, d9, rfl⟩ := own_slice ho9; have y9 := (RdB.of_own ho9).str (P := Try.prog) Try.underlying27 Try.underlying5 Try.underlying9 d9; have hb69 := HB67.out.trans (hb9.mono HB67.out.size); have y8 := (HRB.out.keep hb69).str (P := Try.prog) Try.underlying27 Try.underlying5 Try.underlying9 c; have hv9 := HV6.out.keep hb69; have v0 := hv9.cell 0; have v1 := hv9.cell 1; have v2 := hv9.cell 2; have v3 := hv9.cell 3; have vz := hv9.lt; simp only [List.getElem?_cons_succ, List.getElem?_cons_zero] at v0 v1 v2 v3; obtain ⟨⟨qz, q0, q1, q2, q3⟩, g0, g1, g2, g3⟩ := H9.out w9 hb69; have HF := Lib.hid (fun v0 v1 v2 v3 => HFin.out w9 v0 v1 v2 v3 hb69); clear hb9 ho9 hb69 hv9))
    all_goals (
      go_wp2_with fail
      refine bodyPost_ret (v := .tuple #[.agg #[.int .i64 k, .int .i64 n, .string s, .slice A' m c'], .int .i64 0]) (by simp [results, Try.results19, go_sem, q0, q1, q2, q3]) rfl ?_
      exact HF.out _ _ _ _)
end Go.Proofs.Ytnhodcjbmloeeaa
