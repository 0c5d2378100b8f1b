/- Steps of the laws: values in the call's own variables, kept. -/
import Derived.Test.YtnhodcjbmloeeaaCdF
namespace Go.Proofs.Ytnhodcjbmloeeaa
open Go.RowKit Go.Shelf
set_option linter.unusedVariables false

/-- what few answers of one value, of two -/
def Cd.RetF1 (w : World) (t : Cd.T) (e : Ending) (w' : World) : Prop := ∃ b : Bool, e = .returned (.bool b) ∧ (b = true → t.hgt ≤ 22 ∧ t.enc.length ≤ 42000) ∧ Below w.heap.size w w'
def Cd.RetF2 (w : World) (t u : Cd.T) (e : Ending) (w' : World) : Prop := ∃ b : Bool, e = .returned (.bool b) ∧ (b = true → (t.hgt ≤ 22 ∧ t.enc.length ≤ 42000) ∧ u.hgt ≤ 22 ∧ u.enc.length ≤ 42000) ∧ Below w.heap.size w w'
theorem Cd.few1 {w : World} {g : Nat} {t : Cd.T} {A : Option Addr} {c : Nat} (X : Cd.Bx w g t A c) : Calls Try.prog 11 #[.slice (some ⟨w.heap.size, 0, none⟩) 1 1] (w.alloc (.cells #[.int .i64 t.k, .int .i64 t.n, .string ⟨t.s.toArray⟩, .slice A t.l.length c] 24)) (Cd.RetF1 w t) :=
  (Cd.fews_any _ 1 [t] _ _ (Cd.vals1 X.cell)).mono fun e w' ⟨b, he, hq, hb⟩ => ⟨b, he, fun h => hq h t (List.mem_singleton.2 rfl), ((Below.refl _ _).alloc (Nat.le_refl _) _).trans (hb.mono (by simp))⟩
theorem Cd.few2 {w : World} {g g' : Nat} {t u : Cd.T} {A A' : Option Addr} {c c' : Nat} (X : Cd.Bx w g t A c) (X' : Cd.Bx w g' u A' c') : Calls Try.prog 11 #[.slice (some ⟨w.heap.size, 0, none⟩) 2 2] (w.alloc (.cells #[.int .i64 t.k, .int .i64 t.n, .string ⟨t.s.toArray⟩, .slice A t.l.length c, .int .i64 u.k, .int .i64 u.n, .string ⟨u.s.toArray⟩, .slice A' u.l.length c'] 24)) (Cd.RetF2 w t u) :=
  (Cd.fews_any _ 2 [t, u] _ _ (Cd.vals2 X.cell X'.cell)).mono fun e w' ⟨b, he, hq, hb⟩ => ⟨b, he, fun h => ⟨hq h t (by simp), hq h u (by simp)⟩, ((Below.refl _ _).alloc (Nat.le_refl _) _).trans (hb.mono (by simp))⟩

/-- nothing that was there has changed; a value lies in block g -/
structure Cd.P1 (w w' : World) (g : Nat) (t : Cd.T) (A : Option Addr) (c : Nat) : Prop where
  below : Below w.heap.size w w'
  bx : Cd.Bx w' g t A c
/-- .. and another in block g' -/
structure Cd.P2 (w w' : World) (g : Nat) (t : Cd.T) (A : Option Addr) (c : Nat) (g' : Nat) (t' : Cd.T) (A' : Option Addr) (c' : Nat) : Prop where
  below : Below w.heap.size w w'
  bx : Cd.Bx w' g t A c
  bx' : Cd.Bx w' g' t' A' c'
section
variable {w w' w5 : World} {g g' : Nat} {t t' : Cd.T} {A A' : Option Addr} {c c' : Nat}
theorem Cd.P1.keep (h : Cd.P1 w w' g t A c) (hb : Below w'.heap.size w' w5) : Cd.P1 w w5 g t A c := ⟨h.below.trans (hb.mono h.below.size), h.bx.keep hb⟩
theorem Cd.P1.drew (h : Cd.P1 w w' g t A c) : Cd.P1 w w'.drew g t A c := h.keep ((Below.refl _ _).drew)
theorem Cd.P1.cells (h : Cd.P1 w w' g t A c) : w'.cell? ⟨g, 0, none⟩ = some (.int .i64 t.k) ∧ w'.cell? ⟨g, 1, none⟩ = some (.int .i64 t.n) ∧ w'.cell? ⟨g, 2, none⟩ = some (.string ⟨t.s.toArray⟩) ∧ w'.cell? ⟨g, 3, none⟩ = some (.slice A t.l.length c) ∧ Cd.P1 w w' g t A c :=
  ⟨h.bx.facts.2.1, h.bx.facts.2.2.1, h.bx.facts.2.2.2.1, h.bx.facts.2.2.2.2, h⟩
theorem Cd.P2.keep (h : Cd.P2 w w' g t A c g' t' A' c') (hb : Below w'.heap.size w' w5) : Cd.P2 w w5 g t A c g' t' A' c' := ⟨h.below.trans (hb.mono h.below.size), h.bx.keep hb, h.bx'.keep hb⟩
theorem Cd.P2.drew (h : Cd.P2 w w' g t A c g' t' A' c') : Cd.P2 w w'.drew g t A c g' t' A' c' := h.keep ((Below.refl _ _).drew)
theorem Cd.P2.cells (h : Cd.P2 w w' g t A c g' t' A' c') : w'.cell? ⟨g, 0, none⟩ = some (.int .i64 t.k) ∧ w'.cell? ⟨g, 1, none⟩ = some (.int .i64 t.n) ∧ w'.cell? ⟨g, 2, none⟩ = some (.string ⟨t.s.toArray⟩) ∧ w'.cell? ⟨g, 3, none⟩ = some (.slice A t.l.length c) ∧ w'.cell? ⟨g', 0, none⟩ = some (.int .i64 t'.k) ∧ w'.cell? ⟨g', 1, none⟩ = some (.int .i64 t'.n) ∧ w'.cell? ⟨g', 2, none⟩ = some (.string ⟨t'.s.toArray⟩) ∧ w'.cell? ⟨g', 3, none⟩ = some (.slice A' t'.l.length c') ∧ Cd.P2 w w' g t A c g' t' A' c' :=
  ⟨h.bx.facts.2.1, h.bx.facts.2.2.1, h.bx.facts.2.2.2.1, h.bx.facts.2.2.2.2, h.bx'.facts.2.1, h.bx'.facts.2.2.1, h.bx'.facts.2.2.2.1, h.bx'.facts.2.2.2.2, h⟩
theorem Cd.check_p {v : Int} (hh : t.hgt ≤ 1000000) (hv : Cd.chkE t = v) (h : Cd.P1 w w' g t A c) : Calls Try.prog 16 #[.agg #[.int .i64 t.k, .int .i64 t.n, .string ⟨t.s.toArray⟩, .slice A t.l.length c]] w' fun e w5 => e = .returned (.int .i64 v) ∧ Cd.P1 w w5 g t A c :=
  (Cd.check_any t _ w' hh (h.bx.cell.cell (Nat.le_refl _))).mono fun e w5 ⟨he, hb⟩ => ⟨by rw [he, hv], h.keep hb⟩
theorem Cd.rcheck_p {v : Int} (hh : t.hgt ≤ 1000000) (hv : Cd.chkE t = v) (h : Cd.P1 w w' g t A c) : Calls Try.prog 17 #[.agg #[.int .i64 t.k, .int .i64 t.n, .string ⟨t.s.toArray⟩, .slice A t.l.length c]] w' fun e w5 => e = .returned (.int .i64 v) ∧ Cd.P1 w w5 g t A c :=
  (Cd.rcheck_any t _ w' hh (h.bx.cell.cell (Nat.le_refl _))).mono fun e w5 ⟨he, hb⟩ => ⟨by rw [he, hv], h.keep hb⟩
theorem Cd.same_12 {v : Bool} (hh : t.hgt ≤ 1000000) (hv : t.sm t' = v) (h : Cd.P2 w w' g t A c g' t' A' c') : Calls Try.prog 21 #[.agg #[.int .i64 t.k, .int .i64 t.n, .string ⟨t.s.toArray⟩, .slice A t.l.length c], .agg #[.int .i64 t'.k, .int .i64 t'.n, .string ⟨t'.s.toArray⟩, .slice A' t'.l.length c']] w' fun e w5 => e = .returned (.bool v) ∧ Cd.P2 w w5 g t A c g' t' A' c' :=
  (Cd.same_any 1000000 t t' _ _ w' hh (h.bx.cell.cell (Nat.le_refl _)) (h.bx'.cell.cell (Nat.le_refl _))).mono fun e w5 ⟨he, hb⟩ => ⟨by rw [he, hv], h.keep hb⟩
theorem Cd.rsame_12 {v : Bool} (hh : t.hgt ≤ 1000000) (hv : t.sm t' = v) (h : Cd.P2 w w' g t A c g' t' A' c') : Calls Try.prog 20 #[.agg #[.int .i64 t.k, .int .i64 t.n, .string ⟨t.s.toArray⟩, .slice A t.l.length c], .agg #[.int .i64 t'.k, .int .i64 t'.n, .string ⟨t'.s.toArray⟩, .slice A' t'.l.length c']] w' fun e w5 => e = .returned (.bool v) ∧ Cd.P2 w w5 g t A c g' t' A' c' :=
  (Cd.rsame_any 1000000 t t' _ _ w' hh (h.bx.cell.cell (Nat.le_refl _)) (h.bx'.cell.cell (Nat.le_refl _))).mono fun e w5 ⟨he, hb⟩ => ⟨by rw [he, hv], h.keep hb⟩
theorem Cd.same_11 (hh : t.hgt ≤ 1000000) (h : Cd.P2 w w' g t A c g' t' A' c') : Calls Try.prog 21 #[.agg #[.int .i64 t.k, .int .i64 t.n, .string ⟨t.s.toArray⟩, .slice A t.l.length c], .agg #[.int .i64 t.k, .int .i64 t.n, .string ⟨t.s.toArray⟩, .slice A t.l.length c]] w' fun e w5 => e = .returned (.bool true) ∧ Cd.P2 w w5 g t A c g' t' A' c' :=
  (Cd.same_any 1000000 t t _ _ w' hh (h.bx.cell.cell (Nat.le_refl _)) (h.bx.cell.cell (Nat.le_refl _))).mono fun e w5 ⟨he, hb⟩ => ⟨by rw [he, Cd.T.sm_yes], h.keep hb⟩
theorem Cd.same_22 (hh : t'.hgt ≤ 1000000) (h : Cd.P2 w w' g t A c g' t' A' c') : Calls Try.prog 21 #[.agg #[.int .i64 t'.k, .int .i64 t'.n, .string ⟨t'.s.toArray⟩, .slice A' t'.l.length c'], .agg #[.int .i64 t'.k, .int .i64 t'.n, .string ⟨t'.s.toArray⟩, .slice A' t'.l.length c']] w' fun e w5 => e = .returned (.bool true) ∧ Cd.P2 w w5 g t A c g' t' A' c' :=
  (Cd.same_any 1000000 t' t' _ _ w' hh (h.bx'.cell.cell (Nat.le_refl _)) (h.bx'.cell.cell (Nat.le_refl _))).mono fun e w5 ⟨he, hb⟩ => ⟨by rw [he, Cd.T.sm_yes], h.keep hb⟩
end
/-- .. and two slices of the same bytes -/
structure Cd.P3 (w w' : World) (g : Nat) (t : Cd.T) (A : Option Addr) (c : Nat) (A3 A4 : Option Addr) (l : List UInt8) : Prop where
  p1 : Cd.P1 w w' g t A c
  r3 : RdB w' A3 l.length l
  r4 : RdB w' A4 l.length l
section
variable {w w' w5 : World} {g : Nat} {t : Cd.T} {A A3 A4 : Option Addr} {c : Nat} {l : List UInt8}
theorem Cd.P3.keep (h : Cd.P3 w w' g t A c A3 A4 l) (hb : Below w'.heap.size w' w5) : Cd.P3 w w5 g t A c A3 A4 l := ⟨h.p1.keep hb, h.r3.keep hb, h.r4.keep hb⟩
theorem Cd.P3.drew (h : Cd.P3 w w' g t A c A3 A4 l) : Cd.P3 w w'.drew g t A c A3 A4 l := h.keep ((Below.refl _ _).drew)
theorem Cd.P3.cells (d3 d4 : Nat) (h : Cd.P3 w w' g t A c A3 A4 l) : w'.cell? ⟨g, 0, none⟩ = some (.int .i64 t.k) ∧ w'.cell? ⟨g, 1, none⟩ = some (.int .i64 t.n) ∧ w'.cell? ⟨g, 2, none⟩ = some (.string ⟨t.s.toArray⟩) ∧ w'.cell? ⟨g, 3, none⟩ = some (.slice A t.l.length c) ∧
    (convert 27 9 (.slice A3 l.length d3)).run Try.prog w' = .ok (.string ⟨l.toArray⟩) w' ∧ (convert 27 9 (.slice A4 l.length d4)).run Try.prog w' = .ok (.string ⟨l.toArray⟩) w' ∧ Cd.P3 w w' g t A c A3 A4 l :=
  ⟨h.p1.bx.facts.2.1, h.p1.bx.facts.2.2.1, h.p1.bx.facts.2.2.2.1, h.p1.bx.facts.2.2.2.2, h.r3.str (P := Try.prog) Try.underlying27 Try.underlying5 Try.underlying9 d3, h.r4.str (P := Try.prog) Try.underlying27 Try.underlying5 Try.underlying9 d4, h⟩
theorem Cd.check_3 {v : Int} (hh : t.hgt ≤ 1000000) (hv : Cd.chkE t = v) (h : Cd.P3 w w' g t A c A3 A4 l) : Calls Try.prog 16 #[.agg #[.int .i64 t.k, .int .i64 t.n, .string ⟨t.s.toArray⟩, .slice A t.l.length c]] w' fun e w5 => e = .returned (.int .i64 v) ∧ Cd.P3 w w5 g t A c A3 A4 l :=
  (Cd.check_any t _ w' hh (h.p1.bx.cell.cell (Nat.le_refl _))).mono fun e w5 ⟨he, hb⟩ => ⟨by rw [he, hv], h.keep hb⟩
theorem Cd.rcheck_3 {v : Int} (hh : t.hgt ≤ 1000000) (hv : Cd.chkE t = v) (h : Cd.P3 w w' g t A c A3 A4 l) : Calls Try.prog 17 #[.agg #[.int .i64 t.k, .int .i64 t.n, .string ⟨t.s.toArray⟩, .slice A t.l.length c]] w' fun e w5 => e = .returned (.int .i64 v) ∧ Cd.P3 w w5 g t A c A3 A4 l :=
  (Cd.rcheck_any t _ w' hh (h.p1.bx.cell.cell (Nat.le_refl _))).mono fun e w5 ⟨he, hb⟩ => ⟨by rw [he, hv], h.keep hb⟩
end
end Go.Proofs.Ytnhodcjbmloeeaa
