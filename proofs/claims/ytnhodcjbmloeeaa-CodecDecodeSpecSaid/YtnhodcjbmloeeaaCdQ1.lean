/- The reference's reader: its state; contracts of next, number. -/
import Derived.Test.YtnhodcjbmloeeaaCdD3
namespace Go.Proofs.Ytnhodcjbmloeeaa
open Go.RowKit Go.Shelf
set_option linter.unusedVariables false

/-- the reader's block g: a slice of the bytes b, which lie below block B, a place in it, whether it is bad -/
structure Cd.Rf (w : World) (B g : Nat) (A : Option Addr) (c : Nat) (b : List UInt8) (at_ : Nat) (bad : Bool) : Prop where
  has : Has w g 62 [.slice A b.length c, .int .i64 (at_ : Int), .bool bad]
  rd : Rd w B 1 A b.length (b.map fun a => Value.int .u8 (a.toNat : Int))
  le : b.length ≤ c
  mx : c ≤ maxLen
  lt : B ≤ g
  at_le : at_ ≤ b.length
section
variable {w w' : World} {B g : Nat} {A : Option Addr} {c : Nat} {b : List UInt8} {at_ : Nat} {bad : Bool}
theorem Cd.Rf.keep (h : Cd.Rf w B g A c b at_ bad) (hb : Below w.heap.size w w') : Cd.Rf w' B g A c b at_ bad :=
  ⟨h.has.keep hb, h.rd.below hb (Nat.le_trans h.lt (Nat.le_of_lt h.has.lt)), h.le, h.mx, h.lt, h.at_le⟩
theorem Cd.Rf.grown {row : Option Nat} (h : Cd.Rf w B g A c b at_ bad) (hG : w.grownBy w' row) (hr : ∀ k, row = some k → g < k) : Cd.Rf w' B g A c b at_ bad :=
  ⟨h.has.grown hG (fun e => by have := hr g e; omega), h.rd.below ((Below.refl B w).grown hG (by have := h.lt; have := h.has.lt; omega) (fun k e => by have := hr k e; have := h.lt; omega)) (Nat.le_refl _), h.le, h.mx, h.lt, h.at_le⟩
theorem Cd.Rf.set (h : Cd.Rf w B g A c b at_ bad) {p : Addr} (hp : g < p.block) (u : Value) : Cd.Rf (w.setCell p u) B g A c b at_ bad :=
  ⟨h.has.far (by omega) u, h.rd.keep (fun q hq => World.cell?_setCell_other w p q u (by have := h.lt; intro e; subst e; omega)), h.le, h.mx, h.lt, h.at_le⟩
theorem Cd.Rf.drew (h : Cd.Rf w B g A c b at_ bad) : Cd.Rf w.drew B g A c b at_ bad := h.keep ((Below.refl _ _).drew)
theorem Cd.Rf.drewN (h : Cd.Rf w B g A c b at_ bad) (n : Nat) : Cd.Rf (w.drewN n) B g A c b at_ bad := h.keep (below_drewN (Below.refl _ _) n)
/-- the place, the mark are set -/
theorem Cd.Rf.move (h : Cd.Rf w B g A c b at_ bad) (n : Nat) (hn : n ≤ b.length) : Cd.Rf (w.setCell ⟨g, 1, none⟩ (.int .i64 (n : Int))) B g A c b n bad :=
  ⟨h.has.set 1 _, h.rd.keep (fun q hq => World.cell?_setCell_other w ⟨g, 1, none⟩ q _ (by have := h.lt; intro e; subst e; simp at hq; omega)), h.le, h.mx, h.lt, hn⟩
theorem Cd.Rf.mark (h : Cd.Rf w B g A c b at_ bad) (v : Bool) : Cd.Rf (w.setCell ⟨g, 2, none⟩ (.bool v)) B g A c b at_ v :=
  ⟨h.has.set 2 _, h.rd.keep (fun q hq => World.cell?_setCell_other w ⟨g, 2, none⟩ q _ (by have := h.lt; intro e; subst e; simp at hq; omega)), h.le, h.mx, h.lt, h.at_le⟩
theorem Cd.Rf.facts (h : Cd.Rf w B g A c b at_ bad) : (g < w.heap.size ∧ w.cell? ⟨g, 0, none⟩ = some (.slice A b.length c) ∧ w.cell? ⟨g, 1, none⟩ = some (.int .i64 (at_ : Int)) ∧ w.cell? ⟨g, 2, none⟩ = some (.bool bad)) ∧ w.frozen? ⟨g, 1, none⟩ = false ∧ w.frozen? ⟨g, 2, none⟩ = false :=
  ⟨⟨h.has.lt, h.has.cell 0, h.has.cell 1, h.has.cell 2⟩, h.has.frozen 1, h.has.frozen 2⟩
end
theorem grown_set1 {w : World} (g o : Nat) (u : Value) : w.grownBy (w.setCell ⟨g, o, none⟩ u) (some g) :=
  ⟨rfl, rfl, rfl, by simp, fun j hj hne => Below.heap_setCell w _ _ j (fun e => hne (by rw [e]))⟩

/-- the next byte -/
def Cd.RetX (w : World) (B g : Nat) (A : Option Addr) (c : Nat) (b : List UInt8) (at_ : Nat) (e : Ending) (w' : World) : Prop :=
  w.grownBy w' (some g) ∧ (∀ x r, b.drop at_ = x :: r → e = .returned (.int .u8 (x.toNat : Int)) ∧ b.drop (at_ + 1) = r ∧ Cd.Rf w' B g A c b (at_ + 1) false) ∧ (b.drop at_ = [] → e = .returned (.int .u8 0) ∧ Cd.Rf w' B g A c b at_ true)

set_option maxHeartbeats 4000000 in
theorem Cd.next_any (w : World) (B g : Nat) (A : Option Addr) (c : Nat) (b : List UInt8) (at_ : Nat) (hR : Cd.Rf w B g A c b at_ false) :
    Calls Try.prog 48 #[.pointer (some ⟨g, 0, none⟩)] w (Cd.RetX w B g A c b at_) := by
  have HR := Lib.hid hR
  obtain ⟨⟨z0, c0, c1, c2⟩, f1, f2⟩ := hR.facts
  have h1 := hR.le
  have h2 := hR.mx
  have h3 := hR.at_le
  unfold maxLen at h2
  clear hR
  by_cases hlt : at_ < b.length
  · obtain ⟨bk, off, rfl, hbk, hcell⟩ := HR.out.rd.2 (by omega)
    have hx := hcell at_ (.int .u8 ((b[at_]'hlt).toNat : Int)) (by rw [List.getElem?_map, List.getElem?_eq_getElem hlt]; rfl)
    have hbz : bk < w.heap.size := by have := HR.out.lt; omega
    have HDP := Lib.hid (List.drop_eq_getElem_cons hlt)
    have hne : bk ≠ g := by have := HR.out.lt; omega
    have HNE := Lib.hid hne
    clear hcell hbk hne
    generalize b[at_] = x at hx HDP
    have hd : decide (b.length ≤ at_) = false := decide_eq_false (by omega)
    have hd2 : decide ((b.length : Int) ≤ (at_ : Int)) = false := decide_eq_false (by omega)
    go_enter Try.func48, Try.ntmps48
    go_wp2_with fail
    go_quiet (fail)
    go_upto_region 5 with fail
    obtain ⟨w1, hw1⟩ : ∃ w1, w1 = (w.drewN nq).setCell ⟨g, 1, none⟩ (.int .i64 ((at_ : Int) + 1)) := ⟨_, rfl⟩
    have R1 := Lib.hid (show Cd.Rf w1 B g (some ⟨bk, off, none⟩) c b (at_ + 1) false by rw [hw1]; exact (HR.out.drewN nq).move (at_ + 1) (by omega))
    have G1 := Lib.hid (show w.grownBy w1 (some g) by rw [hw1]; exact grown_trans (grown_below (below_drewN (Below.refl _ _) nq) _) (grown_set1 g 1 _))
    have hx1 : w1.cell? ⟨bk, off + at_, none⟩ = some (.int .u8 (x.toNat : Int)) := by rw [hw1]; exact (World.cell?_setCell_other (w.drewN nq) ⟨g, 1, none⟩ ⟨bk, off + at_, none⟩ _ (by intro e; injection e with e; exact HNE.out e.symm)).trans hx
    rw [← hw1]
    clear hw1 z0 c0 c1 c2 f1 f2 hx
    obtain ⟨⟨z0, c0, c1, c2⟩, f1, f2⟩ := R1.out.facts
    have hbz1 : bk < w1.heap.size := by have := G1.out.size; omega
    have hs1 : (((at_ + 1 : Nat) : Int) - 1) = (at_ : Int) := by omega
    have hs2 : IntKind.i64.wrap (((at_ + 1 : Nat) : Int) - 1) = (at_ : Int) := (IntWalk.i64_in _ (by omega)).trans (by omega)
    have hs3 : IntKind.i64.wrap ((at_ : Int) + 1 - 1) = (at_ : Int) := (IntWalk.i64_in _ (by omega)).trans (by omega)
    have hi1 : (0 : Int) ≤ (at_ : Int) := by omega
    have hi2 : (at_ : Int) < (b.length : Int) := by omega
    go_quiet (fail)
    go_wp2_with fail
    go_ret
    refine ⟨grown_trans G1.out (grown_below (below_drewN (Below.refl _ _) _) _), fun y r h => ?_, fun h => ?_⟩
    · rw [HDP.out] at h
      injection h with h1 h2
      subst h1
      exact ⟨rfl, h2, R1.out.drewN _⟩
    · rw [HDP.out] at h
      cases h
  · obtain rfl : at_ = b.length := by omega
    have hd : decide (b.length ≤ b.length) = true := decide_eq_true (by omega)
    go_enter Try.func48, Try.ntmps48
    go_wp2_with fail
    go_quiet (fail)
    go_wp2_with fail
    go_ret
    refine ⟨grown_trans (grown_below (below_drewN (Below.refl _ _) _) _) (grown_set1 g 2 _), fun y r h => ?_, fun _ => ⟨rfl, (HR.out.drewN _).mark true⟩⟩
    rw [List.drop_length] at h
    cases h
end Go.Proofs.Ytnhodcjbmloeeaa
