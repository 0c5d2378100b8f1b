/- The reference reader's Value: what its loop keeps; its ends. -/
import Derived.Test.YtnhodcjbmloeeaaCdQ2
namespace Go.Proofs.Ytnhodcjbmloeeaa
open Go.RowKit Go.Shelf
set_option linter.unusedVariables false

/-- a value, or bad -/
def Cd.RetRV (w : World) (B g : Nat) (A : Option Addr) (c : Nat) (b : List UInt8) : Option (Cd.T × List UInt8) → Ending → World → Prop
  | some (t, r), e, w' => (∃ cs, e = .returned (.agg cs.toArray) ∧ Cd.CellX w' (fun d => w.heap.size ≤ d) t cs) ∧ w.grownBy w' (some g) ∧ ∃ at_, b.drop at_ = r ∧ Cd.Rf w' B g A c b at_ false
  | none, e, w' => (∃ (k n : Int) (s : ByteArray) (A' : Option Addr) (m c' : Nat), e = .returned (.agg #[.int .i64 k, .int .i64 n, .string s, .slice A' m c'])) ∧ w.grownBy w' (some g) ∧ ∃ at_, Cd.Rf w' B g A c b at_ true
/-- so many values have been read into the list -/
structure Cd.Lq (w wr : World) (B g : Nat) (j : Nat) (lj : List Cd.T) (A : Option Addr) (c : Nat) (b : List UInt8) (at_ : Nat) (Aj : Option Addr) (cj : Nat) (xss : List (List Value)) : Prop where
  gq : g < w.heap.size
  grown : w.grownBy wr (some g)
  re : Cd.Rf wr B g A c b at_ false
  has : Has wr w.heap.size 24 [.int .i64 3, .int .i64 0, .string ⟨#[]⟩, .slice Aj j cj]
  len : lj.length = j
  xlen : xss.length = j
  own : wr.ownsRow (w.heap.size + 1) 24 4 (.slice Aj j cj) j xss.flatten
  cells : ∀ i, i < j → Cd.CellX wr (fun b => w.heap.size < b ∧ some b ≠ (Value.slice Aj j cj).ownBlock) lj[i]! xss[i]!
theorem Cd.Lq.next {w wr : World} {B g j : Nat} {lj : List Cd.T} {A : Option Addr} {c : Nat} {b : List UInt8} {at_ : Nat} {Aj : Option Addr} {cj : Nat} {xss : List (List Value)} (h : Cd.Lq w wr B g j lj A c b at_ Aj cj xss)
    {t : Cd.T} {cs : List Value} {at6 : Nat} {w5 w8 : World} {A8 : Option Addr} {c8 : Nat} (hg5 : wr.grownBy w5 (some g)) (hX5 : Cd.CellX w5 (fun b => wr.heap.size ≤ b) t cs) (hR5 : Cd.Rf w5 B g A c b at6 false) (cs2 : Array Value)
    (hG : Grew (w5.alloc (.cells cs2 24)) (w.heap.size + 1) 24 4 (.slice Aj j cj) (j + 1) (xss.flatten ++ cs) (.slice A8 (j + 1) c8) w8) :
    Cd.Lq w (w8.setCell ⟨w.heap.size, 3, none⟩ (.slice A8 (j + 1) c8)) B g (j + 1) (lj ++ [t]) A c b at6 A8 c8 (xss ++ [cs]) := by
  have hgq := h.gq
  have hq := h.has.lt
  have hz5 := hg5.size
  have hz6 : (w5.alloc (.cells cs2 24)).heap.size = w5.heap.size + 1 := by simp
  have hz8 := hG.grown.size
  have hge : ∀ k, (Value.slice Aj j cj).ownBlock = some k → w.heap.size + 1 ≤ k ∧ k < wr.heap.size := fun k e => h.own.lt k e
  have h5 : w.grownBy w5 (some g) := grown_trans h.grown hg5
  have h6 : w.grownBy (w5.alloc (.cells cs2 24)) (some g) := grown_trans h5 (grown_below ((Below.refl _ _).alloc (Nat.le_refl _) _) _)
  have h8 : w.grownBy w8 (some g) := grown_own h6 hG.grown (fun k e => by have := hge k e; omega)
  have hblk : ∀ b, b < w5.heap.size → w.heap.size < b → some b ≠ (Value.slice Aj j cj).ownBlock → (w8.setCell ⟨w.heap.size, 3, none⟩ (.slice A8 (j + 1) c8)).heap[b]? = w5.heap[b]? := fun b hb hgt hne => by
    rw [Below.heap_setCell w8 ⟨w.heap.size, 3, none⟩ _ b (show b ≠ w.heap.size by omega), hG.grown.block b (by omega) hne]
    exact Below.heap_alloc w5 _ b hb
  have hnew : ∀ b, b < w5.heap.size → some b ≠ (Value.slice Aj j cj).ownBlock → some b ≠ (Value.slice A8 (j + 1) c8).ownBlock := fun b hb hne => by
    rcases hG.at_ with e | e
    · rw [e]; exact hne
    · rw [e]; intro e2; injection e2 with e2; omega
  refine ⟨hgq, grown_setCell h8 (Nat.le_refl _) _, ?_, ?_, by rw [List.length_append, h.len]; rfl, by rw [List.length_append, h.xlen]; rfl, ?_, fun i hi => ?_⟩
  · have hr6 := hR5.keep ((Below.refl _ _).alloc (Nat.le_refl _) (.cells cs2 24))
    exact (hr6.grown hG.grown (fun k e => by have := hge k e; omega)).set hgq _
  · have hh5 := h.has.grown hg5 (fun e => by injection e with e; omega)
    have hh8 := (hh5.alloc (.cells cs2 24)).grown hG.grown (fun e => by have := hge _ e; omega)
    exact hh8.set 3 _
  · have ho := hG.own
    rw [show (xss ++ [cs]).flatten = xss.flatten ++ cs by simp]
    exact own_far ho (by show w.heap.size < w.heap.size + 1; omega) _
  · have hsz : w5.heap.size ≤ (w8.setCell ⟨w.heap.size, 3, none⟩ (.slice A8 (j + 1) c8)).heap.size := by simp; omega
    by_cases hij : i < j
    · rw [get_snoc_lt lj t i (by rw [h.len]; exact hij), get_snoc_lt xss cs i (by rw [h.xlen]; exact hij)]
      refine (h.cells i hij).turn (by omega) fun b hb hXb => ?_
      refine ⟨⟨hXb.1, hnew b (by omega) hXb.2⟩, ?_⟩
      rw [hblk b (by omega) hXb.1 hXb.2]
      exact hg5.block b hb (fun e => by injection e with e; have := hXb.1; omega)
    · have hij : i = j := by omega
      subst hij
      rw [get_snoc_eq lj t i h.len.symm, get_snoc_eq xss cs i h.xlen.symm]
      refine hX5.turn hsz fun b hb hXb => ?_
      have hgt : w.heap.size < b := by omega
      have hne : some b ≠ (Value.slice Aj i cj).ownBlock := fun e => by have := hge b e.symm; omega
      exact ⟨⟨hgt, hnew b hb hne⟩, hblk b hb hgt hne⟩

/-- behind so many rounds: good, or bad -/
def Cd.Lz (w wr : World) (B g : Nat) (A : Option Addr) (c : Nat) (b : List UInt8) (F : List UInt8 → Option (Cd.T × List UInt8)) (n : Nat) (o : Option (List Cd.T × List UInt8)) (j : Nat) : Prop :=
  (∃ lj at_ Aj cj xss, Cd.Lq w wr B g j lj A c b at_ Aj cj xss ∧ (match Cd.dvs F (n - j) (b.drop at_) with | none => none | some (l2, r2) => some (lj ++ l2, r2)) = o) ∨
  (o = none ∧ ∃ at_ m Aj cj, Cd.Rf wr B g A c b at_ true ∧ Has wr w.heap.size 24 [.int .i64 3, .int .i64 0, .string ⟨#[]⟩, .slice Aj m cj] ∧ w.grownBy wr (some g))
section
variable {w w9 : World} {B g : Nat} {A : Option Addr} {c : Nat} {b : List UInt8} {at_ : Nat}
theorem Cd.Rf.set4 {bad : Bool} {q : Nat} (hR : Cd.Rf w9 B g A c b at_ bad) (hgq : g < q) (v0 v1 v2 v3 : Value) : Cd.Rf ((((w9.setCell ⟨q, 0, none⟩ v0).setCell ⟨q, 1, none⟩ v1).setCell ⟨q, 2, none⟩ v2).setCell ⟨q, 3, none⟩ v3) B g A c b at_ bad :=
  (((hR.set hgq v0).set hgq v1).set hgq v2).set hgq v3
theorem Cd.rfin4 {r : List UInt8} {t : Cd.T} {cs : List Value} (v0 v1 v2 v3 : Value) (hG : w.grownBy w9 (some g)) (hR : Cd.Rf w9 B g A c b at_ false) (hd : b.drop at_ = r) (hgq : g < w.heap.size) (hX : Cd.CellX w9 (fun d => w.heap.size < d) t cs) :
    Cd.RetRV w B g A c b (some (t, r)) (.returned (.agg cs.toArray)) ((((w9.setCell ⟨w.heap.size, 0, none⟩ v0).setCell ⟨w.heap.size, 1, none⟩ v1).setCell ⟨w.heap.size, 2, none⟩ v2).setCell ⟨w.heap.size, 3, none⟩ v3) := by
  refine ⟨⟨cs, rfl, hX.turn (by simp) fun d hb hq => ⟨Nat.le_of_lt hq, ?_⟩⟩, ?_, at_, hd, hR.set4 hgq v0 v1 v2 v3⟩
  · have hne : d ≠ w.heap.size := by omega
    rw [Below.heap_setCell _ _ _ d hne, Below.heap_setCell _ _ _ d hne, Below.heap_setCell _ _ _ d hne, Below.heap_setCell _ _ _ d hne]
  · exact grown_setCell (grown_setCell (grown_setCell (grown_setCell hG (Nat.le_refl _) _) (Nat.le_refl _) _) (Nat.le_refl _) _) (Nat.le_refl _) _
theorem Cd.rbad4 (k n : Int) (s : ByteArray) (A' : Option Addr) (m c' : Nat) (v0 v1 v2 v3 : Value) (hG : w.grownBy w9 (some g)) (hR : Cd.Rf w9 B g A c b at_ true) (hgq : g < w.heap.size) :
    Cd.RetRV w B g A c b none (.returned (.agg #[.int .i64 k, .int .i64 n, .string s, .slice A' m c'])) ((((w9.setCell ⟨w.heap.size, 0, none⟩ v0).setCell ⟨w.heap.size, 1, none⟩ v1).setCell ⟨w.heap.size, 2, none⟩ v2).setCell ⟨w.heap.size, 3, none⟩ v3) :=
  ⟨⟨k, n, s, A', m, c', rfl⟩, grown_setCell (grown_setCell (grown_setCell (grown_setCell hG (Nat.le_refl _) _) (Nat.le_refl _) _) (Nat.le_refl _) _) (Nat.le_refl _) _, at_, hR.set4 hgq v0 v1 v2 v3⟩
end
theorem Cd.RetRV.way {w : World} {B g : Nat} {A : Option Addr} {c : Nat} {b : List UInt8} {o : Option (Cd.T × List UInt8)} : ∀ (e : Ending) (w' : World), Cd.RetRV w B g A c b o e w' → ∃ v, e = .returned v := fun e w' h => by
  cases o with
  | none => obtain ⟨⟨_, _, _, _, _, _, e1⟩, _⟩ := h; exact ⟨_, e1⟩
  | some p => obtain ⟨t, r⟩ := p; obtain ⟨⟨cs, e1, _⟩, _⟩ := h; exact ⟨_, e1⟩
end Go.Proofs.Ytnhodcjbmloeeaa
