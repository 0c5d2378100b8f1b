/- Small facts on worlds that every walk of this seat uses: frames, blocks that are known whole. No condition; no program in sight. -/
import Derived.WalkKit
import Derived.WalkLawsBesides
import Derived.WalkSpells
import Derived.Below
import Derived.Lib.Hide
import Derived.Deep.QuietTactic
import Derived.BigQuiet
import Derived.Outline
import Derived.RangeFuncNested
namespace Go.Proofs.YtnbbleajbbgmjaaDoor
open Go.RowKit

theorem quiet_left {P : Program} {f : FuncId} {args : Array Value} {w : World} {n : Nat} {v : Value}
    (h : Calls P f args (w.drewN n) fun e w' => e = .returned v ∧ w.drewN n = w') : Calls P f args (w.drewN n) fun e w'' => e = .returned v ∧ ∃ m, w'' = w.drewN m :=
  h.mono fun _ _ ⟨he, hm⟩ => ⟨he, n, hm.symm⟩
theorem below_drewN {B : Nat} {a w : World} (h : Below B a w) (n : Nat) : Below B a (w.drewN n) := ⟨h.os, h.tape, h.output, h.size, h.block⟩
theorem below_eq {w w' : World} (h : w = w') : Below w.heap.size w w' := by subst h; exact Below.refl _ _
theorem bcell {W w1 : World} (hb : Below W.heap.size W w1) : (∀ b o, b < W.heap.size → w1.cell? ⟨b, o, none⟩ = W.cell? ⟨b, o, none⟩) ∧ (∀ b o, b < W.heap.size → w1.frozen? ⟨b, o, none⟩ = W.frozen? ⟨b, o, none⟩) :=
  ⟨fun b o h => hb.cell (p := ⟨b, o, none⟩) h, fun b o h => hb.frozen (p := ⟨b, o, none⟩) h⟩
theorem keepsOthers_of_below {W W' : World} (h : Below W.heap.size W W') : KeepsOthers W W' :=
  ⟨h.size, fun k _ hk _ => (h.block k (Array.getElem?_eq_some_iff.1 hk).1).trans hk⟩
theorem below3 (w : World) (o1 o2 o3 : Obj) : Below w.heap.size w (((w.alloc o1).alloc o2).alloc o3) := (((Below.refl _ _).alloc (Nat.le_refl _) _).alloc (by simp) _).alloc (by simp; omega) _

/-- block g is these cells of type t, none of them frozen -/
def Has (w : World) (g : Nat) (t : TypeId) (cs : List Value) : Prop := w.heap[g]? = some (.cells cs.toArray t (0, 0))

section
variable {w w' : World} {g : Nat} {t : TypeId} {cs : List Value}
theorem Has.lt (h : Has w g t cs) : g < w.heap.size := (Array.getElem?_eq_some_iff.1 h).1
theorem Has.cell (h : Has w g t cs) (i : Nat) : w.cell? ⟨g, i, none⟩ = cs[i]? := by
  unfold Has at h
  simp [World.cell?, h]
theorem Has.frozen (h : Has w g t cs) (i : Nat) : w.frozen? ⟨g, i, none⟩ = false := by
  unfold Has at h
  simp [World.frozen?, h]
theorem Has.new (w : World) (t : TypeId) (cs : List Value) : Has (w.alloc (.cells cs.toArray t)) w.heap.size t cs := World.alloc_heap_new w _
theorem Has.drewN (h : Has w g t cs) (n : Nat) : Has (w.drewN n) g t cs := h
theorem Has.drew (h : Has w g t cs) : Has w.drew g t cs := h
theorem Has.alloc (h : Has w g t cs) (o : Obj) : Has (w.alloc o) g t cs := (Below.heap_alloc w o g h.lt).trans h
theorem Has.below {B : Nat} (h : Has w g t cs) (hb : Below B w w') (hg : g < B) : Has w' g t cs := (hb.block g hg).trans h
theorem Has.keep (h : Has w g t cs) (hb : Below w.heap.size w w') : Has w' g t cs := h.below hb h.lt
theorem Has.far (h : Has w g t cs) {p : Addr} (hp : g ≠ p.block) (u : Value) : Has (w.setCell p u) g t cs := (Below.heap_setCell w p u g hp).trans h
theorem Has.set (h : Has w g t cs) (i : Nat) (u : Value) : Has (w.setCell ⟨g, i, none⟩ u) g t (cs.set i u) := by
  unfold Has at h ⊢
  simp [World.setCell, Array.getElem?_modify, h]
theorem Has.c1 {a : Value} (h : Has w g t [a]) : w.cell? ⟨g, 0, none⟩ = some a := h.cell 0
theorem Has.c2 {a b : Value} (h : Has w g t [a, b]) : w.cell? ⟨g, 0, none⟩ = some a ∧ w.cell? ⟨g, 1, none⟩ = some b := ⟨h.cell 0, h.cell 1⟩
theorem Has.c3 {a b c : Value} (h : Has w g t [a, b, c]) : w.cell? ⟨g, 0, none⟩ = some a ∧ w.cell? ⟨g, 1, none⟩ = some b ∧ w.cell? ⟨g, 2, none⟩ = some c := ⟨h.cell 0, h.cell 1, h.cell 2⟩
theorem Has.r1 {a : Value} (h : Has w g t [a]) : g < w.heap.size ∧ w.cell? ⟨g, 0, none⟩ = some a := ⟨h.lt, h.c1⟩
theorem Has.r2 {a b : Value} (h : Has w g t [a, b]) : g < w.heap.size ∧ w.cell? ⟨g, 0, none⟩ = some a ∧ w.cell? ⟨g, 1, none⟩ = some b := ⟨h.lt, h.c2⟩
theorem Has.r3 {a b c : Value} (h : Has w g t [a, b, c]) : g < w.heap.size ∧ w.cell? ⟨g, 0, none⟩ = some a ∧ w.cell? ⟨g, 1, none⟩ = some b ∧ w.cell? ⟨g, 2, none⟩ = some c := ⟨h.lt, h.c3⟩
end

/-- the call began in w0; nothing that was there has changed; these are blocks of its own, each known whole -/
structure St (w0 w : World) (l : List (Nat × TypeId × List Value)) : Prop where
  below : Below w0.heap.size w0 w
  has : ∀ x, x ∈ l → Has w x.1 x.2.1 x.2.2

section
variable {w0 w w' : World} {l : List (Nat × TypeId × List Value)}
theorem St.start (w : World) : St w w [] := ⟨Below.refl _ _, fun _ h => by cases h⟩
theorem St.le (h : St w0 w l) : w0.heap.size ≤ w.heap.size := h.below.size
theorem St.keep (h : St w0 w l) (hb : Below w.heap.size w w') : St w0 w' l := ⟨h.below.trans (hb.mono h.below.size), fun x hx => (h.has x hx).keep hb⟩
theorem St.new (h : St w0 w l) (t : TypeId) (cs : List Value) : St w0 (w.alloc (.cells cs.toArray t)) ((w.heap.size, t, cs) :: l) :=
  ⟨h.below.alloc h.below.size _, fun x hx => by
    rcases List.mem_cons.1 hx with rfl | hx
    · exact Has.new w t cs
    · exact (h.has x hx).alloc _⟩
theorem St.alloc (h : St w0 w l) (o : Obj) : St w0 (w.alloc o) l := ⟨h.below.alloc h.below.size _, fun x hx => (h.has x hx).alloc _⟩
theorem St.drew (h : St w0 w l) : St w0 w.drew l := ⟨h.below.drew, fun x hx => (h.has x hx).drew⟩
theorem St.drewN (h : St w0 w l) (n : Nat) : St w0 (w.drewN n) l := ⟨below_drewN h.below n, fun x hx => (h.has x hx).drewN n⟩
theorem St.nth (h : St w0 w l) (i : Nat) {g : Nat} {t : TypeId} {cs : List Value} (hi : l[i]? = some (g, t, cs)) : Has w g t cs := h.has (g, t, cs) (List.mem_of_getElem? hi)
theorem St.less (h : St w0 w l) {l' : List (Nat × TypeId × List Value)} (hl : ∀ x, x ∈ l' → x ∈ l) : St w0 w l' := ⟨h.below, fun x hx => h.has x (hl x hx)⟩
/-- a store into the first of the blocks -/
theorem St.put {g : Nat} {t : TypeId} {cs : List Value} (h : St w0 w ((g, t, cs) :: l)) (hg : w0.heap.size ≤ g) (hne : ∀ x, x ∈ l → x.1 ≠ g) (k : Nat) (u : Value) : St w0 (w.setCell ⟨g, k, none⟩ u) ((g, t, cs.set k u) :: l) :=
  ⟨h.below.setCell hg _, fun x hx => by
    rcases List.mem_cons.1 hx with rfl | hx
    · exact (h.nth 0 rfl).set k u
    · exact (h.has x (List.mem_cons_of_mem _ hx)).far (hne x hx) _⟩
end
end Go.Proofs.YtnbbleajbbgmjaaDoor
