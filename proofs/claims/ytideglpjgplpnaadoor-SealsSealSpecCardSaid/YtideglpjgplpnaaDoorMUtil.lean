import Derived.WalkKit
import Derived.WalkLawsBesides
import Derived.WalkSpells
import Derived.Below
import Derived.Lib.Hide
import Derived.Deep.QuietTactic
import Derived.BigQuiet
import Derived.Outline
import Derived.RangeFuncNested
import Derived.Laws.AppendOwn
import Derived.Laws.OwnMore
import Derived.Maps.AppendAt
import Derived.Laws.IdiomStrings
import Derived.Laws.BytesArg
import Derived.Deep.RegionHeld3
import Derived.Deep.AppendLies
import Derived.Deep.MidRow
import Derived.RangeFuncBound
import Derived.RangeFuncCalls
import Derived.RangeFuncLeaves
import Derived.Shelf.Abstract
import Derived.Shelf.RegionOpen
import Derived.OwnWalkIn
import Derived.TacticsInMore
import Derived.LoopNIn
import Derived.LoopIn
import Derived.Laws.CopyOwn
import Derived.Laws.Tables
import Derived.Laws.Rows
/- Small facts on worlds that every walk of this seat uses: frames, blocks that are known whole. No condition; no program in sight. -/
namespace Go.Proofs.YtideglpjgplpnaaDoor
open Go.RowKit

theorem quiet_left {P : Program} {f : FuncId} {args : Array Value} {w : World} {n : Nat} {v : Value}
    (h : Calls P f args (w.drewN n) fun e w' => e = .returned v ∧ w.drewN n = w') : Calls P f args (w.drewN n) fun e w'' => e = .returned v ∧ ∃ m, w'' = w.drewN m :=
  h.mono fun _ _ ⟨he, hm⟩ => ⟨he, n, hm.symm⟩
theorem below_drewN {B : Nat} {a w : World} (h : Below B a w) (n : Nat) : Below B a (w.drewN n) := ⟨h.os, h.tape, h.output, h.size, h.block⟩
theorem below_eq {w w' : World} (h : w = w') : Below w.heap.size w w' := by subst h; exact Below.refl _ _
theorem bcell {W w1 : World} (hb : Below W.heap.size W w1) : (∀ b o, b < W.heap.size → w1.cell? ⟨b, o, none⟩ = W.cell? ⟨b, o, none⟩) ∧ (∀ b o, b < W.heap.size → w1.frozen? ⟨b, o, none⟩ = W.frozen? ⟨b, o, none⟩) :=
  ⟨fun b o h => hb.cell (p := ⟨b, o, none⟩) h, fun b o h => hb.frozen (p := ⟨b, o, none⟩) h⟩
theorem keepsOthers_of_below {W W' : World} (h : Below W.heap.size W W') : KeepsOthers W W' :=
  ⟨h.size, fun k _ hk _ => (h.block k (Array.getElem?_eq_some_iff.1 hk).1).trans hk⟩
theorem below3 (w : World) (o1 o2 o3 : Obj) : Below w.heap.size w (((w.alloc o1).alloc o2).alloc o3) := (((Below.refl _ _).alloc (Nat.le_refl _) _).alloc (by simp) _).alloc (by simp; omega) _

/-- block g is these cells of type t, none of them frozen -/
def Has (w : World) (g : Nat) (t : TypeId) (cs : List Value) : Prop := w.heap[g]? = some (.cells cs.toArray t (0, 0))

section
variable {w w' : World} {g : Nat} {t : TypeId} {cs : List Value}
theorem Has.lt (h : Has w g t cs) : g < w.heap.size := (Array.getElem?_eq_some_iff.1 h).1
theorem Has.cell (h : Has w g t cs) (i : Nat) : w.cell? ⟨g, i, none⟩ = cs[i]? := by
  unfold Has at h
  simp [World.cell?, h]
theorem Has.frozen (h : Has w g t cs) (i : Nat) : w.frozen? ⟨g, i, none⟩ = false := by
  unfold Has at h
  simp [World.frozen?, h]
theorem Has.new (w : World) (t : TypeId) (cs : List Value) : Has (w.alloc (.cells cs.toArray t)) w.heap.size t cs := World.alloc_heap_new w _
theorem Has.drewN (h : Has w g t cs) (n : Nat) : Has (w.drewN n) g t cs := h
theorem Has.drew (h : Has w g t cs) : Has w.drew g t cs := h
theorem Has.alloc (h : Has w g t cs) (o : Obj) : Has (w.alloc o) g t cs := (Below.heap_alloc w o g h.lt).trans h
theorem Has.below {B : Nat} (h : Has w g t cs) (hb : Below B w w') (hg : g < B) : Has w' g t cs := (hb.block g hg).trans h
theorem Has.keep (h : Has w g t cs) (hb : Below w.heap.size w w') : Has w' g t cs := h.below hb h.lt
theorem Has.far (h : Has w g t cs) {p : Addr} (hp : g ≠ p.block) (u : Value) : Has (w.setCell p u) g t cs := (Below.heap_setCell w p u g hp).trans h
theorem Has.set (h : Has w g t cs) (i : Nat) (u : Value) : Has (w.setCell ⟨g, i, none⟩ u) g t (cs.set i u) := by
  unfold Has at h ⊢
  simp [World.setCell, Array.getElem?_modify, h]
theorem Has.c1 {a : Value} (h : Has w g t [a]) : w.cell? ⟨g, 0, none⟩ = some a := h.cell 0
theorem Has.c2 {a b : Value} (h : Has w g t [a, b]) : w.cell? ⟨g, 0, none⟩ = some a ∧ w.cell? ⟨g, 1, none⟩ = some b := ⟨h.cell 0, h.cell 1⟩
theorem Has.c3 {a b c : Value} (h : Has w g t [a, b, c]) : w.cell? ⟨g, 0, none⟩ = some a ∧ w.cell? ⟨g, 1, none⟩ = some b ∧ w.cell? ⟨g, 2, none⟩ = some c := ⟨h.cell 0, h.cell 1, h.cell 2⟩
theorem Has.r1 {a : Value} (h : Has w g t [a]) : g < w.heap.size ∧ w.cell? ⟨g, 0, none⟩ = some a := ⟨h.lt, h.c1⟩
theorem Has.r2 {a b : Value} (h : Has w g t [a, b]) : g < w.heap.size ∧ w.cell? ⟨g, 0, none⟩ = some a ∧ w.cell? ⟨g, 1, none⟩ = some b := ⟨h.lt, h.c2⟩
theorem Has.r3 {a b c : Value} (h : Has w g t [a, b, c]) : g < w.heap.size ∧ w.cell? ⟨g, 0, none⟩ = some a ∧ w.cell? ⟨g, 1, none⟩ = some b ∧ w.cell? ⟨g, 2, none⟩ = some c := ⟨h.lt, h.c3⟩
end

/-- the call began in w0; nothing that was there has changed; these are blocks of its own, each known whole -/
structure St (w0 w : World) (l : List (Nat × TypeId × List Value)) : Prop where
  below : Below w0.heap.size w0 w
  has : ∀ x, x ∈ l → Has w x.1 x.2.1 x.2.2

section
variable {w0 w w' : World} {l : List (Nat × TypeId × List Value)}
theorem St.start (w : World) : St w w [] := ⟨Below.refl _ _, fun _ h => by cases h⟩
theorem St.le (h : St w0 w l) : w0.heap.size ≤ w.heap.size := h.below.size
theorem St.keep (h : St w0 w l) (hb : Below w.heap.size w w') : St w0 w' l := ⟨h.below.trans (hb.mono h.below.size), fun x hx => (h.has x hx).keep hb⟩
theorem St.new (h : St w0 w l) (t : TypeId) (cs : List Value) : St w0 (w.alloc (.cells cs.toArray t)) ((w.heap.size, t, cs) :: l) :=
  ⟨h.below.alloc h.below.size _, fun x hx => by
    rcases List.mem_cons.1 hx with rfl | hx
    · exact Has.new w t cs
    · exact (h.has x hx).alloc _⟩
theorem St.alloc (h : St w0 w l) (o : Obj) : St w0 (w.alloc o) l := ⟨h.below.alloc h.below.size _, fun x hx => (h.has x hx).alloc _⟩
theorem St.drew (h : St w0 w l) : St w0 w.drew l := ⟨h.below.drew, fun x hx => (h.has x hx).drew⟩
theorem St.drewN (h : St w0 w l) (n : Nat) : St w0 (w.drewN n) l := ⟨below_drewN h.below n, fun x hx => (h.has x hx).drewN n⟩
theorem St.nth (h : St w0 w l) (i : Nat) {g : Nat} {t : TypeId} {cs : List Value} (hi : l[i]? = some (g, t, cs)) : Has w g t cs := h.has (g, t, cs) (List.mem_of_getElem? hi)
theorem St.less (h : St w0 w l) {l' : List (Nat × TypeId × List Value)} (hl : ∀ x, x ∈ l' → x ∈ l) : St w0 w l' := ⟨h.below, fun x hx => h.has x (hl x hx)⟩
/-- a store into the first of the blocks -/
theorem St.put {g : Nat} {t : TypeId} {cs : List Value} (h : St w0 w ((g, t, cs) :: l)) (hg : w0.heap.size ≤ g) (hne : ∀ x, x ∈ l → x.1 ≠ g) (k : Nat) (u : Value) : St w0 (w.setCell ⟨g, k, none⟩ u) ((g, t, cs.set k u) :: l) :=
  ⟨h.below.setCell hg _, fun x hx => by
    rcases List.mem_cons.1 hx with rfl | hx
    · exact (h.nth 0 rfl).set k u
    · exact (h.has x (List.mem_cons_of_mem _ hx)).far (hne x hx) _⟩
end
end Go.Proofs.YtideglpjgplpnaaDoor
/- A slice that reads as a list of cells, nil let in; how it is kept. No condition; no program in sight. -/
namespace Go.Proofs.YtideglpjgplpnaaDoor
open Go.RowKit

/-- the slice at A with n elements of 'size' cells each reads as the cells xs, which lie in w below block B -/
def Rd (w : World) (B size : Nat) (A : Option Addr) (n : Nat) (xs : List Value) : Prop :=
  xs.length = n * size ∧ (0 < n → ∃ b off, A = some ⟨b, off, none⟩ ∧ b < B ∧ ∀ j u, xs[j]? = some u → w.cell? ⟨b, off + j, none⟩ = some u)

section
variable {w w' : World} {B B' size n : Nat} {A : Option Addr} {xs : List Value}
theorem Rd.len (h : Rd w B size A n xs) : xs.length = n * size := h.1
theorem Rd.keep (h : Rd w B size A n xs) (hk : ∀ p : Addr, p.block < B → w'.cell? p = w.cell? p) : Rd w' B size A n xs :=
  ⟨h.1, fun hn => by
    obtain ⟨b, off, e, hb, hc⟩ := h.2 hn
    exact ⟨b, off, e, hb, fun j u hu => (hk ⟨b, off + j, none⟩ hb).trans (hc j u hu)⟩⟩
theorem Rd.below (h : Rd w B size A n xs) {C : Nat} (hb : Below C w w') (hC : B ≤ C) : Rd w' B size A n xs := h.keep fun _ hp => hb.cell (Nat.lt_of_lt_of_le hp hC)
theorem Rd.more (h : Rd w B size A n xs) (hB : B ≤ B') : Rd w B' size A n xs :=
  ⟨h.1, fun hn => by
    obtain ⟨b, off, e, hb, hc⟩ := h.2 hn
    exact ⟨b, off, e, Nat.lt_of_lt_of_le hb hB, hc⟩⟩
theorem Rd.addr (h : Rd w B size A n xs) (hn : 0 < n) : ∃ b off, A = some ⟨b, off, none⟩ ∧ b < B ∧ ∀ j u, xs[j]? = some u → w.cell? ⟨b, off + j, none⟩ = some u := h.2 hn
theorem Rd.none_ : Rd w B size A 0 [] := ⟨by simp, fun h => absurd h (by omega)⟩
end

/-- what an owned slice reads as -/
theorem rd_of_own {w : World} {base e size n cap : Nat} {A : Option Addr} {xs : List Value} (h : w.ownsRow base e size (.slice A n cap) n xs) : Rd w w.heap.size size A n xs := by
  refine ⟨h.1, fun hn => ?_⟩
  rcases h.2 with ⟨_, h0⟩ | ⟨g, c, cur, hv, _, hh, _⟩
  · omega
  · have hA : A = some ⟨g, 0, none⟩ := by injection hv
    subst hA
    refine ⟨g, 0, rfl, (Array.getElem?_eq_some_iff.1 hh).1, fun j u hu => ?_⟩
    have := h.cells (g := g) rfl j u hu
    rw [Nat.zero_add]
    by_cases h0 : j = 0
    · subst h0; exact this
    · simpa [Addr.add, h0] using this
theorem own_below {w w' : World} {base e size n : Nat} {v : Value} {xs : List Value} (h : w.ownsRow base e size v n xs) (hb : Below w.heap.size w w') : w'.ownsRow base e size v n xs := by
  refine ⟨h.1, ?_⟩
  rcases h.2 with h0 | ⟨g, c, cur, hv, h1, hh, h2⟩
  · exact .inl h0
  · exact .inr ⟨g, c, cur, hv, h1, (hb.block g (Array.getElem?_eq_some_iff.1 hh).1).trans hh, h2⟩
theorem own_drew {w : World} {base e size n : Nat} {v : Value} {xs : List Value} (h : w.ownsRow base e size v n xs) : w.drew.ownsRow base e size v n xs := h
theorem own_drewN {w : World} {base e size n : Nat} {v : Value} {xs : List Value} (h : w.ownsRow base e size v n xs) (k : Nat) : (w.drewN k).ownsRow base e size v n xs := h
theorem Has.grown {w w' : World} {g : Nat} {t : TypeId} {cs : List Value} {row : Option Nat} (h : Has w g t cs) (hg : w.grownBy w' row) (hne : row ≠ some g) : Has w' g t cs :=
  (hg.block g h.lt (fun e => hne e.symm)).trans h
/-- behind an append onto a row of the call's own that is none of the blocks -/
theorem St.grown {w0 w w' : World} {l : List (Nat × TypeId × List Value)} {row : Option Nat} (h : St w0 w l) (hg : w.grownBy w' row) (hr : ∀ g, row = some g → w0.heap.size ≤ g ∧ ∀ x, x ∈ l → x.1 ≠ g) : St w0 w' l :=
  ⟨h.below.grown hg h.below.size (fun k e => (hr k e).1), fun x hx => (h.has x hx).grown hg (fun e => (hr _ e).2 x hx rfl)⟩
/-- what lies below the base of an owned row is none of its block -/
theorem own_ge {w : World} {base e size n : Nat} {v : Value} {xs : List Value} (h : w.ownsRow base e size v n xs) {g : Nat} (hg : v.ownBlock = some g) : base ≤ g := (h.lt g hg).1
theorem own_far {w : World} {base e size n : Nat} {v : Value} {xs : List Value} (h : w.ownsRow base e size v n xs) {p : Addr} (hp : p.block < base) (u : Value) : (w.setCell p u).ownsRow base e size v n xs := ownsRow_setCell_below h hp u
end Go.Proofs.YtideglpjgplpnaaDoor
/- Slices of bytes that read as a list: keeping, 'string(b)'. No condition; no program in sight. -/
namespace Go.Proofs.YtideglpjgplpnaaDoor
open Go.RowKit

/-- the slice at A with n bytes reads as l -/
def RdB (w : World) (A : Option Addr) (n : Nat) (l : List UInt8) : Prop := Rd w w.heap.size 1 A n (l.map fun a => Value.int .u8 (a.toNat : Int))
section
variable {w w' : World} {A : Option Addr} {n : Nat} {l : List UInt8}
theorem RdB.len (h : RdB w A n l) : l.length = n := by have := h.1; simpa using this
theorem RdB.keep (h : RdB w A n l) (hb : Below w.heap.size w w') : RdB w' A n l := (Rd.below h hb (Nat.le_refl _)).more hb.size
theorem RdB.below {B : Nat} (h : RdB w A n l) (hb : Below B w w') (hB : w.heap.size ≤ B) : RdB w' A n l := h.keep (hb.mono hB)
theorem RdB.alloc (h : RdB w A n l) (o : Obj) : RdB (w.alloc o) A n l := h.keep ((Below.refl _ _).alloc (Nat.le_refl _) _)
theorem RdB.drew (h : RdB w A n l) : RdB w.drew A n l := h
theorem RdB.drewN (h : RdB w A n l) (k : Nat) : RdB (w.drewN k) A n l := h
theorem RdB.none_ : RdB w A 0 [] := Rd.none_
theorem RdB.of_own {base e cap : Nat} (h : w.ownsRow base e 1 (.slice A n cap) n (l.map fun a => Value.int .u8 (a.toNat : Int))) : RdB w A n l := rd_of_own h
theorem RdB.new (w : World) (t : TypeId) (l : List UInt8) : RdB (w.alloc (.cells (l.map fun a => Value.int .u8 (a.toNat : Int)).toArray t)) (some ⟨w.heap.size, 0, none⟩) l.length l := by
  have h := Has.new w t (l.map fun a => Value.int .u8 (a.toNat : Int))
  exact ⟨by simp, fun _ => ⟨w.heap.size, 0, rfl, h.lt, fun j u hu => by rw [Nat.zero_add, h.cell j]; exact hu⟩⟩
theorem RdB.byte (h : RdB w A n l) (k : Nat) (hk : k < n) : ∃ b off, A = some ⟨b, off, none⟩ ∧ b < w.heap.size ∧ w.cell? ⟨b, off + k, none⟩ = some (.int .u8 ((l.getD k 0).toNat : Int)) := by
  obtain ⟨b, off, e, hb, hc⟩ := h.2 (by omega)
  have hl := h.len
  exact ⟨b, off, e, hb, hc k _ (by rw [List.getElem?_map, List.getElem?_eq_getElem (by omega)]; simp [List.getElem?_eq_getElem (show k < l.length by omega)])⟩
theorem RdB.str {P : Program} {src dst e : TypeId} (h : RdB w A n l) (hs : P.underlying src = some (.slice e)) (he : P.underlying e = some (.int .u8)) (hd : P.underlying dst = some .string) (c : Nat) :
    (convert src dst (.slice A n c)).run P w = .ok (.string ⟨l.toArray⟩) w := by
  have hl := h.len
  subst hl
  cases A with
  | none =>
    have h0 : l = [] := by
      cases l with
      | nil => rfl
      | cons a l => obtain ⟨b, off, e, _⟩ := h.2 (by simp); cases e
    subst h0
    exact run_convert_bytes_nil (P := P) w src e hs he _ _ dst hd
  | some a =>
    refine run_convert_bytes_back w src dst e a c l hs he hd fun j hj => ?_
    obtain ⟨b, off, e1, hb, hc⟩ := h.byte j hj
    injection e1 with e1
    subst e1
    have hplain : (⟨b, off, none⟩ : Addr).add j = ⟨b, off + j, none⟩ := by unfold Addr.add; split <;> simp_all
    rw [hplain, hc]
    simp [List.getElem?_eq_getElem hj]
end
end Go.Proofs.YtideglpjgplpnaaDoor
/- The built-in append onto a slice of the call's own, its source a slice that reads as a list (nil let in): as a run, at an operation, inside a region. No condition; no program in sight. -/
namespace Go.Proofs.YtideglpjgplpnaaDoor
open Go.RowKit

/-- t is the type of slices of e; what e's zero value is, how many cells and bytes it takes -/
structure EltOk (P : Program) (t e : TypeId) (z : Value) (size bytes : Nat) : Prop where
  und : P.underlying t = some (.slice e)
  info : (P.info? e).map (fun i => (i.zero, i.size, i.bytes)) = some (some z, size, bytes)
  zs : z.cells.size = size
  pos : 0 < size

/-- what an append leaves -/
structure Grew (w : World) (base : Nat) (e : TypeId) (size : Nat) (v : Value) (n : Nat) (xs : List Value) (v' : Value) (w' : World) : Prop where
  own : w'.ownsRow base e size v' n xs
  grown : w.grownBy w' v.ownBlock
  at_ : v'.ownBlock = v.ownBlock ∨ v'.ownBlock = some w.heap.size

section
variable {P : Program} {t e : TypeId} {z : Value} {size bytes : Nat} {w : World} {base B : Nat} {v : Value} {n : Nat} {xs : List Value} {A : Option Addr} {m c : Nat} {news : List Value}

theorem run_append_rd (E : EltOk P t e z size bytes) (ty : TypeId) (hown : w.ownsRow base e size v n xs) (hrd : Rd w B size A m news) (h1 : ∀ u ∈ news, u.oneCell' = true) (hc : A = none → c = 0)
    (h63 : n + m ≤ maxLen) (hbytes : (n + m) * bytes ≤ 140737488355328) (hbase : base ≤ w.heap.size) :
    ∃ v' w', (Builtin.append_ #[t, t] ty #[v, .slice A m c]).run P w = .ok v' w' ∧ Grew w base e size v (n + m) (xs ++ news) v' w' := by
  obtain ⟨i, hi, hz, hsize, hby⟩ := info_parts E.info
  cases A with
  | none =>
    have hm : m = 0 := by
      rcases Nat.eq_zero_or_pos m with h | h
      · exact h
      · obtain ⟨_, _, e, _⟩ := hrd.2 h; cases e
    subst hm
    have hn : news = [] := List.length_eq_zero_iff.1 (by have := hrd.1; simpa using this)
    subst hn
    rw [hc rfl]
    exact ⟨v, w, run_append_owned_none w base t ty e i size E.und hi v n xs hown, by simpa using hown, ⟨rfl, rfl, rfl, Nat.le_refl _, fun _ _ _ => rfl⟩, .inl rfl⟩
  | some ad =>
    obtain ⟨v', w', hr, h2, h3, _, h5⟩ := run_append_own_at (P := P) w base t ty e i z size bytes E.und hi hz hsize hby E.zs E.pos v n xs hown ad m c news hrd.1 (fun j u hu => by
      have hlt : j < news.length := (List.getElem?_eq_some_iff.1 hu).1
      have hm : 0 < m := by
        rcases Nat.eq_zero_or_pos m with h | h
        · subst h; have := hrd.1; rw [Nat.zero_mul] at this; omega
        · exact h
      obtain ⟨b, off, e1, _, hcell⟩ := hrd.2 hm
      injection e1 with e1
      subst e1
      have hplain : (⟨b, off, none⟩ : Addr).add j = ⟨b, off + j, none⟩ := by unfold Addr.add; split <;> simp_all
      rw [hplain]
      exact hcell j u hu) h1 h63 hbytes hbase
    exact ⟨v', w', hr, h2, h3, h5⟩

theorem wp_append_rd {o : Oper} {a : Act} {K : Act → World → Prop} {Q : Exit → Act → World → Prop} (s x : Operand) (ho : o.op = .call { callee := .builtin .append, args := #[s, x], argTypes := #[t, t] })
    (E : EltOk P t e z size bytes) (hs : a.eval s = v) (hown : w.ownsRow base e size v n xs) (hx : a.eval x = .slice A m c) (hrd : Rd w B size A m news) (h1 : ∀ u ∈ news, u.oneCell' = true) (hc : A = none → c = 0)
    (h63 : n + m ≤ maxLen) (hbytes : (n + m) * bytes ≤ 140737488355328) (hbase : base ≤ w.heap.size)
    (h : ∀ v' w', Grew w base e size v (n + m) (xs ++ news) v' w' → K (a.put o.dst v') w') : Oper.wp P o a w K Q := by
  obtain ⟨v', w', hr, hG⟩ := run_append_rd E o.type hown hrd h1 hc h63 hbytes hbase
  unfold Oper.wp execOp
  simp only [ho, resolve, invoke, builtin, Sem.run_bind, Sem.run_pure, Result.andThen_ok, List.map_toArray, List.map_cons, List.map_nil, hs, hx, hr]
  exact h v' w' hG

theorem wpList_append_rd {ops : Array Oper} {rest : List Oper} {o : Oper} {a : Act} {Q : Exit → Act → World → Prop} (hgd : o.guard = none) (s x : Operand) (ho : o.op = .call { callee := .builtin .append, args := #[s, x], argTypes := #[t, t] })
    (E : EltOk P t e z size bytes) (hs : a.eval s = v) (hown : w.ownsRow base e size v n xs) (hx : a.eval x = .slice A m c) (hrd : Rd w B size A m news) (h1 : ∀ u ∈ news, u.oneCell' = true) (hc : A = none → c = 0)
    (h63 : n + m ≤ maxLen) (hbytes : (n + m) * bytes ≤ 140737488355328) (hbase : base ≤ w.heap.size)
    (h : ∀ v' w', Grew w base e size v (n + m) (xs ++ news) v' w' → wpList P ops Q rest (a.put o.dst v') w') : wpList P ops Q (o :: rest) a w :=
  wpList_plain hgd fun _ hK => wp_append_rd s x ho E hs hown hx hrd h1 hc h63 hbytes hbase fun v' w' hG => hK _ _ (h v' w' hG)

theorem step_append_rd {ops : Array Oper} {o : Oper} {a : Act} {K : Act → World → Prop} {Q : Exit → Act → World → Prop} {F : Prop} (hgd : o.guard = none) (s x : Operand) (ho : o.op = .call { callee := .builtin .append, args := #[s, x], argTypes := #[t, t] })
    (E : EltOk P t e z size bytes) (hs : a.eval s = v) (hown : w.ownsRow base e size v n xs) (hx : a.eval x = .slice A m c) (hrd : Rd w B size A m news) (h1 : ∀ u ∈ news, u.oneCell' = true) (hc : A = none → c = 0)
    (h63 : n + m ≤ maxLen) (hbytes : (n + m) * bytes ≤ 140737488355328) (hbase : base ≤ w.heap.size)
    (h : ∀ v' w', Grew w base e size v (n + m) (xs ++ news) v' w' → K (a.put o.dst v') w') :
    if Region.wanted o (yielded ops a.tmps) = true then Oper.wp P o a w K Q else F := by
  rw [if_pos (by simp [Region.wanted, hgd])]
  exact wp_append_rd s x ho E hs hown hx hrd h1 hc h63 hbytes hbase h
end

/-- the one element that an append is handed lies in a block of its own -/
theorem rd_new (w : World) (t : TypeId) (size : Nat) (cs : List Value) (h : cs.length = size) : Rd (w.alloc (.cells cs.toArray t)) (w.alloc (.cells cs.toArray t)).heap.size size (some ⟨w.heap.size, 0, none⟩) 1 cs := by
  have hh := Has.new w t cs
  exact ⟨by omega, fun _ => ⟨w.heap.size, 0, rfl, hh.lt, fun j u hu => by rw [Nat.zero_add, hh.cell j]; exact hu⟩⟩
theorem one_bytes (l : List UInt8) : ∀ u ∈ l.map (fun a => Value.int .u8 (a.toNat : Int)), u.oneCell' = true := by
  intro u hu
  obtain ⟨_, _, rfl⟩ := List.mem_map.1 hu
  rfl
theorem grown_refl (w : World) (row : Option Nat) : w.grownBy w row := ⟨rfl, rfl, rfl, Nat.le_refl _, fun _ _ _ => rfl⟩
theorem grown_trans {w w1 w2 : World} {row : Option Nat} (h1 : w.grownBy w1 row) (h2 : w1.grownBy w2 row) : w.grownBy w2 row :=
  ⟨h2.os.trans h1.os, h2.tape.trans h1.tape, h2.output.trans h1.output, Nat.le_trans h1.size h2.size, fun k hk hne => (h2.block k (Nat.lt_of_lt_of_le hk h1.size) hne).trans (h1.block k hk hne)⟩

/-- the slice lies in a block from B on -/
def Fresh (B : Nat) (A : Option Addr) : Prop := ∀ b off, A = some ⟨b, off, none⟩ → B ≤ b
/-- the slice does not lie in that block -/
def Far (A : Option Addr) (row : Option Nat) : Prop := ∀ b off, A = some ⟨b, off, none⟩ → some b ≠ row
theorem own_fresh {w : World} {base e size n : Nat} {A : Option Addr} {c : Nat} {xs : List Value} (h : w.ownsRow base e size (.slice A n c) n xs) : Fresh base A := by
  rintro b off rfl
  exact own_ge h rfl
theorem Fresh.mono {B B' : Nat} {A : Option Addr} (h : Fresh B A) (hB : B' ≤ B) : Fresh B' A := fun b off e => Nat.le_trans hB (h b off e)
theorem Rd.kept {w w' : World} {size n : Nat} {A : Option Addr} {xs : List Value} {row : Option Nat} (h : Rd w w.heap.size size A n xs) (hg : w.grownBy w' row) (hf : Far A row) : Rd w' w'.heap.size size A n xs :=
  ⟨h.1, fun hn => by
    obtain ⟨b, off, e, hb, hc⟩ := h.2 hn
    exact ⟨b, off, e, Nat.lt_of_lt_of_le hb hg.size, fun j u hu => hg.cell (hc j u hu) (hf b off e)⟩⟩
theorem RdB.kept {w w' : World} {n : Nat} {A : Option Addr} {l : List UInt8} {row : Option Nat} (h : RdB w A n l) (hg : w.grownBy w' row) (hf : Far A row) : RdB w' A n l := Rd.kept h hg hf
theorem own_nil {w : World} {base e size n : Nat} {A : Option Addr} {c : Nat} {xs : List Value} (h : w.ownsRow base e size (.slice A n c) n xs) : A = none → c = 0 := by
  rintro rfl
  rcases h.2 with ⟨e, _⟩ | ⟨_, _, _, e, _⟩
  · injection e
  · injection e with e; cases e
/-- a slice that lies where the call's own row is not stays far from it behind an append -/
theorem Far.grew {w w' : World} {base e size n : Nat} {v v' : Value} {xs : List Value} {A : Option Addr} (hf : Far A v.ownBlock) (hlt : ∀ b off, A = some ⟨b, off, none⟩ → b < w.heap.size) (hG : Grew w base e size v n xs v' w') : Far A v'.ownBlock := by
  rintro b off rfl
  rcases hG.at_ with h | h
  · rw [h]; exact hf b off rfl
  · rw [h]
    intro e
    injection e with e
    have := hlt b off rfl
    omega
theorem Far.fresh {w : World} {base e size n B : Nat} {v : Value} {xs : List Value} {A : Option Addr} (hf : Fresh B A) (h : w.ownsRow base e size v n xs) (hB : w.heap.size ≤ B) : Far A v.ownBlock := by
  rintro b off rfl e
  have := (h.lt b e.symm).2
  have := hf b off rfl
  omega
theorem own_lt {w : World} {base e size n : Nat} {A : Option Addr} {c : Nat} {xs : List Value} (h : w.ownsRow base e size (.slice A n c) n xs) : ∀ b off, A = some ⟨b, off, none⟩ → b < w.heap.size := by
  rintro b off rfl
  exact (h.lt b rfl).2
end Go.Proofs.YtideglpjgplpnaaDoor
/- Run equations of single operations, by the operation's own text; a call of two arguments. -/
namespace Go.Proofs.YtideglpjgplpnaaDoor
open Go.RowKit
set_option linter.unusedVariables false

theorem run_op_load_cell {P : Program} {o : Oper} {a : Act} {w : World} (ty : TypeId) (x : Operand) (ho : o.op = .load ty x)
    (b off : Nat) (hx : a.eval x = .pointer (some ⟨b, off, none⟩)) (v : Value) (hc : w.cell? ⟨b, off, none⟩ = some v) (d : TypeDesc)
    (hu : P.underlying ty = some d) (hd : d.isRow = false) : (execOp a.eval o).run P w = .ok (.value v) w := by
  have hagg : (isAgg ty).run P w = .ok false w := by
    unfold isAgg
    rw [Sem.run_bind, run_underlying hu w]
    cases d <;> simp_all [TypeDesc.isRow]
  have hl : (load ⟨b, off, none⟩).run P w = .ok v w := by simp [go_sem, hc]
  simp [execOp, ho, hx, Instr.loadAt, Instr.sureAddr, loadVar, Sem.run_bind, hagg, hl, Result.andThen]
theorem run_op_index_mid {P : Program} {o : Oper} {a : Act} {w : World} (ty : TypeId) (x ix : Operand) (ho : o.op = .indexAddr ty x ix)
    (b off n c i : Nat) (hx : a.eval x = .slice (some ⟨b, off, none⟩) n c) (hi : a.eval ix = .int .i64 (i : Int)) (hlt : i < n) (el : TypeId) (sz : Nat)
    (hu : P.underlying ty = some (.slice el)) (hz : (P.info? el).map (·.size) = some sz) : (execOp a.eval o).run P w = .ok (.value (.pointer (some ⟨b, off + i * sz, none⟩))) w := by
  cases hq : P.info? el with
  | none => simp [hq] at hz
  | some inf =>
    have hs : inf.size = sz := by simpa [hq] using hz
    have hadd : (⟨b, off, none⟩ : Addr).add (i * sz) = ⟨b, off + i * sz, none⟩ := Addr.add_mid _ _ _
    have h2 : (0 : Int) ≤ (i : Int) ∧ (i : Int) < (n : Int) := ⟨by omega, by omega⟩
    have hru := run_underlying hu w
    simp only [execOp, ho, hx, hi]
    have hsz : (sizeOf el).run P w = .ok sz w := by simp [sizeOf, typeInfo, Sem.run_bind, hq, hs]
    simp [Instr.indexAt, Sem.run_bind, hru, h2, go_sem, hlt, hsz, Result.andThen]
/-- a call of a function of two arguments -/
theorem wp_call2 {P : Program} {o : Oper} {a : Act} {w : World} {K : Act → World → Prop} {Q : Exit → Act → World → Prop} (f : FuncId) (x y : Operand) (tys : Array TypeId) (vx vy : Value)
    (ho : o.op = .call { callee := .value (.func f), args := #[x, y], argTypes := tys }) (heg : ∀ args w, (callFunc f args).run P w = .ok (.enter f args) w) (hx : a.eval x = vx) (hy : a.eval y = vy) (h : Calls P f #[vx, vy] w fun e w' => ∃ v, e = .returned v ∧ K (a.put o.dst v) w') : Oper.wp P o a w K Q := by
  have hrun : (execOp a.eval o).run P w = .ok (.enter f #[vx, vy]) w := by
    subst hx hy
    simp [execOp, ho, resolve, invoke, Act.eval, Deferred.ofValue, go_sem, heg]
  unfold Oper.wp
  rw [hrun, Oper.upon_enter]
  exact h.mono fun e w' ⟨v, he, hk⟩ => by subst he; exact hk
end Go.Proofs.YtideglpjgplpnaaDoor
/- Laws with no program in sight: run equations, steps, boxes, what is kept. -/
namespace Go.Proofs.YtideglpjgplpnaaDoor
open Go.RowKit Go.Shelf
attribute [local go_sem] Oper.semAt_some
set_option linter.unusedVariables false

theorem run_op_buildR {P : Program} {o : Oper} {a : Act} {w : World} (t : TypeId) (parts : Array (Nat × Operand)) (ho : o.op = .build t parts) (vs : List (Nat × Value)) (hv : parts.toList.map (fun p => (p.1, a.eval p.2)) = vs) (v : Value) (w' : World)
    (hr : (Instr.build t vs.toArray).run P w = .ok v w') : (execOp a.eval o).run P w = .ok (.value v) w' := by
  have hv' : (parts.map fun (i, x) => (i, a.eval x)) = vs.toArray := by rw [← hv]; apply Array.ext'; simp
  unfold execOp
  simp only [ho, hv', Sem.run_bind, hr, Result.andThen_ok]
  rfl
theorem run_op_buildSliceR {P : Program} {o : Oper} {a : Act} {w : World} (t : TypeId) (len : Nat) (parts : Array (Nat × Operand)) (ho : o.op = .buildSlice t len parts) (vs : List (Nat × Value)) (hv : parts.toList.map (fun p => (p.1, a.eval p.2)) = vs) (v : Value) (w' : World)
    (hr : (Instr.buildSlice t len vs.toArray).run P w = .ok v w') : (execOp a.eval o).run P w = .ok (.value v) w' := by
  have hv' : (parts.map fun (i, x) => (i, a.eval x)) = vs.toArray := by rw [← hv]; apply Array.ext'; simp
  unfold execOp
  simp only [ho, hv', Sem.run_bind, hr, Result.andThen_ok]
  rfl
theorem run_op_load_row {P : Program} {o : Oper} {a : Act} {w : World} (ty : TypeId) (x : Operand) (ho : o.op = .load ty x)
    (g : Nat) (hx : a.eval x = .pointer (some ⟨g, 0, none⟩)) (t : TypeId) (cs : Array Value) (fr : Nat × Nat) (d : TypeDesc) (hg : w.heap[g]? = some (.cells cs t fr))
    (hu : P.underlying ty = some d) (hd : (match d with | .struct _ | .array _ _ => true | _ => false) = true) (hi : (P.info? ty).map (·.size) = some cs.size) : (execOp a.eval o).run P w = .ok (.value (.agg cs)) w := by
  simp [execOp, ho, hx, Instr.loadAt, Instr.sureAddr, run_loadVar_row w g t ty cs fr d hg hu hd hi, Result.andThen]
theorem step_run {P : Program} {ops : Array Oper} {o : Oper} {a : Act} {w : World} {K : Act → World → Prop} {Q : Exit → Act → World → Prop} {F : Prop} {v : Value} {w' : World} (hgd : o.guard = none) (hr : (execOp a.eval o).run P w = .ok (.value v) w') (h : K (a.put o.dst v) w') : if Region.wanted o (yielded ops a.tmps) = true then Oper.wp P o a w K Q else F := by
  rw [if_pos (by simp [Region.wanted, hgd])]
  unfold Oper.wp
  rw [hr]
  exact h
theorem step_runG {P : Program} {ops : Array Oper} {o : Oper} {a : Act} {w : World} {K : Act → World → Prop} {Q : Exit → Act → World → Prop} {F : Prop} {v : Value} {w' : World} (hgd : Region.wanted o (yielded ops a.tmps) = true) (hr : (execOp a.eval o).run P w = .ok (.value v) w') (h : K (a.put o.dst v) w') : if Region.wanted o (yielded ops a.tmps) = true then Oper.wp P o a w K Q else F := by
  rw [if_pos hgd]
  unfold Oper.wp
  rw [hr]
  exact h
theorem run_op_load_mid {P : Program} {o : Oper} {a : Act} {w : World} (ty : TypeId) (x : Operand) (ho : o.op = .load ty x)
    (b off : Nat) (hx : a.eval x = .pointer (some ⟨b, off, none⟩)) (cs : List Value) (d : TypeDesc) (hc : w.rangeAt b off cs)
    (hu : P.underlying ty = some d) (hd : d.isRow = true) (hi : (P.info? ty).map (·.size) = some cs.length) : (execOp a.eval o).run P w = .ok (.value (.agg cs.toArray)) w := by
  simp [execOp, ho, hx, Instr.loadAt, Instr.sureAddr, run_loadVar_mid w b off ty cs d hc hu hd hi, Result.andThen]
/-- a region's operations as a letter -/
theorem wp_region_named {P : Program} {id : Nat} {ops : Array Oper} {b : Bool} {Q : Exit → Act → World → Prop} {a : Act} {w : World} (h : ∀ ops', ops' = ops → (Code.region id ops' b).wp P Q a w) : (Code.region id ops b).wp P Q a w := h ops rfl
theorem op_at5 {ops arr : Array Oper} (h : ops = arr) (i : Nat) {o : Oper} (hi : arr[i]? = some o) {d : Option Tmp} {p : Op} {g : Option (Nat × Bool)} (hd : o.dst = d) (hp : o.op = p) (hg : o.guard = g) : ∃ o, ops[i]? = some o ∧ o.dst = d ∧ o.op = p ∧ o.guard = g := ⟨o, by rw [h]; exact hi, hd, hp, hg⟩
theorem wanted_none {o : Oper} {y : Nat → Option Bool} (h : o.guard = none) : Region.wanted o y = true := by simp [Region.wanted, h]
theorem wanted_some {ops : Array Oper} {tmps : Array Value} {o oj : Oper} {j d : Nat} {b : Bool} (h : o.guard = some (j, b)) (hj : ops[j]? = some oj) (hd : oj.dst = some d) (ht : tmps[d]? = some (.bool b)) : Region.wanted o (yielded ops tmps) = true := by
  simp [Region.wanted, h, yielded, hj, hd, ht]
theorem wp_runG {P : Program} {o : Oper} {a : Act} {w : World} {K : Act → World → Prop} {Q : Exit → Act → World → Prop} {v : Value} {w' : World} (hr : (execOp a.eval o).run P w = .ok (.value v) w') (h : K (a.put o.dst v) w') : Oper.wp P o a w K Q := by
  unfold Oper.wp
  rw [hr]
  exact h
/-- a call of a function of three arguments -/
theorem wp_call3 {P : Program} {o : Oper} {a : Act} {w : World} {K : Act → World → Prop} {Q : Exit → Act → World → Prop} (f : FuncId) (x y z : Operand) (tys : Array TypeId) (vx vy vz : Value)
    (ho : o.op = .call { callee := .value (.func f), args := #[x, y, z], argTypes := tys }) (heg : ∀ args w, (callFunc f args).run P w = .ok (.enter f args) w) (hx : a.eval x = vx) (hy : a.eval y = vy) (hz : a.eval z = vz) (h : Calls P f #[vx, vy, vz] w fun e w' => ∃ v, e = .returned v ∧ K (a.put o.dst v) w') : Oper.wp P o a w K Q := by
  have hrun : (execOp a.eval o).run P w = .ok (.enter f #[vx, vy, vz]) w := by
    subst hx hy hz
    simp [execOp, ho, resolve, invoke, Act.eval, Deferred.ofValue, go_sem, heg]
  unfold Oper.wp
  rw [hrun, Oper.upon_enter]
  exact h.mono fun e w' ⟨v, he, hk⟩ => by subst he; exact hk
theorem unwanted_some {ops : Array Oper} {tmps : Array Value} {o oj : Oper} {j d : Nat} {b : Bool} (h : o.guard = some (j, b)) (hj : ops[j]? = some oj) (hd : oj.dst = some d) (ht : tmps[d]? = some (.bool (!b))) : Region.wanted o (yielded ops tmps) = false := by
  cases b <;> simp [Region.wanted, h, yielded, hj, hd, ht]
theorem unwanted_undef {ops : Array Oper} {tmps : Array Value} {o oj : Oper} {j d : Nat} {b : Bool} (h : o.guard = some (j, b)) (hj : ops[j]? = some oj) (hd : oj.dst = some d) (ht : tmps[d]? = some undef) : Region.wanted o (yielded ops tmps) = false := by
  simp [Region.wanted, h, yielded, hj, hd, ht, undef]
theorem Rc.alloc_set (w : World) (o : Obj) (g : Nat) (c : Array Value) (hg : g = w.heap.size) : Below w.heap.size w ((w.alloc o).setRow g c) := by
  subst hg
  exact below_setRow ((Below.refl _ w).alloc (Nat.le_refl _) _) (Nat.le_refl _) _
theorem Rc.own_caps {w : World} {base e size n : Nat} {A : Option Addr} {c : Nat} {xs : List Value} (h : w.ownsRow base e size (.slice A n c) n xs) : n ≤ c ∧ c ≤ maxLen := by
  rcases h.2 with ⟨e, h0⟩ | ⟨g, cap, cur, hv, _, _, h1, h2, _⟩
  · injection e with _ _ e
    subst h0 e
    exact ⟨Nat.le_refl _, by decide⟩
  · injection hv with _ _ e3
    rw [e3]
    exact ⟨h1, h2⟩
theorem own_other {w w' : World} {base e size n : Nat} {v : Value} {xs : List Value} {row : Option Nat} (h : w.ownsRow base e size v n xs) (hg : w.grownBy w' row) (hne : ∀ g, v.ownBlock = some g → row ≠ some g) : w'.ownsRow base e size v n xs := by
  refine ⟨h.1, ?_⟩
  rcases h.2 with h0 | ⟨g, c, cur, hv, h1, hh, h2⟩
  · exact .inl h0
  · refine .inr ⟨g, c, cur, hv, h1, (hg.block g (Array.getElem?_eq_some_iff.1 hh).1 (fun e => hne g (by rw [hv]; rfl) e.symm)).trans hh, h2⟩
/-- a result out of a variable and one out of a slot -/
theorem results_cell_row2 {P : Program} {fn : Func} {p q : Tmp} {ty : TypeId} (h : fn.results = #[.cell p ty, .tmp q]) (tmps : Array Value) (w : World) (g : Nat) (t : TypeId) (cs : Array Value) (fr : Nat × Nat) (d : TypeDesc)
    (hp : tmps.getD p undef = .pointer (some ⟨g, 0, none⟩)) (hg : w.heap[g]? = some (.cells cs t fr))
    (hu : P.underlying ty = some d) (hd : (match d with | .struct _ | .array _ _ => true | _ => false) = true) (hi : (P.info? ty).map (·.size) = some cs.size) :
    (results fn tmps).run P w = .ok (.tuple #[.agg cs, tmps.getD q undef]) w := by
  have hp' : tmps[p]?.getD undef = .pointer (some ⟨g, 0, none⟩) := by simpa using hp
  simp [results, h, hp', asAddr, run_loadVar_row w g t ty cs fr d hg hu hd hi]
/-- a whole struct or array loaded by an operation that is guarded and wanted -/
theorem wpList_load_midG {P : Program} {ops : Array Oper} {rest : List Oper} {op : Oper} {a : Act} {w : World} {Q : Exit → Act → World → Prop} (hw : Region.wanted op (yielded ops a.tmps) = true) (ty : TypeId) (x : Operand) (ho : op.op = .load ty x)
    (b o : Nat) (hx : a.eval x = .pointer (some ⟨b, o, none⟩)) (cs : List Value) (d : TypeDesc) (hc : w.rangeAt b o cs)
    (hu : P.underlying ty = some d) (hd : d.isRow = true) (hi : (P.info? ty).map (·.size) = some cs.length)
    (h : wpList P ops Q rest (a.put op.dst (.agg cs.toArray)) w) : wpList P ops Q (op :: rest) a w :=
  wpList_step fun K hK => by rw [if_pos hw]; exact wp_load_mid ty x ho b o hx cs d hc hu hd hi (hK _ _ h)
theorem wpListIn_load_mid {F : Fence} {n : Nat} {P : Program} {ops : Array Oper} {rest : List Oper} {op : Oper} {a : Act} {w : World} {Q : Exit → Act → World → Prop} (hgd : op.guard = none) (ty : TypeId) (x : Operand) (ho : op.op = .load ty x)
    (b o : Nat) (hx : a.eval x = .pointer (some ⟨b, o, none⟩)) (cs : List Value) (d : TypeDesc) (hc : w.rangeAt b o cs)
    (hu : P.underlying ty = some d) (hd : d.isRow = true) (hi : (P.info? ty).map (·.size) = some cs.length)
    (h : wpListIn F n P ops Q rest (a.put op.dst (.agg cs.toArray)) w) : wpListIn F n P ops Q (op :: rest) a w := by
  refine wpListIn_plain hgd fun K hK => ?_
  unfold Oper.wpIn
  refine ⟨?_, ?_⟩
  · simp [Oper.about, ho]
  · rw [Oper.semAt_plain F _ _ (by rw [ho]; intro c hc'; cases hc')]
    simp [execOp, ho, hx, Instr.loadAt, Instr.sureAddr, run_loadVar_mid w b o ty cs d hc hu hd hi, Result.andThen]
    exact hK _ _ h
theorem wpListIn_store_row {F : Fence} {n : Nat} {P : Program} {ops : Array Oper} {rest : List Oper} {o : Oper} {a : Act} {w : World} {Q : Exit → Act → World → Prop} (hgd : o.guard = none) (ty : TypeId) (x y : Operand) (ho : o.op = .store ty x y)
    (g : Nat) (cells : Array Value) (hx : a.eval x = .pointer (some ⟨g, 0, none⟩)) (hy : a.eval y = .agg cells)
    (t : TypeId) (old : Array Value) (hg : w.heap[g]? = some (.cells old t (0, 0))) (hi : (P.info? ty).map (·.size) = some cells.size)
    (hold : old.size = cells.size) (h1 : cells.all (·.oneCell') = true)
    (h : wpListIn F n P ops Q rest (a.put o.dst undef) (w.setRow g cells)) : wpListIn F n P ops Q (o :: rest) a w := by
  refine wpListIn_plain hgd fun K hK => ?_
  unfold Oper.wpIn
  refine ⟨?_, ?_⟩
  · simp [Oper.about, ho]
  · rw [Oper.semAt_plain F _ _ (by rw [ho]; intro c hc'; cases hc')]
    simp [execOp, ho, hx, hy, Instr.storeAt, Instr.sureAddr, run_storeVar_row w g t ty old cells hg hi hold h1, Result.andThen]
    exact hK _ _ h
/-- the range's box laid ahead of the call -/
theorem Rc.boxA {W2 W4 : World} {t : TypeId} {a b : Value} {Q : Prop} (hb : Below (W2.drew.alloc (.cells #[a, b] t)).heap.size (W2.drew.alloc (.cells #[a, b] t)) W4)
    (h : Has W4 W2.heap.size t [a, b] → Below W2.heap.size W2 W4 → W4.cell? ⟨W2.heap.size, 0, none⟩ = some a → W4.cell? ⟨W2.heap.size, 1, none⟩ = some b → W4.frozen? ⟨W2.heap.size, 0, none⟩ = false → W4.frozen? ⟨W2.heap.size, 1, none⟩ = false → W2.heap.size < W4.heap.size → Q) : Q := by
  have hw : Below W2.heap.size W2 W2.drew := (Below.refl _ W2).drew
  have g : Has W4 W2.heap.size t [a, b] := (Has.new W2.drew t [a, b]).keep hb
  have hz : W2.heap.size ≤ (W2.drew.alloc (.cells #[a, b] t)).heap.size := by rw [World.size_alloc]; exact Nat.le_succ_of_le hw.size
  exact h g ((hw.alloc hw.size _).trans (hb.mono hz)) (g.cell 0) (g.cell 1) (g.frozen 0) (g.frozen 1) g.lt
theorem Rc.set2 {W2 W4 : World} {u v : Value} (h : Below W2.heap.size W2 W4) : Below W2.heap.size W2 ((W4.setCell ⟨W2.heap.size, 0, none⟩ u).setCell ⟨W2.heap.size, 1, none⟩ v) :=
  (h.setCell (p := ⟨W2.heap.size, 0, none⟩) (Nat.le_refl _) u).setCell (p := ⟨W2.heap.size, 1, none⟩) (Nat.le_refl _) v
theorem Rc.new2 {W2 W4 : World} {o : Obj} (h : Below W2.heap.size W2 W4) : Below W2.heap.size W2 (W4.alloc o) := h.alloc h.size _
theorem Rc.set2B {W2 W4 : World} {o : Obj} {u v : Value} (h : Below W2.heap.size W2 W4) : Below W2.heap.size W2 (((W4.alloc o).setCell ⟨W4.heap.size, 0, none⟩ u).setCell ⟨W4.heap.size, 1, none⟩ v) :=
  ((h.alloc h.size _).setCell (p := ⟨W4.heap.size, 0, none⟩) h.size u).setCell (p := ⟨W4.heap.size, 1, none⟩) h.size v
theorem grown_none {w w' : World} (h : Below w.heap.size w w') : w.grownBy w' none := ⟨h.os, h.tape, h.output, h.size, fun k hk _ => h.block k hk⟩
theorem has_own {β : Type} (g : Nat) (t : TypeId) (f : β → List Value) : Own (fun s W => Has W g t (f s)) := fun s X Y row hs hg hr =>
  (grownBy_keeps_cells hg hr hs rfl).trans hs
theorem Has.grow {W W' : World} {row : Option Nat} {g : Nat} {t : TypeId} {cs : List Value} (h : Has W g t cs) (hg : W.grownBy W' row) (hr : ∀ r, row = some r → ∃ o : Obj, W.heap[r]? = some o ∧ o.isCells = false) : Has W' g t cs :=
  (grownBy_keeps_cells hg hr h rfl).trans h
theorem Has.putD {W : World} {g D : Nat} {t : TypeId} {cs : List Value} {ds : Option (List Deferred)} (h : Has W g t cs) (hD : W.heap[D]? = some (.deferred ds)) (o : Obj) : Has (W.putObj D o) g t cs :=
  (World.putObj_heap_other (fun e => by subst e; have := hD.symm.trans h; cases this)).trans h
theorem St.swap {w0 w : World} {a b : Nat × TypeId × List Value} {l : List (Nat × TypeId × List Value)} (h : St w0 w (a :: b :: l)) : St w0 w (b :: a :: l) := h.less (fun x hx => by
  rcases List.mem_cons.1 hx with rfl | hx
  · exact .tail _ (.head _)
  · rcases List.mem_cons.1 hx with rfl | hx
    · exact .head _
    · exact .tail _ (.tail _ hx))
theorem St.own {w0 : World} {B : Nat} {l : List (Nat × TypeId × List Value)} (hB : w0.heap.size ≤ B) : OwnFrom B (fun (_ : Unit) W => St w0 W l) := fun _ X Y row hs hg hr =>
  ⟨ownFrom_below (β := Unit) (Nat.le_refl _) hB () X Y row hs.below hg hr, fun x hx => (hs.has x hx).grow hg (fun r e => (hr r e).2)⟩
theorem run_op_store_row {P : Program} {o : Oper} {a : Act} {w : World} (ty : TypeId) (x y : Operand) (ho : o.op = .store ty x y)
    (g : Nat) (cells : Array Value) (hx : a.eval x = .pointer (some ⟨g, 0, none⟩)) (hy : a.eval y = .agg cells)
    (t : TypeId) (old : Array Value) (hg : w.heap[g]? = some (.cells old t (0, 0))) (hi : (P.info? ty).map (·.size) = some cells.size)
    (hold : old.size = cells.size) (h1 : cells.all (·.oneCell') = true) : (execOp a.eval o).run P w = .ok .skip (w.setRow g cells) := by
  simp [execOp, ho, hx, hy, Instr.storeAt, Instr.sureAddr, run_storeVar_row w g t ty old cells hg hi hold h1, Result.andThen]
theorem wp_runS {P : Program} {o : Oper} {a : Act} {w : World} {K : Act → World → Prop} {Q : Exit → Act → World → Prop} {w' : World} (hr : (execOp a.eval o).run P w = .ok .skip w') (h : K (a.put o.dst undef) w') : Oper.wp P o a w K Q := by
  unfold Oper.wp
  rw [hr]
  exact h
end Go.Proofs.YtideglpjgplpnaaDoor
/- A range over an endless iterator whose body leaves it by a break: rounds are numbered, the value of each is known ahead. No condition; no program in sight. -/
namespace Go.Proofs.YtideglpjgplpnaaDoor
open Go.RowKit

/-- how round k of such a loop may end: it goes on, or it breaks out of block c -/
def untilPost (c : Nat) (I : Nat → World → Prop) (X : World → Prop) (k : Nat) (W : World) : Exit → Act → World → Prop
  | .normal, _, W' => KeepsOthers W W' ∧ I (k + 1) W'
  | .exit i, _, W' => i = c ∧ KeepsOthers W W' ∧ X W'
  | _, _, _ => False

theorem below_putObj {W : World} {B l : Nat} {o : Obj} (o' : Obj) (hB : B ≤ l) (h : W.heap[l]? = some o) : Below B W (W.putObj l o') :=
  (Below.refl B W).grown (grownBy_putObj' W l o') (by have := (Array.getElem?_eq_some_iff.1 h).1; omega) (fun k e => by cases e; exact hB)

section
variable {n : Nat} {P : Program}

/-- one round, seen from the iterator: the loop's record lies at l, the block for deferred calls at d -/
theorem until_yield {fn : FuncId} {tm : Array Value} {p : Tmp} {assign body : Code} {v : Value} {l d c k : Nat} {W : World} {a1 : Act} {I : Nat → World → Prop} {X : World → Prop} {w : World}
    (hl : w.heap.size ≤ l) (hdl : d ≠ l)
    (hI : ∀ k W W', I k W → Below w.heap.size W W' → I k W') (hX : ∀ W W', X W → Below w.heap.size W W' → X W')
    (hrec : W.heap[l]? = some (.loop { state := .ready, pending := none, fn, tmps := tm, params := #[p], assign, body, defers := d }))
    (hdef : W.heap[d]? = some (.deferred (some []))) (hi : I k W)
    (hassign : ∀ K : Act → World → Prop, K a1 W → assign.wpIn (Fence.wide.inRound l) (n - 1) P (Exit.then K (fun _ _ _ => False)) { tmps := tm.setIfInBounds p v, defers := [] } W)
    (hbody : ∀ W, I k W → body.wpIn (Fence.wide.inRound l) (n - 1) P (untilPost c I X k W) a1 W) :
    YieldAt Fence.wide (n - 1) P l #[v] W fun e W' =>
      (e = .returned (.bool true) ∧ I (k + 1) W' ∧ W'.heap[l]? = some (.loop { state := .ready, pending := none, fn, tmps := tm, params := #[p], assign, body, defers := d }) ∧ W'.heap[d]? = some (.deferred (some []))) ∨
      (e = .returned (.bool false) ∧ X W' ∧ W'.heap[l]? = some (.loop { state := .done, pending := some (.exit c), fn, tmps := tm, params := #[p], assign, body, defers := d }) ∧ W'.heap[d]? = some (.deferred (some []))) := by
  have hy : (Instr.yield l #[v]).run P W = .ok (.round l fn (tm.setIfInBounds p v) assign body) W := by
    have h := run_yield (P := P) (args := #[v]) hrec rfl
    simpa using h
  refine ⟨_, _, _, _, hy, roundIn_of_wpIn trivial ?_⟩
  refine hassign _ ?_
  refine ⟨_, run_beginRound hrec rfl, ?_⟩
  refine wpIn_mono (hbody _ (hI k _ _ hi (below_putObj _ hl hrec))) ?_
  have hlt := (Array.getElem?_eq_some_iff.1 hrec).1
  intro e a2 W2 hp
  cases e with
  | normal =>
    obtain ⟨hk, hi2⟩ := hp
    have hb2 := hk.same l _ (World.putObj_heap_same hlt) rfl
    have hd2 := hk.same d _ ((World.putObj_heap_other hdl).trans hdef) rfl
    refine ⟨_, _, run_endRound (P := P) none hb2, .inl ⟨rfl, hI _ _ _ hi2 (below_putObj _ hl hb2), ?_, ?_⟩⟩
    · exact World.putObj_heap_same (Array.getElem?_eq_some_iff.1 hb2).1
    · exact (World.putObj_heap_other hdl).trans hd2
  | exit i =>
    obtain ⟨rfl, hk, hx2⟩ := hp
    have hb2 := hk.same l _ (World.putObj_heap_same hlt) rfl
    have hd2 := hk.same d _ ((World.putObj_heap_other hdl).trans hdef) rfl
    refine ⟨_, _, run_endRound (P := P) (some (.exit i)) hb2, .inr ⟨rfl, hX _ _ hx2 (below_putObj _ hl hb2), ?_, ?_⟩⟩
    · exact World.putObj_heap_same (Array.getElem?_eq_some_iff.1 hb2).1
    · exact (World.putObj_heap_other hdl).trans hd2
  | ret => exact hp.elim
  | goto t => exact hp.elim
  | panic ch => exact hp.elim
  | outgrown => exact hp.elim

/-- the statement 'for p := range g { .. }' over an endless iterator: the body breaks out of block c in the end; 'hiter': the iterator's own contract, at the rounds' obligation -/
theorem wpIn_range_until {g : Operand} {p : Tmp} {assign body : Code} {Q : Exit → Act → World → Prop} {a : Act} {w : World} {gf : Nat} {lb : Array Value} {c : Nat} (V : Nat → Value) (I : Nat → World → Prop) (X : World → Prop)
    (h1 : 1 ≤ n) (hg : a.eval g = .func (.func gf) #[] lb) (eg : ∀ args w, (callFunc gf args).run P w = .ok (.enter gf args) w)
    (hI : ∀ k W W', I k W → Below w.heap.size W W' → I k W') (hX : ∀ W W', X W → Below w.heap.size W W' → X W') (h0 : I 0 w)
    (hiter : ∀ (l : Nat) (J : Nat → World → Prop) (Jx : World → Prop) (W : World), Below w.heap.size w W → (∀ k W, J k W → I k W) → (∀ k W W', J k W → Below W.heap.size W W' → J k W') →
      (∀ k W, J k W → YieldAt Fence.wide (n - 1 - 1) P l #[V k] W fun e W' => (e = .returned (.bool true) ∧ J (k + 1) W') ∨ (e = .returned (.bool false) ∧ Jx W')) → J 0 W →
      CallsIn Fence.wide (n - 1) P gf (#[.func (.yield l) #[] #[]] ++ lb) W fun e W' => (∃ v, e = .returned v) ∧ Jx W')
    (a1 : Nat → Act)
    (hassign : ∀ (l k : Nat) (W : World) (K : Act → World → Prop), K (a1 k) W → assign.wpIn (Fence.wide.inRound l) (n - 1 - 1) P (Exit.then K (fun _ _ _ => False)) { tmps := a.tmps.setIfInBounds p (V k), defers := [] } W)
    (hbody : ∀ (l k : Nat) (W : World), I k W → body.wpIn (Fence.wide.inRound l) (n - 1 - 1) P (untilPost c I X k W) (a1 k) W)
    (hstop : ∀ (d : Nat) (W : World), w.heap.size ≤ d → X W → W.heap[d]? = some (.deferred (some [])) → (Code.exit c).wpIn Fence.wide n P Q { a with defers := { target := .collected d, args := #[] } :: a.defers } W) :
    (Code.rangeFunc g #[p] assign body).wpIn Fence.wide n P Q a w := by
  refine wpIn_rangeFunc fun fn _ => ?_
  have hW1 := run_enterLoop_outer (P := P) (w := w) fn a.tmps #[p] assign body
  generalize hrc : ({ state := .ready, pending := none, fn, tmps := a.tmps, params := #[p], assign, body, defers := w.heap.size } : Loop) = rc at hW1
  generalize hWW : (w.alloc (.deferred (some []))).alloc (.loop rc) = W1 at hW1
  have hl : W1.heap[w.heap.size + 1]? = some (.loop rc) := by
    have h := World.alloc_heap_new (w.alloc (.deferred (some []))) (.loop rc)
    rw [World.size_alloc, hWW] at h
    exact h
  have hd : W1.heap[w.heap.size]? = some (.deferred (some [])) := by
    rw [← hWW]
    exact (Below.heap_alloc _ _ _ (by simp)).trans (World.alloc_heap_new w _)
  have hb : Below w.heap.size w W1 := by rw [← hWW]; exact ((Below.refl _ w).alloc (Nat.le_refl _) _).alloc (by simp) _
  refine ⟨w.heap.size + 1, _, W1, { target := .fn (.func gf) lb, args := #[.func (.yield (w.heap.size + 1)) #[] #[]] }, W1, gf, #[.func (.yield (w.heap.size + 1)) #[] #[]] ++ lb, W1, hW1, ?_, fun _ _ => trivial, ?_, fun _ => h1, ?_⟩
  · simp only [resolve, hg]
    simp [go_sem]
  · simp [invoke, go_sem, eg]
  · have hround : ∀ k W, (I k W ∧ W.heap[w.heap.size + 1]? = some (.loop rc) ∧ W.heap[w.heap.size]? = some (.deferred (some []))) → YieldAt Fence.wide (n - 1 - 1) P (w.heap.size + 1) #[V k] W fun e W' =>
        (e = .returned (.bool true) ∧ (I (k + 1) W' ∧ W'.heap[w.heap.size + 1]? = some (.loop rc) ∧ W'.heap[w.heap.size]? = some (.deferred (some [])))) ∨
        (e = .returned (.bool false) ∧ (X W' ∧ W'.heap[w.heap.size + 1]? = some (.loop { rc with state := .done, pending := some (.exit c) }) ∧ W'.heap[w.heap.size]? = some (.deferred (some [])))) := fun k W ⟨hi, hrec, hdef⟩ => by
      subst hrc
      exact until_yield (n := n - 1) (by omega) (by omega) hI hX hrec hdef hi (hassign _ k W) (fun W' hi' => hbody _ k W' hi')
    refine (hiter (w.heap.size + 1) (fun k W => I k W ∧ W.heap[w.heap.size + 1]? = some (.loop rc) ∧ W.heap[w.heap.size]? = some (.deferred (some [])))
      (fun W => X W ∧ W.heap[w.heap.size + 1]? = some (.loop { rc with state := .done, pending := some (.exit c) }) ∧ W.heap[w.heap.size]? = some (.deferred (some []))) W1 hb (fun _ _ h => h.1) ?_ hround ⟨hI _ _ _ h0 hb, hl, hd⟩).mono ?_
    · rintro k W W' ⟨hi, hrec, hdef⟩ hB
      have hs := (Array.getElem?_eq_some_iff.1 hrec).1
      exact ⟨hI _ _ _ hi (hB.mono (by omega)), (hB.block _ hs).trans hrec, (hB.block _ (by omega)).trans hdef⟩
    · rintro e W' ⟨⟨v, rfl⟩, hx, hrec, hdef⟩
      refine ⟨some (.exit c), _, run_endLoop (P := P) hrec (by simp), ?_⟩
      exact hstop w.heap.size _ (Nat.le_refl _) (hX _ _ hx (below_putObj _ (by omega) hrec)) ((World.putObj_heap_other (by omega)).trans hdef)
end
end Go.Proofs.YtideglpjgplpnaaDoor
/- Run equations of a slice cut, by the operation's own text. -/
namespace Go.Proofs.YtideglpjgplpnaaDoor
open Go.RowKit
set_option linter.unusedVariables false

theorem run_op_slice_to {P : Program} {o : Oper} {a : Act} {w : World} (ty : TypeId) (x y : Operand) (ho : o.op = .slice ty x none (some y) none)
    (A : Addr) (n c i : Nat) (hx : a.eval x = .slice (some A) n c) (hy : a.eval y = .int .i64 (i : Int)) (hic : i ≤ c) (el : TypeId) (sz : Nat)
    (hu : P.underlying ty = some (.slice el)) (hz : (P.info? el).map (·.size) = some sz) : (execOp a.eval o).run P w = .ok (.value (.slice (some A) i c)) w := by
  cases hq : P.info? el with
  | none => simp [hq] at hz
  | some inf =>
    have hs : inf.size = sz := by simpa [hq] using hz
    have hsz : (sizeOf el).run P w = .ok sz w := by simp [sizeOf, typeInfo, Sem.run_bind, hq, hs]
    have hru := run_underlying hu w
    have h1 : (0 : Int) ≤ (i : Int) ∧ (i : Int) ≤ (c : Int) := ⟨by omega, by omega⟩
    simp only [execOp, ho, hx, hy, Option.map_none, Option.map_some]
    simp [Instr.sliceAt, Instr.slice, Instr.sliceBounds, Sem.run_bind, hru, go_sem, hsz, Result.andThen, h1]
theorem run_op_slice_from {P : Program} {o : Oper} {a : Act} {w : World} (ty : TypeId) (x y : Operand) (ho : o.op = .slice ty x (some y) none none)
    (A : Addr) (n c i : Nat) (hx : a.eval x = .slice (some A) n c) (hy : a.eval y = .int .i64 (i : Int)) (hin : i ≤ n) (hnc : n ≤ c) (el : TypeId) (sz : Nat)
    (hu : P.underlying ty = some (.slice el)) (hz : (P.info? el).map (·.size) = some sz) : (execOp a.eval o).run P w = .ok (.value (.slice (some (if c = i then A else A.add (i * sz))) (n - i) (c - i))) w := by
  cases hq : P.info? el with
  | none => simp [hq] at hz
  | some inf =>
    have hs : inf.size = sz := by simpa [hq] using hz
    have hsz : (sizeOf el).run P w = .ok sz w := by simp [sizeOf, typeInfo, Sem.run_bind, hq, hs]
    have hru := run_underlying hu w
    have h1 : (0 : Int) ≤ (i : Int) ∧ (i : Int) ≤ (n : Int) := ⟨by omega, by omega⟩
    simp only [execOp, ho, hx, hy, Option.map_none, Option.map_some]
    by_cases hci : c = i
    · simp [Instr.sliceAt, Instr.slice, Instr.sliceBounds, Sem.run_bind, hru, go_sem, hsz, Result.andThen, h1, hci]
    · simp [Instr.sliceAt, Instr.slice, Instr.sliceBounds, Sem.run_bind, hru, go_sem, hsz, Result.andThen, h1, hci]
end Go.Proofs.YtideglpjgplpnaaDoor
