/- Plain values in new memory; steps for calls that are thrown; small laws for the reader's value. -/
import Derived.Test.YtnhodcjbmloeeaaCdD2
import Derived.Test.YtnhodcjbmloeeaaCdR4
namespace Go.Proofs.Ytnhodcjbmloeeaa
open Go.RowKit Go.Shelf
set_option linter.unusedVariables false

theorem cell_of_heap {w w' : World} {b : Nat} (h : w'.heap[b]? = w.heap[b]?) (o : Nat) : w'.cell? ⟨b, o, none⟩ = w.cell? ⟨b, o, none⟩ := by
  unfold World.cell?
  simp only [h]
theorem rd_turn {w w' : World} {size n : Nat} {A : Option Addr} {xs : List Value} (h : Rd w w.heap.size size A n xs) (hz : w.heap.size ≤ w'.heap.size) (hk : ∀ b off, A = some ⟨b, off, none⟩ → 0 < n → b < w.heap.size → w'.heap[b]? = w.heap[b]?) : Rd w' w'.heap.size size A n xs :=
  ⟨h.1, fun hn => by
    obtain ⟨b, off, e, hb, hc⟩ := h.2 hn
    exact ⟨b, off, e, Nat.lt_of_lt_of_le hb hz, fun j u hu => (cell_of_heap (hk b off e hn hb) _).trans (hc j u hu)⟩⟩

/-- the four cells read as the value; its lists lie in blocks of that kind -/
inductive Cd.CellX (w : World) (X : Nat → Prop) : Cd.T → List Value → Prop where
  | mk (k n : Int) (s : List UInt8) (l : List Cd.T) (A : Option Addr) (c : Nat) (xss : List (List Value)) (hl : xss.length = l.length) (hx : ∀ i, i < l.length → Cd.CellX w X l[i]! xss[i]!) (hr : Rd w w.heap.size 4 A l.length xss.flatten)
    (hX : ∀ b off, A = some ⟨b, off, none⟩ → 0 < l.length → X b) (hn : A = none → c = 0) (hm : l.length ≤ maxLen) (hs : s.length ≤ maxLen)
    (hk : -9223372036854775808 ≤ k ∧ k ≤ 9223372036854775807) (hi : -9223372036854775808 ≤ n ∧ n ≤ 9223372036854775807) :
    Cd.CellX w X (.mk k n s l) [.int .i64 k, .int .i64 n, .string ⟨s.toArray⟩, .slice A l.length c]
theorem Cd.CellX.turn {w w' : World} {X X' : Nat → Prop} {t : Cd.T} {cs : List Value} (h : Cd.CellX w X t cs) (hz : w.heap.size ≤ w'.heap.size) (hk : ∀ b, b < w.heap.size → X b → X' b ∧ w'.heap[b]? = w.heap[b]?) : Cd.CellX w' X' t cs := by
  induction h with
  | mk k n s l A c xss hl hx hr hX hn hm hs hk2 hi ih =>
    refine .mk k n s l A c xss hl (fun i hi => ih i hi) (rd_turn hr hz (fun b off e h0 hb => (hk b hb (hX b off e h0)).2)) (fun b off e h0 => ?_) hn hm hs hk2 hi
    obtain ⟨b2, off2, e2, hb2, _⟩ := hr.2 h0
    rw [e] at e2
    injection e2 with e2
    injection e2 with e3
    subst e3
    exact (hk b hb2 (hX b off e h0)).1
theorem Cd.CellX.spell {w : World} {X : Nat → Prop} {t : Cd.T} {cs : List Value} (h : Cd.CellX w X t cs) : ∃ A c, cs = [.int .i64 t.k, .int .i64 t.n, .string ⟨t.s.toArray⟩, .slice A t.l.length c] := by cases h; exact ⟨_, _, rfl⟩
theorem Cd.CellX.cellB {w : World} {X : Nat → Prop} {t : Cd.T} {cs : List Value} (h : Cd.CellX w X t cs) : Cd.CellB w w.heap.size t cs := by
  induction h with
  | mk k n s l A c xss hl hx hr hX hn hm hs hk hi ih => exact .mk k n s l A c xss hl (fun i hi => ih i hi) hr hn hm hs hk hi

theorem grown_setCell {w w' : World} {row : Option Nat} (h : w.grownBy w' row) {p : Addr} (hp : w.heap.size ≤ p.block) (u : Value) : w.grownBy (w'.setCell p u) row :=
  ⟨h.os, h.tape, h.output, by have := h.size; simpa using this, fun k hk hne => (Below.heap_setCell w' p u k (by omega)).trans (h.block k hk hne)⟩
theorem grown_below {w w' : World} (h : Below w.heap.size w w') (row : Option Nat) : w.grownBy w' row := ⟨h.os, h.tape, h.output, h.size, fun k hk _ => h.block k hk⟩
/-- ahead of it, new memory -/
theorem grown_pre {w w0 w' : World} {row : Option Nat} (hb : Below w.heap.size w w0) (h : w0.grownBy w' row) : w.grownBy w' row := grown_trans (grown_below hb row) h
/-- an own row lies above: nothing of what was there -/
theorem grown_own {w w0 w' : World} {row r2 : Option Nat} (h : w.grownBy w0 row) (hG : w0.grownBy w' r2) (hr : ∀ k, r2 = some k → w.heap.size ≤ k) : w.grownBy w' row :=
  ⟨hG.os.trans h.os, hG.tape.trans h.tape, hG.output.trans h.output, Nat.le_trans h.size hG.size, fun k hk hne => (hG.block k (Nat.lt_of_lt_of_le hk h.size) (fun e => by have := hr k e.symm; omega)).trans (h.block k hk hne)⟩
theorem own_kept {w w' : World} {base e size n : Nat} {v : Value} {xs : List Value} {row : Option Nat} (h : w.ownsRow base e size v n xs) (hG : w.grownBy w' row) (hr : ∀ k, row = some k → k < base) : w'.ownsRow base e size v n xs := by
  refine ⟨h.1, ?_⟩
  rcases h.2 with h0 | ⟨g, c, cur, hv, h1, hh, h2⟩
  · exact .inl h0
  · exact .inr ⟨g, c, cur, hv, h1, (hG.block g (Array.getElem?_eq_some_iff.1 hh).1 (fun e => by have := hr g e.symm; omega)).trans hh, h2⟩

section
variable {P : Program} {ops : Array Oper} {o : Oper} {a : Act} {w : World} {K : Act → World → Prop} {Q : Exit → Act → World → Prop} {F : Prop}
/-- a call of two arguments that may be thrown, as one step of a region that draws -/
theorem step_callRP (R : Ending → World → Prop) (f : FuncId) (x y : Operand) (tys : Array TypeId) (vx vy : Value) (hgd : o.guard = none)
    (ho : o.op = .call { callee := .value (.func f), args := #[x, y], argTypes := tys }) (heg : ∀ args w, (callFunc f args).run P w = .ok (.enter f args) w) (hx : a.eval x = vx) (hy : a.eval y = vy) (hC : Calls P f #[vx, vy] w R)
    (hR : ∀ e w', R e w' → (∃ v, e = .returned v) ∨ ∃ ch, e = .panicked ch) (hP : ∀ ch w', R (.panicked ch) w' → Q (.panic ch) a w') (h : ∀ v w', R (.returned v) w' → K (a.put o.dst v) w') :
    if Region.wanted o (yielded ops a.tmps) = true then Oper.wp P o a w K Q else F := by
  rw [if_pos (by simp [Region.wanted, hgd])]
  have hrun : (execOp a.eval o).run P w = .ok (.enter f #[vx, vy]) w := by
    subst hx hy
    simp [execOp, ho, resolve, invoke, Act.eval, Deferred.ofValue, go_sem, heg]
  unfold Oper.wp
  rw [hrun, Oper.upon_enter]
  refine hC.mono fun e w' hr => ?_
  rcases hR e w' hr with ⟨v, rfl⟩ | ⟨ch, rfl⟩
  · exact h v w' hr
  · exact hP ch w' hr
end
theorem elV : EltOk Try.prog 22 24 (.agg #[.int .i64 0, .int .i64 0, .string ⟨#[]⟩, .slice none 0 0]) 4 56 := ⟨Try.underlying22, by kernel_rfl, rfl, by decide⟩
theorem get_snoc_lt {α : Type} [Inhabited α] (l : List α) (x : α) (i : Nat) (h : i < l.length) : (l ++ [x])[i]! = l[i]! := by
  rw [getElem!_pos l i h, getElem!_pos (l ++ [x]) i (by simp; omega), List.getElem_append_left h]
theorem get_snoc_eq {α : Type} [Inhabited α] (l : List α) (x : α) (i : Nat) (h : i = l.length) : (l ++ [x])[i]! = x := by
  subst h
  rw [getElem!_pos (l ++ [x]) l.length (by simp), List.getElem_append_right (Nat.le_refl _)]
  simp
/-- so many values have been read into the list -/
structure Cd.Lp (w wr : World) (B g : Nat) (j : Nat) (lj : List Cd.T) (rest : List UInt8) (Aj : Option Addr) (cj : Nat) (xss : List (List Value)) (Ar : Option Addr) (cr : Nat) : Prop where
  gq : g < w.heap.size
  grown : w.grownBy wr (some g)
  re : Cd.Re wr B g Ar cr rest
  has : Has wr w.heap.size 24 [.int .i64 3, .int .i64 0, .string ⟨#[]⟩, .slice Aj j cj]
  len : lj.length = j
  xlen : xss.length = j
  own : wr.ownsRow (w.heap.size + 1) 24 4 (.slice Aj j cj) j xss.flatten
  cells : ∀ i, i < j → Cd.CellX wr (fun b => w.heap.size < b ∧ some b ≠ (Value.slice Aj j cj).ownBlock) lj[i]! xss[i]!
theorem Cd.Lp.next {w wr : World} {B g j : Nat} {lj : List Cd.T} {rest : List UInt8} {Aj : Option Addr} {cj : Nat} {xss : List (List Value)} {Ar : Option Addr} {cr : Nat} (h : Cd.Lp w wr B g j lj rest Aj cj xss Ar cr)
    {t : Cd.T} {cs : List Value} {r2 : List UInt8} {A6 : Option Addr} {c6 : Nat} {w5 w8 : World} {A8 : Option Addr} {c8 : Nat} (hg5 : wr.grownBy w5 (some g)) (hX5 : Cd.CellX w5 (fun b => wr.heap.size ≤ b) t cs) (hR5 : Cd.Re w5 B g A6 c6 r2) (cs2 : Array Value)
    (hG : Grew (w5.alloc (.cells cs2 24)) (w.heap.size + 1) 24 4 (.slice Aj j cj) (j + 1) (xss.flatten ++ cs) (.slice A8 (j + 1) c8) w8) :
    Cd.Lp w (w8.setCell ⟨w.heap.size, 3, none⟩ (.slice A8 (j + 1) c8)) B g (j + 1) (lj ++ [t]) r2 A8 c8 (xss ++ [cs]) A6 c6 := by
  have hgq := h.gq
  have hq := h.has.lt
  have hz5 := hg5.size
  have hz6 : (w5.alloc (.cells cs2 24)).heap.size = w5.heap.size + 1 := by simp
  have hz8 := hG.grown.size
  have hge : ∀ k, (Value.slice Aj j cj).ownBlock = some k → w.heap.size + 1 ≤ k ∧ k < wr.heap.size := fun k e => h.own.lt k e
  have h5 : w.grownBy w5 (some g) := grown_trans h.grown hg5
  have h6 : w.grownBy (w5.alloc (.cells cs2 24)) (some g) := grown_trans h5 (grown_below ((Below.refl _ _).alloc (Nat.le_refl _) _) _)
  have h8 : w.grownBy w8 (some g) := grown_own h6 hG.grown (fun k e => by have := hge k e; omega)
  have hblk : ∀ b, b < w5.heap.size → w.heap.size < b → some b ≠ (Value.slice Aj j cj).ownBlock → (w8.setCell ⟨w.heap.size, 3, none⟩ (.slice A8 (j + 1) c8)).heap[b]? = w5.heap[b]? := fun b hb hgt hne => by
    rw [Below.heap_setCell w8 ⟨w.heap.size, 3, none⟩ _ b (show b ≠ w.heap.size by omega), hG.grown.block b (by omega) hne]
    exact Below.heap_alloc w5 _ b hb
  have hnew : ∀ b, b < w5.heap.size → some b ≠ (Value.slice Aj j cj).ownBlock → some b ≠ (Value.slice A8 (j + 1) c8).ownBlock := fun b hb hne => by
    rcases hG.at_ with e | e
    · rw [e]; exact hne
    · rw [e]; intro e2; injection e2 with e2; omega
  refine ⟨hgq, grown_setCell h8 (Nat.le_refl _) _, ?_, ?_, by rw [List.length_append, h.len]; rfl, by rw [List.length_append, h.xlen]; rfl, ?_, fun i hi => ?_⟩
  · have hr6 := hR5.keep ((Below.refl _ _).alloc (Nat.le_refl _) (.cells cs2 24))
    exact (hr6.grown hG.grown (fun k e => by have := hge k e; omega)).set hgq _
  · have hh5 := h.has.grown hg5 (fun e => by injection e with e; omega)
    have hh8 := (hh5.alloc (.cells cs2 24)).grown hG.grown (fun e => by have := hge _ e; omega)
    exact hh8.set 3 _
  · have ho := hG.own
    rw [show (xss ++ [cs]).flatten = xss.flatten ++ cs by simp]
    exact own_far ho (by show w.heap.size < w.heap.size + 1; omega) _
  · have hsz : w5.heap.size ≤ (w8.setCell ⟨w.heap.size, 3, none⟩ (.slice A8 (j + 1) c8)).heap.size := by simp; omega
    by_cases hij : i < j
    · rw [get_snoc_lt lj t i (by rw [h.len]; exact hij), get_snoc_lt xss cs i (by rw [h.xlen]; exact hij)]
      refine (h.cells i hij).turn (by omega) fun b hb hXb => ?_
      refine ⟨⟨hXb.1, hnew b (by omega) hXb.2⟩, ?_⟩
      rw [hblk b (by omega) hXb.1 hXb.2]
      exact hg5.block b hb (fun e => by injection e with e; have := hXb.1; omega)
    · have hij : i = j := by omega
      subst hij
      rw [get_snoc_eq lj t i h.len.symm, get_snoc_eq xss cs i h.xlen.symm]
      refine hX5.turn hsz fun b hb hXb => ?_
      have hgt : w.heap.size < b := by omega
      have hne : some b ≠ (Value.slice Aj i cj).ownBlock := fun e => by have := hge b e.symm; omega
      exact ⟨⟨hgt, hnew b hb hne⟩, hblk b hb hgt hne⟩
/-- a value, or thrown -/
def Cd.RetV (w : World) (B g : Nat) : Option (Cd.T × List UInt8) → Ending → World → Prop
  | some (t, r), e, w' => (∃ cs, e = .returned (.agg cs.toArray) ∧ Cd.CellX w' (fun b => w.heap.size ≤ b) t cs) ∧ Cd.On w B g r w'
  | none, e, w' => Cd.RetB w g e w'
theorem Cd.RetV.way {w : World} {B g : Nat} {o : Option (Cd.T × List UInt8)} : ∀ (e : Ending) (w' : World), Cd.RetV w B g o e w' → (∃ v, e = .returned v) ∨ ∃ ch, e = .panicked ch := fun e w' h => by
  cases o with
  | none => exact .inr ⟨_, h.1⟩
  | some p =>
    obtain ⟨t, r⟩ := p
    obtain ⟨⟨cs, e1, _⟩, _⟩ := h
    exact .inl ⟨_, e1⟩
end Go.Proofs.Ytnhodcjbmloeeaa
