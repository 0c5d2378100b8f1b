/- A range over an endless iterator whose body leaves it by a break: rounds are numbered, the value of each is known ahead. No condition; no program in sight. -/
import Derived.RangeFuncNested
import Derived.RangeFuncCalls
import Derived.Test.YtpijkjpefdlefaaUtil
namespace Go.Proofs.Ytpijkjpefdlefaa
open Go.RowKit

/-- how round k of such a loop may end: it goes on, or it breaks out of block c -/
def untilPost (c : Nat) (I : Nat → World → Prop) (X : World → Prop) (k : Nat) (W : World) : Exit → Act → World → Prop
  | .normal, _, W' => KeepsOthers W W' ∧ I (k + 1) W'
  | .exit i, _, W' => i = c ∧ KeepsOthers W W' ∧ X W'
  | _, _, _ => False

theorem below_putObj {W : World} {B l : Nat} {o : Obj} (o' : Obj) (hB : B ≤ l) (h : W.heap[l]? = some o) : Below B W (W.putObj l o') :=
  (Below.refl B W).grown (grownBy_putObj' W l o') (by have := (Array.getElem?_eq_some_iff.1 h).1; omega) (fun k e => by cases e; exact hB)

section
variable {n : Nat} {P : Program}

/-- one round, seen from the iterator: the loop's record lies at l, the block for deferred calls at d -/
theorem until_yield {fn : FuncId} {tm : Array Value} {p : Tmp} {assign body : Code} {v : Value} {l d c k : Nat} {W : World} {a1 : Act} {I : Nat → World → Prop} {X : World → Prop} {w : World}
    (hl : w.heap.size ≤ l) (hdl : d ≠ l)
    (hI : ∀ k W W', I k W → Below w.heap.size W W' → I k W') (hX : ∀ W W', X W → Below w.heap.size W W' → X W')
    (hrec : W.heap[l]? = some (.loop { state := .ready, pending := none, fn, tmps := tm, params := #[p], assign, body, defers := d }))
    (hdef : W.heap[d]? = some (.deferred (some []))) (hi : I k W)
    (hassign : ∀ K : Act → World → Prop, K a1 W → assign.wpIn (Fence.wide.inRound l) (n - 1) P (Exit.then K (fun _ _ _ => False)) { tmps := tm.setIfInBounds p v, defers := [] } W)
    (hbody : ∀ W, I k W → body.wpIn (Fence.wide.inRound l) (n - 1) P (untilPost c I X k W) a1 W) :
    YieldAt Fence.wide (n - 1) P l #[v] W fun e W' =>
      (e = .returned (.bool true) ∧ I (k + 1) W' ∧ W'.heap[l]? = some (.loop { state := .ready, pending := none, fn, tmps := tm, params := #[p], assign, body, defers := d }) ∧ W'.heap[d]? = some (.deferred (some []))) ∨
      (e = .returned (.bool false) ∧ X W' ∧ W'.heap[l]? = some (.loop { state := .done, pending := some (.exit c), fn, tmps := tm, params := #[p], assign, body, defers := d }) ∧ W'.heap[d]? = some (.deferred (some []))) := by
  have hy : (Instr.yield l #[v]).run P W = .ok (.round l fn (tm.setIfInBounds p v) assign body) W := by
    have h := run_yield (P := P) (args := #[v]) hrec rfl
    simpa using h
  refine ⟨_, _, _, _, hy, roundIn_of_wpIn trivial ?_⟩
  refine hassign _ ?_
  refine ⟨_, run_beginRound hrec rfl, ?_⟩
  refine wpIn_mono (hbody _ (hI k _ _ hi (below_putObj _ hl hrec))) ?_
  have hlt := (Array.getElem?_eq_some_iff.1 hrec).1
  intro e a2 W2 hp
  cases e with
  | normal =>
    obtain ⟨hk, hi2⟩ := hp
    have hb2 := hk.same l _ (World.putObj_heap_same hlt) rfl
    have hd2 := hk.same d _ ((World.putObj_heap_other hdl).trans hdef) rfl
    refine ⟨_, _, run_endRound (P := P) none hb2, .inl ⟨rfl, hI _ _ _ hi2 (below_putObj _ hl hb2), ?_, ?_⟩⟩
    · exact World.putObj_heap_same (Array.getElem?_eq_some_iff.1 hb2).1
    · exact (World.putObj_heap_other hdl).trans hd2
  | exit i =>
    obtain ⟨rfl, hk, hx2⟩ := hp
    have hb2 := hk.same l _ (World.putObj_heap_same hlt) rfl
    have hd2 := hk.same d _ ((World.putObj_heap_other hdl).trans hdef) rfl
    refine ⟨_, _, run_endRound (P := P) (some (.exit i)) hb2, .inr ⟨rfl, hX _ _ hx2 (below_putObj _ hl hb2), ?_, ?_⟩⟩
    · exact World.putObj_heap_same (Array.getElem?_eq_some_iff.1 hb2).1
    · exact (World.putObj_heap_other hdl).trans hd2
  | ret => exact hp.elim
  | goto t => exact hp.elim
  | panic ch => exact hp.elim
  | outgrown => exact hp.elim

/-- the statement 'for p := range g { .. }' over an endless iterator: the body breaks out of block c in the end; 'hiter': the iterator's own contract, at the rounds' obligation -/
theorem wpIn_range_until {g : Operand} {p : Tmp} {assign body : Code} {Q : Exit → Act → World → Prop} {a : Act} {w : World} {gf : Nat} {lb : Array Value} {c : Nat} (V : Nat → Value) (I : Nat → World → Prop) (X : World → Prop)
    (h1 : 1 ≤ n) (hg : a.eval g = .func (.func gf) #[] lb) (eg : ∀ args w, (callFunc gf args).run P w = .ok (.enter gf args) w)
    (hI : ∀ k W W', I k W → Below w.heap.size W W' → I k W') (hX : ∀ W W', X W → Below w.heap.size W W' → X W') (h0 : I 0 w)
    (hiter : ∀ (l : Nat) (J : Nat → World → Prop) (Jx : World → Prop) (W : World), Below w.heap.size w W → (∀ k W, J k W → I k W) → (∀ k W W', J k W → Below W.heap.size W W' → J k W') →
      (∀ k W, J k W → YieldAt Fence.wide (n - 1 - 1) P l #[V k] W fun e W' => (e = .returned (.bool true) ∧ J (k + 1) W') ∨ (e = .returned (.bool false) ∧ Jx W')) → J 0 W →
      CallsIn Fence.wide (n - 1) P gf (#[.func (.yield l) #[] #[]] ++ lb) W fun e W' => (∃ v, e = .returned v) ∧ Jx W')
    (a1 : Nat → Act)
    (hassign : ∀ (l k : Nat) (W : World) (K : Act → World → Prop), K (a1 k) W → assign.wpIn (Fence.wide.inRound l) (n - 1 - 1) P (Exit.then K (fun _ _ _ => False)) { tmps := a.tmps.setIfInBounds p (V k), defers := [] } W)
    (hbody : ∀ (l k : Nat) (W : World), I k W → body.wpIn (Fence.wide.inRound l) (n - 1 - 1) P (untilPost c I X k W) (a1 k) W)
    (hstop : ∀ (d : Nat) (W : World), w.heap.size ≤ d → X W → W.heap[d]? = some (.deferred (some [])) → (Code.exit c).wpIn Fence.wide n P Q { a with defers := { target := .collected d, args := #[] } :: a.defers } W) :
    (Code.rangeFunc g #[p] assign body).wpIn Fence.wide n P Q a w := by
  refine wpIn_rangeFunc fun fn _ => ?_
  have hW1 := run_enterLoop_outer (P := P) (w := w) fn a.tmps #[p] assign body
  generalize hrc : ({ state := .ready, pending := none, fn, tmps := a.tmps, params := #[p], assign, body, defers := w.heap.size } : Loop) = rc at hW1
  generalize hWW : (w.alloc (.deferred (some []))).alloc (.loop rc) = W1 at hW1
  have hl : W1.heap[w.heap.size + 1]? = some (.loop rc) := by
    have h := World.alloc_heap_new (w.alloc (.deferred (some []))) (.loop rc)
    rw [World.size_alloc, hWW] at h
    exact h
  have hd : W1.heap[w.heap.size]? = some (.deferred (some [])) := by
    rw [← hWW]
    exact (Below.heap_alloc _ _ _ (by simp)).trans (World.alloc_heap_new w _)
  have hb : Below w.heap.size w W1 := by rw [← hWW]; exact ((Below.refl _ w).alloc (Nat.le_refl _) _).alloc (by simp) _
  refine ⟨w.heap.size + 1, _, W1, { target := .fn (.func gf) lb, args := #[.func (.yield (w.heap.size + 1)) #[] #[]] }, W1, gf, #[.func (.yield (w.heap.size + 1)) #[] #[]] ++ lb, W1, hW1, ?_, fun _ _ => trivial, ?_, fun _ => h1, ?_⟩
  · simp only [resolve, hg]
    simp [go_sem]
  · simp [invoke, go_sem, eg]
  · have hround : ∀ k W, (I k W ∧ W.heap[w.heap.size + 1]? = some (.loop rc) ∧ W.heap[w.heap.size]? = some (.deferred (some []))) → YieldAt Fence.wide (n - 1 - 1) P (w.heap.size + 1) #[V k] W fun e W' =>
        (e = .returned (.bool true) ∧ (I (k + 1) W' ∧ W'.heap[w.heap.size + 1]? = some (.loop rc) ∧ W'.heap[w.heap.size]? = some (.deferred (some [])))) ∨
        (e = .returned (.bool false) ∧ (X W' ∧ W'.heap[w.heap.size + 1]? = some (.loop { rc with state := .done, pending := some (.exit c) }) ∧ W'.heap[w.heap.size]? = some (.deferred (some [])))) := fun k W ⟨hi, hrec, hdef⟩ => by
      subst hrc
      exact until_yield (n := n - 1) (by omega) (by omega) hI hX hrec hdef hi (hassign _ k W) (fun W' hi' => hbody _ k W' hi')
    refine (hiter (w.heap.size + 1) (fun k W => I k W ∧ W.heap[w.heap.size + 1]? = some (.loop rc) ∧ W.heap[w.heap.size]? = some (.deferred (some [])))
      (fun W => X W ∧ W.heap[w.heap.size + 1]? = some (.loop { rc with state := .done, pending := some (.exit c) }) ∧ W.heap[w.heap.size]? = some (.deferred (some []))) W1 hb (fun _ _ h => h.1) ?_ hround ⟨hI _ _ _ h0 hb, hl, hd⟩).mono ?_
    · rintro k W W' ⟨hi, hrec, hdef⟩ hB
      have hs := (Array.getElem?_eq_some_iff.1 hrec).1
      exact ⟨hI _ _ _ hi (hB.mono (by omega)), (hB.block _ hs).trans hrec, (hB.block _ (by omega)).trans hdef⟩
    · rintro e W' ⟨⟨v, rfl⟩, hx, hrec, hdef⟩
      refine ⟨some (.exit c), _, run_endLoop (P := P) hrec (by simp), ?_⟩
      exact hstop w.heap.size _ (Nat.le_refl _) (hX _ _ hx (below_putObj _ (by omega) hrec)) ((World.putObj_heap_other (by omega)).trans hdef)
end
end Go.Proofs.Ytpijkjpefdlefaa
