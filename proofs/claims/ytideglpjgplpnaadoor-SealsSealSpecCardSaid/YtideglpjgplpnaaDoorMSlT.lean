import Derived.Deep.RegionHeld
import Derived.Test.YtideglpjgplpnaaDoorMUtil
import Derived.OrdersIn
import Derived.RangeFuncSeq
import Derived.RangeFuncKeeps
/- Regions that draw their order: a condition on the world that need not hold behind the last operations. No program in sight. -/
namespace Go.Proofs.YtideglpjgplpnaaDoor
open Go.RowKit
set_option linter.unusedVariables false

section
variable {P : Program} {ops : Array Oper} {Q : Exit → Act → World → Prop} {md : Region.Mode} {S : World → Prop} {T : List Nat}

/-- whatever order is picked from here on, and S holds behind every operation that is carried out, but for those in T -/
def wpAnyT (P : Program) (md : Region.Mode) (ops : Array Oper) (Q : Exit → Act → World → Prop) (S : World → Prop) (T : List Nat) : Nat → Array Bool → Act → World → Prop
  | 0, listed, a, w => Region.ready md ops listed = [] ∧ Q .normal a w
  | fuel + 1, listed, a, w =>
    (Region.ready md ops listed = [] → Q .normal a w) ∧
    ∀ i ∈ Region.ready md ops listed, wpOp P ops Q i (fun a' w' => (i ∉ T → S w') ∧ wpAnyT P md ops Q S T fuel (listed.setIfInBounds i true) a' w') a w
theorem wpAny_of_T : ∀ (fuel : Nat) (listed : Array Bool) (a : Act) (w : World), wpAnyT P md ops Q S T fuel listed a w → wpAny P md ops Q fuel listed a w
  | 0, _, _, _, h => h
  | fuel + 1, _, _, _, h => ⟨h.1, fun i hi => wpOp_mono (fun a' w' h' => wpAny_of_T fuel _ a' w' h'.2) (h.2 i hi)⟩
/-- an operation may be taken first, where those in T wait for it: D holds whatever waits for it -/
theorem wpAnyT_first {i : Nat} {oi : Oper} {v : Value} (D : List Nat) (hi : ops[i]? = some oi) (hsel : ∀ (j : Nat) (o : Oper) cs b, ops[j]? = some o → o.op ≠ .select cs b)
    (hQ : ∀ c a w, Q (.panic c) (a.put oi.dst v) w → Q (.panic c) a w) (hT : ∀ k, k ∈ T → k ∈ D)
    (hD : ∀ k ok, ops[k]? = some ok → k ∈ D → k ≠ i → ∃ e ∈ ok.after, Region.binds md e = true ∧ e.on ∈ D) :
    ∀ (fuel : Nat) (listed : Array Bool) (a : Act) (w : World),
      (∀ j oj, ops[j]? = some oj → j ≠ i → listed.getD j true = false → (∀ e ∈ oj.after, Region.binds md e = true → e.on ≠ i) → oi.apart ops oj = true) →
      (∀ k ∈ D, listed.getD k false = false) →
      i ∈ Region.ready md ops listed → YieldsIf P ops S oi v a → S w →
      wpAnyT P md ops Q S T fuel (listed.setIfInBounds i true) (a.put oi.dst v) w → wpAnyT P md ops Q S T (fuel + 1) listed a w := by
  intro fuel
  induction fuel with
  | zero =>
    intro listed a w _ _ hr hy hS H
    refine ⟨fun h => (by rw [h] at hr; cases hr), fun j hj => ?_⟩
    by_cases hji : j = i
    · subst hji; exact hy.wpOp hi hS ⟨fun _ => hS, H⟩
    · have := ready_mono hj hji
      rw [H.1] at this
      cases this
  | succ fuel ih =>
    intro listed a w hfree hL hr hy hS H
    refine ⟨fun h => (by rw [h] at hr; cases hr), fun j hj => ?_⟩
    by_cases hji : j = i
    · subst hji; exact hy.wpOp hi hS ⟨fun _ => hS, H⟩
    · have h1 := H.2 j (ready_mono hj hji)
      obtain ⟨hjun, oj, hoj, hall⟩ := mem_ready.1 hj
      have hnot : ∀ e ∈ oj.after, Region.binds md e = true → e.on ≠ i := fun e he hb heq => by
        have h1 := hall e he hb
        have h0 := (mem_ready.1 hr).1
        rw [heq] at h1
        rcases Nat.lt_or_ge i listed.size with h' | h'
        · simp [h'] at h0 h1; rw [h0] at h1; cases h1
        · simp [Array.getElem?_eq_none h'] at h1
      have hjD : j ∉ D := fun hjd => by
        obtain ⟨e, he, hb, hon⟩ := hD j oj hoj hjd hji
        have h1 := hall e he hb
        rw [hL e.on hon] at h1
        cases h1
      have h2 := wpOp_putIf hoj (hfree j oj hoj hji hjun hnot) (fun cs b => hsel i oi cs b hi) (fun cs b => hsel j oj cs b hoj) hQ hy h1
      have hfree' : ∀ k ok, ops[k]? = some ok → k ≠ i → (listed.setIfInBounds j true).getD k true = false →
          (∀ e ∈ ok.after, Region.binds md e = true → e.on ≠ i) → oi.apart ops ok = true := fun k ok hk hki hun hno => by
        refine hfree k ok hk hki ?_ hno
        by_cases hjk : j = k
        · subst hjk; exact hjun
        · rw [getD_set_ne true hjk] at hun; exact hun
      have hL' : ∀ k ∈ D, (listed.setIfInBounds j true).getD k false = false := fun k hk => by
        rw [getD_set_ne false (fun e => hjD (by rw [e]; exact hk))]
        exact hL k hk
      refine wpOp_mono (fun a' w' h3 => ⟨fun _ => h3.2.1 (fun h => hjD (hT j h)), ih (listed.setIfInBounds j true) a' w' hfree' hL' (ready_mono hr (Ne.symm hji)) h3.1 (h3.2.1 (fun h => hjD (hT j h))) ?_⟩) h2
      rw [Array.setIfInBounds_comm _ _ hji]
      exact h3.2.2
/-- D holds T and what waits for i; none of D has come up -/
def waitsT (md : Region.Mode) (ops : Array Oper) (listed : Array Bool) (T : List Nat) (i : Nat) (D : List Nat) : Bool :=
  T.all (fun k => D.contains k) && D.all fun k => !(listed.getD k false) && (k == i || match ops[k]? with | some ok => ok.after.any (fun e => Region.binds md e && D.contains e.on) | none => true)
theorem wpAnyT_take {i : Nat} {oi : Oper} {v : Value} {fuel : Nat} {listed : Array Bool} {a : Act} {w : World} (D : List Nat) (hi : ops[i]? = some oi)
    (hs : Region.noSelect ops = true) (hf : Region.free md ops listed i = true) (hr : (Region.ready md ops listed).contains i = true) (hd : waitsT md ops listed T i D = true)
    (hQ : ∀ c a w, Q (.panic c) (a.put oi.dst v) w → Q (.panic c) a w) (hy : YieldsIf P ops S oi v a) (hS : S w)
    (h : wpAnyT P md ops Q S T fuel (listed.setIfInBounds i true) (a.put oi.dst v) w) : wpAnyT P md ops Q S T (fuel + 1) listed a w := by
  unfold waitsT at hd
  rw [Bool.and_eq_true, List.all_eq_true, List.all_eq_true] at hd
  refine wpAnyT_first D hi (Region.noSelect_spec hs) hQ (fun k hk => by simpa using hd.1 k hk) (fun k ok hok hk hki => ?_) fuel listed a w (Region.free_spec hi hf) (fun k hk => ?_) (by simpa using hr) hy hS h
  · have h1 := hd.2 k hk
    rw [Bool.and_eq_true] at h1
    have h2 := h1.2
    rw [hok] at h2
    simp only [Bool.or_eq_true, beq_iff_eq, hki, false_or, Array.any_eq_true] at h2
    obtain ⟨x, hx, he⟩ := h2
    rw [Bool.and_eq_true] at he
    exact ⟨ok.after[x], Array.getElem_mem hx, he.1, by simpa using he.2⟩
  · have h1 := hd.2 k hk
    rw [Bool.and_eq_true] at h1
    simpa using h1.1
theorem wpAnyT_done {listed : Array Bool} {a : Act} {w : World} (hr : Region.ready md ops listed = []) (h : Q .normal a w) :
    ∀ fuel, wpAnyT P md ops Q S T fuel listed a w
  | 0 => ⟨hr, h⟩
  | _ + 1 => ⟨fun _ => h, by rw [hr]; simp⟩
/-- the one operation that may come up -/
theorem wpAnyT_one {fuel : Nat} {listed : Array Bool} {a : Act} {w : World} {i : Nat} {o : Oper} (hr : Region.ready md ops listed = [i]) (ho : ops[i]? = some o) (hw : Region.wanted o (yielded ops a.tmps) = true)
    (h : ∀ K' : Act → World → Prop, Shut (∀ a w, (i ∉ T → S w) → wpAnyT P md ops Q S T fuel (listed.setIfInBounds i true) a w → K' a w) → Oper.wp P o a w K' Q) : wpAnyT P md ops Q S T (fuel + 1) listed a w := by
  refine ⟨fun h0 => (by rw [h0] at hr; cases hr), fun j hj => ?_⟩
  rw [hr, List.mem_singleton] at hj
  subst hj
  refine wpOp_step ho (fun K' hK => ?_)
  rw [if_pos hw]
  exact h K' (fun a w hS hW => hK a w ⟨hS, hW⟩)
/-- the one operation that may come up is not wanted -/
theorem wpAnyT_skip {fuel : Nat} {listed : Array Bool} {a : Act} {w : World} {i : Nat} {o : Oper} (hr : Region.ready md ops listed = [i]) (ho : ops[i]? = some o) (hw : Region.wanted o (yielded ops a.tmps) = false) (hS : i ∉ T → S w)
    (h : wpAnyT P md ops Q S T fuel (listed.setIfInBounds i true) (a.put o.dst undef) w) : wpAnyT P md ops Q S T (fuel + 1) listed a w := by
  refine ⟨fun h0 => (by rw [h0] at hr; cases hr), fun j hj => ?_⟩
  rw [hr, List.mem_singleton] at hj
  subst hj
  refine wpOp_step ho (fun K' hK => ?_)
  rw [if_neg (by rw [hw]; simp)]
  exact hK _ _ ⟨hS, h⟩
theorem wp_region_T {id : Nat} {a : Act} {w : World} (hm : P.follows .mixedOrders = true) (T : List Nat) (S : World → Prop)
    (h : wpAnyT P .any ops Q S T ops.size (Array.replicate ops.size false) a w.drew) : (Code.region id ops true).wp P Q a w := wp_region_any hm (wpAny_of_T _ _ _ _ h)
end
end Go.Proofs.YtideglpjgplpnaaDoor
/- The same inside a fence that lets every function by: yields may come up in the region. No program in sight. -/
namespace Go.Proofs.YtideglpjgplpnaaDoor
open Go.RowKit
set_option linter.unusedVariables false

section
variable {F : Fence} {n : Nat} {P : Program} {ops : Array Oper} {Q : Exit → Act → World → Prop} {md : Region.Mode} {S : World → Prop} {T : List Nat}

theorem YieldsIf.wpOpIn (hF : ∀ f, F.fn f) (hro : F.round = none) {i : Nat} {o : Oper} {v : Value} {a : Act} (hi : ops[i]? = some o) (hy : YieldsIf P ops S o v a)
    {K : Act → World → Prop} {w : World} (hS : S w) (h : K (a.put o.dst v) w) : wpOpIn F n P ops Q i K a w := by
  unfold Go.wpOpIn
  simp only [hi]
  rcases hy with ⟨hw, hv⟩ | ⟨hw, rfl⟩
  · simp only [hw, if_true, Oper.wpIn, hro, Oper.semAt_none, hv w hS, Oper.uponIn]; exact ⟨fun f _ => hF f, h⟩
  · simp only [hw, Bool.false_eq_true, if_false]; exact ⟨fun f _ => hF f, h⟩
theorem wpOpIn_putIf (hF : ∀ f, F.fn f) (hro : F.round = none) {j : Nat} {oi oj : Oper} {v : Value} (hj : ops[j]? = some oj) (hap : oi.apart ops oj = true)
    (hsi : ∀ cs b, oi.op ≠ .select cs b) (hsj : ∀ cs b, oj.op ≠ .select cs b)
    (hQ : ∀ c a w, Q (.panic c) (a.put oi.dst v) w → Q (.panic c) a w) {K : Act → World → Prop} {a : Act} {w : World}
    (hy : YieldsIf P ops S oi v a) (h : wpOpIn F n P ops Q j K (a.put oi.dst v) w) :
    wpOpIn F n P ops Q j (fun a' w' => YieldsIf P ops S oi v a' ∧ K (a'.put oi.dst v) w') a w := by
  obtain ⟨h1, h2, h3⟩ := Oper.apart_spec hap
  have keep : ∀ (a : Act), YieldsIf P ops S oi v a → ∀ u, YieldsIf P ops S oi v (a.put oj.dst u) := fun a hy u =>
    hy.of_same (execOp_put oi hsi a oj.dst u h3) (wanted_put oi a oj.dst u h3)
  have keepD : ∀ d, YieldsIf P ops S oi v { a with defers := d :: a.defers } := fun d => hy.of_same rfl rfl
  unfold wpOpIn at *
  simp only [hj] at *
  rw [wanted_put oj a oi.dst v h1] at h
  split
  · rename_i hw
    simp only [hw, if_true] at h
    unfold Oper.wpIn at *
    refine ⟨fun f _ => hF f, ?_⟩
    have h := h.2
    rw [hro, Oper.semAt_none, execOp_put oj hsj a oi.dst v h1] at h
    rw [hro, Oper.semAt_none]
    generalize (execOp a.eval oj).run P w = r at *
    cases r with
    | ok x w' =>
      cases x <;> simp only [Oper.uponIn] at h ⊢
      case value u => exact ⟨keep a hy u, by rw [← Act.put_comm a v u h2]; exact h⟩
      case skip => exact ⟨keep a hy _, by rw [← Act.put_comm a v undef h2]; exact h⟩
      case defer d =>
        refine ⟨keep _ (keepD d) _, ?_⟩
        rw [← Act.put_comm _ v undef h2, ← Act.put_defers]
        exact h
      case enter f args =>
        refine ⟨h.1, CallsIn.mono h.2 fun e w'' he => ?_⟩
        cases e with
        | returned u => exact ⟨keep a hy u, by rw [← Act.put_comm a v u h2]; exact he⟩
        | panicked c => exact hQ _ _ _ he
        | outgrown => exact he
      case row row args => exact ⟨h.1, RowsIn.mono h.2 fun u w'' he => ⟨keep a hy u, by rw [← Act.put_comm a v u h2]; exact he⟩⟩
      case round l f tmps assign body =>
        refine ⟨h.1, RoundIn.mono h.2 fun e w'' he => ?_⟩
        cases e with
        | returned u => exact ⟨keep a hy u, by rw [← Act.put_comm a v u h2]; exact he⟩
        | panicked c => exact hQ _ _ _ he
        | outgrown => exact he
    | halt x w' =>
      cases x <;> simp only [Oper.uponIn] at h ⊢
      case panic u => exact hQ _ _ _ h
  · rename_i hw
    simp only [hw] at h
    exact ⟨fun f _ => hF f, keep a hy _, by rw [← Act.put_comm a v undef h2]; exact h.2⟩
/-- whatever order is picked from here on, and S holds behind every operation that is carried out, but for those in T -/
def wpAnyInT (F : Fence) (n : Nat) (P : Program) (md : Region.Mode) (ops : Array Oper) (Q : Exit → Act → World → Prop) (S : World → Prop) (T : List Nat) : Nat → Array Bool → Act → World → Prop
  | 0, listed, a, w => Region.ready md ops listed = [] ∧ Q .normal a w
  | fuel + 1, listed, a, w =>
    (Region.ready md ops listed = [] → Q .normal a w) ∧
    ∀ i ∈ Region.ready md ops listed, wpOpIn F n P ops Q i (fun a' w' => (i ∉ T → S w') ∧ wpAnyInT F n P md ops Q S T fuel (listed.setIfInBounds i true) a' w') a w
theorem wpAnyIn_of_T : ∀ (fuel : Nat) (listed : Array Bool) (a : Act) (w : World), wpAnyInT F n P md ops Q S T fuel listed a w → wpAnyIn F n P md ops Q fuel listed a w
  | 0, _, _, _, h => h
  | fuel + 1, _, _, _, h => ⟨h.1, fun i hi => wpOpIn_mono (fun a' w' h' => wpAnyIn_of_T fuel _ a' w' h'.2) (h.2 i hi)⟩
/-- an operation may be taken first, where those in T wait for it: D holds whatever waits for it -/
theorem wpAnyInT_first (hF : ∀ f, F.fn f) (hro : F.round = none) {i : Nat} {oi : Oper} {v : Value} (D : List Nat) (hi : ops[i]? = some oi) (hsel : ∀ (j : Nat) (o : Oper) cs b, ops[j]? = some o → o.op ≠ .select cs b)
    (hQ : ∀ c a w, Q (.panic c) (a.put oi.dst v) w → Q (.panic c) a w) (hT : ∀ k, k ∈ T → k ∈ D)
    (hD : ∀ k ok, ops[k]? = some ok → k ∈ D → k ≠ i → ∃ e ∈ ok.after, Region.binds md e = true ∧ e.on ∈ D) :
    ∀ (fuel : Nat) (listed : Array Bool) (a : Act) (w : World),
      (∀ j oj, ops[j]? = some oj → j ≠ i → listed.getD j true = false → (∀ e ∈ oj.after, Region.binds md e = true → e.on ≠ i) → oi.apart ops oj = true) →
      (∀ k ∈ D, listed.getD k false = false) →
      i ∈ Region.ready md ops listed → YieldsIf P ops S oi v a → S w →
      wpAnyInT F n P md ops Q S T fuel (listed.setIfInBounds i true) (a.put oi.dst v) w → wpAnyInT F n P md ops Q S T (fuel + 1) listed a w := by
  intro fuel
  induction fuel with
  | zero =>
    intro listed a w _ _ hr hy hS H
    refine ⟨fun h => (by rw [h] at hr; cases hr), fun j hj => ?_⟩
    by_cases hji : j = i
    · subst hji; exact YieldsIf.wpOpIn hF hro hi hy hS ⟨fun _ => hS, H⟩
    · have := ready_mono hj hji
      rw [H.1] at this
      cases this
  | succ fuel ih =>
    intro listed a w hfree hL hr hy hS H
    refine ⟨fun h => (by rw [h] at hr; cases hr), fun j hj => ?_⟩
    by_cases hji : j = i
    · subst hji; exact YieldsIf.wpOpIn hF hro hi hy hS ⟨fun _ => hS, H⟩
    · have h1 := H.2 j (ready_mono hj hji)
      obtain ⟨hjun, oj, hoj, hall⟩ := mem_ready.1 hj
      have hnot : ∀ e ∈ oj.after, Region.binds md e = true → e.on ≠ i := fun e he hb heq => by
        have h1 := hall e he hb
        have h0 := (mem_ready.1 hr).1
        rw [heq] at h1
        rcases Nat.lt_or_ge i listed.size with h' | h'
        · simp [h'] at h0 h1; rw [h0] at h1; cases h1
        · simp [Array.getElem?_eq_none h'] at h1
      have hjD : j ∉ D := fun hjd => by
        obtain ⟨e, he, hb, hon⟩ := hD j oj hoj hjd hji
        have h1 := hall e he hb
        rw [hL e.on hon] at h1
        cases h1
      have h2 := wpOpIn_putIf hF hro hoj (hfree j oj hoj hji hjun hnot) (fun cs b => hsel i oi cs b hi) (fun cs b => hsel j oj cs b hoj) hQ hy h1
      have hfree' : ∀ k ok, ops[k]? = some ok → k ≠ i → (listed.setIfInBounds j true).getD k true = false →
          (∀ e ∈ ok.after, Region.binds md e = true → e.on ≠ i) → oi.apart ops ok = true := fun k ok hk hki hun hno => by
        refine hfree k ok hk hki ?_ hno
        by_cases hjk : j = k
        · subst hjk; exact hjun
        · rw [getD_set_ne true hjk] at hun; exact hun
      have hL' : ∀ k ∈ D, (listed.setIfInBounds j true).getD k false = false := fun k hk => by
        rw [getD_set_ne false (fun e => hjD (by rw [e]; exact hk))]
        exact hL k hk
      refine wpOpIn_mono (fun a' w' h3 => ⟨fun _ => h3.2.1 (fun h => hjD (hT j h)), ih (listed.setIfInBounds j true) a' w' hfree' hL' (ready_mono hr (Ne.symm hji)) h3.1 (h3.2.1 (fun h => hjD (hT j h))) ?_⟩) h2
      rw [Array.setIfInBounds_comm _ _ hji]
      exact h3.2.2
theorem wpAnyInT_take (hF : ∀ f, F.fn f) (hro : F.round = none) {i : Nat} {oi : Oper} {v : Value} {fuel : Nat} {listed : Array Bool} {a : Act} {w : World} (D : List Nat) (hi : ops[i]? = some oi)
    (hs : Region.noSelect ops = true) (hf : Region.free md ops listed i = true) (hr : (Region.ready md ops listed).contains i = true) (hd : waitsT md ops listed T i D = true)
    (hQ : ∀ c a w, Q (.panic c) (a.put oi.dst v) w → Q (.panic c) a w) (hy : YieldsIf P ops S oi v a) (hS : S w)
    (h : wpAnyInT F n P md ops Q S T fuel (listed.setIfInBounds i true) (a.put oi.dst v) w) : wpAnyInT F n P md ops Q S T (fuel + 1) listed a w := by
  unfold waitsT at hd
  rw [Bool.and_eq_true, List.all_eq_true, List.all_eq_true] at hd
  refine wpAnyInT_first hF hro D hi (Region.noSelect_spec hs) hQ (fun k hk => by simpa using hd.1 k hk) (fun k ok hok hk hki => ?_) fuel listed a w (Region.free_spec hi hf) (fun k hk => ?_) (by simpa using hr) hy hS h
  · have h1 := hd.2 k hk
    rw [Bool.and_eq_true] at h1
    have h2 := h1.2
    rw [hok] at h2
    simp only [Bool.or_eq_true, beq_iff_eq, hki, false_or, Array.any_eq_true] at h2
    obtain ⟨x, hx, he⟩ := h2
    rw [Bool.and_eq_true] at he
    exact ⟨ok.after[x], Array.getElem_mem hx, he.1, by simpa using he.2⟩
  · have h1 := hd.2 k hk
    rw [Bool.and_eq_true] at h1
    simpa using h1.1
theorem wpAnyInT_done {listed : Array Bool} {a : Act} {w : World} (hr : Region.ready md ops listed = []) (h : Q .normal a w) :
    ∀ fuel, wpAnyInT F n P md ops Q S T fuel listed a w
  | 0 => ⟨hr, h⟩
  | _ + 1 => ⟨fun _ => h, by rw [hr]; simp⟩
/-- the one operation that may come up -/
theorem wpAnyInT_one {fuel : Nat} {listed : Array Bool} {a : Act} {w : World} {i : Nat} {o : Oper} (hr : Region.ready md ops listed = [i]) (ho : ops[i]? = some o) (hw : Region.wanted o (yielded ops a.tmps) = true)
    (h : ∀ K' : Act → World → Prop, Shut (∀ a w, (i ∉ T → S w) → wpAnyInT F n P md ops Q S T fuel (listed.setIfInBounds i true) a w → K' a w) → Oper.wpIn F n P o a w K' Q) : wpAnyInT F n P md ops Q S T (fuel + 1) listed a w := by
  refine ⟨fun h0 => (by rw [h0] at hr; cases hr), fun j hj => ?_⟩
  rw [hr, List.mem_singleton] at hj
  subst hj
  refine wpOpIn_step ho (fun K' hK => ?_)
  rw [if_pos hw]
  exact h K' (fun a w hS hW => hK a w ⟨hS, hW⟩)
/-- the one operation that may come up is not wanted -/
theorem wpAnyInT_skip (hF : ∀ f, F.fn f) {fuel : Nat} {listed : Array Bool} {a : Act} {w : World} {i : Nat} {o : Oper} (hr : Region.ready md ops listed = [i]) (ho : ops[i]? = some o) (hw : Region.wanted o (yielded ops a.tmps) = false) (hS : i ∉ T → S w)
    (h : wpAnyInT F n P md ops Q S T fuel (listed.setIfInBounds i true) (a.put o.dst undef) w) : wpAnyInT F n P md ops Q S T (fuel + 1) listed a w := by
  refine ⟨fun h0 => (by rw [h0] at hr; cases hr), fun j hj => ?_⟩
  rw [hr, List.mem_singleton] at hj
  subst hj
  refine wpOpIn_step ho (fun K' hK => ?_)
  rw [if_neg (by rw [hw]; simp)]
  exact ⟨fun f _ => hF f, hK _ _ ⟨hS, h⟩⟩
theorem wpIn_region_T {id : Nat} {a : Act} {w : World} (hm : P.follows .mixedOrders = true) (T : List Nat) (S : World → Prop)
    (h : wpAnyInT F n P .any ops Q S T ops.size (Array.replicate ops.size false) a w.drew) : (Code.region id ops true).wpIn F n P Q a w := wpIn_region_any hm (wpAnyIn_of_T _ _ _ _ h)
end
end Go.Proofs.YtideglpjgplpnaaDoor
/- Single operations inside a fence; posts that hold at the normal way out alone. No program in sight. -/
namespace Go.Proofs.YtideglpjgplpnaaDoor
open Go.RowKit Go.Shelf
attribute [local go_sem] Oper.semAt_some
set_option linter.unusedVariables false

/-- it ends normally, with R -/
def NormalOnly (R : Act → World → Prop) (e : Exit) (a : Act) (w : World) : Prop := e = .normal ∧ R a w
theorem NormalOnly.hQ {R : Act → World → Prop} {a' : Act} : ∀ (c : List PanicEntry) (a : Act) (w : World), NormalOnly R (.panic c) a' w → NormalOnly R (.panic c) a w := fun c a w h => by cases h.1
theorem wideFn : ∀ f, Fence.wide.fn f := fun _ => trivial
section
variable {F : Fence} {n : Nat} {P : Program} {o : Oper} {a : Act} {w w' : World} {K : Act → World → Prop} {Q : Exit → Act → World → Prop} {v : Value}
theorem wpIn_runG (hF : ∀ f, F.fn f) (hro : F.round = none) (hr : (execOp a.eval o).run P w = .ok (.value v) w') (h : K (a.put o.dst v) w') : Oper.wpIn F n P o a w K Q := by
  unfold Oper.wpIn
  refine ⟨fun f _ => hF f, ?_⟩
  rw [hro, Oper.semAt_none, hr]
  exact h
theorem wpIn_call1 (f : FuncId) (x : Operand) (tys : Array TypeId) (vx : Value)
    (ho : o.op = .call { callee := .value (.func f), args := #[x], argTypes := tys }) (heg : ∀ args w, (callFunc f args).run P w = .ok (.enter f args) w) (hx : a.eval x = vx) (h : Calls P f #[vx] w fun e w' => ∃ v, e = .returned v ∧ K (a.put o.dst v) w') : Oper.wpIn Fence.wide n P o a w K Q := by
  have hrun : (execOp a.eval o).run P w = .ok (.enter f #[vx]) w := by
    subst hx
    simp [execOp, ho, resolve, invoke, Act.eval, Deferred.ofValue, go_sem, heg]
  unfold Oper.wpIn
  refine ⟨fun f _ => wideFn f, ?_⟩
  rw [show Fence.wide.round = none from rfl, Oper.semAt_none, hrun]
  refine ⟨fun h => by simp [Fence.wide] at h, callsIn_wide.2 (h.mono ?_)⟩
  rintro e w' ⟨v, rfl, hk⟩
  exact hk
theorem wpIn_yield1 (hF : ∀ f, F.fn f) (hro : F.round = none) (h1 : 1 ≤ n) (l : Nat) (x y : Operand) (tys : Array TypeId) (vy : Value) (R : Ending → World → Prop)
    (ho : o.op = .call { callee := .value x, args := #[y], argTypes := tys }) (hx : a.eval x = .func (.yield l) #[] #[]) (hy : a.eval y = vy) (hY : YieldAt F (n - 1) P l #[vy] w R)
    (h : ∀ e w', R e w' → ∃ v, e = .returned v ∧ K (a.put o.dst v) w') : Oper.wpIn F n P o a w K Q := by
  obtain ⟨fn, tmps, assign, body, hy2, hR⟩ := hY
  have hrun : (execOp a.eval o).run P w = .ok (.round l fn tmps assign body) w := by
    subst hy
    cases x with
    | tmp i =>
      simp only [execOp, ho, resolve, hx]
      simpa [invoke, Deferred.ofValue, go_sem] using hy2
    | const c =>
      simp only [execOp, ho, resolve, hx]
      simpa [invoke, Deferred.ofValue, go_sem] using hy2
    | _ => simp [Act.eval] at hx
  unfold Oper.wpIn
  refine ⟨fun f _ => hF f, ?_⟩
  rw [hro, Oper.semAt_none, hrun]
  refine ⟨fun _ => h1, hR.mono ?_⟩
  intro e w' hr
  obtain ⟨v, rfl, hk⟩ := h e w' hr
  exact hk
theorem wpIn_region_named {id : Nat} {ops : Array Oper} {b : Bool} (h : ∀ ops', ops' = ops → (Code.region id ops' b).wpIn F n P Q a w) : (Code.region id ops b).wpIn F n P Q a w := h ops rfl
end
theorem wp_call1 {P : Program} {o : Oper} {a : Act} {w : World} {K : Act → World → Prop} {Q : Exit → Act → World → Prop} (f : FuncId) (x : Operand) (tys : Array TypeId) (vx : Value)
    (ho : o.op = .call { callee := .value (.func f), args := #[x], argTypes := tys }) (heg : ∀ args w, (callFunc f args).run P w = .ok (.enter f args) w) (hx : a.eval x = vx) (h : Calls P f #[vx] w fun e w' => ∃ v, e = .returned v ∧ K (a.put o.dst v) w') : Oper.wp P o a w K Q := by
  have hrun : (execOp a.eval o).run P w = .ok (.enter f #[vx]) w := by
    subst hx
    simp [execOp, ho, resolve, invoke, Act.eval, Deferred.ofValue, go_sem, heg]
  unfold Oper.wp
  rw [hrun, Oper.upon_enter]
  exact h.mono fun e w' ⟨v, he, hk⟩ => by subst he; exact hk
theorem run_op_neq_agg {P : Program} {o : Oper} {a : Act} {w : World} (t t2 : TypeId) (x y : Operand) (ho : o.op = .binOp .neq t x y t2) (xs ys : Array Value) (v : Value) (hx : a.eval x = .agg xs) (hy : a.eval y = .agg ys) (hg : P.eqGuardType P.depth t = false) (hr : (binOp .neq t (.agg xs) (.agg ys)).run P w = .ok v w) : (execOp a.eval o).run P w = .ok (.value v) w := by
  unfold execOp
  simp only [ho, hx, hy]
  simp [eqGuard, Sem.run_bind, go_sem, hg, hr, Result.andThen]
end Go.Proofs.YtideglpjgplpnaaDoor
