import Derived.Test.YtnbbleajbbgmjaaDoorMRcR6
/- The plain laws of the receipts: spans that have a time in common. -/
namespace Go.Proofs.YtnbbleajbbgmjaaDoor
open Go.RowKit
set_option linter.unusedVariables false

/-- what valid evidence says of each receipt -/
theorem Rc.ok_all {K : List UInt32} {I : Dg.S} {c : List Rc.C} {subs : List Rc.Sb} {l : List Rc.R} (h : Rc.chkE K I c subs l = 0) :
    ∀ x ∈ l, ∃ q, c[x.rf.toNat]? = some q ∧ 0 ≤ x.rf ∧ x.rf < c.length ∧ Clk.okB q.s q.er q.d = true ∧ Clk.tmB x.st = true := by
  have h0 : Rc.wrong K I c subs l = false := by
    unfold Rc.chkE at h
    split at h
    · simp at h
    · rename_i h1; simpa using h1
  unfold Rc.wrong at h0
  simp only [Bool.or_eq_false_iff] at h0
  intro x hx
  obtain ⟨k, hk, he⟩ := List.mem_iff_getElem.1 hx
  have h1 := Rc.pre_no _ _ h0.2.2.2 k hk
  unfold Rc.badR at h1
  rw [List.getElem?_eq_getElem hk, he] at h1
  simp only [Bool.or_eq_false_iff, Bool.not_eq_false'] at h1
  have h2 := h1.1
  have h3 := h1.2.2.1
  unfold Rc.inB at h2 h3
  simp only [Bool.and_eq_true, decide_eq_true_eq] at h2 h3
  have hlt : x.rf.toNat < c.length := by omega
  refine ⟨c[x.rf.toNat], List.getElem?_eq_getElem hlt, h2.1, h2.2, ?_, ?_⟩
  · have h4 := Rc.pre_no _ _ h0.2.1 x.rf.toNat hlt
    unfold Rc.w2 at h4
    rw [List.getElem?_eq_getElem hlt] at h4
    have h5 : (!Clk.okB c[x.rf.toNat].s c[x.rf.toNat].er c[x.rf.toNat].d) = false := h4
    simpa using h5
  · rw [Clk.tmB_iff]
    exact ⟨h3.1, by omega⟩
/-- the span of a receipt of valid evidence -/
theorem Rc.sp_times {K : List UInt32} {I : Dg.S} {c : List Rc.C} {subs : List Rc.Sb} {l : List Rc.R} (h : Rc.chkE K I c subs l = 0) {x : Rc.R} (hx : x ∈ l) {q : Rc.C} (hq : c[x.rf.toNat]? = some q) :
    Clk.IsTimes q.s q.er q.d x.st (Rc.spL c x) (Rc.spH c x) := by
  obtain ⟨q', hq', _, _, ho, ht⟩ := Rc.ok_all h x hx
  obtain rfl : q' = q := Option.some.inj (hq'.symm.trans hq)
  have hd : c.getD x.rf.toNat default = q' := by rw [List.getD_eq_getElem?_getD, hq]; rfl
  have hk : Clk.timOk q'.s q'.er q'.d x.st = true := by unfold Clk.timOk; rw [ho, ht]; rfl
  have e1 : Rc.spL c x = Clk.lastB q'.s q'.er q'.d x.st (-1) := by unfold Rc.spL; rw [hd]; show Clk.timLo _ _ _ _ = _; unfold Clk.timLo; rw [if_pos hk]
  have e2 : Rc.spH c x = Clk.lastB q'.s q'.er q'.d x.st 1 := by unfold Rc.spH; rw [hd]; show Clk.timHi _ _ _ _ = _; unfold Clk.timHi; rw [if_pos hk]
  rw [e1, e2]
  exact Clk.last_times _ _ _ _ ho ht
/-- the receipts' times, first and last: what they are, time by time -/
theorem Rc.mm_in (xs : List (Nat × Int × Int)) : ∀ (r : Int × Int) (t : Int), ((xs.foldl Rc.m1 r).1 ≤ t ∧ t ≤ (xs.foldl Rc.m1 r).2) ↔ (r.1 ≤ t ∧ t ≤ r.2 ∧ ∀ x ∈ xs, x.2.1 ≤ t ∧ t ≤ x.2.2) := by
  induction xs with
  | nil => intro r t; simp
  | cons x xs ih =>
    intro r t
    rw [List.foldl_cons, ih (Rc.m1 r x) t]
    have h1 : (Rc.m1 r x).1 ≤ t ↔ r.1 ≤ t ∧ x.2.1 ≤ t := by unfold Rc.m1; dsimp only; split <;> omega
    have h2 : t ≤ (Rc.m1 r x).2 ↔ t ≤ r.2 ∧ t ≤ x.2.2 := by unfold Rc.m1; dsimp only; split <;> omega
    constructor
    · rintro ⟨a, b, hc⟩
      refine ⟨(h1.1 a).1, (h2.1 b).1, fun y hy => ?_⟩
      rcases List.mem_cons.1 hy with rfl | hy
      · exact ⟨(h1.1 a).2, (h2.1 b).2⟩
      · exact hc y hy
    · rintro ⟨a, b, hc⟩
      have h3 := hc x (List.mem_cons_self ..)
      exact ⟨h1.2 ⟨a, h3.1⟩, h2.2 ⟨b, h3.2⟩, fun y hy => hc y (List.mem_cons_of_mem _ hy)⟩
theorem Rc.ofs_mem {c : List Rc.C} {l : List Rc.R} {no : Int} {k : Nat} {x : Rc.R} (hx : l[k]? = some x) (hn : x.no = no) : (k, Rc.spL c x, Rc.spH c x) ∈ Rc.ofs c l no := by
  obtain ⟨r, hr⟩ := Rc.ofp_at (c := c) hx hn
  rw [hr]
  exact List.mem_append_right _ (List.mem_cons_self ..)
/-- the times of a submission -/
theorem Rc.mm_ofs (c : List Rc.C) (l : List Rc.R) (no t : Int) : ((Rc.mm (Rc.ofs c l no)).1 ≤ t ∧ t ≤ (Rc.mm (Rc.ofs c l no)).2) ↔ (0 ≤ t ∧ t ≤ 1048576 ∧ ∀ x ∈ l, x.no = no → Rc.spL c x ≤ t ∧ t ≤ Rc.spH c x) := by
  unfold Rc.mm
  rw [Rc.mm_in]
  constructor
  · rintro ⟨a, b, h⟩
    refine ⟨a, b, fun x hx hn => ?_⟩
    obtain ⟨k, hk, he⟩ := List.mem_iff_getElem.1 hx
    exact h _ (Rc.ofs_mem (c := c) (show l[k]? = some x by rw [List.getElem?_eq_getElem hk, he]) hn)
  · rintro ⟨a, b, h⟩
    refine ⟨a, b, fun e he => ?_⟩
    obtain ⟨i, x, _, hx, hn, rfl⟩ := Rc.ofp_mem _ he
    exact h x (List.mem_of_getElem? hx) hn
/-- receipts with a time in common do not contradict each other -/
theorem Rc.conf_none_of {c : List Rc.C} {l : List Rc.R} {no t : Int} (h : ∀ x ∈ l, x.no = no → Rc.spL c x ≤ t ∧ t ≤ Rc.spH c x) : Rc.conf (Rc.ofs c l no) = none := by
  refine Rc.conf_no fun a b hab hb => ?_
  obtain ⟨x, hx⟩ : ∃ x, l[a]? = some x := ⟨_, List.getElem?_eq_getElem (by omega)⟩
  obtain ⟨y, hy⟩ : ∃ y, l[b]? = some y := ⟨_, List.getElem?_eq_getElem hb⟩
  rw [Rc.bd_eq hx hy]
  by_cases h1 : x.no = no
  · by_cases h2 : y.no = no
    · have k1 := h x (List.mem_of_getElem? hx) h1
      have k2 := h y (List.mem_of_getElem? hy) h2
      rw [decide_eq_false (show ¬ Rc.spH c x < Rc.spL c y by omega), decide_eq_false (show ¬ Rc.spH c y < Rc.spL c x by omega)]
      simp
    · rw [decide_eq_false h2]; simp
  · rw [decide_eq_false h1]; simp
end Go.Proofs.YtnbbleajbbgmjaaDoor
/- Plain: When finds no time exactly if Conflict finds two receipts. -/
namespace Go.Proofs.YtnbbleajbbgmjaaDoor
open Go.RowKit
set_option linter.unusedVariables false

theorem Rc.conf_spec {c : List Rc.C} {l : List Rc.R} {no : Int} {a b : Nat} (h : Rc.conf (Rc.ofs c l no) = some (a, b)) :
    ∃ x y, l[a]? = some x ∧ l[b]? = some y ∧ a < b ∧ b < l.length ∧ x.no = no ∧ y.no = no ∧ (Rc.spH c x < Rc.spL c y ∨ Rc.spH c y < Rc.spL c x) := by
  unfold Rc.conf at h
  obtain ⟨e, he, h1⟩ := List.exists_of_findSome?_eq_some h
  unfold Rc.hit at h1
  rw [Option.map_eq_some_iff] at h1
  obtain ⟨f, hf, h2⟩ := h1
  have hfm := List.mem_of_find?_eq_some hf
  have hbp := List.find?_some hf
  obtain ⟨i, x, hi, hx, hxn, rfl⟩ := Rc.ofp_mem _ he
  obtain ⟨j, y, hj, hy, hyn, rfl⟩ := Rc.ofp_mem _ hfm
  simp only [Prod.mk.injEq] at h2
  obtain ⟨rfl, rfl⟩ := h2
  unfold Rc.badP at hbp
  simp only [Bool.and_eq_true, Bool.or_eq_true, decide_eq_true_eq] at hbp
  exact ⟨x, y, hx, hy, hbp.1, hj, hxn, hyn, hbp.2⟩
theorem Rc.conf_pairs {xs : List (Nat × Int × Int)} (h : Rc.conf xs = none) : ∀ x ∈ xs, ∀ y ∈ xs, Rc.badP x y = false := by
  unfold Rc.conf at h
  rw [List.findSome?_eq_none_iff] at h
  intro x hx y hy
  have h1 := h x hx
  unfold Rc.hit at h1
  rw [Option.map_eq_none_iff, List.find?_eq_none] at h1
  have h2 := h1 y hy
  simpa using h2
theorem Rc.mm_lo (xs : List (Nat × Int × Int)) : ∀ r : Int × Int, (xs.foldl Rc.m1 r).1 = r.1 ∨ ∃ e ∈ xs, (xs.foldl Rc.m1 r).1 = e.2.1 := by
  induction xs with
  | nil => exact fun r => .inl rfl
  | cons x xs ih =>
    intro r
    rw [List.foldl_cons]
    rcases ih (Rc.m1 r x) with h | ⟨e, he, h⟩
    · rw [h]
      unfold Rc.m1
      dsimp only
      split
      · exact .inr ⟨x, List.mem_cons_self .., rfl⟩
      · exact .inl rfl
    · exact .inr ⟨e, List.mem_cons_of_mem _ he, h⟩
theorem Rc.mm_hi (xs : List (Nat × Int × Int)) : ∀ r : Int × Int, (xs.foldl Rc.m1 r).2 = r.2 ∨ ∃ e ∈ xs, (xs.foldl Rc.m1 r).2 = e.2.2 := by
  induction xs with
  | nil => exact fun r => .inl rfl
  | cons x xs ih =>
    intro r
    rw [List.foldl_cons]
    rcases ih (Rc.m1 r x) with h | ⟨e, he, h⟩
    · rw [h]
      unfold Rc.m1
      dsimp only
      split
      · exact .inr ⟨x, List.mem_cons_self .., rfl⟩
      · exact .inl rfl
    · exact .inr ⟨e, List.mem_cons_of_mem _ he, h⟩
/-- spans of which no two contradict each other have a time in common -/
theorem Rc.conf_mm {c : List Rc.C} {l : List Rc.R} {no : Int} (hok : ∀ x ∈ l, 0 ≤ Rc.spL c x ∧ Rc.spL c x ≤ Rc.spH c x ∧ Rc.spH c x ≤ 1048576) (h : Rc.conf (Rc.ofs c l no) = none) : (Rc.mm (Rc.ofs c l no)).1 ≤ (Rc.mm (Rc.ofs c l no)).2 := by
  have hp := Rc.conf_pairs h
  have hb : ∀ e ∈ Rc.ofs c l no, 0 ≤ e.2.1 ∧ e.2.1 ≤ e.2.2 ∧ e.2.2 ≤ 1048576 := fun e he => by
    obtain ⟨i, x, _, hx, _, rfl⟩ := Rc.ofp_mem _ he
    exact hok x (List.mem_of_getElem? hx)
  have hu : ∀ e ∈ Rc.ofs c l no, ∀ f ∈ Rc.ofs c l no, e.1 = f.1 → e = f := fun e he f hf hh => by
    obtain ⟨i, x, _, hx, _, rfl⟩ := Rc.ofp_mem _ he
    obtain ⟨j, y, _, hy, _, rfl⟩ := Rc.ofp_mem _ hf
    obtain rfl : i = j := hh
    obtain rfl : x = y := Option.some.inj (hx.symm.trans hy)
    rfl
  unfold Rc.mm
  rcases Rc.mm_lo (Rc.ofs c l no) (0, 1048576) with h1 | ⟨e, he, h1⟩
  · rcases Rc.mm_hi (Rc.ofs c l no) (0, 1048576) with h2 | ⟨f, hf, h2⟩
    · rw [h1, h2]; decide
    · have k := hb f hf
      rw [h1, h2]
      show (0 : Int) ≤ _
      omega
  · rcases Rc.mm_hi (Rc.ofs c l no) (0, 1048576) with h2 | ⟨f, hf, h2⟩
    · have k := hb e he
      rw [h1, h2]
      show _ ≤ (1048576 : Int)
      omega
    · rw [h1, h2]
      have k1 := hb e he
      have k2 := hb f hf
      rcases Nat.lt_trichotomy e.1 f.1 with hlt | heq | hlt
      · have h3 := hp e he f hf
        unfold Rc.badP at h3
        rw [decide_eq_true hlt, Bool.true_and, Bool.or_eq_false_iff, decide_eq_false_iff_not, decide_eq_false_iff_not] at h3
        omega
      · obtain rfl := hu e he f hf heq
        exact k1.2.1
      · have h3 := hp f hf e he
        unfold Rc.badP at h3
        rw [decide_eq_true hlt, Bool.true_and, Bool.or_eq_false_iff, decide_eq_false_iff_not, decide_eq_false_iff_not] at h3
        omega
/-- two receipts that contradict each other leave no time -/
theorem Rc.conf_no_mm {c : List Rc.C} {l : List Rc.R} {no : Int} {a b : Nat} (h : Rc.conf (Rc.ofs c l no) = some (a, b)) : (Rc.mm (Rc.ofs c l no)).2 < (Rc.mm (Rc.ofs c l no)).1 := by
  obtain ⟨x, y, hx, hy, _, _, hxn, hyn, hd⟩ := Rc.conf_spec h
  apply Int.not_le.1
  intro hle
  have h1 := (Rc.mm_ofs c l no (Rc.mm (Rc.ofs c l no)).1).1 ⟨Int.le_refl _, hle⟩
  have k1 := h1.2.2 x (List.mem_of_getElem? hx) hxn
  have k2 := h1.2.2 y (List.mem_of_getElem? hy) hyn
  omega
end Go.Proofs.YtnbbleajbbgmjaaDoor
/- Plain: evidence with one receipt less. -/
namespace Go.Proofs.YtnbbleajbbgmjaaDoor
open Go.RowKit
set_option linter.unusedVariables false

theorem Rc.late_trans {x y z : Rc.R} (h1 : Rc.late x y = false) (h2 : Rc.late y z = false) : Rc.late x z = false := by
  unfold Rc.late at *
  simp only [Bool.or_eq_false_iff, Bool.and_eq_false_iff, decide_eq_false_iff_not] at *
  omega
theorem Rc.pre_all (f : Nat → Bool) (n : Nat) (h : ∀ k, k < n → f k = false) : Rc.pre f n = false := by
  induction n with
  | zero => rfl
  | succ n ih => rw [Rc.pre, ih (fun k hk => h k (by omega)), h n (by omega)]; rfl
theorem erase_at {α : Type} (l : List α) (i k : Nat) : (l.take i ++ l.drop (i + 1))[k]? = if k < i then l[k]? else (if i ≤ l.length then l[k + 1]? else none) := by
  by_cases hk : k < i
  · rw [if_pos hk]
    by_cases hl : k < l.length
    · rw [List.getElem?_append_left (by rw [List.length_take]; omega), List.getElem?_take_of_lt hk]
    · rw [List.getElem?_eq_none (by simp only [List.length_append, List.length_take, List.length_drop]; omega), List.getElem?_eq_none (by omega)]
  · rw [if_neg hk]
    by_cases hl : i ≤ l.length
    · rw [if_pos hl, List.getElem?_append_right (by rw [List.length_take]; omega), List.length_take, List.getElem?_drop]
      congr 1
      omega
    · rw [if_neg hl, List.getElem?_eq_none (by simp only [List.length_append, List.length_take, List.length_drop]; omega)]
theorem erase_len {α : Type} (l : List α) (i : Nat) (hi : i < l.length) : (l.take i ++ l.drop (i + 1)).length = l.length - 1 := by
  simp only [List.length_append, List.length_take, List.length_drop]; omega
theorem erase_mem {α : Type} {l : List α} {i : Nat} {x : α} (h : x ∈ l.take i ++ l.drop (i + 1)) : x ∈ l := by
  rcases List.mem_append.1 h with h | h
  · exact List.mem_of_mem_take h
  · exact List.mem_of_mem_drop h
theorem mem_erase {α : Type} {l : List α} {i : Nat} {x y : α} (hi : l[i]? = some y) (h : x ∈ l) : x = y ∨ x ∈ l.take i ++ l.drop (i + 1) := by
  obtain ⟨k, hk, rfl⟩ := List.mem_iff_getElem.1 h
  have hil : i < l.length := (List.getElem?_eq_some_iff.1 hi).1
  rcases Nat.lt_trichotomy k i with h1 | h1 | h1
  · right
    refine List.mem_of_getElem? (i := k) ?_
    rw [erase_at, if_pos h1, List.getElem?_eq_getElem hk]
  · left
    subst h1
    rw [List.getElem?_eq_getElem hk] at hi
    exact Option.some.inj hi
  · right
    refine List.mem_of_getElem? (i := k - 1) ?_
    rw [erase_at, if_neg (by omega), if_pos (by omega), show k - 1 + 1 = k by omega, List.getElem?_eq_getElem hk]

/-- a receipt of valid evidence, by its index -/
theorem Rc.badR_no {K : List UInt32} {I : Dg.S} {nc : Nat} {subs : List Rc.Sb} {l : List Rc.R} {i : Nat} {x : Rc.R} (hx : l[i]? = some x) :
    Rc.badR K I nc subs l i = false ↔ (Rc.inB x.rf nc = true ∧ Rc.inB x.no subs.length = true ∧ Rc.inB x.st 1048577 = true ∧ (∀ y, 0 < i → l[i - 1]? = some y → Rc.late y x = false) ∧
      (match subs[x.no.toNat]? with | none => true | some s => s.odd || !(s.dl K I == x.dg)) = false) := by
  have hil : i < l.length := (List.getElem?_eq_some_iff.1 hx).1
  unfold Rc.badR
  rw [hx]
  simp only [Bool.or_eq_false_iff, Bool.not_eq_false']
  have hlate : (if i = 0 then false else Rc.late (l.getD (i - 1) default) x) = false ↔ (∀ y, 0 < i → l[i - 1]? = some y → Rc.late y x = false) := by
    by_cases h0 : i = 0
    · rw [if_pos h0]
      exact ⟨fun _ y h => absurd h (by omega), fun _ => rfl⟩
    · rw [if_neg h0]
      have hg : l[i - 1]? = some l[i - 1] := List.getElem?_eq_getElem (by omega)
      rw [List.getD_eq_getElem?_getD, hg]
      constructor
      · intro h y _ hy
        obtain rfl : l[i - 1] = y := Option.some.inj hy
        exact h
      · intro h
        exact h _ (by omega) rfl
  rw [hlate]
  exact Iff.rfl
/-- evidence with one receipt less is still valid -/
theorem Rc.chk_less {K : List UInt32} {I : Dg.S} {c : List Rc.C} {subs : List Rc.Sb} {l : List Rc.R} {i : Nat} (hi : i < l.length) (h : Rc.chkE K I c subs l = 0) : Rc.chkE K I c subs (l.take i ++ l.drop (i + 1)) = 0 := by
  have h0 : Rc.wrong K I c subs l = false := by
    unfold Rc.chkE at h
    split at h
    · simp at h
    · rename_i h1; simpa using h1
  have hll := erase_len l i hi
  unfold Rc.chkE
  rw [if_neg]
  rw [Bool.not_eq_true]
  unfold Rc.wrong at h0 ⊢
  simp only [Bool.or_eq_false_iff] at h0 ⊢
  obtain ⟨h1, h2, h3, h4⟩ := h0
  refine ⟨?_, h2, h3, ?_⟩
  · unfold Rc.w1 at h1 ⊢
    simp only [Bool.or_eq_false_iff, decide_eq_false_iff_not] at h1 ⊢
    omega
  · refine Rc.pre_all _ _ fun k hk => ?_
    rw [hll] at hk
    have hb : ∀ j, j < l.length → Rc.badR K I c.length subs l j = false := fun j hj => Rc.pre_no _ _ h4 j hj
    have at_ : ∀ j x, l[j]? = some x → _ := fun j x hx => (Rc.badR_no (K := K) (I := I) (nc := c.length) (subs := subs) hx).1 (hb j (List.getElem?_eq_some_iff.1 hx).1)
    by_cases hki : k < i
    · obtain ⟨x, hx⟩ : ∃ x, l[k]? = some x := ⟨_, List.getElem?_eq_getElem (by omega)⟩
      have hx2 : (l.take i ++ l.drop (i + 1))[k]? = some x := by rw [erase_at, if_pos hki, hx]
      obtain ⟨g1, g2, g3, g4, g5⟩ := at_ k x hx
      refine (Rc.badR_no hx2).2 ⟨g1, g2, g3, fun y hy0 hy => ?_, g5⟩
      rw [erase_at, if_pos (by omega)] at hy
      exact g4 y hy0 hy
    · obtain ⟨x, hx⟩ : ∃ x, l[k + 1]? = some x := ⟨_, List.getElem?_eq_getElem (by omega)⟩
      have hx2 : (l.take i ++ l.drop (i + 1))[k]? = some x := by rw [erase_at, if_neg hki, if_pos (by omega), hx]
      obtain ⟨g1, g2, g3, g4, g5⟩ := at_ (k + 1) x hx
      refine (Rc.badR_no hx2).2 ⟨g1, g2, g3, fun y hy0 hy => ?_, g5⟩
      rw [erase_at] at hy
      by_cases hk1 : k - 1 < i
      · rw [if_pos hk1] at hy
        obtain ⟨z, hz⟩ : ∃ z, l[k]? = some z := ⟨_, List.getElem?_eq_getElem (by omega)⟩
        have e1 := (at_ k z hz).2.2.2.1 y hy0 hy
        have e2 := g4 z (by omega) hz
        exact Rc.late_trans e1 e2
      · rw [if_neg hk1, if_pos (by omega), show k - 1 + 1 = k by omega] at hy
        exact g4 y (by omega) hy
/-- two ranges with the same times -/
theorem Rc.range_ext {a b c d : Int} (h : ∀ t, (a ≤ t ∧ t ≤ b) ↔ (c ≤ t ∧ t ≤ d)) : (a ≤ b ∧ a = c ∧ b = d) ∨ (b < a ∧ d < c) := by
  by_cases hab : a ≤ b
  · have h1 := (h a).1 ⟨by omega, hab⟩
    have h2 := (h b).1 ⟨hab, by omega⟩
    have h3 := (h c).2 ⟨by omega, by omega⟩
    have h4 := (h d).2 ⟨by omega, by omega⟩
    exact .inl ⟨hab, by omega, by omega⟩
  · refine .inr ⟨by omega, Int.not_le.1 fun hcd => ?_⟩
    have h3 := (h c).2 ⟨by omega, hcd⟩
    omega
/-- a receipt of another submission makes no difference -/
theorem Rc.when_other {c : List Rc.C} {l : List Rc.R} {no : Int} {i : Nat} {x : Rc.R} (hx : l[i]? = some x) (hn : x.no ≠ no) : Rc.whenV 0 (Rc.ofs c (l.take i ++ l.drop (i + 1)) no) = Rc.whenV 0 (Rc.ofs c l no) := by
  have h : ∀ t, ((Rc.mm (Rc.ofs c (l.take i ++ l.drop (i + 1)) no)).1 ≤ t ∧ t ≤ (Rc.mm (Rc.ofs c (l.take i ++ l.drop (i + 1)) no)).2) ↔ ((Rc.mm (Rc.ofs c l no)).1 ≤ t ∧ t ≤ (Rc.mm (Rc.ofs c l no)).2) := fun t => by
    rw [Rc.mm_ofs, Rc.mm_ofs]
    constructor
    · rintro ⟨h1, h2, h3⟩
      refine ⟨h1, h2, fun y hy hyn => ?_⟩
      rcases mem_erase hx hy with rfl | hm
      · exact absurd hyn hn
      · exact h3 y hm hyn
    · rintro ⟨h1, h2, h3⟩
      exact ⟨h1, h2, fun y hy hyn => h3 y (erase_mem hy) hyn⟩
  rcases Rc.range_ext h with ⟨h1, h2, h3⟩ | ⟨h1, h2⟩
  · rw [Rc.when_yes h1, Rc.when_yes (by omega), h2, h3]
  · rw [Rc.when_no h1, Rc.when_no h2]
/-- without a receipt there are as many times or more -/
theorem Rc.when_more {c : List Rc.C} {l : List Rc.R} {no : Int} {i : Nat} (h : (Rc.mm (Rc.ofs c l no)).1 ≤ (Rc.mm (Rc.ofs c l no)).2) :
    (Rc.mm (Rc.ofs c (l.take i ++ l.drop (i + 1)) no)).1 ≤ (Rc.mm (Rc.ofs c l no)).1 ∧ (Rc.mm (Rc.ofs c l no)).2 ≤ (Rc.mm (Rc.ofs c (l.take i ++ l.drop (i + 1)) no)).2 := by
  have hw : ∀ t, ((Rc.mm (Rc.ofs c l no)).1 ≤ t ∧ t ≤ (Rc.mm (Rc.ofs c l no)).2) → ((Rc.mm (Rc.ofs c (l.take i ++ l.drop (i + 1)) no)).1 ≤ t ∧ t ≤ (Rc.mm (Rc.ofs c (l.take i ++ l.drop (i + 1)) no)).2) := fun t ht => by
    rw [Rc.mm_ofs] at ht ⊢
    exact ⟨ht.1, ht.2.1, fun y hy hyn => ht.2.2 y (erase_mem hy) hyn⟩
  exact ⟨(hw _ ⟨Int.le_refl _, h⟩).1, (hw _ ⟨h, Int.le_refl _⟩).2⟩

/-- the first receipts, and those from an index on, as they lie in memory -/
theorem Rc.cells_all {l : List Rc.R} (h : ∀ r ∈ l, r.dg.length = 32) : ∀ xs ∈ l.map Rc.R.cells, xs.length = 35 := fun xs hx => by
  obtain ⟨q, hq, rfl⟩ := List.mem_map.1 hx
  exact Rc.R.cells_len (h q hq)
theorem Rc.flat_len (xss : List (List Value)) (h : ∀ xs ∈ xss, xs.length = 35) : xss.flatten.length = xss.length * 35 := by
  induction xss with
  | nil => rfl
  | cons xs xss ih => rw [List.flatten_cons, List.length_append, h xs (List.mem_cons_self ..), ih (fun ys hy => h ys (List.mem_cons_of_mem _ hy)), List.length_cons]; omega
theorem Rc.Rcs.first {w : World} {B b off n : Nat} {l : List Rc.R} (h : Rc.Rcs w B (some ⟨b, off, none⟩) n l) (i : Nat) (hi : i ≤ n) : Rd w B 35 (some ⟨b, off, none⟩) i ((l.take i).map Rc.R.cells).flatten := by
  have hl := h.len
  refine ⟨?_, fun h0 => ?_⟩
  · rw [Rc.flat_len _ (Rc.cells_all (fun r hr => h.dg r (List.mem_of_mem_take hr))), List.length_map, List.length_take]
    rw [Nat.min_eq_left (by omega)]
  · obtain ⟨b', off', e, hb, hc⟩ := h.rd.2 (by omega)
    refine ⟨b', off', e, hb, fun j u hu => hc j u ?_⟩
    rw [← List.take_append_drop i l, List.map_append, List.flatten_append, List.getElem?_append_left (List.getElem?_eq_some_iff.1 hu).1]
    exact hu
theorem Rc.Rcs.last {w : World} {B b off n : Nat} {l : List Rc.R} (h : Rc.Rcs w B (some ⟨b, off, none⟩) n l) (i : Nat) (hi : i ≤ n) : Rd w B 35 (some ⟨b, off + i * 35, none⟩) (n - i) ((l.drop i).map Rc.R.cells).flatten := by
  have hl := h.len
  refine ⟨?_, fun h0 => ?_⟩
  · rw [Rc.flat_len _ (Rc.cells_all (fun r hr => h.dg r (List.mem_of_mem_drop hr))), List.length_map, List.length_drop, hl]
  · obtain ⟨b', off', e, hb, hc⟩ := h.rd.2 (by omega)
    injection e with e
    injection e with e1 e2 _
    subst e1 e2
    refine ⟨b, off + i * 35, rfl, hb, fun j u hu => ?_⟩
    rw [Nat.add_assoc]
    refine hc (i * 35 + j) u ?_
    have hlen : ((l.take i).map Rc.R.cells).flatten.length = i * 35 := by
      rw [Rc.flat_len _ (Rc.cells_all (fun r hr => h.dg r (List.mem_of_mem_take hr))), List.length_map, List.length_take, Nat.min_eq_left (by omega)]
    conv => lhs; rw [← List.take_append_drop i l]
    rw [List.map_append, List.flatten_append, List.getElem?_append_right (by omega), hlen, Nat.add_sub_cancel_left]
    exact hu
theorem Rc.Rcs.of_own {w : World} {base n : Nat} {A : Option Addr} {c : Nat} {l : List Rc.R} (hl : l.length = n) (hd : ∀ r ∈ l, r.dg.length = 32) (h : Rd w w.heap.size 35 A n (l.map Rc.R.cells).flatten) : Rc.Rcs w w.heap.size A n l := ⟨hl, hd, h⟩
end Go.Proofs.YtnbbleajbbgmjaaDoor
