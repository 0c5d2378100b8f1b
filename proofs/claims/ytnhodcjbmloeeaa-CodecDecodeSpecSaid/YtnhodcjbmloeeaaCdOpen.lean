/- How an argument that is a value, or a slice of values, is opened. No condition. -/
import Derived.Test.YtnhodcjbmloeeaaOpenB
import Derived.Test.YtnhodcjbmloeeaaCdT2
namespace Go.Proofs.Ytnhodcjbmloeeaa
open Go.ChangeShapes Go.WideShapes Go.ChangeAt Go.RowKit Go.Deep
set_option linter.unusedVariables false

section
variable {H : Type} {enc : TypeId × Value → H} {P : Program} {w : World} {base : Nat} {spare : Nat → Bool} {held : Bool}

/-- the slice's cell: each element's cells, with its reading -/
theorem Cd.open_row {t tl : TypeId} {fuel : Nat} {x : Value} {y : DataW H × List MemPlace} (htl : P.underlying tl = some (.slice t)) (hC : P.cellsOf t = 4)
    (IH : ∀ m, m < fuel → ∀ (xs : List Value) (y : DataW H × List MemPlace), xs.length = 4 → DataW.trod enc P w base spare held m t xs = some y → ∃ v, Cd.CellB w w.heap.size v xs) (h : DataW.trod enc P w base spare held fuel tl [x] = some y) :
    ∃ (A : Option Addr) (c : Nat) (l : List Cd.T) (xss : List (List Value)), x = .slice A l.length c ∧ (A = none → c = 0) ∧ l.length ≤ c ∧ c ≤ maxLen ∧ xss.length = l.length ∧ (∀ i, i < l.length → Cd.CellB w w.heap.size l[i]! xss[i]!) ∧ Rd w w.heap.size 4 A l.length xss.flatten := by
  rcases DataW.trod_slice htl h with ⟨hcs, _⟩ | ⟨a, len, cap, elems, rest, n, hn, hcs, _, hb, hl, hm, hlen, hel, _, _⟩
  · simp only [List.cons.injEq, and_true] at hcs
    exact ⟨none, 0, [], [], hcs, fun _ => rfl, Nat.le_refl _, by simp [maxLen], rfl, fun i hi => absurd hi (by simp), Rd.none_⟩
  · simp only [List.cons.injEq, and_true] at hcs
    subst hcs
    rw [hC] at hel
    have hx : ∀ i, i < len → ∃ cv : List Value × Cd.T, w.cells? base (a.add (i * 4)) 4 = some cv.1 ∧ cv.1.length = 4 ∧ Cd.CellB w w.heap.size cv.2 cv.1 := fun i hi => by
      have h1 := hel i hi
      rw [List.getElem?_eq_getElem (by omega)] at h1
      obtain ⟨cs', h2, h3⟩ := Option.bind_eq_some_iff.1 h1
      have h4 := (World.cells?_some h2).2.1
      obtain ⟨v, hv⟩ := IH n (by omega) cs' _ h4 h3
      exact ⟨(cs', v), h2, h4, hv⟩
    let f : Nat → List Value × Cd.T := fun i => if hi : i < len then Classical.choose (hx i hi) else ([], default)
    have hf : ∀ i, i < len → w.cells? base (a.add (i * 4)) 4 = some (f i).1 ∧ (f i).1.length = 4 ∧ Cd.CellB w w.heap.size (f i).2 (f i).1 := fun i hi => by
      have := Classical.choose_spec (hx i hi)
      simpa [f, hi] using this
    clear_value f
    have hlen4 : ∀ xs ∈ (List.range len).map (fun i => (f i).1), xs.length = 4 := fun xs hxs => by
      obtain ⟨i, hi, rfl⟩ := List.mem_map.1 hxs
      exact (hf i (List.mem_range.1 hi)).2.1
    have hll : ((List.range len).map (fun i => (f i).2)).length = len := by simp
    refine ⟨some a, cap, (List.range len).map (fun i => (f i).2), (List.range len).map (fun i => (f i).1), by rw [hll], (fun e => by cases e), by rw [hll]; exact hl, hm, by simp, fun i hi => ?_, ?_⟩
    · rw [hll] at hi
      rw [getElem!_pos _ i (by simpa using hi), getElem!_pos _ i (by simpa using hi)]
      simp only [List.getElem_map, List.getElem_range]
      exact (hf i hi).2.2
    · rw [hll]
      refine ⟨by rw [flatten_len 4 _ hlen4]; simp, fun h0 => ?_⟩
      obtain ⟨b, off, spot⟩ := a
      obtain ⟨_, hfl, hc⟩ := World.cells?_some (hf 0 h0).1
      have hc0 : w.cell? ⟨b, off, spot⟩ = some ((f 0).1[0]'(by omega)) := by
        have := hc 0 (by omega)
        rw [List.getElem?_eq_getElem (by omega)] at this
        simpa [Addr.add] using this
      have hspot : spot = none := World.cell?_spot hc0
      subst hspot
      refine ⟨b, off, rfl, World.block_lt_of_cell? _ _ hc0, fun j u hu => ?_⟩
      have hq : j / 4 * 4 + j % 4 = j := by omega
      have hr : j % 4 < 4 := by omega
      rw [← hq, flatten_at 4 _ hlen4 _ _ hr] at hu
      have hi : j / 4 < len := by
        rcases Nat.lt_or_ge (j / 4) len with h1 | h1
        · exact h1
        · rw [List.getElem?_eq_none (by simpa using h1)] at hu; cases hu
      rw [List.getElem?_map, List.getElem?_range hi] at hu
      have h2 := (World.cells?_some (hf _ hi).1).2.2 (j % 4) hr
      rw [addr_add_add, hq] at h2
      rw [h2]
      exact hu

theorem Cd.open_cells {t te ts tl : TypeId} {f0 f1 f2 f3 : Field} (hs : P.underlying t = some (.struct #[f0, f1, f2, f3])) (hone : oneCellFields P #[f0, f1, f2, f3] = true) (hC : P.cellsOf t = 4)
    (e0 : f0.type = te) (e1 : f1.type = te) (e2 : f2.type = ts) (e3 : f3.type = tl) (he : P.underlying te = some (.int .i64)) (hst : P.underlying ts = some .string) (htl : P.underlying tl = some (.slice t)) :
    ∀ (fuel : Nat) (xs : List Value) (y : DataW H × List MemPlace), xs.length = 4 → DataW.trod enc P w base spare held fuel t xs = some y → ∃ v, Cd.CellB w w.heap.size v xs := by
  intro fuel
  induction fuel using Nat.strongRecOn with
  | _ fuel IH =>
  intro xs y hl h
  obtain ⟨x0, x1, x2, x3, rfl⟩ : ∃ x0 x1 x2 x3, xs = [x0, x1, x2, x3] := by
    match xs, hl with
    | [x0, x1, x2, x3], _ => exact ⟨x0, x1, x2, x3, rfl⟩
  obtain ⟨ys, n, hn, _, _, hyl, hg⟩ := DataW.trod_struct hs h
  have hys : ∀ i, i < 4 → ∃ z, ys[i]? = some z := fun i hi => ⟨_, List.getElem?_eq_getElem (by rw [hyl]; exact hi)⟩
  obtain ⟨o0, k0⟩ := hone_of hone 0 f0 rfl
  obtain ⟨o1, k1⟩ := hone_of hone 1 f1 rfl
  obtain ⟨o2, k2⟩ := hone_of hone 2 f2 rfl
  obtain ⟨o3, k3⟩ := hone_of hone 3 f3 rfl
  obtain ⟨z0, hz0⟩ := hys 0 (by omega)
  obtain ⟨z1, hz1⟩ := hys 1 (by omega)
  obtain ⟨z2, hz2⟩ := hys 2 (by omega)
  obtain ⟨z3, hz3⟩ := hys 3 (by omega)
  have h0 := hg 0 f0 rfl
  have h1 := hg 1 f1 rfl
  have h2 := hg 2 f2 rfl
  have h3 := hg 3 f3 rfl
  rw [hz0, o0, k0] at h0
  rw [hz1, o1, k1] at h1
  rw [hz2, o2, k2] at h2
  rw [hz3, o3, k3] at h3
  rw [e0] at h0
  rw [e1] at h1
  rw [e2] at h2
  rw [e3] at h3
  obtain ⟨a, ea, _, wa⟩ := DataW.trod_int he (show DataW.trod enc P w base spare held n te [x0] = some z0 from h0)
  obtain ⟨b, eb, _, wb⟩ := DataW.trod_int he (show DataW.trod enc P w base spare held n te [x1] = some z1 from h1)
  obtain ⟨s, es, _, ws⟩ := DataW.trod_string hst (show DataW.trod enc P w base spare held n ts [x2] = some z2 from h2)
  obtain ⟨A, c, l, xss, el, hnil, hlc, hcm, hxl, hx, hr⟩ := Cd.open_row htl hC (fun m hm => IH m (by omega)) (show DataW.trod enc P w base spare held n tl [x3] = some z3 from h3)
  simp only [List.cons.injEq, and_true] at ea eb es
  obtain ⟨⟨ls⟩⟩ := s
  refine ⟨.mk a b ls l, ?_⟩
  rw [ea, eb, es, el]
  exact .mk a b ls l A c xss hxl hx hr hnil (Nat.le_trans hlc hcm) ws (bounds_i64 wa) (bounds_i64 wb)
end

theorem Cd.open_value {H : Type} {enc : TypeId × Value → H} {w : World} {base : Nat} {spare : Nat → Bool} {held : Bool} {r : Reach} {b0 : Nat} {v : Value} {d : DataW H} {p : List MemPlace}
    (hv : Value.okWide Try.prog w r b0 24 v) (h : DataW.Trod enc Try.prog w base spare held 24 v d p) :
    ∃ (t : Cd.T) (cs : List Value), v = .agg cs.toArray ∧ Cd.CellB w w.heap.size t cs := by
  obtain ⟨cs, rfl, hsz⟩ := okWide_struct Try.underlying24 hv
  obtain ⟨fuel, hf⟩ := h
  have hC : Try.prog.cellsOf 24 = 4 := by kernel_rfl
  have hl : (Value.cells (.agg cs)).toList.length = 4 := by
    show cs.toList.length = 4
    rw [Array.length_toList, hsz, hC]
  obtain ⟨t, ht⟩ := Cd.open_cells Try.underlying24 (by kernel_rfl) hC rfl rfl rfl rfl Try.underlying3 Try.underlying9 Try.underlying22 fuel _ _ hl hf
  exact ⟨t, cs.toList, by simp, ht⟩

/-- the slice reads as the values -/
structure Cd.Vals (w : World) (A : Option Addr) (c : Nat) (l : List Cd.T) (xss : List (List Value)) : Prop where
  nil : A = none → c = 0
  le : l.length ≤ c
  mx : c ≤ maxLen
  xlen : xss.length = l.length
  cells : ∀ i, i < l.length → Cd.CellB w w.heap.size l[i]! xss[i]!
  rd : Rd w w.heap.size 4 A l.length xss.flatten
theorem Cd.open_values {H : Type} {enc : TypeId × Value → H} {w : World} {base : Nat} {spare : Nat → Bool} {held : Bool} {r : Reach} {b0 : Nat} {v : Value} {d : DataW H} {p : List MemPlace}
    (hv : Value.okWide Try.prog w r b0 22 v) (h : DataW.Trod enc Try.prog w base spare held 22 v d p) :
    ∃ (A : Option Addr) (c : Nat) (l : List Cd.T) (xss : List (List Value)), v = .slice A l.length c ∧ Cd.Vals w A c l xss := by
  obtain ⟨a0, len, cap, rfl⟩ := okWide_slice Try.underlying22 hv
  obtain ⟨fuel, hf⟩ := h
  have hC : Try.prog.cellsOf 24 = 4 := by kernel_rfl
  obtain ⟨A, c, l, xss, e, hn, h1, h2, h3, h4, h5⟩ := Cd.open_row Try.underlying22 hC (fun m _ => Cd.open_cells Try.underlying24 (by kernel_rfl) hC rfl rfl rfl rfl Try.underlying3 Try.underlying9 Try.underlying22 m) (show DataW.trod enc Try.prog w base spare held fuel 22 [.slice a0 len cap] = some _ from hf)
  exact ⟨A, c, l, xss, e, hn, h1, h2, h3, h4, h5⟩
end Go.Proofs.Ytnhodcjbmloeeaa
