import Derived.OpenShut
import Derived.Test.YtnbbleajbbgmjaaDoorMFrame
import Derived.Test.YtnbbleajbbgmjaaDoorMRcW4
/- How the arguments of chapter 51 are opened: clocks, submissions, receipts. No condition. -/
namespace Go.Proofs.YtnbbleajbbgmjaaDoor
open Go.ChangeShapes Go.WideShapes Go.ChangeAt Go.RowKit Go.Deep
set_option linter.unusedVariables false

theorem list_as {α β : Type} (f : α → β) (p : α → Prop) : ∀ (xs : List β), (∀ x ∈ xs, ∃ a, x = f a ∧ p a) → ∃ l : List α, xs = l.map f ∧ ∀ a ∈ l, p a
  | [], _ => ⟨[], rfl, fun _ h => by cases h⟩
  | x :: xs, h => by
    obtain ⟨a, rfl, ha⟩ := h x (List.mem_cons_self ..)
    obtain ⟨l, rfl, hl⟩ := list_as f p xs (fun y hy => h y (List.mem_cons_of_mem _ hy))
    refine ⟨a :: l, rfl, fun b hb => ?_⟩
    rcases List.mem_cons.1 hb with rfl | hb
    · exact ha
    · exact hl b hb
theorem list_by {α β : Type} (R : α → β → Prop) : ∀ (xs : List β), (∀ x ∈ xs, ∃ a, R a x) → ∃ l : List α, l.length = xs.length ∧ ∀ (i : Nat) (a : α), l[i]? = some a → ∃ x, xs[i]? = some x ∧ R a x
  | [], _ => ⟨[], rfl, fun i a h => by simp at h⟩
  | x :: xs, h => by
    obtain ⟨a, ha⟩ := h x (List.mem_cons_self ..)
    obtain ⟨l, hl, hr⟩ := list_by R xs (fun y hy => h y (List.mem_cons_of_mem _ hy))
    refine ⟨a :: l, by simp [hl], fun i b hb => ?_⟩
    cases i with
    | zero => exact ⟨x, rfl, by simp only [List.getElem?_cons_zero, Option.some.injEq] at hb; subst hb; exact ha⟩
    | succ i => exact hr i b hb

section
variable {H : Type} {enc : TypeId × Value → H} {P : Program} {w : World} {base : Nat} {spare : Nat → Bool} {held : Bool}

/-- a cell that reads as a slice of integers -/
theorem open_ints_cell {t e : TypeId} {k : IntKind} {fuel : Nat} {v : Value} {y : DataW H × List MemPlace} (ht : P.underlying t = some (.slice e)) (he : P.underlying e = some (.int k)) (hC : P.cellsOf e = 1)
    (h : DataW.trod enc P w base spare held fuel t [v] = some y) :
    ∃ (A : Option Addr) (c : Nat) (zs : List Int), v = .slice A zs.length c ∧ zs.length ≤ c ∧ c ≤ maxLen ∧ Rd w w.heap.size 1 A zs.length (zs.map (Value.int k)) := by
  rcases open_ints ht he hC h with ⟨hcs, _⟩ | ⟨x, l, c, zs, hcs, _, hl, hm, hz, _, hcell, hwz⟩
  · simp only [List.cons.injEq, and_true] at hcs
    subst hcs
    exact ⟨none, 0, [], rfl, Nat.le_refl _, by simp [maxLen], Rd.none_⟩
  · simp only [List.cons.injEq, and_true] at hcs
    subst hcs
    have hz' : l ≤ zs.length := by
      rw [hz]; split <;> omega
    have hlt : (zs.take l).length = l := by rw [List.length_take]; omega
    refine ⟨some x, c, zs.take l, by rw [hlt], by omega, hm, ?_⟩
    rw [hlt]
    refine ⟨by simp; omega, fun hn => ?_⟩
    obtain ⟨b, off, spot⟩ := x
    have hc0 := hcell 0 (by omega)
    have hspot : spot = none := by simpa [Addr.add] using World.cell?_spot hc0
    subst hspot
    refine ⟨b, off, rfl, ?_, fun j u hu => ?_⟩
    · have := World.block_lt_of_cell? _ _ hc0
      simpa [Addr.add] using this
    · simp only [List.getElem?_map, Option.map_eq_some_iff] at hu
      obtain ⟨z, hz3, rfl⟩ := hu
      have hj : j < l := by
        have := (List.getElem?_eq_some_iff.1 hz3).1
        rw [List.length_take] at this; omega
      have hjz : j < zs.length := by omega
      have h1 := hcell j hjz
      rw [List.getElem?_take_of_lt hj, List.getElem?_eq_getElem hjz] at hz3
      injection hz3 with hz3
      subst hz3
      rw [List.getD_eq_getElem?_getD, List.getElem?_eq_getElem hjz] at h1
      by_cases h0 : j = 0
      · subst h0; simpa [Addr.add] using h1
      · simpa [Addr.add, h0] using h1

/-- the cells of an array of bytes -/
theorem open_row8 {t e : TypeId} {n m : Nat} {cs : List Value} {y : DataW H × List MemPlace} (ht : P.underlying t = some (.array n e)) (he : P.underlying e = some (.int .u8)) (hC : P.cellsOf e = 1) (hl : cs.length = n)
    (h : DataW.trod enc P w base spare held m t cs = some y) : ∃ bs : List UInt8, cs = bs.map Dg.b8 := by
  obtain ⟨xs, k, _, _, _, hxl, hel⟩ := DataW.trod_array ht h
  obtain ⟨bs, e, _⟩ := list_as Dg.b8 (fun _ => True) cs (fun v hv => by
    obtain ⟨i, hi, rfl⟩ := List.mem_iff_getElem.1 hv
    have h1 := hel i (by omega)
    rw [hC, Nat.mul_one, take1_drop cs i undef hi, List.getElem?_eq_getElem (by omega)] at h1
    obtain ⟨z, e1, _, wz⟩ := DataW.trod_int he h1
    simp only [List.cons.injEq, and_true] at e1
    have hb := bounds_u8 wz
    refine ⟨UInt8.ofNat z.toNat, ?_, trivial⟩
    rw [List.getD_eq_getElem?_getD, List.getElem?_eq_getElem hi] at e1
    rw [show cs[i] = .int .u8 z from e1]
    unfold Dg.b8
    have h2 : z.toNat < 256 := by omega
    simp [Nat.mod_eq_of_lt h2]
    omega)
  exact ⟨bs, e⟩

/-- the cells of a receipt -/
theorem open_receipt {t te td e8 : TypeId} {f0 f1 f2 f3 : Field} {m : Nat} {xs : List Value} {y : DataW H × List MemPlace} (hs : P.underlying t = some (.struct #[f0, f1, f2, f3])) (hl : xs.length = 35)
    (e0 : f0.type = te) (e1 : f1.type = te) (e2 : f2.type = te) (e3 : f3.type = td) (o0 : f0.offset = 0) (o1 : f1.offset = 1) (o2 : f2.offset = 2) (o3 : f3.offset = 3)
    (he : P.underlying te = some (.int .i64)) (hce : P.cellsOf te = 1) (hd : P.underlying td = some (.array 32 e8)) (hcd : P.cellsOf td = 32) (he8 : P.underlying e8 = some (.int .u8)) (hc8 : P.cellsOf e8 = 1)
    (h : DataW.trod enc P w base spare held m t xs = some y) : ∃ x : Rc.R, xs = x.cells ∧ x.dg.length = 32 := by
  obtain ⟨ys, n, _, _, _, hyl, hg⟩ := DataW.trod_struct hs h
  obtain ⟨x0, x1, x2, ds, rfl⟩ : ∃ x0 x1 x2 ds, xs = x0 :: x1 :: x2 :: ds := by
    match xs, hl with
    | x0 :: x1 :: x2 :: ds, _ => exact ⟨x0, x1, x2, ds, rfl⟩
  have hdl : ds.length = 32 := by simpa using hl
  have hys : ∀ i, i < 4 → ∃ z, ys[i]? = some z := fun i hi => ⟨_, List.getElem?_eq_getElem (by rw [hyl]; exact hi)⟩
  obtain ⟨z0, hz0⟩ := hys 0 (by omega)
  obtain ⟨z1, hz1⟩ := hys 1 (by omega)
  obtain ⟨z2, hz2⟩ := hys 2 (by omega)
  obtain ⟨z3, hz3⟩ := hys 3 (by omega)
  have h0 := hg 0 f0 rfl
  have h1 := hg 1 f1 rfl
  have h2 := hg 2 f2 rfl
  have h3 := hg 3 f3 rfl
  rw [hz0, o0, e0, hce] at h0
  rw [hz1, o1, e1, hce] at h1
  rw [hz2, o2, e2, hce] at h2
  rw [hz3, o3, e3, hcd] at h3
  obtain ⟨a, ea, _, _⟩ := DataW.trod_int he (show DataW.trod enc P w base spare held n te [x0] = some z0 from h0)
  obtain ⟨b, eb, _, _⟩ := DataW.trod_int he (show DataW.trod enc P w base spare held n te [x1] = some z1 from h1)
  obtain ⟨c, ec, _, _⟩ := DataW.trod_int he (show DataW.trod enc P w base spare held n te [x2] = some z2 from h2)
  have h3' : DataW.trod enc P w base spare held n td ds = some z3 := by
    have ht : (List.drop 3 (x0 :: x1 :: x2 :: ds)).take 32 = ds := List.take_of_length_le (show ds.length ≤ 32 by omega)
    rw [ht] at h3
    exact h3
  obtain ⟨bs, hbs⟩ := open_row8 hd he8 hc8 hdl h3'
  simp only [List.cons.injEq, and_true] at ea eb ec
  exact ⟨⟨a, b, c, bs⟩, by rw [ea, eb, ec, hbs]; rfl, by rw [hbs] at hdl; simpa using hdl⟩

/-- the cells of a submission -/
theorem open_sub {t te ts : TypeId} {f0 f1 f2 f3 : Field} {m : Nat} {xs : List Value} {y : DataW H × List MemPlace} (hs : P.underlying t = some (.struct #[f0, f1, f2, f3])) (hone : oneCellFields P #[f0, f1, f2, f3] = true) (hl : xs.length = 4)
    (e0 : f0.type = te) (e1 : f1.type = te) (e2 : f2.type = te) (e3 : f3.type = ts) (he : P.underlying te = some (.int .i64)) (hce : P.cellsOf te = 1) (hsl : P.underlying ts = some (.slice te))
    (h : DataW.trod enc P w base spare held m t xs = some y) : ∃ s : Rc.Sb, Rc.SbC w w.heap.size s xs := by
  obtain ⟨x0, x1, x2, x3, rfl⟩ : ∃ x0 x1 x2 x3, xs = [x0, x1, x2, x3] := by
    match xs, hl with
    | [x0, x1, x2, x3], _ => exact ⟨x0, x1, x2, x3, rfl⟩
  obtain ⟨ys, n, _, _, _, hyl, hg⟩ := DataW.trod_struct hs h
  have hys : ∀ i, i < 4 → ∃ z, ys[i]? = some z := fun i hi => ⟨_, List.getElem?_eq_getElem (by rw [hyl]; exact hi)⟩
  obtain ⟨o0, k0⟩ := hone_of hone 0 f0 rfl
  obtain ⟨o1, k1⟩ := hone_of hone 1 f1 rfl
  obtain ⟨o2, k2⟩ := hone_of hone 2 f2 rfl
  obtain ⟨o3, k3⟩ := hone_of hone 3 f3 rfl
  obtain ⟨z0, hz0⟩ := hys 0 (by omega)
  obtain ⟨z1, hz1⟩ := hys 1 (by omega)
  obtain ⟨z2, hz2⟩ := hys 2 (by omega)
  obtain ⟨z3, hz3⟩ := hys 3 (by omega)
  have h0 := hg 0 f0 rfl
  have h1 := hg 1 f1 rfl
  have h2 := hg 2 f2 rfl
  have h3 := hg 3 f3 rfl
  rw [hz0, o0, k0, e0] at h0
  rw [hz1, o1, k1, e1] at h1
  rw [hz2, o2, k2, e2] at h2
  rw [hz3, o3, k3, e3] at h3
  obtain ⟨a, ea, _, _⟩ := DataW.trod_int he (show DataW.trod enc P w base spare held n te [x0] = some z0 from h0)
  obtain ⟨b, eb, _, _⟩ := DataW.trod_int he (show DataW.trod enc P w base spare held n te [x1] = some z1 from h1)
  obtain ⟨c, ec, _, _⟩ := DataW.trod_int he (show DataW.trod enc P w base spare held n te [x2] = some z2 from h2)
  obtain ⟨A, cp, zs, rfl, hzc, hcm, hrd⟩ := open_ints_cell hsl he hce (show DataW.trod enc P w base spare held n ts [x3] = some z3 from h3)
  simp only [List.cons.injEq, and_true] at ea eb ec
  exact ⟨⟨a, b, c, zs⟩, A, cp, by rw [ea, eb, ec], hrd, Nat.le_trans hzc hcm⟩
end

section
variable {H : Type} {enc : TypeId × Value → H} {w : World} {base : Nat} {spare : Nat → Bool} {held : Bool} {r : Reach} {b0 : Nat} {v : Value} {d : DataW H} {p : List MemPlace}
set_option maxRecDepth 100000 in
theorem open_clocks (hv : Value.okWide Tryd.prog w r b0 22 v) (h : DataW.Trod enc Tryd.prog w base spare held 22 v d p) :
    ∃ (A : Option Addr) (n c : Nat) (l : List Rc.C), v = .slice A n c ∧ n ≤ c ∧ c ≤ maxLen ∧ Rc.Clks w w.heap.size A n l := by
  obtain ⟨A, n, c, xss, rfl, hnc, hcm, hlen, hrd, hel⟩ := open_rd_slice Tryd.underlying22 (show Tryd.prog.cellsOf 51 = 3 by kernel_rfl) (by decide) hv h
  obtain ⟨l, rfl, _⟩ := list_as Rc.C.cells (fun _ => True) xss (fun xs hx => by
    obtain ⟨hl, m, y, hy⟩ := hel xs hx
    obtain ⟨a, b, c, h, _⟩ := open_int3 Tryd.underlying51 (by kernel_rfl) hl rfl rfl rfl Tryd.underlying3 hy
    exact ⟨⟨a, b, c⟩, h, trivial⟩)
  exact ⟨A, n, c, l, rfl, hnc, hcm, by rw [List.length_map] at hlen; exact hlen, hrd⟩
set_option maxRecDepth 100000 in
theorem open_receipts (hv : Value.okWide Tryd.prog w r b0 24 v) (h : DataW.Trod enc Tryd.prog w base spare held 24 v d p) :
    ∃ (A : Option Addr) (n c : Nat) (l : List Rc.R), v = .slice A n c ∧ n ≤ c ∧ c ≤ maxLen ∧ Rc.Rcs w w.heap.size A n l := by
  obtain ⟨A, n, c, xss, rfl, hnc, hcm, hlen, hrd, hel⟩ := open_rd_slice Tryd.underlying24 (show Tryd.prog.cellsOf 47 = 35 by kernel_rfl) (by decide) hv h
  obtain ⟨l, rfl, hdg⟩ := list_as Rc.R.cells (fun x => x.dg.length = 32) xss (fun xs hx => by
    obtain ⟨hl, m, y, hy⟩ := hel xs hx
    exact open_receipt Tryd.underlying47 hl rfl rfl rfl rfl rfl rfl rfl rfl Tryd.underlying3 (by kernel_rfl) Tryd.underlying31 (by kernel_rfl) Tryd.underlying5 (by kernel_rfl) hy)
  exact ⟨A, n, c, l, rfl, hnc, hcm, by rw [List.length_map] at hlen; exact hlen, hdg, hrd⟩
set_option maxRecDepth 100000 in
theorem open_subs (hv : Value.okWide Tryd.prog w r b0 23 v) (h : DataW.Trod enc Tryd.prog w base spare held 23 v d p) :
    ∃ (A : Option Addr) (n c : Nat) (l : List Rc.Sb), v = .slice A n c ∧ n ≤ c ∧ c ≤ maxLen ∧ Rc.Subs w w.heap.size A n l := by
  obtain ⟨A, n, c, xss, rfl, hnc, hcm, hlen, hrd, hel⟩ := open_rd_slice Tryd.underlying23 (show Tryd.prog.cellsOf 27 = 4 by kernel_rfl) (by decide) hv h
  obtain ⟨l, hll, hls⟩ := list_by (Rc.SbC w w.heap.size) xss (fun xs hx => by
    obtain ⟨hl, m, y, hy⟩ := hel xs hx
    exact open_sub Tryd.underlying27 (by kernel_rfl) hl rfl rfl rfl rfl Tryd.underlying3 (by kernel_rfl) Tryd.underlying25 hy)
  exact ⟨A, n, c, l, rfl, hnc, hcm, by rw [hll]; exact hlen, xss, hlen, hls, hrd, fun xs hx => (hel xs hx).1⟩
set_option maxRecDepth 100000 in
/-- a submission by value -/
theorem open_one (hv : Value.okWide Tryd.prog w r b0 27 v) (h : DataW.Trod enc Tryd.prog w base spare held 27 v d p) :
    ∃ (s : Rc.Sb) (A : Option Addr) (c : Nat), v = .agg #[Rc.i s.no, Rc.i s.comp, Rc.i s.puz, .slice A s.grid.length c] ∧ Rd w w.heap.size 1 A s.grid.length (s.grid.map Rc.i) ∧ s.grid.length ≤ maxLen := by
  obtain ⟨cs, rfl, hsz⟩ := okWide_struct Tryd.underlying27 hv
  obtain ⟨fuel, hf⟩ := h
  have h4 : cs.size = 4 := hsz.trans (by kernel_rfl)
  obtain ⟨s, A, c, e, hrd, hm⟩ := open_sub Tryd.underlying27 (by kernel_rfl) (show cs.toList.length = 4 by rw [Array.length_toList]; exact h4) rfl rfl rfl rfl Tryd.underlying3 (by kernel_rfl) Tryd.underlying25 hf
  exact ⟨s, A, c, by rw [← Array.toArray_toList (xs := cs), e], hrd, hm⟩
end
end Go.Proofs.YtnbbleajbbgmjaaDoor
