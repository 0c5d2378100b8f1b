import Derived.OpenShut
import Derived.Test.YtideglpjgplpnaaDoorMFrame
import Derived.Test.YtideglpjgplpnaaDoorMDgC
import Derived.Lib.LaidTab
import Derived.LaidMore
import Derived.LaidSub
import Derived.Stop.LaidErr
import Derived.Test.YtideglpjgplpnaaDoorMDgW5
import Derived.Test.YtideglpjgplpnaaDoorMSlW5
/- How the arguments of chapter 50 are opened: a sealed body, shares. No condition. -/
namespace Go.Proofs.YtideglpjgplpnaaDoor
open Go.ChangeShapes Go.WideShapes Go.ChangeAt Go.RowKit Go.Deep
set_option linter.unusedVariables false

theorem Sl.list_as {α β : Type} (f : α → β) (p : α → Prop) : ∀ (xs : List β), (∀ x ∈ xs, ∃ a, x = f a ∧ p a) → ∃ l : List α, xs = l.map f ∧ ∀ a ∈ l, p a
  | [], _ => ⟨[], rfl, fun _ h => by cases h⟩
  | x :: xs, h => by
    obtain ⟨a, rfl, ha⟩ := h x (List.mem_cons_self ..)
    obtain ⟨l, rfl, hl⟩ := Sl.list_as f p xs (fun y hy => h y (List.mem_cons_of_mem _ hy))
    refine ⟨a :: l, rfl, fun b hb => ?_⟩
    rcases List.mem_cons.1 hb with rfl | hb
    · exact ha
    · exact hl b hb
section
variable {H : Type} {enc : TypeId × Value → H} {P : Program} {w : World} {base : Nat} {spare : Nat → Bool} {held : Bool}
/-- the cells of an array of bytes -/
theorem Sl.open_row8 {t e : TypeId} {n m : Nat} {cs : List Value} {y : DataW H × List MemPlace} (ht : P.underlying t = some (.array n e)) (he : P.underlying e = some (.int .u8)) (hC : P.cellsOf e = 1) (hl : cs.length = n)
    (h : DataW.trod enc P w base spare held m t cs = some y) : ∃ bs : List UInt8, cs = bs.map Dg.b8 := by
  obtain ⟨xs, k, _, _, _, hxl, hel⟩ := DataW.trod_array ht h
  obtain ⟨bs, e, _⟩ := Sl.list_as Dg.b8 (fun _ => True) cs (fun v hv => by
    obtain ⟨i, hi, rfl⟩ := List.mem_iff_getElem.1 hv
    have h1 := hel i (by omega)
    rw [hC, Nat.mul_one, take1_drop cs i undef hi, List.getElem?_eq_getElem (by omega)] at h1
    obtain ⟨z, e1, _, wz⟩ := DataW.trod_int he h1
    simp only [List.cons.injEq, and_true] at e1
    have hb := bounds_u8 wz
    refine ⟨UInt8.ofNat z.toNat, ?_, trivial⟩
    rw [List.getD_eq_getElem?_getD, List.getElem?_eq_getElem hi] at e1
    rw [show cs[i] = .int .u8 z from e1]
    unfold Dg.b8
    have h2 : z.toNat < 256 := by omega
    simp [Nat.mod_eq_of_lt h2]
    omega)
  exact ⟨bs, e⟩
/-- a cell that reads as a slice of whatever elements -/
theorem Sl.open_cells {t e : TypeId} {S : Nat} {v : Value} {fuel : Nat} {y : DataW H × List MemPlace} (ht : P.underlying t = some (.slice e)) (hC : P.cellsOf e = S) (hS : 0 < S)
    (hf : DataW.trod enc P w base spare held fuel t [v] = some y) :
    ∃ (A : Option Addr) (n c : Nat) (xss : List (List Value)), v = .slice A n c ∧ n ≤ c ∧ c ≤ maxLen ∧ xss.length = n ∧ (A = none → c = 0) ∧ Rd w w.heap.size S A n xss.flatten ∧
      ∀ xs ∈ xss, xs.length = S ∧ ∃ m y, DataW.trod enc P w base spare held m e xs = some y := by
  rcases open_slice ht hf with ⟨hcs, _⟩ | ⟨x, len, cap, m, n, D, Pl, hcs, _, hl, hm, hmm, _, hel⟩
  · simp only [List.cons.injEq, and_true] at hcs
    subst hcs
    exact ⟨none, 0, 0, [], rfl, Nat.le_refl _, by simp [maxLen], rfl, fun _ => rfl, Rd.none_, fun _ hz => by cases hz⟩
  · simp only [List.cons.injEq, and_true] at hcs
    subst hcs
    rw [hC] at hel
    have hlm : len ≤ m := by rw [hmm]; split <;> omega
    have hx : ∀ i, i < len → ∃ cs', w.cells? base (x.add (i * S)) S = some cs' ∧ ∃ y, DataW.trod enc P w base spare held n e cs' = some y := fun i hi => by
      obtain ⟨cs', h1, h2⟩ := hel i (by omega)
      exact ⟨cs', h1, _, h2⟩
    let f : Nat → List Value := fun i => if hi : i < len then Classical.choose (hx i hi) else []
    have hf1 : ∀ i, i < len → w.cells? base (x.add (i * S)) S = some (f i) ∧ ∃ y, DataW.trod enc P w base spare held n e (f i) = some y := fun i hi => by
      have := Classical.choose_spec (hx i hi)
      simpa [f, hi] using this
    clear_value f
    have hlen : ∀ xs ∈ (List.range len).map f, xs.length = S := fun xs hxs => by
      obtain ⟨i, hi, rfl⟩ := List.mem_map.1 hxs
      exact (World.cells?_some (hf1 i (List.mem_range.1 hi)).1).2.1
    refine ⟨some x, len, cap, (List.range len).map f, rfl, hl, hm, by simp, (fun e => by cases e), ⟨?_, fun hn => ?_⟩, fun xs hxs => ?_⟩
    · rw [flatten_len S _ hlen]; simp
    · obtain ⟨b, off, spot⟩ := x
      obtain ⟨_, hfl, hc⟩ := World.cells?_some (hf1 0 hn).1
      have hc0 : w.cell? ⟨b, off, spot⟩ = some ((f 0)[0]'(by omega)) := by
        have := hc 0 hS
        rw [List.getElem?_eq_getElem (by omega)] at this
        simpa [Addr.add] using this
      have hspot : spot = none := World.cell?_spot hc0
      subst hspot
      refine ⟨b, off, rfl, World.block_lt_of_cell? _ _ hc0, fun j u hu => ?_⟩
      have hq : j / S * S + j % S = j := by rw [Nat.mul_comm]; exact Nat.div_add_mod j S
      have hr : j % S < S := Nat.mod_lt _ hS
      rw [← hq, flatten_at S _ hlen _ _ hr] at hu
      have hi : j / S < len := by
        rcases Nat.lt_or_ge (j / S) len with h1 | h1
        · exact h1
        · rw [List.getElem?_eq_none (by simpa using h1)] at hu; cases hu
      rw [List.getElem?_map, List.getElem?_range hi] at hu
      have h2 := (World.cells?_some (hf1 _ hi).1).2.2 (j % S) hr
      rw [addr_add_add, hq] at h2
      rw [h2]
      exact hu
    · obtain ⟨i, hi, rfl⟩ := List.mem_map.1 hxs
      have hi' := List.mem_range.1 hi
      exact ⟨hlen _ hxs, n, (hf1 i hi').2⟩
/-- the cells of a sealed body -/
theorem Sl.open_cs {t td tb ti tm e8 : TypeId} {f0 f1 f2 f3 f4 : Field} {m : Nat} {xs : List Value} {y : DataW H × List MemPlace} (hs : P.underlying t = some (.struct #[f0, f1, f2, f3, f4])) (hl : xs.length = 36)
    (e0 : f0.type = td) (e1 : f1.type = tb) (e2 : f2.type = ti) (e3 : f3.type = ti) (e4 : f4.type = tm) (o0 : f0.offset = 0) (o1 : f1.offset = 32) (o2 : f2.offset = 33) (o3 : f3.offset = 34) (o4 : f4.offset = 35)
    (hd : P.underlying td = some (.array 32 e8)) (hcd : P.cellsOf td = 32) (hb : P.underlying tb = some (.slice e8)) (hcb : P.cellsOf tb = 1) (hi : P.underlying ti = some (.int .i64)) (hci : P.cellsOf ti = 1) (hm : P.underlying tm = some (.slice td)) (hcm : P.cellsOf tm = 1)
    (he8 : P.underlying e8 = some (.int .u8)) (hc8 : P.cellsOf e8 = 1) (h : DataW.trod enc P w base spare held m t xs = some y) :
    ∃ (s : Sl.W) (Ad : Option Addr) (cd : Nat) (Am : Option Addr) (cA : Nat), xs = Sl.row s Ad cd Am cA ∧ Sl.Ok s w Ad cd Am cA ∧ (-9223372036854775808 ≤ s.th ∧ s.th ≤ 9223372036854775807) ∧ (-9223372036854775808 ≤ s.mn ∧ s.mn ≤ 9223372036854775807) := by
  obtain ⟨ys, n, _, _, _, hyl, hg⟩ := DataW.trod_struct hs h
  have hys : ∀ i, i < 5 → ∃ z, ys[i]? = some z := fun i hi => ⟨_, List.getElem?_eq_getElem (by rw [hyl]; exact hi)⟩
  obtain ⟨z0, hz0⟩ := hys 0 (by omega)
  obtain ⟨z1, hz1⟩ := hys 1 (by omega)
  obtain ⟨z2, hz2⟩ := hys 2 (by omega)
  obtain ⟨z3, hz3⟩ := hys 3 (by omega)
  obtain ⟨z4, hz4⟩ := hys 4 (by omega)
  have h0 := hg 0 f0 rfl
  have h1 := hg 1 f1 rfl
  have h2 := hg 2 f2 rfl
  have h3 := hg 3 f3 rfl
  have h4 := hg 4 f4 rfl
  rw [hz0, o0, e0, hcd, List.drop_zero] at h0
  rw [hz1, o1, e1, hcb, take1_drop xs 32 undef (by omega)] at h1
  rw [hz2, o2, e2, hci, take1_drop xs 33 undef (by omega)] at h2
  rw [hz3, o3, e3, hci, take1_drop xs 34 undef (by omega)] at h3
  rw [hz4, o4, e4, hcm, take1_drop xs 35 undef (by omega)] at h4
  obtain ⟨bs, hbs⟩ := Sl.open_row8 hd he8 hc8 (by rw [List.length_take]; omega) h0
  obtain ⟨A, k, cp, l, q1, hkc, hcm1, hrd, hnil⟩ := open_bytes_cell hb he8 hc8 h1
  obtain ⟨a, ea, _, wa⟩ := DataW.trod_int hi h2
  obtain ⟨b, eb, _, wb⟩ := DataW.trod_int hi h3
  obtain ⟨Am, n2, c2, xss, q4, hnc, hcm2, hxl, _, hrm, hel⟩ := Sl.open_cells hm hcd (by decide) h4
  simp only [List.cons.injEq, and_true] at ea eb
  have hlk : l.length = k := hrd.len
  obtain ⟨ms, rfl, hms⟩ := Sl.list_as (fun m : List UInt8 => m.map Dg.b8) (fun m => m.length = 32) xss (fun xs hx => by
    obtain ⟨hl2, m2, y2, hy⟩ := hel xs hx
    obtain ⟨bs, rfl⟩ := Sl.open_row8 hd he8 hc8 hl2 hy
    exact ⟨bs, rfl, by simpa using hl2⟩)
  have hbl : bs.length = 32 := by
    have h5 := congrArg List.length hbs
    rw [List.length_take, List.length_map] at h5
    omega
  have hml : ms.length = n2 := by rw [← hxl, List.length_map]
  subst hlk hml
  refine ⟨⟨bs, l, a, b, ms⟩, A, cp, Am, c2, ?_, ⟨hbl, hms, hrd, hrm, Nat.le_trans hkc hcm1, Nat.le_trans hnc hcm2, hnil⟩, bounds_i64 wa, bounds_i64 wb⟩
  have hx : xs = xs.take 32 ++ xs.drop 32 := (List.take_append_drop 32 xs).symm
  have hd4 : xs.drop 32 = [xs.getD 32 undef, xs.getD 33 undef, xs.getD 34 undef, xs.getD 35 undef] := by
    apply List.ext_getElem
    · simp [hl]
    · intro i i1 i2
      simp only [List.length_cons, List.length_nil] at i2
      rw [List.getElem_drop]
      match i, i2 with
      | 0, _ => simp [List.getD_eq_getElem?_getD, List.getElem?_eq_getElem (show 32 < xs.length by omega)]
      | 1, _ => simp [List.getD_eq_getElem?_getD, List.getElem?_eq_getElem (show 33 < xs.length by omega)]
      | 2, _ => simp [List.getD_eq_getElem?_getD, List.getElem?_eq_getElem (show 34 < xs.length by omega)]
      | 3, _ => simp [List.getD_eq_getElem?_getD, List.getElem?_eq_getElem (show 35 < xs.length by omega)]
  rw [hx, hbs, hd4, q1, q4, ea, eb]
  rfl
/-- a slice of shares at no place is nil -/
theorem Sl.open_none {t e : TypeId} {S : Nat} {n c : Nat} {d : DataW H} {p : List MemPlace} (ht : P.underlying t = some (.slice e)) (hC : P.cellsOf e = S) (hS : 0 < S)
    (h : DataW.Trod enc P w base spare held t (.slice none n c) d p) : c = 0 := by
  obtain ⟨fuel, hf⟩ := h
  obtain ⟨A, n', c', xss, e, _, _, _, hn, _⟩ := Sl.open_cells ht hC hS (show DataW.trod enc P w base spare held fuel t [.slice none n c] = some _ from hf)
  injection e with e1 e2 e3
  subst e1 e2 e3
  exact hn rfl
end

section
variable {H : Type} {enc : TypeId × Value → H} {w : World} {base : Nat} {spare : Nat → Bool} {held : Bool} {r : Reach} {b0 : Nat} {v : Value} {d : DataW H} {p : List MemPlace}
set_option maxRecDepth 100000 in
theorem Sl.open_sealed (hv : Value.okWide Tryd.prog w r b0 27 v) (h : DataW.Trod enc Tryd.prog w base spare held 27 v d p) :
    ∃ (s : Sl.W) (Ad : Option Addr) (cd : Nat) (Am : Option Addr) (cA : Nat), v = .agg (Sl.row s Ad cd Am cA).toArray ∧ Sl.Ok s w Ad cd Am cA ∧ (-9223372036854775808 ≤ s.th ∧ s.th ≤ 9223372036854775807) ∧ (-9223372036854775808 ≤ s.mn ∧ s.mn ≤ 9223372036854775807) := by
  obtain ⟨cs, rfl, hsz⟩ := okWide_struct Tryd.underlying27 hv
  obtain ⟨fuel, hf⟩ := h
  have h36 : cs.size = 36 := hsz.trans (by kernel_rfl)
  obtain ⟨s, Ad, cd, Am, cA, e, h1, h2, h3⟩ := Sl.open_cs Tryd.underlying27 (show cs.toList.length = 36 by rw [Array.length_toList]; exact h36) rfl rfl rfl rfl rfl rfl rfl rfl rfl rfl Tryd.underlying23 (by kernel_rfl) Tryd.underlying24 (by kernel_rfl) Tryd.underlying3 (by kernel_rfl) Tryd.underlying25 (by kernel_rfl) Tryd.underlying5 (by kernel_rfl) hf
  exact ⟨s, Ad, cd, Am, cA, by rw [← Array.toArray_toList (xs := cs), e], h1, h2, h3⟩
end
end Go.Proofs.YtideglpjgplpnaaDoor
/- What a row's condition gives the walks: the two package variables hold the first state and the numbers. -/
namespace Go.Proofs.YtideglpjgplpnaaDoor
open Go.RowKit
set_option linter.unusedVariables false

/-- what the rows list -/
abbrev Sl.laidL : List (String × DataW Unit) := Rows.sealsOpenedRow.laid
def Sl.n0 : String := Rows.sealsOpenedRow.named.getD 0 ""
def Sl.n1 : String := Rows.sealsOpenedRow.named.getD 1 ""
theorem Sl.of_laid {W : World} (h : laidMetH Tryd.prog Sl.laidL W) : Dg.G W Rc.K0 Rc.I0 := by
  rw [MakeChecks.laidMetH_plain _ _ _ (by kernel_rfl)] at h
  have h0 : laidMet Tryd.prog ((Sl.n0, Lib.tabData .u32 Rc.zI) :: [(Sl.n1, Lib.tabData .u32 Rc.zK)]) W := h
  have hg0 : Tryd.prog.globalNamed Sl.n0 = some 0 := by kernel_rfl
  have hg1 : Tryd.prog.globalNamed Sl.n1 = some 1 := by kernel_rfl
  have T0 := Lib.tabIs_of_head (t := 94) (e := 93) (n := 8) hg0 (by kernel_rfl) (by kernel_rfl) (by kernel_rfl) (by kernel_rfl) (by kernel_rfl) h0
  have T1 := Lib.tabIs_of_head (t := 114) (e := 93) (n := 64) hg1 (by kernel_rfl) (by kernel_rfl) (by kernel_rfl) (by kernel_rfl) (by kernel_rfl) (laidMet.tail h0)
  have c0 := T0.cell hg0 0 (by decide)
  have c1 := T1.cell hg1 0 (by decide)
  refine ⟨fun j u hu => ?_, fun t ht => ?_, World.block_lt_of_cell? _ _ c0, World.block_lt_of_cell? _ _ c1⟩
  · have e : Dg.sc Rc.I0 = Rc.zI.map (Value.int .u32) := by rfl
    rw [e, List.getElem?_map, Option.map_eq_some_iff] at hu
    obtain ⟨z, hz, rfl⟩ := hu
    have hj := (List.getElem?_eq_some_iff.1 hz).1
    rw [T0.cell hg0 j hj, List.getD_eq_getElem?_getD, hz]
    rfl
  · have e : ∀ t, t < 64 → Rc.zK.getD t 0 = ((Rc.K0[t]!).toNat : Int) := by decide
    rw [T1.cell hg1 t ht, e t ht]
theorem Sl.rg_wf {xs : List Shr.C} (h : Shr.Wf xs) : ∀ x ∈ xs, Sl.rg x.s := fun x hx => ⟨h.ep x hx, h.ix x hx, h.th x hx, h.mn x hx⟩
/-- The door's own heap meets the condition. -/
theorem Sl.door_met (os : Os) (args : Array Value) : laidMetH Tryd.prog Sl.laidL ((World.doorLaid Tryd.prog 400 os).forCall (fun _ _ => 0) ⟨#[], args, []⟩).memory :=
  laidMetH_of_parts3 (fuel := 8) (laidMet_of_run' 8 (by kernel_rfl) (by kernel_rfl)) (by kernel_rfl) (by kernel_rfl)
end Go.Proofs.YtideglpjgplpnaaDoor
