import Derived.Test.YtideglpjgplpnaaDoorRows
import Derived.WalkKit
import Derived.ProofKit
import Derived.OpenShut
import Derived.ShutString
import Derived.ChangeOld
import Derived.Below
import Derived.Lib.SmallJoins
import Derived.Test.YtideglpjgplpnaaDoorMUtil
import Derived.Deep.Slices
import Derived.Deep.Fields
import Derived.Test.YtideglpjgplpnaaDoorMShW1
/- What every law's last step uses: the arguments read after a call as before it, if nothing that was there has changed. -/
namespace Go.Proofs.YtideglpjgplpnaaDoor
open Go.ChangeShapes Go.WideShapes Go.ChangeAt Go.RowKit

theorem own : ownKnob Tryd.prog.godebug = none := by kernel_rfl
theorem laidOut : laidOutB Tryd.prog = true := by kernel_rfl

theorem trodAll_below {H : Type} {enc : TypeId × Value → H} {P : Program} (hl : laidOutB P = true) {W W' : World} (hb : Below W.heap.size W W') :
    ∀ (ts : List TypeId) (vs : List Value) (ds : List (DataW H)) (p : List MemPlace), (ts.all fun t => P.readableRec t && decide (t < P.types.size)) = true →
    DataW.TrodAll enc P W 0 (fun _ => true) true ts vs ds p → (∀ x ∈ p, x.block < W.heap.size) → DataW.TrodAll enc P W' 0 (fun b => decide (b < W.heap.size)) true ts vs ds p
  | [], [], [], _, _, h, _ => h
  | t :: ts, v :: vs, d :: ds, _, hr, h, hlt => by
    obtain ⟨p1, q1, h1, h2, rfl⟩ := h
    simp only [List.all_cons, Bool.and_eq_true, decide_eq_true_eq] at hr
    exact ⟨p1, q1, Below.trod hl hr.1.1 hr.1.2 h1 hb (fun x hx => hlt x (List.mem_append_left _ hx)),
      trodAll_below hl hb ts vs ds q1 hr.2 h2 (fun x hx => hlt x (List.mem_append_right _ hx)), rfl⟩
  | [], _ :: _, _, _, _, h, _ => by cases h
  | [], [], _ :: _, _, _, h, _ => by cases h
  | _ :: _, [], _, _, _, h, _ => by cases h
  | _ :: _, _ :: _, [], _, _, h, _ => by cases h

end Go.Proofs.YtideglpjgplpnaaDoor
/- How an argument that is a slice is opened: of integers, of structs of integers. No condition. -/
namespace Go.Proofs.YtideglpjgplpnaaDoor
open Go.ChangeShapes Go.WideShapes Go.ChangeAt Go.RowKit Go.Deep

section
variable {H : Type} {enc : TypeId × Value → H} {P : Program} {w : World} {base : Nat} {spare : Nat → Bool} {held : Bool}

theorem open_rd_ints {r : Reach} {b0 : Nat} {t e : TypeId} {k : IntKind} {v : Value} {d : DataW H} {p : List MemPlace} (ht : P.underlying t = some (.slice e)) (he : P.underlying e = some (.int k)) (hC : P.cellsOf e = 1)
    (hv : Value.okWide P w r b0 t v) (h : DataW.Trod enc P w base spare held t v d p) :
    ∃ (A : Option Addr) (n c : Nat) (zs : List Int), v = .slice A n c ∧ n ≤ c ∧ c ≤ maxLen ∧ zs.length = n ∧ Rd w w.heap.size 1 A n (zs.map (Value.int k)) ∧ ∀ z ∈ zs, (Lit.int k z).wf = true := by
  obtain ⟨a0, len, cap, rfl⟩ := okWide_slice ht hv
  obtain ⟨fuel, hf⟩ := h
  rcases open_ints ht he hC hf with ⟨hcs, _⟩ | ⟨x, l, c, zs, hcs, _, hl, hm, hz, _, hcell, hwz⟩
  · simp [Value.cells] at hcs
    obtain ⟨rfl, rfl, rfl⟩ := hcs
    exact ⟨none, 0, 0, [], rfl, Nat.le_refl _, by simp [maxLen], rfl, Rd.none_, fun _ hz => by cases hz⟩
  · simp [Value.cells] at hcs
    obtain ⟨rfl, rfl, rfl⟩ := hcs
    have hz' : len ≤ zs.length := by
      rw [hz]; split <;> omega
    refine ⟨some x, len, cap, zs.take len, rfl, hl, hm, by rw [List.length_take]; omega, ⟨by simp; omega, fun hn => ?_⟩, fun z hz2 => hwz z (List.mem_of_mem_take hz2)⟩
    obtain ⟨b, off, spot⟩ := x
    have hc0 := hcell 0 (by omega)
    have hspot : spot = none := by simpa [Addr.add] using World.cell?_spot hc0
    subst hspot
    refine ⟨b, off, rfl, ?_, fun j u hu => ?_⟩
    · have := World.block_lt_of_cell? _ _ hc0
      simpa [Addr.add] using this
    · simp only [List.getElem?_map, Option.map_eq_some_iff] at hu
      obtain ⟨z, hz3, rfl⟩ := hu
      have hj : j < len := by
        have := (List.getElem?_eq_some_iff.1 hz3).1
        rw [List.length_take] at this; omega
      have hjz : j < zs.length := by omega
      have h1 := hcell j hjz
      rw [List.getElem?_take_of_lt hj, List.getElem?_eq_getElem hjz] at hz3
      injection hz3 with hz3
      subst hz3
      rw [List.getD_eq_getElem?_getD, List.getElem?_eq_getElem hjz] at h1
      by_cases h0 : j = 0
      · subst h0; simpa [Addr.add] using h1
      · simpa [Addr.add, h0] using h1

theorem flatten_at {α : Type} (S : Nat) : ∀ (xss : List (List α)), (∀ xs ∈ xss, xs.length = S) → ∀ (i k : Nat), k < S → xss.flatten[i * S + k]? = (xss[i]?).bind (·[k]?)
  | [], _, i, k, _ => by simp
  | xs :: xss, h, 0, k, hk => by
    have hl := h xs (List.mem_cons_self ..)
    rw [List.flatten_cons, Nat.zero_mul, Nat.zero_add, List.getElem?_append_left (by omega)]
    rfl
  | xs :: xss, h, i + 1, k, hk => by
    have hl := h xs (List.mem_cons_self ..)
    rw [List.flatten_cons, List.getElem?_append_right (by rw [hl, Nat.add_mul]; omega), hl, show (i + 1) * S + k - S = i * S + k from by rw [Nat.add_mul]; omega]
    rw [flatten_at S xss (fun ys hy => h ys (List.mem_cons_of_mem _ hy)) i k hk]
    rfl
theorem flatten_len {α : Type} (S : Nat) : ∀ (xss : List (List α)), (∀ xs ∈ xss, xs.length = S) → xss.flatten.length = xss.length * S
  | [], _ => by simp
  | xs :: xss, h => by
    have hl := h xs (List.mem_cons_self ..)
    rw [List.flatten_cons, List.length_append, hl, flatten_len S xss (fun ys hy => h ys (List.mem_cons_of_mem _ hy)), List.length_cons, Nat.add_mul]; omega

theorem addr_add_add (b off i j : Nat) : ((⟨b, off, none⟩ : Addr).add i).add j = ⟨b, off + (i + j), none⟩ := by
  unfold Addr.add
  by_cases hi : i = 0 <;> by_cases hj : j = 0 <;> simp [hi, hj, Nat.add_assoc]

/-- a slice of whatever elements: each element's cells, with its reading -/
theorem open_rd_slice {r : Reach} {b0 : Nat} {t e : TypeId} {S : Nat} {v : Value} {d : DataW H} {p : List MemPlace} (ht : P.underlying t = some (.slice e)) (hC : P.cellsOf e = S) (hS : 0 < S)
    (hv : Value.okWide P w r b0 t v) (h : DataW.Trod enc P w base spare held t v d p) :
    ∃ (A : Option Addr) (n c : Nat) (xss : List (List Value)), v = .slice A n c ∧ n ≤ c ∧ c ≤ maxLen ∧ xss.length = n ∧ Rd w w.heap.size S A n xss.flatten ∧
      ∀ xs ∈ xss, xs.length = S ∧ ∃ m y, DataW.trod enc P w base spare held m e xs = some y := by
  obtain ⟨a0, len, cap, rfl⟩ := okWide_slice ht hv
  obtain ⟨fuel, hf⟩ := h
  rcases open_slice ht hf with ⟨hcs, _⟩ | ⟨x, l, c, m, n, D, Pl, hcs, _, hl, hm, hmm, _, hel⟩
  · simp [Value.cells] at hcs
    obtain ⟨rfl, rfl, rfl⟩ := hcs
    exact ⟨none, 0, 0, [], rfl, Nat.le_refl _, by simp [maxLen], rfl, Rd.none_, fun _ hz => by cases hz⟩
  · simp [Value.cells] at hcs
    obtain ⟨rfl, rfl, rfl⟩ := hcs
    rw [hC] at hel
    have hlm : len ≤ m := by rw [hmm]; split <;> omega
    have hx : ∀ i, i < len → ∃ cs', w.cells? base (x.add (i * S)) S = some cs' ∧ ∃ y, DataW.trod enc P w base spare held n e cs' = some y := fun i hi => by
      obtain ⟨cs', h1, h2⟩ := hel i (by omega)
      exact ⟨cs', h1, _, h2⟩
    let f : Nat → List Value := fun i => if hi : i < len then Classical.choose (hx i hi) else []
    have hf1 : ∀ i, i < len → w.cells? base (x.add (i * S)) S = some (f i) ∧ ∃ y, DataW.trod enc P w base spare held n e (f i) = some y := fun i hi => by
      have := Classical.choose_spec (hx i hi)
      simpa [f, hi] using this
    clear_value f
    have hlen : ∀ xs ∈ (List.range len).map f, xs.length = S := fun xs hxs => by
      obtain ⟨i, hi, rfl⟩ := List.mem_map.1 hxs
      exact (World.cells?_some (hf1 i (List.mem_range.1 hi)).1).2.1
    refine ⟨some x, len, cap, (List.range len).map f, rfl, hl, hm, by simp, ⟨?_, fun hn => ?_⟩, fun xs hxs => ?_⟩
    · rw [flatten_len S _ hlen]; simp
    · obtain ⟨b, off, spot⟩ := x
      obtain ⟨_, hfl, hc⟩ := World.cells?_some (hf1 0 hn).1
      have hc0 : w.cell? ⟨b, off, spot⟩ = some ((f 0)[0]'(by omega)) := by
        have := hc 0 hS
        rw [List.getElem?_eq_getElem (by omega)] at this
        simpa [Addr.add] using this
      have hspot : spot = none := World.cell?_spot hc0
      subst hspot
      refine ⟨b, off, rfl, World.block_lt_of_cell? _ _ hc0, fun j u hu => ?_⟩
      have hq : j / S * S + j % S = j := by rw [Nat.mul_comm]; exact Nat.div_add_mod j S
      have hr : j % S < S := Nat.mod_lt _ hS
      rw [← hq, flatten_at S _ hlen _ _ hr] at hu
      have hi : j / S < len := by
        rcases Nat.lt_or_ge (j / S) len with h1 | h1
        · exact h1
        · rw [List.getElem?_eq_none (by simpa using h1)] at hu; cases hu
      rw [List.getElem?_map, List.getElem?_range hi] at hu
      have h2 := (World.cells?_some (hf1 _ hi).1).2.2 (j % S) hr
      rw [addr_add_add, hq] at h2
      rw [h2]
      exact hu
    · obtain ⟨i, hi, rfl⟩ := List.mem_map.1 hxs
      have hi' := List.mem_range.1 hi
      exact ⟨hlen _ hxs, n, (hf1 i hi').2⟩

/-- the cells of a struct of three integers -/
theorem open_int3 {t te : TypeId} {f0 f1 f2 : Field} {m : Nat} {xs : List Value} {y : DataW H × List MemPlace} (hs : P.underlying t = some (.struct #[f0, f1, f2])) (hone : oneCellFields P #[f0, f1, f2] = true) (hl : xs.length = 3)
    (e0 : f0.type = te) (e1 : f1.type = te) (e2 : f2.type = te) (he : P.underlying te = some (.int .i64)) (h : DataW.trod enc P w base spare held m t xs = some y) :
    ∃ a b c : Int, xs = [.int .i64 a, .int .i64 b, .int .i64 c] ∧ (Lit.int .i64 a).wf = true ∧ (Lit.int .i64 b).wf = true ∧ (Lit.int .i64 c).wf = true := by
  obtain ⟨x0, x1, x2, rfl⟩ : ∃ x0 x1 x2, xs = [x0, x1, x2] := by
    match xs, hl with
    | [x0, x1, x2], _ => exact ⟨x0, x1, x2, rfl⟩
  obtain ⟨ys, n, _, _, _, hyl, hg⟩ := DataW.trod_struct hs h
  have hys : ∀ i, i < 3 → ∃ z, ys[i]? = some z := fun i hi => ⟨_, List.getElem?_eq_getElem (by rw [hyl]; exact hi)⟩
  obtain ⟨o0, k0⟩ := hone_of hone 0 f0 rfl
  obtain ⟨o1, k1⟩ := hone_of hone 1 f1 rfl
  obtain ⟨o2, k2⟩ := hone_of hone 2 f2 rfl
  obtain ⟨z0, hz0⟩ := hys 0 (by omega)
  obtain ⟨z1, hz1⟩ := hys 1 (by omega)
  obtain ⟨z2, hz2⟩ := hys 2 (by omega)
  have h0 := hg 0 f0 rfl
  have h1 := hg 1 f1 rfl
  have h2 := hg 2 f2 rfl
  rw [hz0, o0, k0] at h0
  rw [hz1, o1, k1] at h1
  rw [hz2, o2, k2] at h2
  rw [e0] at h0
  rw [e1] at h1
  rw [e2] at h2
  obtain ⟨a, ea, _, wa⟩ := DataW.trod_int he (show DataW.trod enc P w base spare held n te [x0] = some z0 from h0)
  obtain ⟨b, eb, _, wb⟩ := DataW.trod_int he (show DataW.trod enc P w base spare held n te [x1] = some z1 from h1)
  obtain ⟨c, ec, _, wc⟩ := DataW.trod_int he (show DataW.trod enc P w base spare held n te [x2] = some z2 from h2)
  simp only [List.cons.injEq, and_true] at ea eb ec
  exact ⟨a, b, c, by rw [ea, eb, ec], wa, wb, wc⟩
end
end Go.Proofs.YtideglpjgplpnaaDoor
/- How an argument that is a byte, or a slice of bytes, is opened. No condition. -/
namespace Go.Proofs.YtideglpjgplpnaaDoor
open Go.RowKit

theorem byte_of {v : Int} (h : 0 ≤ v ∧ v ≤ 255) : ∃ a : UInt8, v = (a.toNat : Int) :=
  ⟨UInt8.ofNat v.toNat, by rw [UInt8.toNat_ofNat']; omega⟩
theorem bytes_map : ∀ (zs : List Int), (∀ z ∈ zs, (Lit.int .u8 z).wf = true) → ∃ l : List UInt8, zs.map (Value.int .u8) = l.map fun a => Value.int .u8 (a.toNat : Int)
  | [], _ => ⟨[], rfl⟩
  | z :: zs, h => by
    obtain ⟨l, hl⟩ := bytes_map zs (fun x hx => h x (List.mem_cons_of_mem _ hx))
    obtain ⟨a, ha⟩ := byte_of (bounds_u8 (h z (List.mem_cons_self ..)))
    exact ⟨a :: l, by rw [List.map_cons, List.map_cons, hl, ha]⟩
theorem bytes_of {w : World} {A : Option Addr} {n : Nat} {zs : List Int} (hw : ∀ z ∈ zs, (Lit.int .u8 z).wf = true) (h : Rd w w.heap.size 1 A n (zs.map (Value.int .u8))) : ∃ l, RdB w A n l := by
  obtain ⟨l, hl⟩ := bytes_map zs hw
  exact ⟨l, by rw [hl] at h; exact h⟩

open Go.ChangeShapes Go.WideShapes Go.ChangeAt Go.Deep in
/-- a slice at no place is nil -/
theorem open_nil {H : Type} {enc : TypeId × Value → H} {P : Program} {w : World} {base : Nat} {spare : Nat → Bool} {held : Bool} {t e : TypeId} {k : IntKind} {n c : Nat} {d : DataW H} {p : List MemPlace} (ht : P.underlying t = some (.slice e)) (he : P.underlying e = some (.int k)) (hC : P.cellsOf e = 1)
    (h : DataW.Trod enc P w base spare held t (.slice none n c) d p) : c = 0 := by
  obtain ⟨fuel, hf⟩ := h
  rcases open_ints ht he hC hf with ⟨hcs, _⟩ | ⟨x, l, c', zs, hcs, _⟩
  · simp [Value.cells] at hcs
    exact hcs.2
  · simp [Value.cells] at hcs
end Go.Proofs.YtideglpjgplpnaaDoor
/- How an argument that is a slice of shares is opened. No condition. -/
namespace Go.Proofs.YtideglpjgplpnaaDoor
open Go.ChangeShapes Go.WideShapes Go.ChangeAt Go.RowKit Go.Deep

section
variable {H : Type} {enc : TypeId × Value → H} {P : Program} {w : World} {base : Nat} {spare : Nat → Bool} {held : Bool}

/-- a cell that reads as a slice of bytes -/
theorem open_bytes_cell {t e : TypeId} {fuel : Nat} {v : Value} {y : DataW H × List MemPlace} (ht : P.underlying t = some (.slice e)) (he : P.underlying e = some (.int .u8)) (hC : P.cellsOf e = 1)
    (h : DataW.trod enc P w base spare held fuel t [v] = some y) :
    ∃ (A : Option Addr) (n c : Nat) (l : List UInt8), v = .slice A n c ∧ n ≤ c ∧ c ≤ maxLen ∧ RdB w A n l ∧ (A = none → c = 0) := by
  rcases open_ints ht he hC h with ⟨hcs, _⟩ | ⟨x, l, c, zs, hcs, _, hl, hm, hz, _, hcell, hwz⟩
  · simp only [List.cons.injEq, and_true] at hcs
    subst hcs
    exact ⟨none, 0, 0, [], rfl, Nat.le_refl _, by simp [maxLen], RdB.none_, fun _ => rfl⟩
  · simp only [List.cons.injEq, and_true] at hcs
    subst hcs
    have hz' : l ≤ zs.length := by
      rw [hz]; split <;> omega
    have hrd : Rd w w.heap.size 1 (some x) l ((zs.take l).map (Value.int .u8)) := by
      refine ⟨by simp; omega, fun hn => ?_⟩
      obtain ⟨b, off, spot⟩ := x
      have hc0 := hcell 0 (by omega)
      have hspot : spot = none := by simpa [Addr.add] using World.cell?_spot hc0
      subst hspot
      refine ⟨b, off, rfl, ?_, fun j u hu => ?_⟩
      · have := World.block_lt_of_cell? _ _ hc0
        simpa [Addr.add] using this
      · simp only [List.getElem?_map, Option.map_eq_some_iff] at hu
        obtain ⟨z, hz3, rfl⟩ := hu
        have hj : j < l := by
          have := (List.getElem?_eq_some_iff.1 hz3).1
          rw [List.length_take] at this; omega
        have hjz : j < zs.length := by omega
        have h1 := hcell j hjz
        rw [List.getElem?_take_of_lt hj, List.getElem?_eq_getElem hjz] at hz3
        injection hz3 with hz3
        subst hz3
        rw [List.getD_eq_getElem?_getD, List.getElem?_eq_getElem hjz] at h1
        by_cases h0 : j = 0
        · subst h0; simpa [Addr.add] using h1
        · simpa [Addr.add, h0] using h1
    obtain ⟨ls, hls⟩ := bytes_of (fun z hz2 => hwz z (List.mem_of_mem_take hz2)) hrd
    exact ⟨some x, l, c, ls, rfl, hl, hm, hls, fun e => by cases e⟩

/-- the cells of a share -/
theorem open_share {t te tb e8 : TypeId} {f0 f1 f2 f3 f4 : Field} {m : Nat} {xs : List Value} {y : DataW H × List MemPlace} (hs : P.underlying t = some (.struct #[f0, f1, f2, f3, f4])) (hone : oneCellFields P #[f0, f1, f2, f3, f4] = true) (hl : xs.length = 5)
    (e0 : f0.type = te) (e1 : f1.type = te) (e2 : f2.type = te) (e3 : f3.type = te) (e4 : f4.type = tb) (he : P.underlying te = some (.int .i64)) (hb : P.underlying tb = some (.slice e8)) (he8 : P.underlying e8 = some (.int .u8)) (hC : P.cellsOf e8 = 1) (h : DataW.trod enc P w base spare held m t xs = some y) :
    ∃ x : Shr.C, xs = x.cells ∧ x.Ok w ∧ (Lit.int .i64 x.s.ep).wf = true ∧ (Lit.int .i64 x.s.ix).wf = true ∧ (Lit.int .i64 x.s.th).wf = true ∧ (Lit.int .i64 x.s.mn).wf = true ∧ x.s.d.length ≤ x.c ∧ x.c ≤ maxLen := by
  obtain ⟨x0, x1, x2, x3, x4, rfl⟩ : ∃ x0 x1 x2 x3 x4, xs = [x0, x1, x2, x3, x4] := by
    match xs, hl with
    | [x0, x1, x2, x3, x4], _ => exact ⟨x0, x1, x2, x3, x4, rfl⟩
  obtain ⟨ys, n, _, _, _, hyl, hg⟩ := DataW.trod_struct hs h
  have hys : ∀ i, i < 5 → ∃ z, ys[i]? = some z := fun i hi => ⟨_, List.getElem?_eq_getElem (by rw [hyl]; exact hi)⟩
  obtain ⟨o0, k0⟩ := hone_of hone 0 f0 rfl
  obtain ⟨o1, k1⟩ := hone_of hone 1 f1 rfl
  obtain ⟨o2, k2⟩ := hone_of hone 2 f2 rfl
  obtain ⟨o3, k3⟩ := hone_of hone 3 f3 rfl
  obtain ⟨o4, k4⟩ := hone_of hone 4 f4 rfl
  obtain ⟨z0, hz0⟩ := hys 0 (by omega)
  obtain ⟨z1, hz1⟩ := hys 1 (by omega)
  obtain ⟨z2, hz2⟩ := hys 2 (by omega)
  obtain ⟨z3, hz3⟩ := hys 3 (by omega)
  obtain ⟨z4, hz4⟩ := hys 4 (by omega)
  have h0 := hg 0 f0 rfl
  have h1 := hg 1 f1 rfl
  have h2 := hg 2 f2 rfl
  have h3 := hg 3 f3 rfl
  have h4 := hg 4 f4 rfl
  rw [hz0, o0, k0] at h0
  rw [hz1, o1, k1] at h1
  rw [hz2, o2, k2] at h2
  rw [hz3, o3, k3] at h3
  rw [hz4, o4, k4] at h4
  rw [e0] at h0
  rw [e1] at h1
  rw [e2] at h2
  rw [e3] at h3
  rw [e4] at h4
  obtain ⟨a, ea, _, wa⟩ := DataW.trod_int he (show DataW.trod enc P w base spare held n te [x0] = some z0 from h0)
  obtain ⟨b, eb, _, wb⟩ := DataW.trod_int he (show DataW.trod enc P w base spare held n te [x1] = some z1 from h1)
  obtain ⟨c, ec, _, wc⟩ := DataW.trod_int he (show DataW.trod enc P w base spare held n te [x2] = some z2 from h2)
  obtain ⟨d, ed, _, wd⟩ := DataW.trod_int he (show DataW.trod enc P w base spare held n te [x3] = some z3 from h3)
  obtain ⟨A, k, cp, l, rfl, hkc, hcm, hrd, hnil⟩ := open_bytes_cell hb he8 hC (show DataW.trod enc P w base spare held n tb [x4] = some z4 from h4)
  simp only [List.cons.injEq, and_true] at ea eb ec ed
  have hlk : l.length = k := hrd.len
  subst hlk
  refine ⟨⟨⟨a, b, c, d, l⟩, A, cp⟩, by rw [ea, eb, ec, ed]; rfl, ⟨hrd, Nat.le_trans hkc hcm, hnil⟩, wa, wb, wc, wd, hkc, hcm⟩
end

/-- shares whose numbers are Go's ints -/
structure Shr.Wf (xs : List Shr.C) : Prop where
  ep : ∀ x, x ∈ xs → -9223372036854775808 ≤ x.s.ep ∧ x.s.ep ≤ 9223372036854775807
  ix : ∀ x, x ∈ xs → -9223372036854775808 ≤ x.s.ix ∧ x.s.ix ≤ 9223372036854775807
  th : ∀ x, x ∈ xs → -9223372036854775808 ≤ x.s.th ∧ x.s.th ≤ 9223372036854775807
  mn : ∀ x, x ∈ xs → -9223372036854775808 ≤ x.s.mn ∧ x.s.mn ≤ 9223372036854775807
  cap : ∀ x, x ∈ xs → x.s.d.length ≤ x.c ∧ x.c ≤ maxLen

theorem flat_cells {w : World} : ∀ (xss : List (List Value)), (∀ xs ∈ xss, ∃ x : Shr.C, xs = x.cells ∧ x.Ok w ∧ (Lit.int .i64 x.s.ep).wf = true ∧ (Lit.int .i64 x.s.ix).wf = true ∧ (Lit.int .i64 x.s.th).wf = true ∧ (Lit.int .i64 x.s.mn).wf = true ∧ x.s.d.length ≤ x.c ∧ x.c ≤ maxLen) →
    ∃ xs : List Shr.C, xss.flatten = xs.flatMap Shr.C.cells ∧ xs.length = xss.length ∧ (∀ x, x ∈ xs → x.Ok w) ∧ Shr.Wf xs
  | [], _ => ⟨[], rfl, rfl, (by simp), ⟨by simp, by simp, by simp, by simp, by simp⟩⟩
  | c :: xss, h => by
    obtain ⟨x, rfl, ok, w1, w2, w3, w4, w5, w6⟩ := h c (List.mem_cons_self ..)
    obtain ⟨xs, e, hl, hok, hwf⟩ := flat_cells xss (fun y hy => h y (List.mem_cons_of_mem _ hy))
    refine ⟨x :: xs, by rw [List.flatten_cons, e, List.flatMap_cons], by simp [hl], ?_, ?_, ?_, ?_, ?_, ?_⟩ <;>
    · intro y hy
      rcases List.mem_cons.1 hy with rfl | hy
      · first | exact ok | exact bounds_i64 w1 | exact bounds_i64 w2 | exact bounds_i64 w3 | exact bounds_i64 w4 | exact ⟨w5, w6⟩
      · first | exact hok y hy | exact hwf.ep y hy | exact hwf.ix y hy | exact hwf.th y hy | exact hwf.mn y hy | exact hwf.cap y hy

set_option maxRecDepth 4000 in
theorem open_shares {H : Type} {enc : TypeId × Value → H} {w : World} {base : Nat} {spare : Nat → Bool} {held : Bool} {r : Reach} {b0 : Nat} {v : Value} {d : DataW H} {p : List MemPlace}
    (hv : Value.okWide Tryd.prog w r b0 28 v) (h : DataW.Trod enc Tryd.prog w base spare held 28 v d p) :
    ∃ (A : Option Addr) (n c : Nat) (xs : List Shr.C), v = .slice A n c ∧ n ≤ c ∧ c ≤ maxLen ∧ Shr.Rds w A n xs ∧ Shr.Wf xs := by
  obtain ⟨A, n, c, xss, rfl, hnc, hcm, hlen, hrd, hel⟩ := open_rd_slice Tryd.underlying28 (show Tryd.prog.cellsOf 43 = 5 by kernel_rfl) (by decide) hv h
  obtain ⟨xs, e, hl, hok, hwf⟩ := flat_cells xss (fun cs hcs => by
    obtain ⟨h5, m, y, hy⟩ := hel cs hcs
    exact open_share Tryd.underlying43 (by kernel_rfl) h5 rfl rfl rfl rfl rfl Tryd.underlying3 Tryd.underlying24 Tryd.underlying5 (by kernel_rfl) hy)
  exact ⟨A, n, c, xs, rfl, hnc, hcm, ⟨by rw [← e]; exact hrd, by rw [hl, hlen], hok⟩, hwf⟩
end Go.Proofs.YtideglpjgplpnaaDoor
