/- Clocks, submissions and receipts as plain words; how they lie in memory. -/
import Derived.Stop.BytesEq
import Derived.Deep.MidRow
import Derived.Test.YtnbbleajbbgmjaaDoorRcW2
namespace Go.Proofs.YtnbbleajbbgmjaaDoor
open Go.RowKit
set_option linter.unusedVariables false

structure Rc.Sb where
  (no comp puz : Int) (grid : List Int)
  deriving Inhabited
structure Rc.R where
  (rf no st : Int) (dg : List UInt8)
  deriving Inhabited
def Rc.Sb.odd (s : Rc.Sb) : Bool := Rc.odd s.no s.comp s.puz s.grid
/-- a submission's digest -/
def Rc.Sb.dl (K : List UInt32) (I : Dg.S) (s : Rc.Sb) : List UInt8 := if s.odd = true then List.replicate 32 0 else Rc.dig K I s.no s.comp s.puz s.grid
theorem Rc.Sb.dl_len (K : List UInt32) (I : Dg.S) (s : Rc.Sb) : (s.dl K I).length = 32 := by
  unfold Rc.Sb.dl
  split
  · simp
  · exact Dg.sum_len _ _ _
def Rc.Sb.de (s : Rc.Sb) : Int := Rc.de s.no s.comp s.puz s.grid
theorem Rc.Sb.dv_eq (K : List UInt32) (I : Dg.S) (s : Rc.Sb) : Rc.dv K I s.no s.comp s.puz s.grid = (s.dl K I).map Dg.b8 := by
  unfold Rc.dv Rc.Sb.dl Rc.Sb.odd
  split
  · rw [List.map_replicate]; rfl
  · rfl
theorem Rc.Sb.de_ok {s : Rc.Sb} (h : s.odd = false) : s.de = 0 := by
  unfold Rc.Sb.de Rc.de
  rw [if_neg]
  unfold Rc.Sb.odd at h
  rw [h]
  decide

theorem flatK (k : Nat) : ∀ (xss : List (List Value)), (∀ xs ∈ xss, xs.length = k) → ∀ (i j : Nat), j < k → xss.flatten[i * k + j]? = (xss[i]?).bind (·[j]?)
  | [], _, i, j, _ => by simp
  | xs :: xss, h, 0, j, hj => by
    have hl := h xs (List.mem_cons_self ..)
    rw [List.flatten_cons, Nat.zero_mul, Nat.zero_add, List.getElem?_append_left (by omega)]
    rfl
  | xs :: xss, h, i + 1, j, hj => by
    have hl := h xs (List.mem_cons_self ..)
    rw [List.flatten_cons, List.getElem?_append_right (by rw [hl, Nat.add_mul]; omega), hl, show (i + 1) * k + j - k = i * k + j by rw [Nat.add_mul]; omega, flatK k xss (fun ys hy => h ys (List.mem_cons_of_mem _ hy)) i j hj]
    rfl
/-- the cells of element number i of a slice that reads as elements of k cells -/
theorem rdK {w : World} {B k n : Nat} {A : Option Addr} {xss : List (List Value)} (hk : 0 < k) (hl : xss.length = n) (hx : ∀ xs ∈ xss, xs.length = k) (hr : Rd w B k A n xss.flatten) (i : Nat) (hi : i < n) (xs : List Value) (he : xss[i]? = some xs) :
    ∃ b off, A = some ⟨b, off, none⟩ ∧ b < B ∧ w.rangeAt b (off + i * k) xs := by
  obtain ⟨b, off, e, hb, hc⟩ := hr.2 (by omega)
  refine ⟨b, off, e, hb, fun j v hj => ?_⟩
  have hxs := hx xs (List.mem_of_getElem? he)
  have hjk : j < k := by rw [← hxs]; exact (List.getElem?_eq_some_iff.1 hj).1
  rw [Nat.add_assoc]
  refine hc (i * k + j) v ?_
  rw [flatK k xss hx i j hjk, he]
  exact hj

/-- four cells read as a submission -/
def Rc.SbC (w : World) (B : Nat) (s : Rc.Sb) (cs : List Value) : Prop := ∃ A c, cs = [Rc.i s.no, Rc.i s.comp, Rc.i s.puz, .slice A s.grid.length c] ∧ Rd w B 1 A s.grid.length (s.grid.map Rc.i) ∧ s.grid.length ≤ maxLen
theorem Rc.SbC.keep {w w' : World} {B : Nat} {s : Rc.Sb} {cs : List Value} (h : Rc.SbC w B s cs) (hb : Below B w w') : Rc.SbC w' B s cs := by
  obtain ⟨A, c, e, hr, hm⟩ := h
  exact ⟨A, c, e, hr.below hb (Nat.le_refl _), hm⟩
theorem Rc.SbC.more {w : World} {B B' : Nat} {s : Rc.Sb} {cs : List Value} (h : Rc.SbC w B s cs) (hB : B ≤ B') : Rc.SbC w B' s cs := by
  obtain ⟨A, c, e, hr, hm⟩ := h
  exact ⟨A, c, e, hr.more hB, hm⟩
/-- a slice reads as submissions -/
structure Rc.Subs (w : World) (B : Nat) (A : Option Addr) (n : Nat) (l : List Rc.Sb) : Prop where
  len : l.length = n
  rd : ∃ xss : List (List Value), xss.length = n ∧ (∀ (i : Nat) (s : Rc.Sb), l[i]? = some s → ∃ xs, xss[i]? = some xs ∧ Rc.SbC w B s xs) ∧ Rd w B 4 A n xss.flatten ∧ ∀ xs ∈ xss, xs.length = 4
theorem Rc.Subs.keep {w w' : World} {B : Nat} {A : Option Addr} {n : Nat} {l : List Rc.Sb} (h : Rc.Subs w B A n l) (hb : Below B w w') : Rc.Subs w' B A n l := by
  obtain ⟨hl, xss, h1, h2, h3, h4⟩ := h
  refine ⟨hl, xss, h1, fun i s hs => ?_, h3.below hb (Nat.le_refl _), h4⟩
  obtain ⟨xs, e, hc⟩ := h2 i s hs
  exact ⟨xs, e, hc.keep hb⟩
theorem Rc.Subs.more {w : World} {B B' : Nat} {A : Option Addr} {n : Nat} {l : List Rc.Sb} (h : Rc.Subs w B A n l) (hB : B ≤ B') : Rc.Subs w B' A n l := by
  obtain ⟨hl, xss, h1, h2, h3, h4⟩ := h
  refine ⟨hl, xss, h1, fun i s hs => ?_, h3.more hB, h4⟩
  obtain ⟨xs, e, hc⟩ := h2 i s hs
  exact ⟨xs, e, hc.more hB⟩
theorem Rc.Subs.get {w : World} {B : Nat} {A : Option Addr} {n : Nat} {l : List Rc.Sb} (h : Rc.Subs w B A n l) (i : Nat) (s : Rc.Sb) (hs : l[i]? = some s) :
    ∃ b off Ag cg, A = some ⟨b, off, none⟩ ∧ b < B ∧ w.cell? ⟨b, off + i * 4, none⟩ = some (Rc.i s.no) ∧ w.cell? ⟨b, off + i * 4 + 1, none⟩ = some (Rc.i s.comp) ∧ w.cell? ⟨b, off + i * 4 + 2, none⟩ = some (Rc.i s.puz) ∧ w.cell? ⟨b, off + i * 4 + 3, none⟩ = some (.slice Ag s.grid.length cg) ∧
      Rd w B 1 Ag s.grid.length (s.grid.map Rc.i) ∧ s.grid.length ≤ maxLen := by
  obtain ⟨hl, xss, h1, h2, h3, h4⟩ := h
  obtain ⟨xs, e, Ag, cg, rfl, hr, hm⟩ := h2 i s hs
  have hi : i < n := by rw [← hl]; exact (List.getElem?_eq_some_iff.1 hs).1
  obtain ⟨b, off, e2, hb, hc⟩ := rdK (by omega) h1 h4 h3 i hi _ e
  exact ⟨b, off, Ag, cg, e2, hb, hc 0 _ rfl, hc 1 _ rfl, hc 2 _ rfl, hc 3 _ rfl, hr, hm⟩

/-- a receipt's cells -/
def Rc.R.cells (r : Rc.R) : List Value := Rc.i r.rf :: Rc.i r.no :: Rc.i r.st :: r.dg.map Dg.b8
theorem Rc.R.cells_len {r : Rc.R} (h : r.dg.length = 32) : r.cells.length = 35 := by simp [Rc.R.cells, h]
theorem Rc.R.cells_one (r : Rc.R) : ∀ v ∈ r.cells, v.oneCell' = true := by
  intro v hv
  unfold Rc.R.cells at hv
  simp only [List.mem_cons] at hv
  rcases hv with rfl | rfl | rfl | hv
  · rfl
  · rfl
  · rfl
  · exact one_bytes _ v hv
/-- a slice reads as receipts -/
structure Rc.Rcs (w : World) (B : Nat) (A : Option Addr) (n : Nat) (l : List Rc.R) : Prop where
  len : l.length = n
  dg : ∀ r ∈ l, r.dg.length = 32
  rd : Rd w B 35 A n (l.map Rc.R.cells).flatten
theorem Rc.Rcs.keep {w w' : World} {B : Nat} {A : Option Addr} {n : Nat} {l : List Rc.R} (h : Rc.Rcs w B A n l) (hb : Below B w w') : Rc.Rcs w' B A n l := ⟨h.len, h.dg, h.rd.below hb (Nat.le_refl _)⟩
theorem Rc.Rcs.more {w : World} {B B' : Nat} {A : Option Addr} {n : Nat} {l : List Rc.R} (h : Rc.Rcs w B A n l) (hB : B ≤ B') : Rc.Rcs w B' A n l := ⟨h.len, h.dg, h.rd.more hB⟩
theorem Rc.Rcs.get {w : World} {B : Nat} {A : Option Addr} {n : Nat} {l : List Rc.R} (h : Rc.Rcs w B A n l) (i : Nat) (r : Rc.R) (hs : l[i]? = some r) : r.dg.length = 32 ∧ ∃ b off, A = some ⟨b, off, none⟩ ∧ b < B ∧ w.rangeAt b (off + i * 35) r.cells := by
  have hi : i < n := by rw [← h.len]; exact (List.getElem?_eq_some_iff.1 hs).1
  refine ⟨h.dg r (List.mem_of_getElem? hs), rdK (by omega) (by rw [List.length_map]; exact h.len) (fun xs hx => ?_) h.rd i hi _ (by rw [List.getElem?_map, hs]; rfl)⟩
  obtain ⟨q, hq, rfl⟩ := List.mem_map.1 hx
  exact Rc.R.cells_len (h.dg q hq)

/-- does a receipt stand behind its follower's place? -/
def Rc.late (y x : Rc.R) : Bool := decide (x.no < y.no) || (decide (y.no = x.no) && decide (x.rf ≤ y.rf))
/-- is the receipt with an index not valid? -/
def Rc.badR (K : List UInt32) (I : Dg.S) (nc : Nat) (subs : List Rc.Sb) (l : List Rc.R) (i : Nat) : Bool :=
  match l[i]? with
  | none => true
  | some x => !Rc.inB x.rf nc || (!Rc.inB x.no subs.length || (!Rc.inB x.st 1048577 || ((if i = 0 then false else Rc.late (l.getD (i - 1) default) x) ||
      (match subs[x.no.toNat]? with | none => true | some s => s.odd || !(s.dl K I == x.dg)))))
end Go.Proofs.YtnbbleajbbgmjaaDoor
