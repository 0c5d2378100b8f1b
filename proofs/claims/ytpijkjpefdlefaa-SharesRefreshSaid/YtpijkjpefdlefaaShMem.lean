/- Slices of shares that read as a list: what each cell holds; how it is kept. No condition; no program in sight. -/
import Derived.Test.YtpijkjpefdlefaaShPlain
import Derived.Test.YtpijkjpefdlefaaApp
namespace Go.Proofs.Ytpijkjpefdlefaa
open Go.RowKit

/-- a share with the place and capacity of its data -/
structure Shr.C where
  s : Shr.S
  A : Option Addr
  c : Nat
instance : Inhabited Shr.C := ⟨⟨default, none, 0⟩⟩
def Shr.C.n (x : Shr.C) : Nat := x.s.d.length
/-- its five cells -/
def Shr.C.cells (x : Shr.C) : List Value := [.int .i64 x.s.ep, .int .i64 x.s.ix, .int .i64 x.s.th, .int .i64 x.s.mn, .slice x.A x.s.d.length x.c]
/-- it reads in w -/
structure Shr.C.Ok (x : Shr.C) (w : World) : Prop where
  rd : RdB w x.A x.s.d.length x.s.d
  len : x.s.d.length ≤ maxLen
  nil : x.A = none → x.c = 0
/-- the slice at A with n shares reads as xs -/
structure Shr.Rds (w : World) (A : Option Addr) (n : Nat) (xs : List Shr.C) : Prop where
  rd : Rd w w.heap.size 5 A n (xs.flatMap Shr.C.cells)
  len : xs.length = n
  ok : ∀ x, x ∈ xs → x.Ok w
/-- the shares themselves -/
def Shr.vals (xs : List Shr.C) : List Shr.S := xs.map Shr.C.s

theorem Shr.C.Ok.keep {x : Shr.C} {w w' : World} (h : x.Ok w) (hb : Below w.heap.size w w') : x.Ok w' := ⟨h.rd.keep hb, h.len, h.nil⟩
theorem Shr.flat_len (xs : List Shr.C) : (xs.flatMap Shr.C.cells).length = xs.length * 5 := by
  induction xs with
  | nil => rfl
  | cons x xs ih => rw [List.flatMap_cons, List.length_append, ih, List.length_cons]; simp [Shr.C.cells]; omega
theorem Shr.flat_at : ∀ (xs : List Shr.C) (k j : Nat), k < xs.length → j < 5 → (xs.flatMap Shr.C.cells)[k * 5 + j]? = (xs[k]!).cells[j]?
  | [], k, j, hk, _ => by simp at hk
  | x :: xs, 0, j, hk, hj => by
    rw [List.flatMap_cons, List.getElem?_append_left (by simp [Shr.C.cells]; omega)]
    simp
  | x :: xs, k + 1, j, hk, hj => by
    rw [List.flatMap_cons, List.getElem?_append_right (by simp [Shr.C.cells]; omega)]
    have e : (k + 1) * 5 + j - x.cells.length = k * 5 + j := by simp [Shr.C.cells]; omega
    rw [e, Shr.flat_at xs k j (by simpa using hk) hj]
    simp
theorem Shr.vals_len (xs : List Shr.C) : (Shr.vals xs).length = xs.length := by simp [Shr.vals]
theorem Shr.vals_at (xs : List Shr.C) (k : Nat) (hk : k < xs.length) : (Shr.vals xs)[k]! = (xs[k]!).s := by
  rw [Shr.vals, getElem!_pos (xs.map Shr.C.s) k (by simpa using hk), getElem!_pos xs k hk, List.getElem_map]

section
variable {w w' : World} {A : Option Addr} {n : Nat} {xs : List Shr.C}
theorem Shr.Rds.keep (h : Shr.Rds w A n xs) (hb : Below w.heap.size w w') : Shr.Rds w' A n xs :=
  ⟨(h.rd.below hb (Nat.le_refl _)).more hb.size, h.len, fun x hx => (h.ok x hx).keep hb⟩
theorem Shr.Rds.drew (h : Shr.Rds w A n xs) : Shr.Rds w.drew A n xs := ⟨h.rd, h.len, fun x hx => ⟨(h.ok x hx).rd, (h.ok x hx).len, (h.ok x hx).nil⟩⟩
theorem Shr.Rds.drewN (h : Shr.Rds w A n xs) (k : Nat) : Shr.Rds (w.drewN k) A n xs := ⟨h.rd, h.len, fun x hx => ⟨(h.ok x hx).rd, (h.ok x hx).len, (h.ok x hx).nil⟩⟩
theorem Shr.Rds.alloc (h : Shr.Rds w A n xs) (o : Obj) : Shr.Rds (w.alloc o) A n xs := h.keep ((Below.refl _ _).alloc (Nat.le_refl _) _)
theorem Shr.Rds.nil : Shr.Rds w A 0 [] := ⟨Rd.none_, rfl, fun _ h => by cases h⟩
theorem Shr.Rds.mem (h : Shr.Rds w A n xs) (k : Nat) (hk : k < n) : (xs[k]!).Ok w := by
  have hk' : k < xs.length := by rw [h.len]; exact hk
  rw [getElem!_pos xs k hk']
  exact h.ok _ (List.getElem_mem hk')
/-- the five cells of share number k -/
theorem Shr.Rds.at (h : Shr.Rds w A n xs) (k : Nat) (hk : k < n) : ∃ b off, A = some ⟨b, off, none⟩ ∧ b < w.heap.size ∧
    w.cell? ⟨b, off + k * 5, none⟩ = some (.int .i64 (xs[k]!).s.ep) ∧ w.cell? ⟨b, off + k * 5 + 1, none⟩ = some (.int .i64 (xs[k]!).s.ix) ∧ w.cell? ⟨b, off + k * 5 + 2, none⟩ = some (.int .i64 (xs[k]!).s.th) ∧
    w.cell? ⟨b, off + k * 5 + 3, none⟩ = some (.int .i64 (xs[k]!).s.mn) ∧ w.cell? ⟨b, off + k * 5 + 4, none⟩ = some (.slice (xs[k]!).A (xs[k]!).s.d.length (xs[k]!).c) := by
  obtain ⟨b, off, e, hb, hc⟩ := h.rd.2 (by omega)
  have hk' : k < xs.length := by rw [h.len]; exact hk
  refine ⟨b, off, e, hb, ?_, ?_, ?_, ?_, ?_⟩
  · exact hc (k * 5 + 0) _ ((Shr.flat_at xs k 0 hk' (by omega)).trans rfl)
  · exact hc (k * 5 + 1) _ ((Shr.flat_at xs k 1 hk' (by omega)).trans rfl)
  · exact hc (k * 5 + 2) _ ((Shr.flat_at xs k 2 hk' (by omega)).trans rfl)
  · exact hc (k * 5 + 3) _ ((Shr.flat_at xs k 3 hk' (by omega)).trans rfl)
  · exact hc (k * 5 + 4) _ ((Shr.flat_at xs k 4 hk' (by omega)).trans rfl)
theorem Shr.Rds.first (h : Shr.Rds w A n xs) (hn : 0 < n) : ∃ b off, A = some ⟨b, off, none⟩ ∧ b < w.heap.size ∧
    w.cell? ⟨b, off, none⟩ = some (.int .i64 (xs[0]!).s.ep) ∧ w.cell? ⟨b, off + 1, none⟩ = some (.int .i64 (xs[0]!).s.ix) ∧ w.cell? ⟨b, off + 2, none⟩ = some (.int .i64 (xs[0]!).s.th) ∧
    w.cell? ⟨b, off + 3, none⟩ = some (.int .i64 (xs[0]!).s.mn) ∧ w.cell? ⟨b, off + 4, none⟩ = some (.slice (xs[0]!).A (xs[0]!).s.d.length (xs[0]!).c) := by
  have := h.at 0 hn
  simpa using this
theorem Shr.Rds.at2 {b off : Nat} (h : Shr.Rds w (some ⟨b, off, none⟩) n xs) (k : Nat) (hk : k < n) : b < w.heap.size ∧
    w.cell? ⟨b, off + k * 5, none⟩ = some (.int .i64 (xs[k]!).s.ep) ∧ w.cell? ⟨b, off + k * 5 + 1, none⟩ = some (.int .i64 (xs[k]!).s.ix) ∧ w.cell? ⟨b, off + k * 5 + 2, none⟩ = some (.int .i64 (xs[k]!).s.th) ∧
    w.cell? ⟨b, off + k * 5 + 3, none⟩ = some (.int .i64 (xs[k]!).s.mn) ∧ w.cell? ⟨b, off + k * 5 + 4, none⟩ = some (.slice (xs[k]!).A (xs[k]!).s.d.length (xs[k]!).c) := by
  obtain ⟨b', off', e, h1⟩ := h.at k hk
  injection e with e
  injection e with e1 e2
  subst e1 e2
  exact h1
theorem Shr.Rds.first2 {b off : Nat} (h : Shr.Rds w (some ⟨b, off, none⟩) n xs) (hn : 0 < n) : b < w.heap.size ∧
    w.cell? ⟨b, off, none⟩ = some (.int .i64 (xs[0]!).s.ep) ∧ w.cell? ⟨b, off + 1, none⟩ = some (.int .i64 (xs[0]!).s.ix) ∧ w.cell? ⟨b, off + 2, none⟩ = some (.int .i64 (xs[0]!).s.th) ∧
    w.cell? ⟨b, off + 3, none⟩ = some (.int .i64 (xs[0]!).s.mn) ∧ w.cell? ⟨b, off + 4, none⟩ = some (.slice (xs[0]!).A (xs[0]!).s.d.length (xs[0]!).c) := by
  have := h.at2 0 hn
  simpa using this
/-- a slice of shares that the call owns -/
theorem Shr.Rds.of_own {base e cap : Nat} (h : w.ownsRow base e 5 (.slice A n cap) n (xs.flatMap Shr.C.cells)) (ok : ∀ x, x ∈ xs → x.Ok w) : Shr.Rds w A n xs :=
  ⟨rd_of_own h, by have := h.1; rw [Shr.flat_len] at this; omega, ok⟩
/-- its first m shares -/
theorem Shr.Rds.take (h : Shr.Rds w A n xs) (m : Nat) (hm : m ≤ n) : Shr.Rds w A m (xs.take m) := by
  refine ⟨⟨by rw [Shr.flat_len, List.length_take, h.len]; omega, fun hp => ?_⟩, by rw [List.length_take, h.len]; omega, fun x hx => h.ok x (List.mem_of_mem_take hx)⟩
  obtain ⟨b, off, e, hb, hc⟩ := h.rd.2 (by omega)
  refine ⟨b, off, e, hb, fun j u hu => hc j u ?_⟩
  have e2 : xs.flatMap Shr.C.cells = (xs.take m).flatMap Shr.C.cells ++ (xs.drop m).flatMap Shr.C.cells := by rw [← List.flatMap_append, List.take_append_drop]
  rw [e2, List.getElem?_append_left (List.getElem?_eq_some_iff.1 hu).1]
  exact hu
end
end Go.Proofs.Ytpijkjpefdlefaa
