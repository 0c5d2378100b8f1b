/- How an argument that is a byte, or a slice of bytes, is opened. No condition. -/
import Derived.Test.YtnhodcjbmloeeaaOpen
import Derived.Test.YtnhodcjbmloeeaaByt
namespace Go.Proofs.Ytnhodcjbmloeeaa
open Go.RowKit

theorem byte_of {v : Int} (h : 0 ≤ v ∧ v ≤ 255) : ∃ a : UInt8, v = (a.toNat : Int) :=
  ⟨UInt8.ofNat v.toNat, by rw [UInt8.toNat_ofNat']; omega⟩
theorem bytes_map : ∀ (zs : List Int), (∀ z ∈ zs, (Lit.int .u8 z).wf = true) → ∃ l : List UInt8, zs.map (Value.int .u8) = l.map fun a => Value.int .u8 (a.toNat : Int)
  | [], _ => ⟨[], rfl⟩
  | z :: zs, h => by
    obtain ⟨l, hl⟩ := bytes_map zs (fun x hx => h x (List.mem_cons_of_mem _ hx))
    obtain ⟨a, ha⟩ := byte_of (bounds_u8 (h z (List.mem_cons_self ..)))
    exact ⟨a :: l, by rw [List.map_cons, List.map_cons, hl, ha]⟩
theorem bytes_of {w : World} {A : Option Addr} {n : Nat} {zs : List Int} (hw : ∀ z ∈ zs, (Lit.int .u8 z).wf = true) (h : Rd w w.heap.size 1 A n (zs.map (Value.int .u8))) : ∃ l, RdB w A n l := by
  obtain ⟨l, hl⟩ := bytes_map zs hw
  exact ⟨l, by rw [hl] at h; exact h⟩

open Go.ChangeShapes Go.WideShapes Go.ChangeAt Go.Deep in
/-- a slice at no place is nil -/
theorem open_nil {H : Type} {enc : TypeId × Value → H} {P : Program} {w : World} {base : Nat} {spare : Nat → Bool} {held : Bool} {t e : TypeId} {k : IntKind} {n c : Nat} {d : DataW H} {p : List MemPlace} (ht : P.underlying t = some (.slice e)) (he : P.underlying e = some (.int k)) (hC : P.cellsOf e = 1)
    (h : DataW.Trod enc P w base spare held t (.slice none n c) d p) : c = 0 := by
  obtain ⟨fuel, hf⟩ := h
  rcases open_ints ht he hC hf with ⟨hcs, _⟩ | ⟨x, l, c', zs, hcs, _⟩
  · simp [Value.cells] at hcs
    exact hcs.2
  · simp [Value.cells] at hcs
end Go.Proofs.Ytnhodcjbmloeeaa
