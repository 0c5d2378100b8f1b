/- Slices of bytes that read as a list: keeping, 'string(b)'. No condition; no program in sight. -/
import Derived.Laws.IdiomStrings
import Derived.Laws.BytesArg
import Derived.Test.YtnbbleajbbgmjaaDoorRd
namespace Go.Proofs.YtnbbleajbbgmjaaDoor
open Go.RowKit

/-- the slice at A with n bytes reads as l -/
def RdB (w : World) (A : Option Addr) (n : Nat) (l : List UInt8) : Prop := Rd w w.heap.size 1 A n (l.map fun a => Value.int .u8 (a.toNat : Int))
section
variable {w w' : World} {A : Option Addr} {n : Nat} {l : List UInt8}
theorem RdB.len (h : RdB w A n l) : l.length = n := by have := h.1; simpa using this
theorem RdB.keep (h : RdB w A n l) (hb : Below w.heap.size w w') : RdB w' A n l := (Rd.below h hb (Nat.le_refl _)).more hb.size
theorem RdB.below {B : Nat} (h : RdB w A n l) (hb : Below B w w') (hB : w.heap.size ≤ B) : RdB w' A n l := h.keep (hb.mono hB)
theorem RdB.alloc (h : RdB w A n l) (o : Obj) : RdB (w.alloc o) A n l := h.keep ((Below.refl _ _).alloc (Nat.le_refl _) _)
theorem RdB.drew (h : RdB w A n l) : RdB w.drew A n l := h
theorem RdB.drewN (h : RdB w A n l) (k : Nat) : RdB (w.drewN k) A n l := h
theorem RdB.none_ : RdB w A 0 [] := Rd.none_
theorem RdB.of_own {base e cap : Nat} (h : w.ownsRow base e 1 (.slice A n cap) n (l.map fun a => Value.int .u8 (a.toNat : Int))) : RdB w A n l := rd_of_own h
theorem RdB.new (w : World) (t : TypeId) (l : List UInt8) : RdB (w.alloc (.cells (l.map fun a => Value.int .u8 (a.toNat : Int)).toArray t)) (some ⟨w.heap.size, 0, none⟩) l.length l := by
  have h := Has.new w t (l.map fun a => Value.int .u8 (a.toNat : Int))
  exact ⟨by simp, fun _ => ⟨w.heap.size, 0, rfl, h.lt, fun j u hu => by rw [Nat.zero_add, h.cell j]; exact hu⟩⟩
theorem RdB.byte (h : RdB w A n l) (k : Nat) (hk : k < n) : ∃ b off, A = some ⟨b, off, none⟩ ∧ b < w.heap.size ∧ w.cell? ⟨b, off + k, none⟩ = some (.int .u8 ((l.getD k 0).toNat : Int)) := by
  obtain ⟨b, off, e, hb, hc⟩ := h.2 (by omega)
  have hl := h.len
  exact ⟨b, off, e, hb, hc k _ (by rw [List.getElem?_map, List.getElem?_eq_getElem (by omega)]; simp [List.getElem?_eq_getElem (show k < l.length by omega)])⟩
theorem RdB.str {P : Program} {src dst e : TypeId} (h : RdB w A n l) (hs : P.underlying src = some (.slice e)) (he : P.underlying e = some (.int .u8)) (hd : P.underlying dst = some .string) (c : Nat) :
    (convert src dst (.slice A n c)).run P w = .ok (.string ⟨l.toArray⟩) w := by
  have hl := h.len
  subst hl
  cases A with
  | none =>
    have h0 : l = [] := by
      cases l with
      | nil => rfl
      | cons a l => obtain ⟨b, off, e, _⟩ := h.2 (by simp); cases e
    subst h0
    exact run_convert_bytes_nil (P := P) w src e hs he _ _ dst hd
  | some a =>
    refine run_convert_bytes_back w src dst e a c l hs he hd fun j hj => ?_
    obtain ⟨b, off, e1, hb, hc⟩ := h.byte j hj
    injection e1 with e1
    subst e1
    have hplain : (⟨b, off, none⟩ : Addr).add j = ⟨b, off + j, none⟩ := by unfold Addr.add; split <;> simp_all
    rw [hplain, hc]
    simp [List.getElem?_eq_getElem hj]
end
end Go.Proofs.YtnbbleajbbgmjaaDoor
