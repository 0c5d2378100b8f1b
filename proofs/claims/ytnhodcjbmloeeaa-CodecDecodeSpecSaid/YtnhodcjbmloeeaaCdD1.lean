/- The reader of encodings: its state; contracts of want, take. -/
import Derived.Test.YtnhodcjbmloeeaaCdP2
import Derived.Test.YtnhodcjbmloeeaaCdW9
namespace Go.Proofs.Ytnhodcjbmloeeaa
open Go.RowKit
set_option linter.unusedVariables false

/-- the reader's block g holds a slice of the bytes b, which lie below block B -/
structure Cd.Re (w : World) (B g : Nat) (A : Option Addr) (c : Nat) (b : List UInt8) : Prop where
  has : Has w g 58 [.slice A b.length c]
  rd : Rd w B 1 A b.length (b.map fun a => Value.int .u8 (a.toNat : Int))
  le : b.length ≤ c
  mx : c ≤ maxLen
  lt : B ≤ g
theorem Cd.Re.keep {w w' : World} {B g : Nat} {A : Option Addr} {c : Nat} {b : List UInt8} (h : Cd.Re w B g A c b) (hb : Below w.heap.size w w') : Cd.Re w' B g A c b :=
  ⟨h.has.keep hb, h.rd.below hb (Nat.le_trans h.lt (Nat.le_of_lt h.has.lt)), h.le, h.mx, h.lt⟩
/-- behind an append onto a row that lies above -/
theorem Cd.Re.grown {w w' : World} {B g : Nat} {A : Option Addr} {c : Nat} {b : List UInt8} {row : Option Nat} (h : Cd.Re w B g A c b) (hG : w.grownBy w' row) (hr : ∀ k, row = some k → g < k) : Cd.Re w' B g A c b :=
  ⟨h.has.grown hG (fun e => by have := hr g e; omega), h.rd.below ((Below.refl B w).grown hG (by have := h.lt; have := h.has.lt; omega) (fun k e => by have := hr k e; have := h.lt; omega)) (Nat.le_refl _), h.le, h.mx, h.lt⟩
theorem Cd.Re.set {w : World} {B g : Nat} {A : Option Addr} {c : Nat} {b : List UInt8} (h : Cd.Re w B g A c b) {p : Addr} (hp : g < p.block) (u : Value) : Cd.Re (w.setCell p u) B g A c b :=
  ⟨h.has.far (by omega) u, h.rd.keep (fun q hq => World.cell?_setCell_other w p q u (by have := h.lt; intro e; subst e; omega)), h.le, h.mx, h.lt⟩
/-- what is thrown -/
def Cd.boom : List PanicEntry := [{ v := .iface 28 (.int .i64 10), recovered := false }]
/-- the reader has gone on -/
def Cd.On (w : World) (B g : Nat) (b : List UInt8) (w' : World) : Prop := w.grownBy w' (some g) ∧ ∃ A c, Cd.Re w' B g A c b

set_option maxHeartbeats 1000000 in
theorem Cd.want_yes (v : Value) (w : World) : Calls Try.prog 33 #[v, .bool true] w fun e w' => e = .returned (.tuple #[]) ∧ w = w' := by
  go_enter Try.func33, Try.ntmps33
  go_wp2_with fail
  go_end0
  exact ⟨rfl, rfl⟩
set_option maxHeartbeats 1000000 in
theorem Cd.want_no (v : Value) (w : World) : Calls Try.prog 33 #[v, .bool false] w fun e w' => e = .panicked Cd.boom ∧ w = w' := by
  go_enter Try.func33, Try.ntmps33
  go_wp2_with fail
  exact ⟨rfl, rfl, rfl⟩

/-- so many bytes are taken -/
def Cd.RetT (w : World) (B g : Nat) (b : List UInt8) (k : Nat) (e : Ending) (w' : World) : Prop := ∃ A1 A2 c2, e = .returned (.slice A1 k k) ∧ w.grownBy w' (some g) ∧ Rd w' B 1 A1 k ((b.take k).map fun a => Value.int .u8 (a.toNat : Int)) ∧ Cd.Re w' B g A2 c2 (b.drop k)
/-- thrown -/
def Cd.RetB (w : World) (g : Nat) (e : Ending) (w' : World) : Prop := e = .panicked Cd.boom ∧ w.grownBy w' (some g)

theorem Cd.rd_take {w : World} {B : Nat} {A : Option Addr} {b : List UInt8} (h : Rd w B 1 A b.length (b.map fun a => Value.int .u8 (a.toNat : Int))) (k : Nat) (hk : k ≤ b.length) : Rd w B 1 A k ((b.take k).map fun a => Value.int .u8 (a.toNat : Int)) := by
  refine ⟨by simp; omega, fun h0 => ?_⟩
  obtain ⟨g, off, e, hB, hc⟩ := h.2 (by omega)
  refine ⟨g, off, e, hB, fun j u hu => hc j u ?_⟩
  rw [List.map_take] at hu
  have hj : j < k := by
    have := (List.getElem?_eq_some_iff.1 hu).1
    simp at this
    omega
  rw [List.getElem?_take, if_pos hj] at hu
  exact hu
theorem Cd.rd_drop {w : World} {B : Nat} {A : Option Addr} {b : List UInt8} (h : Rd w B 1 A b.length (b.map fun a => Value.int .u8 (a.toNat : Int))) (k : Nat) (hk : k ≤ b.length) : Rd w B 1 (A.map fun x => x.add k) (b.drop k).length ((b.drop k).map fun a => Value.int .u8 (a.toNat : Int)) := by
  refine ⟨by simp, fun h0 => ?_⟩
  rw [List.length_drop] at h0
  obtain ⟨g, off, e, hB, hc⟩ := h.2 (by omega)
  subst e
  refine ⟨g, off + k, ?_, hB, fun j u hu => ?_⟩
  · show some ((⟨g, off, none⟩ : Addr).add k) = _
    unfold Addr.add
    split <;> simp_all
  · rw [List.map_drop, List.getElem?_drop] at hu
    have := hc (k + j) u hu
    rw [Nat.add_assoc]
    exact this
theorem Cd.Re.next {w : World} {B g : Nat} {A : Option Addr} {c : Nat} {b : List UInt8} (h : Cd.Re w B g A c b) (k : Nat) (hk : k ≤ b.length) (A' : Option Addr) (hA : k < b.length → A' = A.map fun x => x.add k) : Cd.Re (w.setCell ⟨g, 0, none⟩ (.slice A' (b.length - k) (c - k))) B g A' (c - k) (b.drop k) := by
  have hs := h.has.set 0 (.slice A' (b.length - k) (c - k))
  refine ⟨by rw [List.length_drop]; exact hs, ?_, by rw [List.length_drop]; have := h.le; omega, by have := h.mx; omega, h.lt⟩
  by_cases hlt : k < b.length
  · rw [hA hlt]
    exact (Cd.rd_drop h.rd k hk).keep (fun q hq => World.cell?_setCell_other w ⟨g, 0, none⟩ q _ (by have := h.lt; intro e; subst e; simp at hq; omega))
  · have hk2 : k = b.length := by omega
    subst hk2
    rw [List.drop_length]
    exact Rd.none_.more (Nat.le_refl _)
theorem Cd.Re.retT {w : World} {B g : Nat} {A : Option Addr} {c : Nat} {b : List UInt8} (h : Cd.Re w B g A c b) (k : Nat) (hk : k ≤ b.length) (A' : Option Addr) (hA : k < b.length → A' = A.map fun x => x.add k) : Cd.RetT w B g b k (.returned (.slice A k k)) (w.setCell ⟨g, 0, none⟩ (.slice A' (b.length - k) (c - k))) := by
  have hR := h.next k hk A' hA
  refine ⟨A, A', c - k, rfl, ?_, ?_, hR⟩
  · exact ⟨rfl, rfl, rfl, by simp, fun j hj hne => Below.heap_setCell w _ _ j (fun e => hne (by rw [e]))⟩
  · exact (Cd.rd_take h.rd k hk).keep (fun q hq => World.cell?_setCell_other w ⟨g, 0, none⟩ q _ (by have := h.lt; intro e; subst e; simp at hq; omega))

set_option maxHeartbeats 2000000 in
theorem Cd.take_yes (w : World) (B g : Nat) (A : Option Addr) (c : Nat) (b : List UInt8) (k : Nat) (hR : Cd.Re w B g A c b) (hk : k ≤ b.length) :
    Calls Try.prog 44 #[.pointer (some ⟨g, 0, none⟩), .int .i64 (k : Int)] w (Cd.RetT w B g b k) := by
  have HR := Lib.hid hR
  obtain ⟨z0, c0⟩ := hR.has.r1
  have f0 := hR.has.frozen 0
  have h1 := hR.le
  have h2 := hR.mx
  unfold maxLen at h2
  clear hR
  have hd : decide ((k : Int) ≤ (b.length : Int)) = true := decide_eq_true (by omega)
  go_enter Try.func44, Try.ntmps44
  go_wp2_with ((with_reducible refine (Cd.want_yes _ _).mono ?_); rintro e w5 ⟨rfl, rfl⟩)
  · have hck : c = k := by assumption
    have HE := Lib.hid (HR.out.retT k hk A (fun h => by omega))
    have hz : c - k = 0 := by omega
    rw [hz] at HE
    go_ret
    exact HE.out
  · have HE := Lib.hid (HR.out.retT k hk (A.map fun x => x.add k) (fun _ => rfl))
    go_ret
    exact HE.out
set_option maxHeartbeats 2000000 in
theorem Cd.take_no (w : World) (B g : Nat) (A : Option Addr) (c : Nat) (b : List UInt8) (k : Nat) (hR : Cd.Re w B g A c b) (hk : b.length < k) :
    Calls Try.prog 44 #[.pointer (some ⟨g, 0, none⟩), .int .i64 (k : Int)] w (Cd.RetB w g) := by
  obtain ⟨z0, c0⟩ := hR.has.r1
  have f0 := hR.has.frozen 0
  have h1 := hR.le
  have h2 := hR.mx
  unfold maxLen at h2
  clear hR
  have hd : decide (k ≤ b.length) = false := decide_eq_false (by omega)
  go_enter Try.func44, Try.ntmps44
  go_wp2_with ((with_reducible refine (Cd.want_no _ _).mono ?_); rintro e w5 ⟨rfl, rfl⟩)
  exact ⟨rfl, rfl, grown_refl _ _⟩
end Go.Proofs.Ytnhodcjbmloeeaa
