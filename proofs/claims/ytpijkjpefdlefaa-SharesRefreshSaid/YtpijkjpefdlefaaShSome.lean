/- Contract of 'some' of the statements about shares: the shares that a mask chooses. -/
import Derived.Test.YtpijkjpefdlefaaShSane
namespace Go.Proofs.Ytpijkjpefdlefaa
open Go.RowKit Go.Shelf
set_option linter.unusedVariables false

/-- the shares that a mask chooses among the first k -/
def Shr.pickN (l : List Shr.S) (m : UInt8) : Nat → List Shr.S
  | 0 => []
  | k + 1 => Shr.pickN l m k ++ (if m.toNat.testBit k = true then [l[k]!] else [])
def Shr.pick (l : List Shr.S) (m : UInt8) : List Shr.S := Shr.pickN l m l.length
/-- chosen shares are handed back -/
def Shr.RetO (w : World) (xs : List Shr.C) (l : List Shr.S) (e : Ending) (w' : World) : Prop := ∃ v ys, e = .returned v ∧ Shr.Own w' w.heap.size v ys.length ys ∧ Shr.vals ys = l ∧ (∀ y, y ∈ ys → y ∈ xs) ∧ Below w.heap.size w w'

set_option maxRecDepth 100000 in
set_option maxHeartbeats 1000000 in
theorem Shr.some_any (A : Option Addr) (n c : Nat) (m : UInt8) (xs : List Shr.C) (w : World) (hr : Shr.Rds w A n xs) (hn : n ≤ 8) (hlt : ∀ x, x ∈ xs → ∀ b off, x.A = some ⟨b, off, none⟩ → b < w.heap.size) :
    Calls Try.prog 23 #[.slice A n c, B8 m] w (Shr.RetO w xs (Shr.pick (Shr.vals xs) m)) := by
  have hmm : m.toNat < 256 := m.toNat_lt
  have HR := Lib.hid hr
  have HLT := Lib.hid hlt
  have HL := Lib.hid hr.len
  clear hr hlt
  go_enter Try.func23, Try.ntmps23
  go_wp2_with fail
  go_loopw [5, 9] (fun v i wr => ∃ (k : Nat) (ys : List Shr.C), k ≤ n ∧ i = .int .i64 k ∧ ys.length ≤ k ∧ Shr.Own wr w.heap.size v ys.length ys ∧ Shr.vals ys = Shr.pickN (Shr.vals xs) m k ∧ (∀ y, y ∈ ys → y ∈ xs) ∧ Below w.heap.size w wr) (fun _ i _ => n - (intOf i).toNat)
  case atStart => exact ⟨0, [], by omega, rfl, Nat.le_refl _, Shr.Own.nil _ _, rfl, fun _ h => by (cases h), Below.refl _ _⟩
  case round =>
    obtain ⟨k, ys, hk, rfl, hyl, hO, hv, hsub, hB⟩ := hrel
    have HO := Lib.hid hO
    have HV := Lib.hid hv
    have HSUB := Lib.hid hsub
    have HB := Lib.hid hB
    clear hO hv hsub hB
    by_cases hlt : k < n
    · obtain ⟨b, off, rfl, hbw, f0, f1, f2, f3, f4⟩ := (HR.out.keep HB.out).at k hlt
      have hk8 : k < 8 := by omega
      have hT := Fld.bit_test m k hk8
      rw [show (((2 ^ k : Nat) : Nat) : Int) = (2 : Int) ^ k by rw [Int.natCast_pow]; rfl] at hT
      have hmem : xs[k]! ∈ xs := by rw [getElem!_pos xs k (by rw [HL.out]; exact hlt)]; exact List.getElem_mem _
      have hvk := Shr.vals_at xs k (by rw [HL.out]; exact hlt)
      have HX := Lib.hid (show (xs[k]!).Ok wr ∧ Far (xs[k]!).A u5.ownBlock ∧ (∀ b off, (xs[k]!).A = some ⟨b, off, none⟩ → b < wr.heap.size) from ⟨(HR.out.mem k hlt).keep HB.out, fun b off e e2 => by have h1 := HLT.out _ hmem b off e; have h2 := own_ge HO.out.row e2.symm; omega, fun b off e => Nat.lt_of_lt_of_le (HLT.out _ hmem b off e) HB.out.size⟩)
      have HMEM := Lib.hid hmem
      cases ht : m.toNat.testBit k with
      | true =>
        have HP := Lib.hid (show Shr.pickN (Shr.vals xs) m (k + 1) = Shr.pickN (Shr.vals xs) m k ++ [(xs[k]!).s] by rw [Shr.pickN, if_pos ht, hvk])
        have hT2 := hT.trans ht
        clear hT ht hvk hmem
        generalize xs[k]! = x at f0 f1 f2 f3 f4 HX HMEM HP
        have HXC := Lib.hid (show x.cells = [.int .i64 x.s.ep, .int .i64 x.s.ix, .int .i64 x.s.th, .int .i64 x.s.mn, .slice x.A x.s.d.length x.c] from rfl)
        go_wp2_with (at_builtin; refine wpList_append_rd rfl _ _ rfl elS rfl (HO.out.row.alloc _) rfl (rd_new wr 41 5 [.int .i64 x.s.ep, .int .i64 x.s.ix, .int .i64 x.s.th, .int .i64 x.s.mn, .slice x.A x.s.d.length x.c] rfl) (by simp [Value.oneCell']) (fun h => by (cases h)) (by simp only [maxLen]; omega) (by omega) (by have := HB.out.size; simp; omega) ?_; intro v4 w4 hG; have HG := Lib.hid hG; clear hG)
        have HO4 := Lib.hid (HO.out.grow HX.out (by rw [HXC.out]; exact HG.out))
        have HB4 := Lib.hid ((HB.out.alloc HB.out.size (.cells #[.int .i64 x.s.ep, .int .i64 x.s.ix, .int .i64 x.s.th, .int .i64 x.s.mn, .slice x.A x.s.d.length x.c] 41)).grown HG.out.grown (by have := HB.out.size; simp; omega) (fun g e => own_ge HO.out.row e))
        have HV4 := Lib.hid (show Shr.vals (ys ++ [x]) = Shr.pickN (Shr.vals xs) m (k + 1) by rw [HP.out, ← HV.out, Shr.vals, List.map_append]; rfl)
        clear HG
        go_wp2_with fail
        go_roundw
        case rel => exact ⟨k + 1, ys ++ [x], by omega, by go_num, by simp; omega, by rw [List.length_append]; exact HO4.out, HV4.out, fun y hy => by (rcases List.mem_append.1 hy with h | h; exact HSUB.out y h; rw [List.mem_singleton] at h; subst h; exact HMEM.out), HB4.out⟩
        case measure => simp [intOf]; omega
      | false =>
        have HP := Lib.hid (show Shr.pickN (Shr.vals xs) m (k + 1) = Shr.pickN (Shr.vals xs) m k by rw [Shr.pickN, if_neg (by rw [ht]; decide), List.append_nil])
        have hT2 := hT.trans ht
        clear hT ht hvk hmem f0 f1 f2 f3 f4
        go_wp2_with fail
        go_roundw
        case rel => exact ⟨k + 1, ys, by omega, by go_num, by omega, HO.out, by rw [HP.out, HV.out], HSUB.out, HB.out⟩
        case measure => simp [intOf]; omega
    · obtain rfl : k = n := by omega
      go_wp2_with fail
      go_ret
      exact ⟨_, ys, rfl, HO.out, by rw [HV.out, Shr.pick, Shr.vals_len, HL.out], HSUB.out, HB.out⟩
end Go.Proofs.Ytpijkjpefdlefaa
