/- Contracts of the reference's unsigned, numeral, Int, Text, List. -/
import Derived.Test.YtnhodcjbmloeeaaCdW8
import Derived.Test.YtnhodcjbmloeeaaCdR2
namespace Go.Proofs.Ytnhodcjbmloeeaa
open Go.RowKit Go.Shelf
set_option linter.unusedVariables false

set_option maxHeartbeats 1000000 in
theorem Cd.runsigned_any (n : Int) (w : World) (hn : -9223372036854775808 ≤ n ∧ n ≤ 9223372036854775807) :
    Calls Try.prog 43 #[.int .i64 n] w fun e w' => e = .returned (.int .u64 (Cd.uns n)) ∧ w = w' := by
  obtain ⟨h1, h2⟩ := hn
  by_cases h0 : 0 ≤ n
  · have HE := Lib.hid (show 2 * n = ((Cd.uns n : Nat) : Int) by
      unfold Cd.uns
      rw [if_pos h0]
      omega)
    go_enter Try.func43, Try.ntmps43
    go_wp2_with fail
    go_ret
    exact ⟨by rw [← HE.out]; rfl, rfl⟩
  · have HE := Lib.hid (show 2 * -(n + 1) + 1 = ((Cd.uns n : Nat) : Int) by
      unfold Cd.uns
      rw [if_neg h0]
      omega)
    go_enter Try.func43, Try.ntmps43
    go_wp2_with fail
    go_ret
    exact ⟨by rw [← HE.out]; rfl, rfl⟩

set_option maxHeartbeats 1000000 in
theorem Cd.rint_any (n : Int) (w : World) :
    Calls Try.prog 23 #[.int .i64 n] w fun e w' => e = .returned (.agg #[.int .i64 1, .int .i64 n, .string ⟨([] : List UInt8).toArray⟩, .slice none 0 0]) ∧ Below w.heap.size w w' := by
  go_enter Try.func23, Try.ntmps23
  go_wp2_with fail
  refine bodyPost_ret (v := .agg #[.int .i64 1, .int .i64 n, .string ⟨([] : List UInt8).toArray⟩, .slice none 0 0]) (by simp [results, Try.results23, go_sem]) rfl ⟨rfl, ?_⟩
  exact (Below.refl _ _).alloc (Nat.le_refl _) _

set_option maxHeartbeats 1000000 in
theorem Cd.rtext_any (s : ByteArray) (w : World) :
    Calls Try.prog 24 #[.string s] w fun e w' => e = .returned (.agg #[.int .i64 2, .int .i64 0, .string s, .slice none 0 0]) ∧ Below w.heap.size w w' := by
  go_enter Try.func24, Try.ntmps24
  go_wp2_with fail
  refine bodyPost_ret (v := .agg #[.int .i64 2, .int .i64 0, .string s, .slice none 0 0]) (by simp [results, Try.results24, go_sem]) rfl ⟨rfl, ?_⟩
  exact (Below.refl _ _).alloc (Nat.le_refl _) _

set_option maxHeartbeats 1000000 in
theorem Cd.rlist_any (A : Option Addr) (n c : Nat) (w : World) :
    Calls Try.prog 22 #[.slice A n c] w fun e w' => e = .returned (.agg #[.int .i64 3, .int .i64 0, .string ⟨([] : List UInt8).toArray⟩, .slice A n c]) ∧ Below w.heap.size w w' := by
  go_enter Try.func22, Try.ntmps22
  go_wp2_with fail
  refine bodyPost_ret (v := .agg #[.int .i64 3, .int .i64 0, .string ⟨([] : List UInt8).toArray⟩, .slice A n c]) (by simp [results, Try.results22, go_sem]) rfl ⟨rfl, ?_⟩
  exact (Below.refl _ _).alloc (Nat.le_refl _) _

/-- a new slice of bytes -/
def Cd.RetO (w : World) (l : List UInt8) (e : Ending) (w' : World) : Prop := ∃ v, e = .returned v ∧ Below w.heap.size w w' ∧ w'.ownsRow w.heap.size 5 1 v l.length (l.map fun a => Value.int .u8 (a.toNat : Int))
theorem own_lit1 (w : World) (b : UInt8) : (w.alloc (.cells #[.int .u8 (b.toNat : Int)] 5)).ownsRow w.heap.size 5 1 (.slice (some ⟨w.heap.size, 0, none⟩) 1 1) [b].length ([b].map fun a => Value.int .u8 (a.toNat : Int)) :=
  World.ownsRow_lit w #[.int .u8 (b.toNat : Int)] 1 (Nat.le_refl _) (by decide) rfl

set_option maxRecDepth 100000 in
set_option maxHeartbeats 2000000 in
theorem Cd.rnumeral_any : ∀ (f u : Nat) (w : World), u < 128 ^ (f + 1) → u < 18446744073709551616 →
    Calls Try.prog 42 #[.int .u64 u] w (Cd.RetO w (Cd.num u))
  | f, u, w, hf, hu => by
    by_cases hlt : u < 128
    · have HN := Lib.hid (Cd.num_lo u hlt)
      have HBY := Lib.hid (Cd.byte_lo u hlt)
      have d1 : decide ((u : Int) < 128) = true := decide_eq_true (by omega)
      generalize UInt8.ofNat u = y at HN HBY
      have HR := Lib.hid (show (w.alloc (.cells #[.int .u8 (u : Int)] 5)).ownsRow w.heap.size 5 1 (.slice (some ⟨w.heap.size, 0, none⟩) 1 1) [y].length ([y].map fun a => Value.int .u8 (a.toNat : Int)) by rw [HBY.out]; exact own_lit1 w y)
      go_enter Try.func42, Try.ntmps42
      go_wp2_with fail
      go_ret
      refine ⟨_, rfl, (Below.refl _ _).alloc (Nat.le_refl _) _, ?_⟩
      rw [HN.out]
      exact HR.out
    · cases f with
      | zero => exact absurd (by simpa using hf) hlt
      | succ f =>
      have IH := Lib.hid (fun w => Cd.rnumeral_any f (u / 128) w (by rw [Nat.pow_succ] at hf; omega) (by omega))
      clear hf
      have HN := Lib.hid (Cd.num_hi u hlt hu)
      have HL := Lib.hid (Cd.num_len (u / 128))
      have HBY := Lib.hid (show (u : Int) % 128 + 128 = ((UInt8.ofNat (u % 128 + 128)).toNat : Int) by
        have e : (UInt8.ofNat (u % 128 + 128)).toNat = u % 128 + 128 := by rw [UInt8.toNat_ofNat']; omega
        rw [e]
        omega)
      have d1 : decide ((u : Int) < 128) = false := decide_eq_false (by omega)
      generalize UInt8.ofNat (u % 128 + 128) = y at HN HBY
      go_enter Try.func42, Try.ntmps42
      go_wp2_with fail
      obtain ⟨w0, hw0⟩ : ∃ w0, w0 = w.alloc (.cells #[.int .u8 ((u : Int) % 128 + 128)] 5) := ⟨_, rfl⟩
      have HB0 := Lib.hid (show Below w.heap.size w w0 by rw [hw0]; exact (Below.refl _ _).alloc (Nat.le_refl _) _)
      have HO0 := Lib.hid (show w0.ownsRow w.heap.size 5 1 (.slice (some ⟨w.heap.size, 0, none⟩) 1 1) [y].length ([y].map fun a => Value.int .u8 (a.toNat : Int)) by rw [hw0, HBY.out]; exact own_lit1 w y)
      rw [← hw0]
      clear hw0
      rw [show (((u / 128 : Nat)) : Int) = (u : Int) / 128 by omega] at IH
      ((with_reducible refine (IH.out _).mono ?_); rintro e w1 ⟨v1, rfl, hb1, ho1⟩)
      obtain ⟨A1, c1, rfl⟩ := own_slice ho1
      have HO1 := Lib.hid ho1
      have HOW := Lib.hid (own_below HO0.out hb1)
      have HB1 := Lib.hid (HB0.out.trans (hb1.mono HB0.out.size))
      have hz1 : w.heap.size ≤ w1.heap.size := HB1.out.size
      have hl := HL.out
      clear hb1 ho1
      go_wp2_with (at_builtin; refine wpList_append_rd rfl _ _ rfl el27 rfl HOW.out rfl (rd_of_own HO1.out) (one_bytes _) (own_nil HO1.out) (by simp only [maxLen]; simp; omega) (by simp; omega) hz1 ?_; intro v4 w4 hG4)
      have HG4 := Lib.hid (show Grw w1 w.heap.size (.slice (some ⟨w.heap.size, 0, none⟩) 1 1) (Cd.num u).length (Cd.num u) v4 w4 by
        rw [HN.out]
        have h := Grw.of hG4 (xs := y :: Cd.num (u / 128)) (by simp)
        rw [show ([y].length + (Cd.num (u / 128)).length) = (y :: Cd.num (u / 128)).length by simp; omega] at h
        exact h)
      clear hG4
      go_wp2_with fail
      go_ret
      exact ⟨_, rfl, HB1.out.trans (HG4.out.below HOW.out (Nat.le_refl _) hz1), HG4.out.own⟩
end Go.Proofs.Ytnhodcjbmloeeaa
