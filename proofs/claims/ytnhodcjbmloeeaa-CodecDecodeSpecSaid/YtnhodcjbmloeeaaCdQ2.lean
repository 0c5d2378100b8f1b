/- Contract of the reference reader's number. -/
import Derived.Test.YtnhodcjbmloeeaaCdQ1
namespace Go.Proofs.Ytnhodcjbmloeeaa
open Go.RowKit Go.Shelf
set_option linter.unusedVariables false

/-- a number, or bad -/
def Cd.RetRN (w : World) (B g : Nat) (A : Option Addr) (c : Nat) (b : List UInt8) : Option (Nat × List UInt8) → Ending → World → Prop
  | some (u, r), e, w' => e = .returned (.int .u64 (u : Int)) ∧ w.grownBy w' (some g) ∧ ∃ at_, b.drop at_ = r ∧ Cd.Rf w' B g A c b at_ false
  | none, e, w' => e = .returned (.int .u64 0) ∧ w.grownBy w' (some g) ∧ ∃ at_, Cd.Rf w' B g A c b at_ true

theorem Cd.add_digit (a k : Nat) (x : UInt8) (ha : a < 128 ^ k) (hk : k ≤ 9) (hx : k < 9 ∨ x.toNat ≤ 1) :
    IntKind.u64.wrap ((a : Int) + IntKind.u64.wrap ((x.toNat : Int) % 128 * 2 ^ (7 * k))) = ((a + x.toNat % 128 * 128 ^ k : Nat) : Int) := by
  have hx8 := x.toNat_lt
  have hp : (2 : Nat) ^ (7 * k) = 128 ^ k := by rw [Nat.pow_mul]
  have hb : x.toNat % 128 * 128 ^ k ≤ 9223372036854775808 ∧ a < 9223372036854775808 := by
    by_cases h9 : k < 9
    · have h8 : 128 ^ k ≤ 128 ^ 8 := Nat.pow_le_pow_right (by omega) (by omega)
      have e8 : (128 : Nat) ^ 8 = 72057594037927936 := by decide
      have h7 : x.toNat % 128 * 128 ^ k ≤ 127 * 128 ^ k := Nat.mul_le_mul_right _ (by omega)
      omega
    · obtain rfl : k = 9 := by omega
      rw [Cd.pow9] at ha ⊢
      omega
  have h3 : ((x.toNat : Int) % 128) * 2 ^ (7 * k) = ((x.toNat % 128 * 128 ^ k : Nat) : Int) := by
    rw [Int.natCast_mul, ← hp]
    simp
  rw [h3, Cd.u64_wrap, Cd.u64_wrap]
  generalize x.toNat % 128 * 128 ^ k = m at *
  by_cases h9 : k = 9
  · by_cases hm : m = 9223372036854775808
    · omega
    · omega
  · omega

set_option maxRecDepth 100000 in
set_option maxHeartbeats 8000000 in
theorem Cd.rnumber_any (w : World) (B g : Nat) (A : Option Addr) (c : Nat) (b : List UInt8) (at0 : Nat) (hR : Cd.Rf w B g A c b at0 false) :
    Calls Try.prog 49 #[.pointer (some ⟨g, 0, none⟩)] w (Cd.RetRN w B g A c b (Cd.dn (b.drop at0))) := by
  have HR := Lib.hid hR
  clear hR
  go_enter Try.func49, Try.ntmps49
  go_wp2_with fail
  go_loopw [3, 4] (fun u i wr => ∃ (k a at_ : Nat), k ≤ 9 ∧ i = .int .i64 k ∧ u = .int .u64 a ∧ a < 128 ^ k ∧ Cd.dnF (10 - k) k a (b.drop at_) = Cd.dn (b.drop at0) ∧ w.grownBy wr (some g) ∧ Cd.Rf wr B g A c b at_ false) (fun _ i _ => 10 - (intOf i).toNat)
  case atStart => exact ⟨0, 0, at0, by omega, rfl, rfl, by simp, rfl, grown_refl _ _, HR.out⟩
  case round =>
    obtain ⟨k, a, at_, hk, rfl, rfl, ha, hdn, hg, hR1⟩ := hrel
    have HG := Lib.hid hg
    have HR1 := Lib.hid hR1
    have HDN := Lib.hid hdn
    have HA := Lib.hid ha
    clear hg hR1 hdn ha
    obtain ⟨⟨z0, c0, c1, c2⟩, f1, f2⟩ := HR1.out.facts
    have HNX := Lib.hid (Cd.next_any wr B g A c b at_ HR1.out)
    go_wp2_with fail
    ((with_reducible refine HNX.out.mono ?_); rintro e w5 ⟨hg5, hx5, hn5⟩)
    have HG5 := Lib.hid (grown_trans HG.out hg5)
    clear hg5 z0 c0 c1 c2 f1 f2
    cases hdp : b.drop at_ with
    | nil =>
      obtain ⟨rfl, hR5⟩ := hn5 hdp
      have HR5 := Lib.hid hR5
      rw [hdp] at HDN
      have HNO := Lib.hid (show Cd.dn (b.drop at0) = none by
        rw [← HDN.out]
        obtain ⟨f, hf⟩ : ∃ f, 10 - k = f + 1 := ⟨9 - k, by omega⟩
        rw [hf]
        rfl)
      obtain ⟨⟨z0, c0, c1, c2⟩, f1, f2⟩ := hR5.facts
      clear hx5 hn5 hdp hR5
      by_cases p1 : k = 0
      · subst p1
        have ha0 : a = 0 := by have := HA.out; simp at this; exact this
        subst ha0
        go_wp2_with fail
        go_ret
        rw [HNO.out]
        exact ⟨rfl, HG5.out, _, HR5.out⟩
      · have e1 : decide ((0 : Int) < (k : Int)) = true := by (simp; omega)
        by_cases p2 : k = 9
        · subst p2
          go_wp2_with fail
          go_ret
          rw [HNO.out]
          exact ⟨rfl, grown_trans HG5.out (grown_set1 g 2 _), _, HR5.out.mark true⟩
        · have e3 : ((k : Int) == 9) = false := by (simp; omega)
          go_wp2_with fail
          go_ret
          rw [HNO.out]
          exact ⟨rfl, grown_trans HG5.out (grown_set1 g 2 _), _, HR5.out.mark true⟩
    | cons x rest =>
      obtain ⟨rfl, hdr, hR5⟩ := hx5 x rest hdp
      have HR5 := Lib.hid hR5
      rw [hdp] at HDN
      have HDR := Lib.hid hdr
      obtain ⟨⟨z0, c0, c1, c2⟩, f1, f2⟩ := hR5.facts
      clear hx5 hn5 hdp hR5 hdr
      have hx := x.toNat_lt
      have HD1 := Lib.hid (Cd.dnF_step k a x rest hk)
      have HEXP := Lib.hid (fun h : k < 9 ∨ x.toNat ≤ 1 => Cd.add_digit a k x HA.out hk h)
      have HPW := Lib.hid (fun h : a < 128 ^ k => Cd.pow_step a k (x.toNat % 128) h (by omega))
      by_cases p1 : k = 0 <;> by_cases p2 : x.toNat = 0 <;> by_cases p3 : k = 9 <;> by_cases p4 : x.toNat ≤ 1
      all_goals first
        | (exfalso; omega)
        | skip
      all_goals (
        have P1 := Lib.hid p1
        have P2 := Lib.hid p2
        have P3 := Lib.hid p3
        have P4 := Lib.hid p4
        first
          | (have e1 : decide ((0 : Int) < (k : Int)) = true := by (simp; omega))
          | (have e1 : decide ((0 : Int) < (k : Int)) = false := by (simp; omega))
        first
          | (have e2 : ((x.toNat : Int) == 0) = true := by (simp; omega))
          | (have e2 : ((x.toNat : Int) == 0) = false := by (simp; omega))
        first
          | (have e3 : ((k : Int) == 9) = true := by (simp; omega))
          | (have e3 : ((k : Int) == 9) = false := by (simp; omega))
        first
          | (have e4 : decide ((1 : Int) < (x.toNat : Int)) = true := by (simp; omega))
          | (have e4 : decide ((1 : Int) < (x.toNat : Int)) = false := by (simp; omega))
        clear p1 p2 p3 p4
        go_wp2_with fail)
      all_goals (
        have p1 := P1.out
        have p2 := P2.out
        have p3 := P3.out
        have p4 := P4.out)
      all_goals first
        | (have HS := Lib.hid (show Cd.dn (b.drop at0) = some (a + x.toNat % 128 * 128 ^ k, rest) by rw [← HDN.out, HD1.out, if_pos ⟨by omega, by omega⟩, if_pos (by omega)])
           go_ret
           rw [HS.out]
           exact ⟨by rw [← HEXP.out (by omega)]; rfl, HG5.out, at_ + 1, HDR.out, HR5.out⟩)
        | exact ⟨⟨k + 1, a + x.toNat % 128 * 128 ^ k, at_ + 1, by omega, by go_num, congrArg (Value.int .u64) (HEXP.out (by omega)), HPW.out HA.out, by rw [HDR.out, ← HDN.out, HD1.out, if_pos ⟨by omega, by omega⟩, if_neg (by omega)], HG5.out, HR5.out⟩, by simp [intOf]; omega⟩
        | (have HS := Lib.hid (show Cd.dn (b.drop at0) = none by rw [← HDN.out, HD1.out, if_neg (by omega)])
           go_ret
           rw [HS.out]
           exact ⟨rfl, grown_trans HG5.out (grown_set1 g 2 _), _, HR5.out.mark true⟩)
end Go.Proofs.Ytnhodcjbmloeeaa
