/- Contracts of the reader's number, length. -/
import Derived.Test.YtnhodcjbmloeeaaCdD1
namespace Go.Proofs.Ytnhodcjbmloeeaa
open Go.RowKit
set_option linter.unusedVariables false

/-- a number, or thrown -/
def Cd.RetN (w : World) (B g : Nat) : Option (Nat × List UInt8) → Ending → World → Prop
  | some (u, r), e, w' => e = .returned (.int .u64 (u : Int)) ∧ Cd.On w B g r w'
  | none, e, w' => Cd.RetB w g e w'
theorem Cd.On.refl {w : World} {B g : Nat} {A : Option Addr} {c : Nat} {b : List UInt8} (h : Cd.Re w B g A c b) : Cd.On w B g b w := ⟨grown_refl _ _, A, c, h⟩
/-- the byte that was taken -/
theorem Cd.byte1 {w : World} {B : Nat} {A : Option Addr} {c : UInt8} {r : List UInt8} (h : Rd w B 1 A 1 (((c :: r).take 1).map fun a => Value.int .u8 (a.toNat : Int))) : ∃ b off, A = some ⟨b, off, none⟩ ∧ b < B ∧ w.cell? ⟨b, off, none⟩ = some (.int .u8 (c.toNat : Int)) := by
  obtain ⟨b, off, e, hB, hc⟩ := h.2 (by omega)
  exact ⟨b, off, e, hB, hc 0 _ rfl⟩

theorem Cd.pow_step (a k m : Nat) (h : a < 128 ^ k) (hm : m < 128) : a + m * 128 ^ k < 128 ^ (k + 1) := by
  have h1 : m * 128 ^ k ≤ 127 * 128 ^ k := Nat.mul_le_mul_right _ (by omega)
  rw [Nat.pow_succ]
  omega
theorem Cd.or_digit (a k : Nat) (x : UInt8) (ha : a < 128 ^ k) (hk : k ≤ 9) (hx : k < 9 ∨ x.toNat ≤ 1) :
    bits .or .u64 (a : Int) (IntKind.u64.wrap (IntKind.u64.wrap (bits .and .u8 (x.toNat : Int) 127) * 2 ^ (7 * k))) = ((a + x.toNat % 128 * 128 ^ k : Nat) : Int) := by
  have hx8 := x.toNat_lt
  have h1 : bits .and .u8 (x.toNat : Int) 127 = ((x.toNat % 128 : Nat) : Int) := by
    have h := u8_and_nat x.toNat 127 hx8 (by omega)
    rw [Nat.and_two_pow_sub_one_eq_mod x.toNat 7] at h
    exact h
  have hp : (2 : Nat) ^ (7 * k) = 128 ^ k := by rw [Nat.pow_mul]
  have hb : x.toNat % 128 * 128 ^ k < 18446744073709551616 := by
    by_cases h9 : k < 9
    · have h8 : 128 ^ k ≤ 128 ^ 8 := Nat.pow_le_pow_right (by omega) (by omega)
      have e8 : (128 : Nat) ^ 8 = 72057594037927936 := by decide
      have h7 : x.toNat % 128 * 128 ^ k ≤ 127 * 128 ^ k := Nat.mul_le_mul_right _ (by omega)
      omega
    · obtain rfl : k = 9 := by omega
      rw [Cd.pow9]
      omega
  have ha2 : a < 18446744073709551616 := by
    have h8 : 128 ^ k ≤ 128 ^ 9 := Nat.pow_le_pow_right (by omega) hk
    rw [Cd.pow9] at h8
    omega
  have h2 : IntKind.u64.wrap (((x.toNat % 128 : Nat) : Int)) = ((x.toNat % 128 : Nat) : Int) := by rw [Cd.u64_wrap]; omega
  have h3 : (((x.toNat % 128 : Nat) : Int)) * 2 ^ (7 * k) = ((x.toNat % 128 * 128 ^ k : Nat) : Int) := by
    rw [Int.natCast_mul, ← hp]
    simp
  have h4 : IntKind.u64.wrap ((x.toNat % 128 * 128 ^ k : Nat) : Int) = ((x.toNat % 128 * 128 ^ k : Nat) : Int) := by rw [Cd.u64_wrap]; omega
  rw [h1, h2, h3, h4, u64_or_nat _ _ ha2 hb]
  congr 1
  rw [← hp] at ha ⊢
  have h := Nat.two_pow_add_eq_or_of_lt ha (x.toNat % 128)
  rw [Nat.or_comm, Nat.mul_comm (x.toNat % 128), ← h, Nat.add_comm]
theorem Cd.dnF_step (k a : Nat) (x : UInt8) (rest : List UInt8) (hk : k ≤ 9) : Cd.dnF (10 - k) k a (x :: rest) = if (k = 0 ∨ x.toNat ≠ 0) ∧ (k < 9 ∨ x.toNat ≤ 1) then (if x.toNat < 128 then some (a + x.toNat % 128 * 128 ^ k, rest) else Cd.dnF (10 - (k + 1)) (k + 1) (a + x.toNat % 128 * 128 ^ k) rest) else none := by
  obtain ⟨f, hf⟩ : ∃ f, 10 - k = f + 1 := ⟨9 - k, by omega⟩
  rw [hf, show 10 - (k + 1) = f by omega]
  rfl

set_option maxRecDepth 100000 in
set_option maxHeartbeats 8000000 in
theorem Cd.number_any (w : World) (B g : Nat) (A : Option Addr) (c : Nat) (b : List UInt8) (hR : Cd.Re w B g A c b) :
    Calls Try.prog 46 #[.pointer (some ⟨g, 0, none⟩)] w (Cd.RetN w B g (Cd.dn b)) := by
  have HR := Lib.hid hR
  clear hR
  go_enter Try.func46, Try.ntmps46
  go_wp2_with fail
  go_loopw [2, 3] (fun u i wr => ∃ (k a : Nat) (rest : List UInt8), k ≤ 9 ∧ i = .int .i64 k ∧ u = .int .u64 a ∧ a < 128 ^ k ∧ Cd.dnF (10 - k) k a rest = Cd.dn b ∧ Cd.On w B g rest wr) (fun _ i _ => 10 - (intOf i).toNat)
  case atStart => exact ⟨0, 0, b, by omega, rfl, rfl, by simp, rfl, Cd.On.refl HR.out⟩
  case round =>
    obtain ⟨k, a, rest, hk, rfl, rfl, ha, hdn, hg, A1, c1, hR1⟩ := hrel
    have HG := Lib.hid hg
    have HR1 := Lib.hid hR1
    have HDN := Lib.hid hdn
    have HA := Lib.hid ha
    clear hg hR1 hdn ha
    cases rest with
    | nil =>
      have HNO := Lib.hid (show Cd.dn b = none by
        rw [← HDN.out]
        obtain ⟨f, hf⟩ : ∃ f, 10 - k = f + 1 := ⟨9 - k, by omega⟩
        rw [hf]
        rfl)
      have HTN := Lib.hid (show Calls Try.prog 44 #[.pointer (some ⟨g, 0, none⟩), .int .i64 1] wr (Cd.RetB wr g) from Cd.take_no wr B g A1 c1 [] 1 HR1.out (by simp))
      go_wp2_with ((with_reducible refine HTN.out.mono ?_); rintro e w5 ⟨rfl, hg5⟩)
      refine ⟨rfl, ?_⟩
      rw [HNO.out]
      exact ⟨rfl, grown_trans HG.out hg5⟩
    | cons x rest =>
      have HTY := Lib.hid (show Calls Try.prog 44 #[.pointer (some ⟨g, 0, none⟩), .int .i64 1] wr (Cd.RetT wr B g (x :: rest) 1) from Cd.take_yes wr B g A1 c1 (x :: rest) 1 HR1.out (by simp))
      go_wp2_with fail
      (with_reducible refine HTY.out.mono ?_)
      rintro e w5 ⟨A3, A2, c2, rfl, hg5, hr5, hR5⟩
      obtain ⟨b3, off3, rfl, hb3, hcell⟩ := Cd.byte1 hr5
      have hz3 : b3 < w5.heap.size := by have := hR5.lt; have := hR5.has.lt; omega
      have HG5 := Lib.hid (grown_trans HG.out hg5)
      have HR5 := Lib.hid (show Cd.Re w5 B g A2 c2 rest from hR5)
      clear hg5 hr5 hR5
      have hx := x.toNat_lt
      have HEXP := Lib.hid (fun h : k < 9 ∨ x.toNat ≤ 1 => Cd.or_digit a k x HA.out hk h)
      have HD1 := Lib.hid (Cd.dnF_step k a x rest hk)
      have HPW := Lib.hid (fun h : a < 128 ^ k => Cd.pow_step a k (x.toNat % 128) h (by omega))
      by_cases p1 : k = 0 <;> by_cases p2 : x.toNat = 0 <;> by_cases p3 : k < 9 <;> by_cases p4 : x.toNat ≤ 1
      all_goals first
        | (exfalso; omega)
        | skip
      all_goals (
        have P1 := Lib.hid p1
        have P2 := Lib.hid p2
        have P3 := Lib.hid p3
        have P4 := Lib.hid p4
        first
          | (have e1 : ((k : Int) == 0) = true := by (simp; omega))
          | (have e1 : ((k : Int) == 0) = false := by (simp; omega))
        first
          | (have e2 : ((x.toNat : Int) != 0) = true := by (simp; omega))
          | (have e2 : ((x.toNat : Int) != 0) = false := by (simp; omega))
        first
          | (have e3 : decide ((k : Int) < 9) = true := by (simp; omega))
          | (have e3 : decide ((k : Int) < 9) = false := by (simp; omega))
        first
          | (have e4 : decide ((x.toNat : Int) ≤ 1) = true := by (simp; omega))
          | (have e4 : decide ((x.toNat : Int) ≤ 1) = false := by (simp; omega))
        clear p1 p2 p3 p4
        go_wp2_with (first | ((with_reducible refine (Cd.want_yes _ _).mono ?_); rintro e w6 ⟨rfl, rfl⟩) | ((with_reducible refine (Cd.want_no _ _).mono ?_); rintro e w6 ⟨rfl, rfl⟩)))
      all_goals (
        have p1 := P1.out
        have p2 := P2.out
        have p3 := P3.out
        have p4 := P4.out)
      all_goals first
        | (have HS := Lib.hid (show Cd.dn b = some (a + x.toNat % 128 * 128 ^ k, rest) by rw [← HDN.out, HD1.out, if_pos ⟨by omega, by omega⟩, if_pos (by omega)])
           go_ret
           rw [HS.out]
           exact ⟨by rw [← HEXP.out (by omega)]; rfl, HG5.out, _, _, HR5.out⟩)
        | exact ⟨⟨k + 1, a + x.toNat % 128 * 128 ^ k, rest, by omega, by go_num, congrArg (Value.int .u64) (HEXP.out (by omega)), HPW.out HA.out, by rw [← HDN.out, HD1.out, if_pos ⟨by omega, by omega⟩, if_neg (by omega)], HG5.out, _, _, HR5.out⟩, by simp [intOf]; omega⟩
        | (have HS := Lib.hid (show Cd.dn b = none by rw [← HDN.out, HD1.out, if_neg (by omega)])
           refine ⟨rfl, ?_⟩
           rw [HS.out]
           exact ⟨rfl, HG5.out⟩)

/-- a length, or thrown -/
def Cd.RetL (w : World) (B g : Nat) : Option (Nat × List UInt8) → Ending → World → Prop
  | some (u, r), e, w' => e = .returned (.int .i64 (u : Int)) ∧ Cd.On w B g r w'
  | none, e, w' => Cd.RetB w g e w'
set_option maxHeartbeats 4000000 in
theorem Cd.length_any (w : World) (B g : Nat) (A : Option Addr) (c : Nat) (b : List UInt8) (hR : Cd.Re w B g A c b) :
    Calls Try.prog 47 #[.pointer (some ⟨g, 0, none⟩)] w (Cd.RetL w B g (Cd.dl b)) := by
  have HN := Lib.hid (Cd.number_any w B g A c b hR)
  clear hR
  go_enter Try.func47, Try.ntmps47
  go_wp2_with fail
  cases hd : Cd.dn b with
  | none =>
    have HS := Lib.hid (show Cd.dl b = none by unfold Cd.dl; rw [hd])
    rw [hd] at HN
    clear hd
    (with_reducible refine HN.out.mono ?_)
    rintro e w5 ⟨rfl, hg5⟩
    refine ⟨rfl, ?_⟩
    rw [HS.out]
    exact ⟨rfl, hg5⟩
  | some p =>
    obtain ⟨n, r⟩ := p
    have HS := Lib.hid (show Cd.dl b = if n ≤ r.length then some (n, r) else none by unfold Cd.dl; rw [hd])
    have hn64 := (Cd.dn_some hd).2
    rw [hd] at HN
    clear hd
    (with_reducible refine HN.out.mono ?_)
    rintro e w5 ⟨rfl, hg5, A5, c5, hR5⟩
    have HG5 := Lib.hid hg5
    have HR5 := Lib.hid hR5
    obtain ⟨z5, c50⟩ := hR5.has.r1
    have h1 := hR5.le
    have h2 := hR5.mx
    unfold maxLen at h2
    have hcv : IntKind.u64.wrap ((r.length : Nat) : Int) = ((r.length : Nat) : Int) := by rw [Cd.u64_wrap]; omega
    clear hg5 hR5
    by_cases hle : n ≤ r.length
    · have hdd : decide (n ≤ r.length) = true := decide_eq_true hle
      have hcw : wrap64 (n : Int) = (n : Int) := IntWalk.wrap64_in _ (by omega)
      go_wp2_with ((with_reducible refine (Cd.want_yes _ _).mono ?_); rintro e w6 ⟨rfl, rfl⟩)
      go_ret
      rw [HS.out, if_pos hle]
      exact ⟨rfl, HG5.out, _, _, HR5.out⟩
    · have hdd : decide (n ≤ r.length) = false := decide_eq_false hle
      go_wp2_with ((with_reducible refine (Cd.want_no _ _).mono ?_); rintro e w6 ⟨rfl, rfl⟩)
      refine ⟨rfl, ?_⟩
      rw [HS.out, if_neg hle]
      exact ⟨rfl, HG5.out⟩
end Go.Proofs.Ytnhodcjbmloeeaa
