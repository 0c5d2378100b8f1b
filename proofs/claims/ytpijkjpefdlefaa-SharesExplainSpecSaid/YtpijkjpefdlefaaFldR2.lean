/- Contracts of the reference's over, Points and Through: for all lists, the same answers as the program's. -/
import Derived.BigQuiet
import Derived.Test.YtpijkjpefdlefaaFldR1
import Derived.Test.YtpijkjpefdlefaaFldLag
import Derived.Test.YtpijkjpefdlefaaFldW7
namespace Go.Proofs.Ytpijkjpefdlefaa
open Go.RowKit Go.Shelf
set_option linter.unusedVariables false

theorem RdB.byte2 {w : World} {b off n : Nat} {l : List UInt8} (h : RdB w (some ⟨b, off, none⟩) n l) (k : Nat) (hk : k < n) : b < w.heap.size ∧ w.cell? ⟨b, off + k, none⟩ = some (B8 (l.getD k 0)) := by
  obtain ⟨b', off', e, hb, hc⟩ := h.byte k hk
  injection e with e
  injection e with e1 e2
  subst e1 e2
  exact ⟨hb, hc⟩

theorem Fld.rover_any (a b : UInt8) (w : World) : Calls Try.prog 46 #[B8 a, B8 b] w fun e w' => e = .returned (B8 (Fld.ovr a b)) ∧ w = w' := by
  have HV := Lib.hid (show Fld.ovr a b = Fld.mul a (Fld.inv b) from rfl)
  go_enter Try.func46, Try.ntmps46
  go_wp2_with fail
  refine (Fld.rinv_any b _).mono ?_
  rintro e w1 ⟨rfl, rfl⟩
  go_wp2_with fail
  refine (Fld.rmul_any a (Fld.inv b) _).mono ?_
  rintro e w2 ⟨rfl, rfl⟩
  go_wp2_with fail
  go_ret
  exact ⟨by rw [HV.out]; rfl, rfl⟩

/-- the first k places are different ones -/
def Fld.diff (l : List UInt8) (k : Nat) : Prop := ∀ i j, i < k → j < i → l.getD j 0 ≠ l.getD i 0
theorem Fld.diff_nodup {l : List UInt8} (h : Fld.diff l l.length) : l.Nodup := by
  rw [List.Nodup, List.pairwise_iff_getElem]
  intro i j hi hj hij e
  refine h j i hj hij ?_
  rw [List.getD_eq_getElem?_getD, List.getD_eq_getElem?_getD, List.getElem?_eq_getElem hi, List.getElem?_eq_getElem hj]
  exact e

set_option maxRecDepth 100000 in
set_option maxHeartbeats 1000000 in
theorem Fld.rpoints_any (A A2 : Option Addr) (m c m2 c2 : Nat) (l l2 : List UInt8) (w : World) (hm : m ≤ maxLen) (hm2 : m2 ≤ maxLen) (hrd : RdB w A m l) (hrd2 : RdB w A2 m2 l2) :
    Calls Try.prog 45 #[.slice A m c, .slice A2 m2 c2] w fun e w' => e = .returned (.bool (Fld.ptsB l l2)) ∧ Below w.heap.size w w' := by
  unfold maxLen at hm hm2
  have HR := Lib.hid hrd
  have HL := Lib.hid hrd.len
  have HL2 := Lib.hid hrd2.len
  clear hrd hrd2
  by_cases hl : m = m2
  · have HY := Lib.hid (show Fld.diff l m → Fld.ptsB l l2 = true from fun h => decide_eq_true ⟨Fld.diff_nodup (by rw [HL.out]; exact h), by rw [HL.out, HL2.out]; exact hl⟩)
    have HX := Lib.hid (show ∀ i j, i < m → j < i → l.getD j 0 = l.getD i 0 → Fld.ptsB l l2 = false from fun i j hi hj e => decide_eq_false fun h => Fld.getD_ne_of_nodup l h.1 i j (by rw [HL.out]; exact hi) hj e)
    have d0 : ((m : Int) != (m2 : Int)) = false := by simp [hl]
    have HB0 := Lib.hid (Below.refl w.heap.size w)
    go_enter Try.func45, Try.ntmps45
    go_wp2_with fail
    clear d0
    go_loopw [5] (fun i wr => ∃ k : Nat, k ≤ m ∧ i = .int .i64 k ∧ Fld.diff l k ∧ Below w.heap.size w wr) (fun i _ => m - (intOf i).toNat)
    case atStart => exact ⟨0, by omega, rfl, fun i j hi => absurd hi (by omega), HB0.out⟩
    case round =>
      obtain ⟨k, hk, rfl, hD, hB⟩ := hrel
      have HD := Lib.hid hD
      have HB := Lib.hid hB
      clear hD hB HB0
      by_cases hlt : k < m
      · go_wp2_with fail
        go_loopw [6] (fun i wr => ∃ j : Nat, j ≤ k ∧ i = .int .i64 j ∧ (∀ i, i < j → l.getD i 0 ≠ l.getD k 0) ∧ Below w.heap.size w wr) (fun i _ => k - (intOf i).toNat)
        case atStart => exact ⟨0, by omega, rfl, fun i hi => absurd hi (by omega), HB.out⟩
        case round =>
          obtain ⟨j, hj, rfl, hN, hB⟩ := hrel
          have HN := Lib.hid hN
          have HB2 := Lib.hid hB
          clear hN hB HB
          by_cases hlt2 : j < k
          · obtain ⟨b, off, rfl, _⟩ := HR.out.byte k hlt
            obtain ⟨hbw, ec1⟩ := (HR.out.keep HB2.out).byte2 k hlt
            obtain ⟨_, ec2⟩ := (HR.out.keep HB2.out).byte2 j (by omega)
            have i1 : (0 : Int) ≤ (k : Int) := by omega
            have i2 : (k : Int) < (m : Int) := by omega
            have i3 : (0 : Int) ≤ (j : Int) := by omega
            have i4 : (j : Int) < (m : Int) := by omega
            by_cases he : l.getD j 0 = l.getD k 0
            · have HP := Lib.hid (HX.out k j hlt hlt2 he)
              have hq : (((l.getD j 0).toNat : Int) == ((l.getD k 0).toNat : Int)) = true := by rw [he]; simp
              generalize l.getD j 0 = x at ec2 hq
              generalize l.getD k 0 = y at ec1 hq
              clear he
              go_wp2_with fail
              go_quiet (fail)
              go_wp2
              go_ret
              exact ⟨by rw [HP.out]; rfl, below_drewN HB2.out _⟩
            · have HE := Lib.hid he
              have hq : (((l.getD j 0).toNat : Int) == ((l.getD k 0).toNat : Int)) = false := by
                rw [beq_eq_false_iff_ne]
                intro e
                exact he (UInt8.toNat_inj.1 (by omega))
              have HGN := Lib.hid (show ∀ i, i < j + 1 → l.getD i 0 ≠ l.getD k 0 from fun i hi => by
                by_cases hij : i = j
                · subst hij; exact HE.out
                · exact HN.out i (by omega))
              generalize l.getD j 0 = x at ec2 hq
              generalize l.getD k 0 = y at ec1 hq HGN
              clear he HE
              go_wp2_with fail
              go_quiet (fail)
              go_wp2
              go_roundw
              case rel => exact ⟨j + 1, by omega, by go_num, HGN.out, below_drewN HB2.out _⟩
              case measure => simp [intOf]; omega
          · obtain rfl : j = k := by omega
            have HGN := Lib.hid (show Fld.diff l (j + 1) from fun i i2 hi hi2 => by
              by_cases hij : i = j
              · subst hij; exact HN.out i2 hi2
              · exact HD.out i i2 (by omega) hi2)
            go_wp2_with fail
            go_roundw
            case rel => exact ⟨j + 1, by omega, by go_num, HGN.out, HB2.out⟩
            case measure => simp [intOf]; omega
      · obtain rfl : k = m := by omega
        have HP := Lib.hid (HY.out HD.out)
        go_wp2_with fail
        go_ret
        exact ⟨by rw [HP.out]; rfl, HB.out⟩
  · have HP := Lib.hid (show Fld.ptsB l l2 = false from decide_eq_false fun h => hl (by have := h.2; rw [HL.out, HL2.out] at this; exact this))
    have d0 : ((m : Int) != (m2 : Int)) = true := by simp; omega
    clear hl
    have HB0 := Lib.hid (Below.refl w.heap.size w)
    go_enter Try.func45, Try.ntmps45
    go_wp2_with fail
    go_ret
    exact ⟨by rw [HP.out]; rfl, HB0.out⟩

set_option maxRecDepth 100000 in
set_option maxHeartbeats 1000000 in
theorem Fld.rthrough_any (A A2 : Option Addr) (m c m2 c2 : Nat) (l l2 : List UInt8) (a : UInt8) (w : World) (hm : m ≤ maxLen) (hm2 : m2 ≤ maxLen) (hrd : RdB w A m l) (hrd2 : RdB w A2 m2 l2) :
    Calls Try.prog 38 #[.slice A m c, .slice A2 m2 c2, B8 a] w fun e w' => e = .returned (.tuple #[B8 (Fld.thrV l l2 a), .int .i64 (Fld.thrE l l2)]) ∧ Below w.heap.size w w' := by
  cases hp : Fld.ptsB l l2 with
  | false =>
    have HV := Lib.hid (show Fld.thrV l l2 a = 0 by rw [Fld.thrV, hp]; rfl)
    have HE := Lib.hid (show Fld.thrE l l2 = 1 by rw [Fld.thrE, hp]; rfl)
    have HP := Lib.hid hp
    clear hp
    go_enter Try.func38, Try.ntmps38
    go_wp2_with fail
    refine (Fld.rpoints_any A A2 m c m2 c2 l l2 _ hm hm2 hrd hrd2).mono ?_
    rintro e w1 ⟨rfl, hb⟩
    rw [HP.out]
    have HB := Lib.hid hb
    clear hb
    go_wp2_with fail
    go_ret2
    exact ⟨by rw [HV.out, HE.out]; rfl, HB.out⟩
  | true =>
    have HP := Lib.hid hp
    obtain ⟨hnd, hll⟩ := of_decide_eq_true hp
    obtain rfl : m = m2 := by rw [← hrd.len, ← hrd2.len]; exact hll
    have HE := Lib.hid (show Fld.thrE l l2 = 0 by rw [Fld.thrE, hp]; rfl)
    have HV := Lib.hid (show Fld.thrV l l2 a = Fld.thy l l2 a m by rw [Fld.thrV, if_pos hp, ← Fld.thy_eq l l2 hnd a, hrd.len])
    have HL := Lib.hid hrd.len
    clear hp hnd hll
    go_enter Try.func38, Try.ntmps38
    go_wp2_with fail
    refine (Fld.rpoints_any A A2 m c m c2 l l2 _ hm hm2 hrd hrd2).mono ?_
    rintro e w1 ⟨rfl, hb⟩
    rw [HP.out]
    have HR := Lib.hid hrd
    have HR2 := Lib.hid hrd2
    have HB := Lib.hid hb
    clear hb hrd hrd2
    unfold maxLen at hm
    clear hm2
    go_wp2_with fail
    go_loopw [8, 9] (fun y i wr => ∃ k : Nat, k ≤ m ∧ i = .int .i64 k ∧ y = B8 (Fld.thy l l2 a k) ∧ Below w.heap.size w wr) (fun _ i _ => m - (intOf i).toNat)
    case atStart => exact ⟨0, by omega, rfl, rfl, HB.out⟩
    case round =>
      obtain ⟨i, hi, rfl, rfl, hB⟩ := hrel
      have HB1 := Lib.hid hB
      clear hB HB
      by_cases hlt : i < m
      · obtain ⟨b, off, rfl, _⟩ := HR.out.byte i hlt
        obtain ⟨b2, off2, rfl, hb2, ec2⟩ := (HR2.out.keep HB1.out).byte i hlt
        have HT0 := Lib.hid (show Fld.thn l l2 a i 0 = l2.getD i 0 from rfl)
        rw [← HT0.out] at ec2
        go_wp2_with fail
        go_loopw [10, 11] (fun n k wr => ∃ j : Nat, j ≤ m ∧ k = .int .i64 j ∧ n = B8 (Fld.thn l l2 a i j) ∧ Below w.heap.size w wr) (fun _ k _ => m - (intOf k).toNat)
        case atStart => exact ⟨0, by omega, rfl, rfl, HB1.out⟩
        case round =>
          obtain ⟨j, hj, rfl, rfl, hB⟩ := hrel
          have HB2 := Lib.hid hB
          clear hB HB1 ec2 hb2
          by_cases hlt2 : j < m
          · by_cases hji : j = i
            · subst hji
              have HN := Lib.hid (show Fld.thn l l2 a j (j + 1) = Fld.thn l l2 a j j by rw [Fld.thn, if_pos rfl])
              have d1 : ((j : Int) != (j : Int)) = false := by simp
              go_wp2_with fail
              go_roundw
              case rel => exact ⟨j + 1, by omega, by go_num, by rw [HN.out], HB2.out⟩
              case measure => simp [intOf]; omega
            · obtain ⟨hbw, ec1⟩ := (HR.out.keep HB2.out).byte2 i hlt
              obtain ⟨_, ec3⟩ := (HR.out.keep HB2.out).byte2 j hlt2
              have d1 : ((j : Int) != (i : Int)) = true := by simp; omega
              have HN := Lib.hid (show Fld.thn l l2 a i (j + 1) = Fld.mul (Fld.thn l l2 a i j) (Fld.ovr (a ^^^ l.getD j 0) (l.getD i 0 ^^^ l.getD j 0)) by rw [Fld.thn, if_neg hji])
              generalize l.getD i 0 = xi at ec1 HN
              generalize l.getD j 0 = xj at ec3 HN
              generalize Fld.thn l l2 a i j = n0 at HN ⊢
              have hx1 := Fld.xor8 a xj
              have hx2 := Fld.xor8 xi xj
              have i1 : (0 : Int) ≤ (i : Int) := by omega
              have i2 : (i : Int) < (m : Int) := by omega
              have i3 : (0 : Int) ≤ (j : Int) := by omega
              have i4 : (j : Int) < (m : Int) := by omega
              go_wp2_with fail
              go_quiet ((first | (go_at_call 46; exact quiet_left (Fld.rover_any (a ^^^ xj) (xi ^^^ xj) _)) | (go_at_call 44; exact quiet_left (Fld.rmul_any n0 (Fld.ovr (a ^^^ xj) (xi ^^^ xj)) _))))
              go_wp2
              go_roundw
              case rel => exact ⟨j + 1, by omega, by go_num, by rw [HN.out], below_drewN HB2.out _⟩
              case measure => simp [intOf]; omega
          · obtain rfl : j = m := by omega
            have HY := Lib.hid (show Fld.thy l l2 a (i + 1) = Fld.thy l l2 a i ^^^ Fld.thn l l2 a i j by rw [Fld.thy, HL.out])
            have hx := Fld.xor8 (Fld.thy l l2 a i) (Fld.thn l l2 a i j)
            generalize Fld.thy l l2 a i = y0 at hx HY ⊢
            generalize Fld.thn l l2 a i j = n0 at hx HY ⊢
            go_wp2_with fail
            go_roundw
            case rel => exact ⟨i + 1, by omega, by go_num, by rw [HY.out, B8, UInt8.toNat_xor], HB2.out⟩
            case measure => simp [intOf]; omega
      · obtain rfl : i = m := by omega
        go_wp2_with fail
        go_ret2
        exact ⟨by rw [HV.out, HE.out]; rfl, HB1.out⟩
end Go.Proofs.Ytpijkjpefdlefaa
