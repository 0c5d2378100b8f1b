import Derived.Test.YtideglpjgplpnaaDoorMFldR3
/- Contract of the reference's Coefficients: for all points, the same answer as the program's. -/
namespace Go.Proofs.YtideglpjgplpnaaDoor
open Go.RowKit Go.Shelf
set_option linter.unusedVariables false

/-- a slice of bytes and OK are handed back -/
def Fld.RetCo (w : World) (m : Nat) (r : List UInt8) (e : Ending) (w' : World) : Prop := ∃ A c, e = .returned (.tuple #[.slice A m c, .int .i64 0]) ∧ m ≤ c ∧ c ≤ maxLen ∧ RdB w' A m r ∧ (A = none → c = 0) ∧ Below w.heap.size w w'

set_option maxRecDepth 100000 in
set_option maxHeartbeats 2000000 in
theorem Fld.rcoef_yes (A A2 : Option Addr) (m c m2 c2 : Nat) (l l2 : List UInt8) (w : World) (hm : m ≤ 100000) (hm2 : m2 ≤ maxLen) (hrd : RdB w A m l) (hrd2 : RdB w A2 m2 l2) (hp : Fld.ptsB l l2 = true) :
    Calls Tryd.prog 76 #[.slice A m c, .slice A2 m2 c2] w (Fld.RetCo w m (Fld.coefs l l2)) := by
  have HP := Lib.hid hp
  obtain ⟨hnd, hll⟩ := of_decide_eq_true hp
  obtain rfl : m = m2 := by rw [← hrd.len, ← hrd2.len]; exact hll
  have HL := Lib.hid hrd.len
  have HV := Lib.hid (show Fld.coefs l l2 = Fld.lag l l2 m by rw [← Fld.lag_eq l l2 hnd, hrd.len])
  have HR := Lib.hid hrd
  have HR2 := Lib.hid hrd2
  clear hp hnd hll hrd hrd2
  go_enter Tryd.func76, Tryd.ntmps76
  go_wp2_with fail
  refine (Fld.rpoints_any A A2 m c m c2 l l2 _ (by unfold maxLen; omega) hm2 HR.out HR2.out).mono ?_
  rintro e w1 ⟨rfl, hb1⟩
  rw [HP.out]
  have HB1 := Lib.hid hb1
  clear hb1
  obtain ⟨w2, hmk, hH2, hb2⟩ := Fld.make8 m (m : Int) rfl (by omega) w1
  have HB2 := Lib.hid (HB1.out.trans (hb2.mono HB1.out.size))
  have HH2 := Lib.hid hH2
  have HG0 := Lib.hid HB1.out.size
  clear hH2 hb2
  go_wp2_with fail
  clear hmk
  generalize w1.heap.size = g0 at HH2 HG0 ⊢
  go_loopw [7] (fun i wr => ∃ k : Nat, k ≤ m ∧ i = .int .i64 k ∧ Has wr g0 5 ((Fld.lag l l2 k).map B8) ∧ Below w.heap.size w wr) (fun i _ => m - (intOf i).toNat)
  case atStart => exact ⟨0, by omega, rfl, by rw [Fld.lag, HL.out]; exact HH2.out, HB2.out⟩
  case round =>
    obtain ⟨i, hi, rfl, hH, hB⟩ := hrel
    have HH := Lib.hid hH
    have HB := Lib.hid hB
    have zr := hB.size
    have zg := hH.lt
    clear hH hB HH2 HB2
    by_cases hlt : i < m
    · obtain ⟨b, off, rfl, _⟩ := HR.out.byte i hlt
      obtain ⟨b2, off2, rfl, hb2, ec2⟩ := (HR2.out.keep HB.out).byte i hlt
      have HT0 := Lib.hid (show Fld.one l l2 i 0 = [l2.getD i 0] from rfl)
      generalize l2.getD i 0 = y at ec2 HT0
      go_wp2_with fail
      go_loopw [8, 9] (fun v k wi => ∃ j g q : Nat, j ≤ m ∧ k = .int .i64 j ∧ q = (Fld.one l l2 i j).length ∧ q ≤ m + 1 ∧ v = .slice (some ⟨g, 0, none⟩) q q ∧ Has wi g 5 ((Fld.one l l2 i j).map B8) ∧ g0 ≠ g ∧ Has wi g0 5 ((Fld.lag l l2 i).map B8) ∧ Below w.heap.size w wi) (fun _ k _ => m - (intOf k).toNat)
      case atStart => exact ⟨0, wr.heap.size, 1, by omega, rfl, by rw [HT0.out]; rfl, by omega, rfl, by rw [HT0.out]; exact Has.new wr 5 [B8 y], by omega, HH.out.alloc _, HB.out.alloc HB.out.size _⟩
      case round =>
        obtain ⟨j, g, q, hj, rfl, hq, hqm, rfl, hO, hne, hH, hB⟩ := hrel
        have HQ := Lib.hid hq
        have HO := Lib.hid hO
        have HHi := Lib.hid hH
        have HBi := Lib.hid hB
        have zri := hB.size
        have zgi := hH.lt
        clear hq hO hH hB HH HB ec2 hb2
        by_cases hlt2 : j < m
        · by_cases hji : j = i
          · subst hji
            have HN := Lib.hid (show Fld.one l l2 j (j + 1) = Fld.one l l2 j j by rw [Fld.one, if_pos rfl])
            have d1 : ((j : Int) != (j : Int)) = false := by simp
            go_wp2_with fail
            go_roundw
            case rel => exact ⟨j + 1, g, q, by omega, by go_num, by rw [HN.out]; exact HQ.out, hqm, rfl, by rw [HN.out]; exact HO.out, hne, HHi.out, HBi.out⟩
            case measure => simp [intOf]; omega
          · obtain ⟨hbw, ec1⟩ := (HR.out.keep HBi.out).byte2 i hlt
            obtain ⟨_, ec3⟩ := (HR.out.keep HBi.out).byte2 j hlt2
            have d1 : ((j : Int) != (i : Int)) = true := by simp; omega
            have HN := Lib.hid (show Fld.one l l2 i (j + 1) = Fld.tim (Fld.one l l2 i j) (Fld.mul (Fld.ovr 1 (l.getD i 0 ^^^ l.getD j 0)) (l.getD j 0)) (Fld.ovr 1 (l.getD i 0 ^^^ l.getD j 0)) by rw [Fld.one, if_neg hji])
            have HQ2 := Lib.hid (show q + 1 ≤ m + 1 by
              have h := Fld.one_len l l2 i j
              rw [← HQ.out] at h
              by_cases h2 : j ≤ i
              · rw [if_pos h2] at h; omega
              · rw [if_neg h2] at h; omega)
            generalize l.getD i 0 = xi at ec1 HN
            generalize l.getD j 0 = xj at ec3 HN
            generalize Fld.one l l2 i j = on at HN HO HQ
            have hx1 := Fld.xor8 xi xj
            have i1 : (0 : Int) ≤ (i : Int) := by omega
            have i2 : (i : Int) < (m : Int) := by omega
            have i3 : (0 : Int) ≤ (j : Int) := by omega
            have i4 : (j : Int) < (m : Int) := by omega
            have HOV := Lib.hid (Fld.rover_any 1 (xi ^^^ xj))
            generalize Fld.ovr 1 (xi ^^^ xj) = cc at HN HOV
            go_wp2_with fail
            go_quiet ((go_at_call 91; exact quiet_left (HOV.out _)))
            clear ec1
            obtain ⟨wd, hwd⟩ : ∃ wd, wr.drewN nq = wd := ⟨_, rfl⟩
            have ec3d : wd.cell? ⟨b, off + j, none⟩ = some (B8 xj) := by rw [← hwd]; exact ec3
            have hbwd : b < wd.heap.size := by rw [← hwd]; exact hbw
            have HOd := Lib.hid (show Has wd g 5 (on.map B8) by rw [← hwd]; exact HO.out.drewN _)
            have HHd := Lib.hid (show Has wd g0 5 ((Fld.lag l l2 i).map B8) by rw [← hwd]; exact HHi.out.drewN _)
            have HBd := Lib.hid (show Below w.heap.size w wd by rw [← hwd]; exact below_drewN HBi.out _)
            rw [hwd]
            clear hwd ec3 hbw HO HHi HBi zgi zri
            go_wp2_with fail
            refine (Fld.rmul_any cc xj _).mono ?_
            rintro e w5 ⟨rfl, rfl⟩
            generalize Fld.mul cc xj = ca at HN ⊢
            go_wp2_with fail
            have zgd := HHd.out.lt
            have zrd := HBd.out.size
            refine (Fld.rtimes_any (some ⟨g, 0, none⟩) q q on ca cc wd (by
              have h := HOd.out.rd (n := q) (by rw [List.length_map]; exact HQ.out.symm)
              exact h) (by omega)).mono ?_
            rintro e w6 ⟨rfl, hT6, hb6⟩
            have HT6 := Lib.hid hT6
            have HH6 := Lib.hid (HHd.out.keep hb6)
            have HB6 := Lib.hid (HBd.out.trans (hb6.mono HBd.out.size))
            have HQL := Lib.hid (show q + 1 = (Fld.one l l2 i (j + 1)).length by rw [HN.out, Fld.tim_len, ← HQ.out])
            clear hT6 hb6 ec3d
            go_wp2_with fail
            go_roundw
            case rel => exact ⟨j + 1, wd.heap.size, q + 1, by omega, by go_num, HQL.out, HQ2.out, rfl, by rw [HN.out]; exact HT6.out, by omega, HH6.out, HB6.out⟩
            case measure => simp [intOf]; omega
        · obtain rfl : j = m := by omega
          have HOL := Lib.hid (show (Fld.one l l2 i j).length = j by have h := Fld.one_len_all l l2 i (by rw [HL.out]; exact hlt); rw [HL.out] at h; exact h)
          obtain rfl : q = j := by rw [HQ.out, HOL.out]
          clear HT0
          go_wp2_with fail
          go_loopw [11] (fun k wj => ∃ p : Nat, p ≤ q ∧ k = .int .i64 p ∧ Has wj g0 5 ((Fld.lagp l l2 i p).map B8) ∧ Has wj g 5 ((Fld.one l l2 i q).map B8) ∧ Below w.heap.size w wj) (fun k _ => q - (intOf k).toNat)
          case atStart => exact ⟨0, by omega, rfl, by rw [Fld.lagp_zero]; exact HHi.out, HO.out, HBi.out⟩
          case round =>
            obtain ⟨p, hp, rfl, hH, hO, hB⟩ := hrel
            have HH := Lib.hid hH
            have HO2 := Lib.hid hO
            have HB := Lib.hid hB
            clear hH hO hB HHi HO HBi zgi zri
            by_cases hlt3 : p < q
            · have e1 := HH.out.byte p (by rw [Fld.lagp_len l l2 i p (by rw [HL.out]; exact hlt), HL.out]; exact hlt3)
              have f1 := HH.out.frozen p
              have z1 := HH.out.lt
              have e2 := HO2.out.byte p (by rw [HOL.out]; exact hlt3)
              have z2 := HO2.out.lt
              have HS := Lib.hid (show (Fld.lagp l l2 i p).set p ((Fld.lagp l l2 i p).getD p 0 ^^^ (Fld.one l l2 i q).getD p 0) = Fld.lagp l l2 i (p + 1) by
                have h := Fld.lagp_set l l2 i p (by rw [HL.out]; exact hlt) (by rw [HL.out]; exact hlt3)
                rw [HL.out] at h
                exact h)
              have HHx := Lib.hid (show ∀ v : UInt8, Has (wr.setCell ⟨g0, p, none⟩ (B8 v)).drew g0 5 (((Fld.lagp l l2 i p).set p v).map B8) ∧ Has (wr.setCell ⟨g0, p, none⟩ (B8 v)).drew g 5 ((Fld.one l l2 i q).map B8) ∧ Below w.heap.size w (wr.setCell ⟨g0, p, none⟩ (B8 v)).drew from fun v => ⟨by rw [List.map_set]; exact (HH.out.set p (B8 v)).drew, (HO2.out.far (p := ⟨g0, p, none⟩) (Ne.symm hne) _).drew, (HB.out.setCell HG0.out _).drew⟩)
              generalize (Fld.lagp l l2 i p).getD p 0 = x0 at e1 HS
              generalize (Fld.one l l2 i q).getD p 0 = x1 at e2 HS
              have HX := Lib.hid (Fld.xor8 x0 x1)
              have i1 : (0 : Int) ≤ (p : Int) := by omega
              have i2 : (p : Int) < (q : Int) := by omega
              go_wp2_with fail
              go_region_with fail
              all_goals (
                rw [HX.out]
                have h9 := HHx.out (x0 ^^^ x1)
                rw [HS.out] at h9
                have H9 := Lib.hid h9
                clear h9 e1 f1 e2
                go_wp2_with fail
                go_roundw
                case rel => exact ⟨p + 1, by omega, by go_num, H9.out.1, H9.out.2.1, H9.out.2.2⟩
                case measure => simp [intOf]; omega)
            · obtain rfl : p = q := by omega
              have HLA := Lib.hid (show Fld.lagp l l2 i p = Fld.lag l l2 (i + 1) by have h := Fld.lagp_all l l2 i (by rw [HL.out]; exact hlt); rw [HL.out] at h; exact h)
              go_wp2_with fail
              go_roundw
              case rel => exact ⟨i + 1, by omega, by go_num, by rw [← HLA.out]; exact HH.out, HB.out⟩
              case measure => simp [intOf]; omega
    · obtain rfl : i = m := by omega
      have HLL := Lib.hid (Fld.lag_len l l2 i (by rw [HL.out]; exact Nat.le_refl _))
      go_wp2_with fail
      go_ret2
      refine ⟨some ⟨g0, 0, none⟩, i, rfl, Nat.le_refl _, by unfold maxLen; omega, ?_, (fun e => by cases e), HB.out⟩
      rw [HV.out]
      exact HH.out.rd (by rw [List.length_map, HLL.out, HL.out])
end Go.Proofs.YtideglpjgplpnaaDoor
