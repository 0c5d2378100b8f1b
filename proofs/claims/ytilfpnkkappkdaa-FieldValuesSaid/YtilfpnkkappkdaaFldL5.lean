/- The law FieldUnique returns true. -/
import Derived.Deep.RegionHeld3
import Derived.Deep.RegionWith
import Derived.Test.YtilfpnkkappkdaaFldSane
namespace Go.Proofs.Ytilfpnkkappkdaa
open Go.RowKit Go.Shelf
set_option linter.unusedVariables false

/-- the arguments and the polynomial read as they did -/
structure Fld.U (w : World) (A A2 A3 A9 : Option Addr) (m m3 : Nat) (xs ys o cf : List UInt8) (wr : World) : Prop where
  x : RdB wr A m xs
  y : RdB wr A2 m ys
  o : RdB wr A3 m3 o
  c : RdB wr A9 m cf
  b : Below w.heap.size w wr
section
variable {w wr w' : World} {A A2 A3 A9 : Option Addr} {m m3 : Nat} {xs ys o cf : List UInt8}
theorem Fld.U.keep (h : Fld.U w A A2 A3 A9 m m3 xs ys o cf wr) (hb : Below wr.heap.size wr w') : Fld.U w A A2 A3 A9 m m3 xs ys o cf w' :=
  ⟨h.x.keep hb, h.y.keep hb, h.o.keep hb, h.c.keep hb, h.b.trans (hb.mono h.b.size)⟩
theorem Fld.U.drew (h : Fld.U w A A2 A3 A9 m m3 xs ys o cf wr) : Fld.U w A A2 A3 A9 m m3 xs ys o cf wr.drew := ⟨h.x, h.y, h.o, h.c, h.b.drew⟩
theorem Fld.U.drewN (h : Fld.U w A A2 A3 A9 m m3 xs ys o cf wr) (n : Nat) : Fld.U w A A2 A3 A9 m m3 xs ys o cf (wr.drewN n) := ⟨h.x, h.y, h.o, h.c, below_drewN h.b n⟩
end
theorem Fld.thr_at (xs ys : List UInt8) (hp : Fld.ptsB xs ys = true) (k : Nat) (hk : k < xs.length) : Fld.thrV xs ys (xs.getD k 0) = ys.getD k 0 ∧ Fld.thrE xs ys = 0 ∧ Fld.ev (Fld.coefs xs ys) (xs.getD k 0) = ys.getD k 0 := by
  have h := Fld.coefs_vals xs ys (of_decide_eq_true hp).1 k hk
  exact ⟨by rw [Fld.thrV, if_pos hp, h], by rw [Fld.thrE, if_pos hp], h⟩
theorem Fld.uni (xs ys o : List UInt8) (hp : Fld.ptsB xs ys = true) (ho : o.length ≤ xs.length) (h : ∀ j, j < xs.length → Fld.ev o (xs.getD j 0) = ys.getD j 0) (k : Nat) : (Fld.coefs xs ys).getD k 0 = o.getD k 0 := by
  rw [Fld.coefs_unique xs ys o (of_decide_eq_true hp).1 ho h, List.getD_eq_getElem?_getD, List.getD_eq_getElem?_getD, List.getElem?_append]
  by_cases hk : k < o.length
  · rw [if_pos hk]
  · rw [if_neg hk, List.getElem?_eq_none (l := o) (by omega), List.getElem?_replicate]
    split <;> rfl

set_option maxRecDepth 100000 in
set_option maxHeartbeats 4000000 in
theorem Fld.law5a (A A2 A3 : Option Addr) (m c m2 c2 m3 c3 : Nat) (xs ys o : List UInt8) (a : UInt8) (w : World) (hx : RdB w A m xs) (hy : RdB w A2 m2 ys) (ho : RdB w A3 m3 o) (hm : m ≤ maxLen) (hm2 : m2 ≤ maxLen) (hm3 : m3 ≤ maxLen) (hbig : 12 < m ∨ 20 < m2 ∨ 20 < m3) :
    Calls Try.prog 6 #[.slice A m c, .slice A2 m2 c2, .slice A3 m3 c3, B8 a] w fun e w' => e = .returned (.bool true) ∧ Below w.heap.size w w' := by
  by_cases h1 : 12 < m
  · go_enter Try.func6, Try.ntmps6
    go_wp2_with fail
    refine (Fld.sane_any _).mono ?_
    rintro e w1 ⟨rfl, hb1⟩
    have HB1 := Lib.hid hb1
    clear hb1
    go_wp2_with fail
    go_ret
    exact ⟨rfl, HB1.out⟩
  · by_cases h2 : 20 < m2
    · go_enter Try.func6, Try.ntmps6
      go_wp2_with fail
      refine (Fld.sane_any _).mono ?_
      rintro e w1 ⟨rfl, hb1⟩
      have HB1 := Lib.hid hb1
      clear hb1
      go_wp2_with fail
      go_ret
      exact ⟨rfl, HB1.out⟩
    · have h3 : 20 < m3 := by omega
      go_enter Try.func6, Try.ntmps6
      go_wp2_with fail
      refine (Fld.sane_any _).mono ?_
      rintro e w1 ⟨rfl, hb1⟩
      have HB1 := Lib.hid hb1
      clear hb1
      go_wp2_with fail
      go_ret
      exact ⟨rfl, HB1.out⟩

set_option maxRecDepth 100000 in
set_option maxHeartbeats 4000000 in
theorem Fld.law5b (A A2 A3 : Option Addr) (m c m2 c2 m3 c3 : Nat) (xs ys o : List UInt8) (a : UInt8) (w : World) (hx : RdB w A m xs) (hy : RdB w A2 m2 ys) (ho : RdB w A3 m3 o) (hm : m ≤ 12) (hm2 : m2 ≤ 20) (hm3 : m3 ≤ 20) (hp : Fld.ptsB xs ys = false) :
    Calls Try.prog 6 #[.slice A m c, .slice A2 m2 c2, .slice A3 m3 c3, B8 a] w fun e w' => e = .returned (.bool true) ∧ Below w.heap.size w w' := by
  have HP := Lib.hid hp
  have HV := Lib.hid (show Fld.thrV xs ys a = 0 by rw [Fld.thrV, hp]; rfl)
  have HE := Lib.hid (show Fld.thrE xs ys = 1 by rw [Fld.thrE, hp]; rfl)
  clear hp
  go_enter Try.func6, Try.ntmps6
  go_wp2_with fail
  refine (Fld.sane_any _).mono ?_
  rintro e w1 ⟨rfl, hb1⟩
  have HX := Lib.hid (hx.keep hb1)
  have HY := Lib.hid (hy.keep hb1)
  have HB1 := Lib.hid hb1
  clear hb1
  go_wp2_with fail
  refine (Fld.coef_no A A2 m c m2 c2 xs ys w1 HX.out.len HY.out.len (by unfold maxLen; omega) (by unfold maxLen; omega) HX.out HP.out).mono ?_
  rintro e w2 ⟨rfl, hb2⟩
  have HX2 := Lib.hid (HX.out.keep hb2)
  have HY2 := Lib.hid (HY.out.keep hb2)
  have HB2 := Lib.hid (HB1.out.trans (hb2.mono HB1.out.size))
  clear hb2 HX HY HB1
  go_wp2_with fail
  refine (Fld.through_any A A2 m c m2 c2 xs ys a w2 (by omega) (by unfold maxLen; omega) HX2.out HY2.out).mono ?_
  rintro e w3 ⟨rfl, hb3⟩
  rw [HV.out, HE.out]
  have HB3 := Lib.hid (HB2.out.trans (hb3.mono HB2.out.size))
  clear hb3 HB2
  go_wp2_with fail
  go_ret
  exact ⟨rfl, HB3.out⟩

set_option maxRecDepth 100000 in
set_option maxHeartbeats 4000000 in
theorem Fld.law5c (A A2 A3 : Option Addr) (m c c2 m3 c3 : Nat) (xs ys o : List UInt8) (a : UInt8) (w : World) (hx : RdB w A m xs) (hy : RdB w A2 m ys) (ho : RdB w A3 m3 o) (hm : m ≤ 12) (hm3 : m3 ≤ 20) (hp : Fld.ptsB xs ys = true) :
    Calls Try.prog 6 #[.slice A m c, .slice A2 m c2, .slice A3 m3 c3, B8 a] w fun e w' => e = .returned (.bool true) ∧ Below w.heap.size w w' := by
  have HP := Lib.hid hp
  have HV := Lib.hid (show Fld.thrV xs ys a = Fld.ev (Fld.coefs xs ys) a by rw [Fld.thrV, if_pos hp])
  have HE := Lib.hid (show Fld.thrE xs ys = 0 by rw [Fld.thrE, if_pos hp])
  have HU := Lib.hid (Fld.uni xs ys o hp)
  have HT := Lib.hid (Fld.thr_at xs ys hp)
  have HL := Lib.hid hx.len
  have HLO := Lib.hid ho.len
  have HCL := Lib.hid (Fld.coefs_len xs ys)
  rw [hx.len] at HT HU HCL
  rw [ho.len] at HU
  clear hp
  go_enter Try.func6, Try.ntmps6
  go_wp2_with fail
  refine (Fld.sane_any _).mono ?_
  rintro e w1 ⟨rfl, hb1⟩
  have HX := Lib.hid (hx.keep hb1)
  have HY := Lib.hid (hy.keep hb1)
  have HO := Lib.hid (ho.keep hb1)
  have HB1 := Lib.hid hb1
  clear hb1
  go_wp2_with fail
  refine (Fld.coef_yes A A2 m c m c2 xs ys w1 HX.out.len HY.out.len (by omega) (by unfold maxLen; omega) HX.out HY.out HP.out).mono ?_
  rintro e w2 ⟨v, rfl, hown, hb2⟩
  obtain ⟨A9, c9, rfl⟩ := own_form hown
  have U2 := Lib.hid (show Fld.U w A A2 A3 A9 m m3 xs ys o (Fld.coefs xs ys) w2 from ⟨HX.out.keep hb2, HY.out.keep hb2, HO.out.keep hb2, RdB.of_own hown, HB1.out.trans (hb2.mono HB1.out.size)⟩)
  clear hb2 HX HY HO HB1 hown hx hy ho
  generalize Fld.coefs xs ys = cf at *
  go_wp2_with fail
  refine (Fld.through_any A A2 m c m c2 xs ys a w2 (by omega) (by unfold maxLen; omega) U2.out.x U2.out.y).mono ?_
  rintro e w3 ⟨rfl, hb3⟩
  rw [HV.out, HE.out]
  have U3 := Lib.hid (U2.out.keep hb3)
  clear hb3 U2
  go_wp2_with fail
  refine (Fld.eval_ev A9 m c9 cf a w3 HCL.out (by unfold maxLen; omega) U3.out.c).mono ?_
  rintro e w4 ⟨rfl, hb4⟩
  have U4 := Lib.hid (U3.out.keep hb4)
  clear hb4 U3
  by_cases hmm : m3 ≤ m
  all_goals (
    go_wp2_with fail
    go_loopw [13, 14] (fun s i wr => ∃ (k : Nat) (t : Bool), k ≤ m ∧ i = .int .i64 k ∧ s = .bool t ∧ (t = true → m3 ≤ m ∧ ∀ j, j < k → Fld.ev o (xs.getD j 0) = ys.getD j 0) ∧ Fld.U w A A2 A3 A9 m m3 xs ys o cf wr) (fun _ i _ => m - (intOf i).toNat)
    case atStart => exact ⟨0, _, by omega, rfl, rfl, fun h => ⟨by first | omega | (simp at h), fun j hj => absurd hj (by omega)⟩, U4.out⟩
    case round =>
      obtain ⟨k, t, hk, rfl, rfl, hs, hU⟩ := hrel
      have HS := Lib.hid hs
      have U5 := Lib.hid hU
      clear hs hU U4
      by_cases hlt : k < m
      · obtain ⟨b, off, rfl, hbB, ec⟩ := U5.out.x.byte k hlt
        obtain ⟨b2, off2, rfl, hbB2, ec2⟩ := U5.out.y.byte k hlt
        obtain ⟨t1, t2, t3⟩ := HT.out k hlt
        have T1 := Lib.hid t1
        have T3 := Lib.hid t3
        clear t1 t2 t3
        have HN := Lib.hid (show ∀ eo yy : UInt8, Fld.ev o (xs.getD k 0) = eo → ys.getD k 0 = yy → t = true → eo = yy → m3 ≤ m ∧ ∀ j, j < k + 1 → Fld.ev o (xs.getD j 0) = ys.getD j 0 from fun eo yy h1 h2 h3 h4 => ⟨(HS.out h3).1, fun j hj => by
          by_cases hjk : j = k
          · subst hjk; rw [h1, h2, h4]
          · exact (HS.out h3).2 j (by omega)⟩)
        obtain ⟨eo, heo⟩ : ∃ eo, Fld.ev o (xs.getD k 0) = eo := ⟨_, rfl⟩
        obtain ⟨y, hyy⟩ : ∃ y, ys.getD k 0 = y := ⟨_, rfl⟩
        have HN2 := Lib.hid (HN.out eo y heo hyy)
        rw [hyy] at T1 T3 ec2
        have HEO := Lib.hid heo
        clear hyy heo HN
        generalize xs.getD k 0 = x at T1 T3 ec HEO
        go_wp2_with fail
        refine (Fld.through_any (some ⟨b, off, none⟩) (some ⟨b2, off2, none⟩) m c m c2 xs ys x wr (by omega) (by unfold maxLen; omega) U5.out.x U5.out.y).mono ?_
        rintro e w5 ⟨rfl, hb5⟩
        rw [T1.out, HE.out]
        have ec5 := (hb5.cell (p := ⟨b, off + k, none⟩) hbB).trans ec
        have ec6 := (hb5.cell (p := ⟨b2, off2 + k, none⟩) hbB2).trans ec2
        have z5 : b < w5.heap.size := Nat.lt_of_lt_of_le hbB hb5.size
        have z6 : b2 < w5.heap.size := Nat.lt_of_lt_of_le hbB2 hb5.size
        have U6 := Lib.hid (U5.out.keep hb5)
        clear hb5 U5 ec ec2 hbB hbB2
        go_wp2_with fail
        go_region_held3 (fun w' => w'.cell? ⟨b, off + k, none⟩ = some (B8 x) ∧ w'.cell? ⟨b2, off2 + k, none⟩ = some (B8 y) ∧ Fld.U w (some ⟨b, off, none⟩) (some ⟨b2, off2, none⟩) A3 A9 m m3 xs ys o cf w')
          (first | exact ⟨ec5, ec6, U6.out.drew⟩ | exact ⟨ec5, ec6, U6.out⟩ | exact ⟨ka, kb, kU⟩)
          (first | (go_at_call 15; refine (Fld.eval_ev A9 m c9 cf x _ HCL.out (by unfold maxLen; omega) U6.out.drew.c).mono ?_; rintro e w7 ⟨rfl, hb7⟩; rw [T3.out]; have kU := U6.out.drew.keep hb7; have ka := (hb7.cell (p := ⟨b, off + k, none⟩) z5).trans ec5; have kb := (hb7.cell (p := ⟨b2, off2 + k, none⟩) z6).trans ec6; have z7 : b < w7.heap.size := Nat.lt_of_lt_of_le z5 hb7.size; have z8 : b2 < w7.heap.size := Nat.lt_of_lt_of_le z6 hb7.size))
        have U7 := Lib.hid kU
        clear kU hb7 ec5 ec6 U6 z5 z6
        cases t with
        | false =>
          go_wp2_with fail
          go_quiet (fail)
          go_wp2_with fail
          go_roundw
          case rel => exact ⟨k + 1, false, by omega, by go_num, rfl, fun h => by (cases h), U7.out.drewN _⟩
          case measure => simp [intOf]; omega
        | true =>
          by_cases hev : eo = y
          · have hq : ((eo.toNat : Int) == (y.toNat : Int)) = true := by rw [hev]; simp
            have HV2 := Lib.hid (HN2.out rfl hev)
            clear hev
            go_wp2_with fail
            go_region_held3 (fun w' => w'.cell? ⟨b, off + k, none⟩ = some (B8 x) ∧ w'.cell? ⟨b2, off2 + k, none⟩ = some (B8 y) ∧ Fld.U w (some ⟨b, off, none⟩) (some ⟨b2, off2, none⟩) A3 A9 m m3 xs ys o cf w')
              (first | exact ⟨ka, kb, U7.out.drew⟩ | exact ⟨kc, kd, kV⟩)
              (first | (go_at_call 15; refine (Fld.eval_ev A3 m3 c3 o x _ HLO.out (by unfold maxLen; omega) U7.out.drew.o).mono ?_; rintro e w9 ⟨rfl, hb9⟩; rw [HEO.out]; have kV := U7.out.drew.keep hb9; have kc := (hb9.cell (p := ⟨b, off + k, none⟩) z7).trans ka; have kd := (hb9.cell (p := ⟨b2, off2 + k, none⟩) z8).trans kb))
            have U9 := Lib.hid kV
            clear kV hb9
            go_wp2_with fail
            go_roundw
            case rel => exact ⟨k + 1, true, by omega, by go_num, rfl, fun _ => HV2.out, U9.out⟩
            case measure => simp [intOf]; omega
          · have hq : ((eo.toNat : Int) == (y.toNat : Int)) = false := by
              rw [beq_eq_false_iff_ne]
              intro e
              exact hev (UInt8.toNat_inj.1 (by omega))
            clear hev
            go_wp2_with fail
            go_region_held3 (fun w' => w'.cell? ⟨b, off + k, none⟩ = some (B8 x) ∧ w'.cell? ⟨b2, off2 + k, none⟩ = some (B8 y) ∧ Fld.U w (some ⟨b, off, none⟩) (some ⟨b2, off2, none⟩) A3 A9 m m3 xs ys o cf w')
              (first | exact ⟨ka, kb, U7.out.drew⟩ | exact ⟨kc, kd, kV⟩)
              (first | (go_at_call 15; refine (Fld.eval_ev A3 m3 c3 o x _ HLO.out (by unfold maxLen; omega) U7.out.drew.o).mono ?_; rintro e w9 ⟨rfl, hb9⟩; rw [HEO.out]; have kV := U7.out.drew.keep hb9; have kc := (hb9.cell (p := ⟨b, off + k, none⟩) z7).trans ka; have kd := (hb9.cell (p := ⟨b2, off2 + k, none⟩) z8).trans kb))
            have U9 := Lib.hid kV
            clear kV hb9
            go_wp2_with fail
            go_roundw
            case rel => exact ⟨k + 1, false, by omega, by go_num, rfl, fun h => by (cases h), U9.out⟩
            case measure => simp [intOf]; omega
      · obtain rfl : k = m := by omega
        cases t with
        | false =>
          go_wp2_with fail
          go_ret
          exact ⟨rfl, U5.out.b⟩
        | true =>
          have HG := Lib.hid (HU.out (HS.out rfl).1 (HS.out rfl).2)
          clear HU HT HS
          go_wp2_with fail
          go_loop [17] (fun i => ∃ j : Nat, j ≤ k ∧ i = .int .i64 j) (fun i => k - (intOf i).toNat)
          case atStart => exact ⟨0, by omega, rfl⟩
          case round =>
            obtain ⟨j, hj, rfl⟩ := hrel
            by_cases hlt2 : j < k
            · obtain ⟨b, off, rfl, hbB, ec⟩ := U5.out.c.byte j hlt2
              rw [HG.out j] at ec
              by_cases hlt3 : j < m3
              · obtain ⟨b2, off2, rfl, hbB2, ec2⟩ := U5.out.o.byte j hlt3
                generalize o.getD j 0 = oj at ec ec2
                go_wp2_with fail
                go_round
                case rel => exact ⟨j + 1, by omega, by go_num⟩
                case measure => simp [intOf]; omega
              · rw [Fld.getD_long o j (by rw [HLO.out]; omega)] at ec
                go_wp2_with fail
                go_round
                case rel => exact ⟨j + 1, by omega, by go_num⟩
                case measure => simp [intOf]; omega
            · go_wp2_with fail
              go_ret
              exact ⟨rfl, U5.out.b⟩)

theorem Fld.law5 (A A2 A3 : Option Addr) (m c m2 c2 m3 c3 : Nat) (xs ys o : List UInt8) (a : UInt8) (w : World) (hx : RdB w A m xs) (hy : RdB w A2 m2 ys) (ho : RdB w A3 m3 o) (hm : m ≤ maxLen) (hm2 : m2 ≤ maxLen) (hm3 : m3 ≤ maxLen) :
    Calls Try.prog 6 #[.slice A m c, .slice A2 m2 c2, .slice A3 m3 c3, B8 a] w fun e w' => e = .returned (.bool true) ∧ Below w.heap.size w w' := by
  by_cases hbig : 12 < m ∨ 20 < m2 ∨ 20 < m3
  · exact Fld.law5a A A2 A3 m c m2 c2 m3 c3 xs ys o a w hx hy ho hm hm2 hm3 hbig
  · cases hp : Fld.ptsB xs ys with
    | false => exact Fld.law5b A A2 A3 m c m2 c2 m3 c3 xs ys o a w hx hy ho (by omega) (by omega) (by omega) hp
    | true =>
      have e : m = m2 := by rw [← hx.len, ← hy.len]; exact (of_decide_eq_true hp).2
      subst e
      exact Fld.law5c A A2 A3 m c c2 m3 c3 xs ys o a w hx hy ho (by omega) (by omega) hp
end Go.Proofs.Ytilfpnkkappkdaa
