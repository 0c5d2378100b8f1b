/- The law FieldValues returns true. -/
import Derived.Test.YtilfpnkkappkdaaFldL5
namespace Go.Proofs.Ytilfpnkkappkdaa
open Go.RowKit Go.Shelf
set_option linter.unusedVariables false

/-- the values of a polynomial at places -/
def Fld.vals (l xs : List UInt8) : List UInt8 := xs.map (Fld.ev l)
theorem Fld.vals_len (l xs : List UInt8) : (Fld.vals l xs).length = xs.length := by simp [Fld.vals]
theorem Fld.vals_getD (l xs : List UInt8) (j : Nat) (hj : j < xs.length) : Fld.ev l (xs.getD j 0) = (Fld.vals l xs).getD j 0 := by
  rw [Fld.vals, List.getD_eq_getElem?_getD, List.getD_eq_getElem?_getD, List.getElem?_map, List.getElem?_eq_getElem hj]
  rfl
theorem Fld.vals_take (l xs : List UInt8) (k : Nat) (hk : k < xs.length) : (Fld.vals l xs).take (k + 1) = (Fld.vals l xs).take k ++ [Fld.ev l (xs.getD k 0)] := by
  rw [Fld.take_snoc _ _ (by rw [Fld.vals_len]; exact hk), Fld.vals_getD l xs k hk]
theorem Fld.vals_coefs (l xs : List UInt8) (hp : Fld.ptsB xs (Fld.vals l xs) = true) (hl : l.length ≤ xs.length) (k : Nat) : (Fld.coefs xs (Fld.vals l xs)).getD k 0 = l.getD k 0 :=
  Fld.uni xs (Fld.vals l xs) l hp hl (fun j hj => Fld.vals_getD l xs j hj) k
theorem Fld.vals_ev (l xs : List UInt8) (hp : Fld.ptsB xs (Fld.vals l xs) = true) (hl : l.length ≤ xs.length) (a : UInt8) : Fld.ev (Fld.coefs xs (Fld.vals l xs)) a = Fld.ev l a := by
  rw [Fld.coefs_unique xs _ l (of_decide_eq_true hp).1 hl (fun j hj => Fld.vals_getD l xs j hj), Fld.ev_pad]

set_option maxRecDepth 100000 in
set_option maxHeartbeats 4000000 in
theorem Fld.law6a (A A2 : Option Addr) (m c m2 c2 : Nat) (l xs : List UInt8) (a : UInt8) (w : World) (hm : m ≤ maxLen) (hm2 : m2 ≤ maxLen) (hbig : 12 < m2 ∨ m2 < m) :
    Calls Try.prog 7 #[.slice A m c, .slice A2 m2 c2, B8 a] w fun e w' => e = .returned (.bool true) ∧ Below w.heap.size w w' := by
  by_cases h1 : 12 < m2
  · go_enter Try.func7, Try.ntmps7
    go_wp2_with fail
    refine (Fld.sane_any _).mono ?_
    rintro e w1 ⟨rfl, hb1⟩
    have HB1 := Lib.hid hb1
    clear hb1
    go_wp2_with fail
    go_ret
    exact ⟨rfl, HB1.out⟩
  · have h2 : m2 < m := by omega
    go_enter Try.func7, Try.ntmps7
    go_wp2_with fail
    refine (Fld.sane_any _).mono ?_
    rintro e w1 ⟨rfl, hb1⟩
    have HB1 := Lib.hid hb1
    clear hb1
    go_wp2_with fail
    go_ret
    exact ⟨rfl, HB1.out⟩

/-- both arguments read as they did; slice yv of k bytes holds the first k values -/
structure Fld.V (w : World) (A A2 : Option Addr) (m m2 : Nat) (l xs ys : List UInt8) (k : Nat) (yv : Value) (wr : World) : Prop where
  l : RdB wr A m l
  x : RdB wr A2 m2 xs
  y : wr.ownsRow w.heap.size 5 1 yv k (ys.map B8)
  b : Below w.heap.size w wr
section
variable {w wr w' : World} {A A2 : Option Addr} {m m2 k : Nat} {l xs ys : List UInt8} {yv : Value}
theorem Fld.V.keep (h : Fld.V w A A2 m m2 l xs ys k yv wr) (hb : Below wr.heap.size wr w') : Fld.V w A A2 m m2 l xs ys k yv w' :=
  ⟨h.l.keep hb, h.x.keep hb, own_below h.y hb, h.b.trans (hb.mono h.b.size)⟩
end
theorem RdB.grown {w w0 w' : World} {A : Option Addr} {n : Nat} {l : List UInt8} {row : Option Nat} (h : RdB w0 A n l) (hw : Below w0.heap.size w0 w) (hg : w.grownBy w' row) (hr : ∀ g, row = some g → w0.heap.size ≤ g) : RdB w' A n l :=
  h.keep (hw.grown hg hw.size hr)

set_option maxRecDepth 100000 in
set_option maxHeartbeats 4000000 in
theorem Fld.law6b (A A2 : Option Addr) (m c m2 c2 : Nat) (l xs : List UInt8) (a : UInt8) (w : World) (hl : RdB w A m l) (hx : RdB w A2 m2 xs) (hm2 : m2 ≤ 12) (hm : m ≤ m2) :
    Calls Try.prog 7 #[.slice A m c, .slice A2 m2 c2, B8 a] w fun e w' => e = .returned (.bool true) ∧ Below w.heap.size w w' := by
  have HLL := Lib.hid hl.len
  have HXL := Lib.hid hx.len
  have HL0 := Lib.hid hl
  have HX0 := Lib.hid hx
  clear hl hx
  have dd1 : decide ((12 : Int) < (m2 : Int)) = false := decide_eq_false (by omega)
  have dd2 : decide (m2 < m) = false := decide_eq_false (by omega)
  go_enter Try.func7, Try.ntmps7
  go_wp2_with fail
  refine (Fld.sane_any _).mono ?_
  rintro e w1 ⟨rfl, hb1⟩
  have HB1 := Lib.hid hb1
  clear hb1
  go_wp2_with fail
  go_loopw [7, 8] (fun yv i wr => ∃ k : Nat, k ≤ m2 ∧ i = .int .i64 k ∧ Fld.V w A A2 m m2 l xs ((Fld.vals l xs).take k) k yv wr) (fun _ i _ => m2 - (intOf i).toNat)
  case atStart =>
    exact ⟨0, by omega, rfl, (HL0.out.keep HB1.out).alloc _, (HX0.out.keep HB1.out).alloc _, World.ownsRow_lit w1 #[] 0 HB1.out.size (by decide) rfl, HB1.out.alloc HB1.out.size _⟩
  case round =>
    obtain ⟨k, hk, rfl, hV⟩ := hrel
    have V2 := Lib.hid hV
    clear hV
    by_cases hlt : k < m2
    · obtain ⟨b, off, rfl, hbB, ec⟩ := V2.out.x.byte k hlt
      have HT := Lib.hid (Fld.vals_take l xs k (by rw [HXL.out]; exact hlt))
      generalize xs.getD k 0 = x at ec HT
      go_wp2_with fail
      refine (Fld.eval_ev A m c l x wr HLL.out (by unfold maxLen; omega) V2.out.l).mono ?_
      rintro e w3 ⟨rfl, hb3⟩
      have V3 := Lib.hid (V2.out.keep hb3)
      generalize Fld.ev l x = ex at HT ⊢
      clear hb3 V2 ec
      obtain ⟨i0, hi0, hz0, hz1, hz2⟩ := info_parts Fld.info8
      go_wp2_with (at_builtin; refine wpList_append_own_at _ rfl _ _ 30 rfl w.heap.size 5 i0 _ 1 1 Try.underlying30 hi0 hz0 hz1 hz2 rfl (by decide) _ _ _ rfl (V3.out.y.alloc _) ⟨w3.heap.size, 0, none⟩ 1 1 [B8 ex] rfl rfl (new1 w3 _ _) (by simp [Value.oneCell']) (by simp only [maxLen]; omega) (by omega) (by have := V3.out.b.size; simp; omega) ?_; intro v4 w4 hown4 hg4 _ _)
      have HB4 := Lib.hid ((V3.out.b.alloc V3.out.b.size (.cells #[B8 ex] 5)).grown hg4 (by have := V3.out.b.size; simp; omega) (fun g e => own_ge V3.out.y e))
      have HY4 := Lib.hid (show w4.ownsRow w.heap.size 5 1 v4 (k + 1) (((Fld.vals l xs).take (k + 1)).map B8) by rw [HT.out, List.map_append]; exact hown4)
      clear hown4 hg4 V3 hi0 hz0 hz1 hz2
      go_wp2_with fail
      go_roundw
      case rel => exact ⟨k + 1, by omega, by go_num, HL0.out.keep HB4.out, HX0.out.keep HB4.out, HY4.out, HB4.out⟩
      case measure => simp [intOf]; omega
    · obtain rfl : k = m2 := by omega
      obtain ⟨A7, c7, rfl⟩ := own_form V2.out.y
      have hyl : (Fld.vals l xs).length = k := by rw [Fld.vals_len, HXL.out]
      have HR := Lib.hid (show RdB wr A7 k (Fld.vals l xs) by have := RdB.of_own V2.out.y; rwa [List.take_of_length_le (by omega)] at this)
      have HYL := Lib.hid hyl
      clear hyl
      cases hp : Fld.ptsB xs (Fld.vals l xs) with
      | false =>
        have HP := Lib.hid hp
        have HE := Lib.hid (show Fld.thrE xs (Fld.vals l xs) = 1 by rw [Fld.thrE, hp]; rfl)
        clear hp
        go_wp2_with fail
        refine (Fld.through_any A2 A7 k c2 k c7 xs (Fld.vals l xs) a wr (by omega) (by unfold maxLen; omega) V2.out.x HR.out).mono ?_
        rintro e w5 ⟨rfl, hb5⟩
        rw [HE.out]
        generalize Fld.thrV xs (Fld.vals l xs) a = tv
        have HB5 := Lib.hid (V2.out.b.trans (hb5.mono V2.out.b.size))
        have HX5 := Lib.hid (V2.out.x.keep hb5)
        clear hb5
        go_wp2_with fail
        refine (Fld.coef_no A2 A7 k c2 k c7 xs (Fld.vals l xs) w5 HXL.out HYL.out (by unfold maxLen; omega) (by unfold maxLen; omega) HX5.out HP.out).mono ?_
        rintro e w6 ⟨rfl, hb6⟩
        have HB6 := Lib.hid (HB5.out.trans (hb6.mono HB5.out.size))
        clear hb6
        go_wp2_with fail
        go_ret
        exact ⟨rfl, HB6.out⟩
      | true =>
        have HP := Lib.hid hp
        have HE := Lib.hid (show Fld.thrE xs (Fld.vals l xs) = 0 by rw [Fld.thrE, if_pos hp])
        have HV := Lib.hid (show Fld.thrV xs (Fld.vals l xs) a = Fld.ev l a by rw [Fld.thrV, if_pos hp, Fld.vals_ev l xs hp (by rw [HLL.out, HXL.out]; exact hm)])
        have HG := Lib.hid (Fld.vals_coefs l xs hp (by rw [HLL.out, HXL.out]; exact hm))
        clear hp
        go_wp2_with fail
        refine (Fld.through_any A2 A7 k c2 k c7 xs (Fld.vals l xs) a wr (by omega) (by unfold maxLen; omega) V2.out.x HR.out).mono ?_
        rintro e w5 ⟨rfl, hb5⟩
        rw [HE.out, HV.out]
        have HB5 := Lib.hid (V2.out.b.trans (hb5.mono V2.out.b.size))
        have HX5 := Lib.hid (V2.out.x.keep hb5)
        have HR5 := Lib.hid (HR.out.keep hb5)
        have HL5 := Lib.hid (V2.out.l.keep hb5)
        clear hb5 V2 HR
        go_wp2_with fail
        refine (Fld.coef_yes A2 A7 k c2 k c7 xs (Fld.vals l xs) w5 HXL.out HYL.out (by omega) (by unfold maxLen; omega) HX5.out HR5.out HP.out).mono ?_
        rintro e w6 ⟨v, rfl, hown6, hb6⟩
        obtain ⟨A8, c8, rfl⟩ := own_form hown6
        have HC6 := Lib.hid (RdB.of_own hown6)
        have HB6 := Lib.hid (HB5.out.trans (hb6.mono HB5.out.size))
        have HL6 := Lib.hid (HL5.out.keep hb6)
        clear hb6 hown6 HX5 HR5 HB5 HL5
        go_wp2_with fail
        refine (Fld.eval_ev A m c l a w6 HLL.out (by unfold maxLen; omega) HL6.out).mono ?_
        rintro e w7 ⟨rfl, hb7⟩
        have HC7 := Lib.hid (HC6.out.keep hb7)
        have HL7 := Lib.hid (HL6.out.keep hb7)
        have HB7 := Lib.hid (HB6.out.trans (hb7.mono HB6.out.size))
        clear hb7 HC6 HL6 HB6
        go_wp2_with fail
        go_loopw [13] (fun i wr => ∃ j : Nat, j ≤ k ∧ i = .int .i64 j ∧ RdB wr A8 k (Fld.coefs xs (Fld.vals l xs)) ∧ RdB wr A m l ∧ Below w.heap.size w wr) (fun i _ => k - (intOf i).toNat)
        case atStart => exact ⟨0, by omega, rfl, HC7.out, HL7.out, HB7.out⟩
        case round =>
          obtain ⟨j, hj, rfl, hC, hL, hB⟩ := hrel
          have HC8 := Lib.hid hC
          have HL8 := Lib.hid hL
          have HB8 := Lib.hid hB
          clear hC hL hB HC7 HL7 HB7
          by_cases hlt2 : j < k
          · obtain ⟨b, off, rfl, hbB, ec⟩ := HC8.out.byte j hlt2
            rw [HG.out j] at ec
            by_cases hlt3 : j < m
            · obtain ⟨b2, off2, rfl, hbB2, ec2⟩ := HL8.out.byte j hlt3
              generalize l.getD j 0 = oj at ec ec2
              have d1 : decide (j < m) = true := decide_eq_true hlt3
              have d2 : decide (m ≤ j) = false := decide_eq_false (by omega)
              go_wp2_with fail
              go_quiet (fail)
              go_wp2_with fail
              go_roundw
              case rel => exact ⟨j + 1, by omega, by go_num, HC8.out.drewN _, HL8.out.drewN _, below_drewN HB8.out _⟩
              case measure => simp [intOf]; omega
            · rw [Fld.getD_long l j (by rw [HLL.out]; omega)] at ec
              have d1 : decide (j < m) = false := decide_eq_false hlt3
              have d2 : decide (m ≤ j) = true := decide_eq_true (by omega)
              go_wp2_with fail
              go_quiet (fail)
              go_wp2_with fail
              go_roundw
              case rel => exact ⟨j + 1, by omega, by go_num, HC8.out.drewN _, HL8.out.drewN _, below_drewN HB8.out _⟩
              case measure => simp [intOf]; omega
          · go_wp2_with fail
            go_ret
            exact ⟨rfl, HB8.out⟩
theorem Fld.law6 (A A2 : Option Addr) (m c m2 c2 : Nat) (l xs : List UInt8) (a : UInt8) (w : World) (hl : RdB w A m l) (hx : RdB w A2 m2 xs) (hm : m ≤ maxLen) (hm2 : m2 ≤ maxLen) :
    Calls Try.prog 7 #[.slice A m c, .slice A2 m2 c2, B8 a] w fun e w' => e = .returned (.bool true) ∧ Below w.heap.size w w' := by
  by_cases hbig : 12 < m2 ∨ m2 < m
  · exact Fld.law6a A A2 m c m2 c2 l xs a w hm hm2 hbig
  · exact Fld.law6b A A2 m c m2 c2 l xs a w hl hx (by omega) (by omega)
end Go.Proofs.Ytilfpnkkappkdaa
