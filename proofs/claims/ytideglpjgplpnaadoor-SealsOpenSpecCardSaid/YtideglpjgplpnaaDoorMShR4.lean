import Derived.Test.YtideglpjgplpnaaDoorMFldR4
import Derived.Test.YtideglpjgplpnaaDoorMShR3
/- Contract of the reference's Explain. -/
namespace Go.Proofs.YtideglpjgplpnaaDoor
open Go.RowKit Go.Shelf
set_option linter.unusedVariables false

set_option maxHeartbeats 1000000 in
theorem Shr.rexpl_no (A : Option Addr) (n c : Nat) (A2 : Option Addr) (ns cs : Nat) (xs : List Shr.C) (w : World) (hr : Shr.Rds w A n xs) (hn : n ≤ maxLen) (hns : ns ≤ maxLen) (h : Shr.explE (Shr.vals xs) ns ≠ 0) :
    Calls Tryd.prog 46 #[.slice A n c, .slice A2 ns cs] w fun e w' => e = .returned (.tuple #[.slice none 0 0, .int .i64 (Shr.explE (Shr.vals xs) ns)]) ∧ Below w.heap.size w w' := by
  have HN := Lib.hid hn
  unfold maxLen at hn hns
  by_cases h1 : Shr.chkE (Shr.vals xs) = 0
  · have hg := Shr.good _ h1
    have hpos : 0 < n := by have := hg.pos; rw [Shr.vals_len, hr.len] at this; exact this
    obtain ⟨b, off, rfl, hb, e0, e1, e2, e3, e4⟩ := hr.first hpos
    have hd64 := hg.d64
    have hth8 : (Shr.vals xs)[0]!.th ≤ 8 := by have := hg.thm; have := hg.mn8; omega
    have hv0 := Shr.vals_at xs 0 (by rw [hr.len]; exact hpos)
    have hE : ∀ (th : Int) (dl : Nat), th = (xs[0]!).s.th → dl = (xs[0]!).s.d.length → Shr.explE (Shr.vals xs) ns = if th ≤ (n : Int) then 60 else if ns ≠ dl then 1 else 0 := by
      rintro _ _ rfl rfl
      unfold Shr.explE
      rw [if_neg (by simp [h1]), Shr.vals_len, hr.len, hv0]
    obtain ⟨th, hth⟩ : ∃ th, th = (xs[0]!).s.th := ⟨_, rfl⟩
    obtain ⟨dl, hdl⟩ : ∃ dl, dl = (xs[0]!).s.d.length := ⟨_, rfl⟩
    have hE2 := hE th dl hth hdl
    rw [hv0] at hd64 hth8
    rw [← hth] at e2 hth8
    rw [← hdl] at e4 hd64
    have HR := Lib.hid hr
    have H1 := Lib.hid h1
    clear hr h1 hg e0 e1 e3 hE hth hdl hv0
    generalize (xs[0]!).A = A0 at e4
    generalize (xs[0]!).c = c0 at e4
    by_cases h2 : th ≤ (n : Int)
    · rw [if_pos h2] at hE2
      have HE := Lib.hid hE2
      clear hE2 h
      go_enter Tryd.func46, Tryd.ntmps46
      go_wp2_with fail
      refine (Shr.rcheck_any (some ⟨b, off, none⟩) n c xs _ HR.out HN.out).mono ?_
      rintro e w1 ⟨rfl, hb1⟩
      rw [H1.out]
      have c2 := (hb1.cell (p := ⟨b, off + 2, none⟩) hb).trans e2
      have hbw1 : b < w1.heap.size := Nat.lt_of_lt_of_le hb hb1.size
      have HB1 := Lib.hid hb1
      clear hb1 e2 e4
      go_wp2_with fail
      go_ret2
      exact ⟨by rw [HE.out]; rfl, HB1.out⟩
    · rw [if_neg h2] at hE2
      have h3 : ns ≠ dl := fun e => h (by rw [hE2, if_neg (by simp [e])])
      rw [if_pos h3] at hE2
      have HE := Lib.hid hE2
      have hq : ((ns : Int) != (dl : Int)) = true := by simp; omega
      clear hE2 h h3
      go_enter Tryd.func46, Tryd.ntmps46
      go_wp2_with fail
      refine (Shr.rcheck_any (some ⟨b, off, none⟩) n c xs _ HR.out HN.out).mono ?_
      rintro e w1 ⟨rfl, hb1⟩
      rw [H1.out]
      have c2 := (hb1.cell (p := ⟨b, off + 2, none⟩) hb).trans e2
      have c4 := (hb1.cell (p := ⟨b, off + 4, none⟩) hb).trans e4
      have hbw1 : b < w1.heap.size := Nat.lt_of_lt_of_le hb hb1.size
      have HB1 := Lib.hid hb1
      clear hb1 e2 e4
      go_wp2_with fail
      go_ret2
      exact ⟨by rw [HE.out]; rfl, HB1.out⟩
  · have HE := Lib.hid (show Shr.explE (Shr.vals xs) ns = Shr.chkE (Shr.vals xs) by unfold Shr.explE; rw [if_pos h1])
    have HR := Lib.hid hr
    obtain ⟨je, hje⟩ : ∃ je, je = Shr.chkE (Shr.vals xs) := ⟨_, rfl⟩
    have hq : (je != 0) = true := by rw [hje]; simpa using h1
    have HJE := Lib.hid hje
    clear hr h h1 hje
    go_enter Tryd.func46, Tryd.ntmps46
    go_wp2_with fail
    refine (Shr.rcheck_any A n c xs _ HR.out HN.out).mono ?_
    rintro e w1 ⟨rfl, hb1⟩
    rw [← HJE.out]
    have HB1 := Lib.hid hb1
    clear hb1
    go_wp2_with fail
    go_ret2
    exact ⟨by rw [HE.out, ← HJE.out]; rfl, HB1.out⟩

set_option maxRecDepth 100000 in
set_option maxHeartbeats 2000000 in
theorem Shr.rexpl_cap (A : Option Addr) (n c : Nat) (A2 : Option Addr) (ns cs : Nat) (xs : List Shr.C) (sec : List UInt8) (w : World) (hr : Shr.Rds w A n xs) (hn : n ≤ maxLen) (hsec : RdB w A2 ns sec) (hns : ns ≤ maxLen) (h : Shr.explE (Shr.vals xs) ns = 0) :
    Calls Tryd.prog 46 #[.slice A n c, .slice A2 ns cs] w (RetBC w (ns * (Shr.tt (Shr.vals xs) - 1)) (Shr.explV (Shr.vals xs) sec)) := by
  obtain ⟨h1, hlt, hdl⟩ := Shr.expl_cases _ _ h
  have hg := Shr.good _ h1
  have hpos : 0 < n := by have := hg.pos; rw [Shr.vals_len, hr.len] at this; exact this
  obtain ⟨b, off, rfl, hb, e0, e1, e2, e3, e4⟩ := hr.first hpos
  have hd64 := hg.d64
  have hth8 : (Shr.vals xs)[0]!.th ≤ 8 := by have := hg.thm; have := hg.mn8; omega
  have hv0 := Shr.vals_at xs 0 (by rw [hr.len]; exact hpos)
  have HIX := Lib.hid hg.ix_of
  have HDL := Lib.hid hg.dl_of
  have HG := Lib.hid hg
  have HLS := Lib.hid (show (Shr.vals xs).length = n by rw [Shr.vals_len, hr.len])
  rw [Shr.vals_len, hr.len] at hlt
  obtain ⟨t, ht⟩ : ∃ t : Nat, (xs[0]!).s.th = (t : Int) := ⟨(xs[0]!).s.th.toNat, by have := hg.th1; rw [hv0] at this; omega⟩
  have HTT := Lib.hid (show Shr.tt (Shr.vals xs) = t by rw [Shr.tt, hv0, ht]; simp)
  rw [← hdl] at hd64 HDL
  rw [hv0] at hlt hth8 hdl
  rw [ht] at e2 hlt hth8
  rw [← hdl] at e4
  have HSL := Lib.hid hsec.len
  have HV := Lib.hid (show Shr.explV (Shr.vals xs) sec = Shr.exV (Shr.vals xs) t sec ns by rw [Shr.explV, HTT.out, HSL.out])
  rw [HTT.out]
  have HR := Lib.hid hr
  have HS := Lib.hid hsec
  have H1 := Lib.hid h1
  have HN := Lib.hid hn
  unfold maxLen at hn hns
  clear hr h1 hg e0 e1 e3 hv0 ht hdl h hsec
  generalize (xs[0]!).A = A0 at e4
  generalize (xs[0]!).c = c0 at e4
  have dtn : decide (t ≤ n) = false := decide_eq_false (by omega)
  go_enter Tryd.func46, Tryd.ntmps46
  go_wp2_with fail
  refine (Shr.rcheck_any (some ⟨b, off, none⟩) n c xs _ HR.out HN.out).mono ?_
  rintro e w1 ⟨rfl, hb1⟩
  rw [H1.out]
  have c2 := (hb1.cell (p := ⟨b, off + 2, none⟩) hb).trans e2
  have c4 := (hb1.cell (p := ⟨b, off + 4, none⟩) hb).trans e4
  have hbw1 : b < w1.heap.size := Nat.lt_of_lt_of_le hb hb1.size
  have HB1 := Lib.hid hb1
  clear hb1 e2 e4
  go_wp2_with fail
  clear c2 c4 dtn
  go_loopw [8, 9] (fun v i wr => ∃ k : Nat, k ≤ ns ∧ i = .int .i64 k ∧ wr.ownsRow w.heap.size 5 1 v (k * (t - 1)) ((Shr.exV (Shr.vals xs) t sec k).map B8) ∧ Below w.heap.size w wr) (fun _ i _ => ns - (intOf i).toNat)
  case atStart => exact ⟨0, by omega, rfl, by rw [Nat.zero_mul]; exact World.ownsRow_nil _ _ _ _, HB1.out⟩
  case round =>
    obtain ⟨wo, rfl⟩ : ∃ wo : World, wo = wr := ⟨_, rfl⟩
    obtain ⟨k, hk, rfl, hO, hB⟩ := hrel
    have HO := Lib.hid hO
    have HB := Lib.hid hB
    clear hO hB HB1
    by_cases hlt2 : k < ns
    · obtain ⟨bs, offs, rfl, hbs, es0⟩ := HS.out.byte k hlt2
      have es := (HB.out.cell (p := ⟨bs, offs + k, none⟩) hbs).trans es0
      have hbsw : bs < wo.heap.size := Nat.lt_of_lt_of_le hbs HB.out.size
      obtain ⟨y, hy⟩ : ∃ y, y = sec.getD k 0 := ⟨_, rfl⟩
      rw [← hy] at es
      have HVS := Lib.hid (show Shr.exV (Shr.vals xs) t sec (k + 1) = Shr.exV (Shr.vals xs) t sec k ++ (Shr.exC (Shr.vals xs) t k y).drop 1 by rw [hy]; exact Shr.exV_succ _ _ _ _)
      have HES := Lib.hid (show w.cell? ⟨bs, offs + k, none⟩ = some (B8 y) by rw [hy]; exact es0)
      clear es0 hy
      go_wp2_with fail
      refine (Shr.rpts_any (some ⟨b, off, none⟩) n c k xs wo (HR.out.keep HB.out) (by omega) (fun x hx => by rw [HDL.out x hx]; exact hlt2) HIX.out).mono ?_
      rintro e w2 ⟨v1, v2, rfl, hT2, hb2⟩
      have HT2 := Lib.hid hT2
      have HO2 := Lib.hid (own_below HO.out hb2)
      have HB2 := Lib.hid (HB.out.trans (hb2.mono HB.out.size))
      have hz2 := hb2.size
      have HW2 := Lib.hid hb2
      have HBo := Lib.hid HB.out.size
      clear hT2 hb2 es
      go_wp2_with (first
        | (at_builtin; refine wpList_append_rd rfl (.tmp 48) (.tmp 49) rfl el8 rfl (HT2.out.x.alloc _) rfl (rd_new w2 5 1 [B8 0] rfl) (by simp [Value.oneCell']) (fun h => by (cases h)) (by simp only [maxLen]; omega) (by omega) (by simp; omega) ?_; intro v3 w3 hG3; have hY3 := (HT2.out.y.alloc (.cells #[B8 0] 5)).kept hG3.grown (two_sym HT2.out.xy); have hz3 := hG3.grown.size; simp only [World.size_alloc] at hz3; have hB3 := ((HB2.out.alloc HB2.out.size (.cells #[B8 0] 5)).grown hG3.grown (by have := HB2.out.size; simp; omega) (fun g e => Nat.le_trans HBo.out (own_ge HT2.out.x e))); have es3 := (hB3.cell (p := ⟨bs, offs + k, none⟩) hbs).trans HES.out; have hbs3 : bs < w3.heap.size := (by have := hB3.size; omega))
        | (at_builtin; refine wpList_append_rd rfl (.tmp 51) (.tmp 56) rfl el8 rfl (hY3.alloc _) rfl (rd_new w3 5 1 [B8 y] rfl) (by simp [Value.oneCell']) (fun h => by (cases h)) (by simp only [maxLen]; omega) (by omega) (by simp; omega) ?_; intro v4 w4 hG4))
      have HST := Lib.hid (HT2.out.step HW2.out hz2 ((Below.refl _ _).alloc (Nat.le_refl _) _) hG3 ((Below.refl _ _).alloc (Nat.le_refl _) _) hG4)
      rw [← Shr.exX_zero, ← Shr.exY_zero] at HST
      clear hG3 hG4 hY3 HT2 HW2 HO2 HB2 hB3 es3
      go_loopw [10, 11, 12] (fun a b x wq => ∃ j : Nat, j ≤ t - n - 1 ∧ x = .int .u8 ((9 + j : Nat) : Int) ∧ Two wq wo.heap.size a b (n + 1 + j) (Shr.exX (Shr.vals xs) j) (Shr.exY (Shr.vals xs) k y j) ∧ Below wo.heap.size wo wq) (fun _ _ x _ => 20 - (intOf x).toNat)
      case atStart => exact ⟨0, by omega, rfl, HST.out.1, HST.out.2⟩
      case round =>
        obtain ⟨j, hj, rfl, hT, hBq⟩ := hrel
        obtain ⟨A5, c5, rfl⟩ := own_form hT.x
        have HT := Lib.hid hT
        have HBQ := Lib.hid hBq
        have hzq := hBq.size
        clear hT hBq HST
        by_cases hlt3 : n + 1 + j < t
        · go_wp2_with (first
            | (at_builtin; refine wpList_append_rd rfl (.tmp 64) (.tmp 66) rfl el8 rfl (HT.out.x.alloc _) rfl (rd_new wr 5 1 [.int .u8 ((9 + j : Nat) : Int)] rfl) (by simp [Value.oneCell']) (fun h => by (cases h)) (by simp only [maxLen]; omega) (by omega) (by simp; omega) ?_; intro v6 w6 hG6; have hY6 := (HT.out.y.alloc (.cells #[.int .u8 ((9 + j : Nat) : Int)] 5)).kept hG6.grown (two_sym HT.out.xy); have hz6 := hG6.grown.size; simp only [World.size_alloc] at hz6)
            | (at_builtin; refine wpList_append_rd rfl (.tmp 68) (.tmp 69) rfl el8 rfl (hY6.alloc _) rfl (rd_new w6 5 1 [B8 0] rfl) (by simp [Value.oneCell']) (fun h => by (cases h)) (by simp only [maxLen]; omega) (by omega) (by simp; omega) ?_; intro v7 w7 hG7))
          have e9 : Value.int .u8 ((9 + j : Nat) : Int) = B8 (UInt8.ofNat (9 + j)) := by rw [B8, UInt8.toNat_ofNat', Nat.mod_eq_of_lt (by omega)]
          rw [e9] at hG6
          have st := HT.out.step HBQ.out hzq ((Below.refl _ _).alloc (Nat.le_refl _) _) hG6 ((Below.refl _ _).alloc (Nat.le_refl _) _) hG7
          exact ⟨⟨j + 1, by omega, by go_num, by rw [Shr.exX_snoc, Shr.exY_snoc]; exact st.1, st.2⟩, by simp [intOf]; omega⟩
        · obtain ⟨A6, c6, rfl⟩ := own_form HT.out.y
          have HCX := Lib.hid (show Shr.exC (Shr.vals xs) t k y = Fld.coefs (Shr.exX (Shr.vals xs) j) (Shr.exY (Shr.vals xs) k y j) by rw [Shr.exC, HLS.out, show t - n - 1 = j by omega])
          have HCL := Lib.hid (Shr.exC_len (Shr.vals xs) t k y (by rw [HLS.out]; omega))
          have HP := Lib.hid (HG.out.ex_pts j (by omega) k y)
          have HXL := Lib.hid (show (Shr.exX (Shr.vals xs) j).length = t by rw [Shr.exX_len, HLS.out]; omega)
          have HYL := Lib.hid (show (Shr.exY (Shr.vals xs) k y j).length = t by rw [Shr.exY_len, HLS.out]; omega)
          have e : n + 1 + j = t := by omega
          rw [e] at HT ⊢
          clear e
          go_wp2_with fail
          refine (Fld.rcoef_yes A5 A6 t c5 t c6 _ _ wr (by omega) (by unfold maxLen; omega) (RdB.of_own HT.out.x) (RdB.of_own HT.out.y) HP.out).mono ?_
          rintro e w8 ⟨A8, c8, rfl, hcap, hcapm, hO8, _, hb8⟩
          rw [← HCX.out] at hO8
          obtain ⟨g8, off8, rfl, hg8', _⟩ := hO8.byte 0 (by omega)
          unfold maxLen at hcapm
          have HR8 := Lib.hid (show RdB w8 (some ⟨g8, off8 + 1, none⟩) (t - 1) ((Shr.exC (Shr.vals xs) t k y).drop 1) by
            have h := hO8.part 1 (t - 1) (by omega)
            rw [List.take_of_length_le (by rw [List.length_drop, HCL.out]; omega)] at h
            exact h)
          have HBo := Lib.hid (HBQ.out.trans (hb8.mono hzq))
          have HO8 := Lib.hid (own_below HO.out HBo.out)
          have HB8 := Lib.hid (HB.out.trans (HBo.out.mono HB.out.size))
          have hz8 := HB8.out.size
          have hc1 : ¬ c8 = 1 := by omega
          clear hO8 hb8 HT HBQ HO HB HXL HYL
          have hkt : k * (t - 1) ≤ 64 * 8 := Nat.mul_le_mul (by omega) (by omega)
          go_wp2_with (at_builtin; refine wpList_append_rd rfl _ _ rfl el8 rfl HO8.out rfl HR8.out (one_bytes _) (fun h => by (cases h)) (by simp only [maxLen]; omega) (by omega) hz8 ?_; intro v9 w9 hG9)
          have HO9 := Lib.hid (show w9.ownsRow w.heap.size 5 1 v9 ((k + 1) * (t - 1)) ((Shr.exV (Shr.vals xs) t sec (k + 1)).map B8) by
            rw [HVS.out, List.map_append, Nat.add_mul, Nat.one_mul]
            exact hG9.own)
          have HB9 := Lib.hid (HB8.out.grown hG9.grown hz8 (fun g e => own_ge HO8.out e))
          clear hG9
          go_wp2_with fail
          go_roundw
          case rel => exact ⟨k + 1, by omega, by go_num, HO9.out, HB9.out⟩
          case measure => simp [intOf]; omega
    · obtain rfl : k = ns := by omega
      obtain ⟨A9, c9, rfl⟩ := own_form HO.out
      go_wp2_with fail
      go_ret2
      exact ⟨A9, c9, rfl, own_nil HO.out, by rw [HV.out]; exact RdB.of_own HO.out, own_fresh HO.out, own_lt HO.out, HB.out, (own_cap HO.out).1, (own_cap HO.out).2⟩
end Go.Proofs.YtideglpjgplpnaaDoor
