import Derived.StillTailTactics
import Derived.Test.YtideglpjgplpnaaDoorMCdW5
import Derived.Test.YtideglpjgplpnaaDoorMCdW3
/- Contract of the writer of lists. -/
namespace Go.Proofs.YtideglpjgplpnaaDoor
open Go.RowKit Go.Shelf
set_option linter.unusedVariables false

set_option maxRecDepth 100000 in
set_option maxHeartbeats 4000000 in
theorem Cd.wList_step (h : Nat) (IH0 : ∀ (t : Cd.T) (cs : List Value) (w : World) (v : Value) (base : Nat) (xs : List UInt8) (bw bt : Nat), t.hgt ≤ h → h ≤ 1000000 → t.k = 3 → t.fd.isSome = true → Cd.CellB w base t cs → Cd.Tab w base bw bt →
    w.ownsRow base 5 1 v xs.length (xs.map fun a => Value.int .u8 (a.toNat : Int)) → base ≤ w.heap.size → xs.length + t.enc.length ≤ 90000000 →
    Calls Tryd.prog 100 #[v, .agg cs.toArray, .pointer (some ⟨bw, 0, none⟩)] w (Cd.RetG w base v (xs ++ t.enc))) :
    ∀ (t : Cd.T) (cs : List Value) (w : World) (v : Value) (base : Nat) (xs : List UInt8) (bw bt : Nat), t.hgt ≤ h + 1 → h + 1 ≤ 1000000 → t.k = 3 → t.fd.isSome = true → Cd.CellB w base t cs → Cd.Tab w base bw bt →
    w.ownsRow base 5 1 v xs.length (xs.map fun a => Value.int .u8 (a.toNat : Int)) → base ≤ w.heap.size → xs.length + t.enc.length ≤ 90000000 →
    Calls Tryd.prog 100 #[v, .agg cs.toArray, .pointer (some ⟨bw, 0, none⟩)] w (Cd.RetG w base v (xs ++ t.enc)) := by
    intro t cs w v base xs bw bt hh hb hk3 hfd hc htab hown hbase hlen
    have IH := Lib.hid (fun t cs w v base xs bw bt h1 => IH0 t cs w v base xs bw bt h1 (by omega))
    clear IH0
    cases hc with
    | mk k n s l A c xss hl hx hr hn hm hs hk hi =>
    obtain ⟨rfl, rfl, rfl, hfds⟩ : k = 3 ∧ n = 0 ∧ s = [] ∧ (Cd.T.fds l).isSome = true := by
      rcases Cd.T.fd_cases hfd with ⟨e, _⟩ | ⟨e, _⟩ | ⟨h1, h2, h3, h4⟩
      · have e1 : k = 3 := hk3; have e2 : k = 1 := e; omega
      · have e1 : k = 3 := hk3; have e2 : k = 2 := e; omega
      · exact ⟨h1, h2, h3, h4⟩
    rw [Cd.T.hgt] at hh
    rw [Cd.enc_3 rfl] at hlen ⊢
    have HX := Lib.hid hx
    have HR := Lib.hid hr
    have HLX := Lib.hid hl
    have HHG := Lib.hid hh
    have HFD := Lib.hid hfds
    have HT := Lib.hid htab
    have HO := Lib.hid hown
    have HLN := Lib.hid (show xs.length + 1 + (Cd.num l.length).length + (Cd.T.encs l).length ≤ 90000000 by have h := hlen; simp [Cd.T.l] at h; omega)
    have hx90 : xs.length ≤ 90000000 := by have := HLN.out; omega
    clear hx hr hl hn hs hh hfds htab hown hfd hk3 hk hi hlen
    unfold maxLen at hm
    simp only [Cd.T.l]
    go_enter Tryd.func100, Tryd.ntmps100
    go_wp2_with fail
    obtain ⟨w0, hw0⟩ : ∃ w0, w0 = w.alloc (.cells #[.int .i64 3, .int .i64 0, .string ⟨([] : List UInt8).toArray⟩, .slice A l.length c] 77) := ⟨_, rfl⟩
    have HB0 := Lib.hid (show Below w.heap.size w w0 by rw [hw0]; exact (Below.refl _ _).alloc (Nat.le_refl _) _)
    have HH0 := Lib.hid (show Has w0 w.heap.size 77 [.int .i64 3, .int .i64 0, .string ⟨([] : List UInt8).toArray⟩, .slice A l.length c] by rw [hw0]; exact Has.new _ _ _)
    have HO0 := Lib.hid (own_below HO.out HB0.out)
    have hz0 : w0.heap.size = w.heap.size + 1 := by rw [hw0]; simp
    try rw [← hw0]
    clear hw0
    have c1 := HH0.out.cell 3
    simp only [List.getElem?_cons_succ, List.getElem?_cons_zero] at c1
    have HEN := Lib.hid (enters_of Tryd.func97 (by kernel_rfl) rfl)
    have OW := Lib.hid (show ((w0.alloc (.cells #[.int .u8 3] 5)).drew).ownsRow base 5 1 v xs.length (xs.map fun a => Value.int .u8 (a.toNat : Int)) from own_drew (HO0.out.alloc _))
    have SR := Lib.hid (show Rd ((w0.alloc (.cells #[.int .u8 3] 5)).drew) (w0.heap.size + 1) 1 (some ⟨w0.heap.size, 0, none⟩) 1 [.int .u8 3] by have h := rd_new w0 5 1 [.int .u8 3] rfl; rw [World.size_alloc] at h; exact h)
    have H1 := Lib.hid (show ∀ u ∈ [Value.int .u8 3], u.oneCell' = true by simp [Value.oneCell'])
    have H63 := Lib.hid (show xs.length + 1 ≤ maxLen by unfold maxLen; omega)
    have H64 := Lib.hid (show (xs.length + 1) * 1 ≤ 140737488355328 by omega)
    have HPB := Lib.hid (show Below w0.heap.size w0 ((w0.alloc (.cells #[.int .u8 3] 5)).drew) from ((Below.refl _ _).alloc (Nat.le_refl _) _).drew)
    have HBS := Lib.hid (show base ≤ ((w0.alloc (.cells #[.int .u8 3] 5)).drew).heap.size from Nat.le_trans (by omega) HPB.out.size)
    have HGW := Lib.hid (show ∀ v4 w4, Grew ((w0.alloc (.cells #[.int .u8 3] 5)).drew) base 5 1 v (xs.length + 1) ((xs.map fun a => Value.int .u8 (a.toNat : Int)) ++ [.int .u8 3]) v4 w4 → Grw w0 base v (xs.length + 1) (xs ++ [3]) v4 w4 from fun v4 w4 hG =>
      Grw.pre HPB.out (Grw.of hG (by rw [List.map_append (l₂ := [3])]; rfl)))
    have HNU := Lib.hid (show ∀ v4 w4, Grw w0 base v (xs.length + 1) (xs ++ [3]) v4 w4 → Calls Tryd.prog 97 #[v4, .int .u64 (l.length : Nat)] w4 (Cd.RetG w4 base v4 ((xs ++ [3]) ++ Cd.num l.length)) from fun v4 w4 hG =>
      Cd.numeral_any v4 base l.length (xs ++ [3]) w4 (by have h := hG.own; rw [show (xs ++ [(3 : UInt8)]).length = xs.length + 1 by simp]; exact h) (by have := hG.grown.size; omega) (by omega) (by simp; omega))
    have HCL := Lib.hid (show ∀ n1 x1 v4 w4, Grw w0 base v n1 x1 v4 w4 → w4.cell? ⟨w.heap.size, 3, none⟩ = some (.slice A l.length c) from fun n1 x1 v4 w4 hG => by
      have h := (HH0.out.grown hG.grown (fun e => by have := (HO.out.lt _ e).2; omega)).cell 3
      simpa using h)
    have HSZ := Lib.hid (show ∀ n1 x1 v4 w4, Grw w0 base v n1 x1 v4 w4 → w.heap.size < w4.heap.size from fun n1 x1 v4 w4 hG => by have := hG.grown.size; omega)
    have HTR := Lib.hid (show ∀ v4 w4 v5 w5, Grw w0 base v (xs.length + 1) (xs ++ [3]) v4 w4 → Cd.RetG w4 base v4 ((xs ++ [3]) ++ Cd.num l.length) (.returned v5) w5 → Grw w0 base v (xs ++ (3 :: Cd.num l.length)).length (xs ++ (3 :: Cd.num l.length)) v5 w5 from fun v4 w4 v5 w5 hG hR => by
      obtain ⟨v6, e6, hG6⟩ := hR
      injection e6 with e6
      subst e6
      rw [show xs ++ (3 :: Cd.num l.length) = (xs ++ [3]) ++ Cd.num l.length by simp]
      exact hG.trans hG6)
    have hcv : IntKind.u64.wrap ((l.length : Nat) : Int) = ((l.length : Nat) : Int) := by rw [Cd.u64_wrap]; omega
    have c1a := (HH0.out.alloc (.cells #[.int .u8 3] 5)).cell 3
    simp only [List.getElem?_cons_succ, List.getElem?_cons_zero] at c1a
    have z0 := HH0.out.lt
    clear hz0
    go_cut [0] from 8 to 15 (fun v5 wx => Grw w0 base v (xs ++ (3 :: Cd.num l.length)).length (xs ++ (3 :: Cd.num l.length)) v5 wx)
    case first =>
      go_region_law (first
        | (refine step_append_rd (by rfl) (.tmp 8) (.tmp 9) (by rfl) el27 (by rfl) OW.out (by rfl) SR.out H1.out (fun h => by (cases h)) H63.out H64.out HBS.out ?_; intro v4 w4 hG4; have HG4 := Lib.hid (HGW.out v4 w4 hG4); have c14 := HCL.out _ _ v4 w4 HG4.out; have z14 := HSZ.out _ _ v4 w4 HG4.out; clear hG4)
        | (refine step_callR _ 97 (.tmp 10) (.tmp 14) _ v4 (.int .u64 ((l.length : Nat) : Int)) (by rfl) (by rfl) HEN.out (by rfl) (by rfl) (HNU.out v4 w4 HG4.out) (fun e w' h => by obtain ⟨v', e', _⟩ := h; exact ⟨v', e'⟩) ?_; intro v5 w5 hR5; have HG5 := Lib.hid (HTR.out v4 w4 v5 w5 HG4.out hR5); clear hR5))
      all_goals (
        go_wp2_with fail
        go_meet
        exact HG5.out)
    case rest =>
      have HG := Lib.hid hcut
      have c16 := HCL.out _ _ _ _ HG.out
      have z16 := HSZ.out _ _ _ _ HG.out
      clear hcut hcv c1 c1a z0
      have HBX := Lib.hid (show ∀ n1 x1 v4 w4, Grw w0 base v n1 x1 v4 w4 → Below base w w4 from fun n1 x1 v4 w4 hG => (HB0.out.mono hbase).trans (hG.below HO0.out (Nat.le_refl _) (by have := HB0.out.size; omega)))
      have HZX := Lib.hid (show ∀ n1 x1 v4 w4, Grw w0 base v n1 x1 v4 w4 → base ≤ w4.heap.size from fun n1 x1 v4 w4 hG => by have := hG.grown.size; have := HB0.out.size; omega)
      go_wp2_with fail
      go_loopw [0, 19] (fun v' i wr => ∃ j : Nat, j ≤ l.length ∧ i = .int .i64 j ∧ Grw w0 base v (xs ++ (3 :: (Cd.num l.length ++ Cd.T.encs (l.take j)))).length (xs ++ (3 :: (Cd.num l.length ++ Cd.T.encs (l.take j)))) v' wr) (fun _ i _ => l.length - (intOf i).toNat)
      case atStart => exact ⟨0, by omega, rfl, by simpa [Cd.T.encs] using HG.out⟩
      case round =>
        obtain ⟨j, hj, rfl, hGr⟩ := hrel
        have HGR := Lib.hid hGr
        clear hGr c16 z16
        have hB := HBX.out _ _ _ _ HGR.out
        have HB := Lib.hid hB
        have hzr := HZX.out _ _ _ _ HGR.out
        clear hB
        by_cases hlt : j < l.length
        · obtain ⟨b, off, Av, cv, rfl, hbw, hcv, e0, e1, e2, e3⟩ := Cd.cellB4 HLX.out (fun i hi => (HX.out i hi).keep HB.out) (HR.out.below HB.out (Nat.le_refl _)) j hlt
          have hbz : b < wr.heap.size := by omega
          have hmem : l[j]! ∈ l := by rw [getElem!_pos l j hlt]; exact List.getElem_mem _
          have HF := Lib.hid (Cd.T.fds_all HFD.out hmem)
          have HH := Lib.hid (show (l[j]!).hgt ≤ h by have h1 := Cd.T.hgts_mem hmem; have h2 := HHG.out; omega)
          have HEL := Lib.hid (Cd.T.encs_take l j hlt)
          have HES := Lib.hid (show Cd.T.encs (l.take (j + 1)) = Cd.T.encs (l.take j) ++ (l[j]!).enc by
            rw [List.take_succ_eq_append_getElem hlt, Cd.T.encs_snoc, getElem!_pos l j hlt])
          have HC := Lib.hid hcv
          clear hcv hmem
          generalize l[j]! = x at HF HH HEL HES HC e0 e1 e2 e3
          go_wp2_with fail
          obtain ⟨w1, hw1⟩ : ∃ w1, w1 = wr.alloc (.cells #[.int .i64 x.k, .int .i64 x.n, .string ⟨x.s.toArray⟩, .slice Av x.l.length cv] 77) := ⟨_, rfl⟩
          have HB1 := Lib.hid (show Below wr.heap.size wr w1 by rw [hw1]; exact (Below.refl _ _).alloc (Nat.le_refl _) _)
          have HH1 := Lib.hid (show Has w1 wr.heap.size 77 [.int .i64 x.k, .int .i64 x.n, .string ⟨x.s.toArray⟩, .slice Av x.l.length cv] by rw [hw1]; exact Has.new _ _ _)
          rw [← hw1]
          clear hw1
          generalize hXS : xs ++ (3 :: (Cd.num l.length ++ Cd.T.encs (l.take j))) = XS at HGR
          have HXS := Lib.hid hXS
          clear hXS
          have HG1 := Lib.hid (show Grw w0 base v XS.length XS u0 w1 from Grw.trans HGR.out (Grw.pre HB1.out (Grw.refl (own_below HGR.out.own HB1.out))))
          have HBW := Lib.hid (HBX.out _ _ _ _ HG1.out)
          have HTB := Lib.hid (HT.out.keep HBW.out)
          have HXC := Lib.hid (HC.out.under HB1.out hzr)
          have tb1 := HTB.out.pw
          have tb2 := HTB.out.lw
          have tb3 := HTB.out.lt
          have hz1 := HH1.out.lt
          have tz1 : bw < w1.heap.size := by omega
          have tz2 : bt < w1.heap.size := by omega
          have d0 := HH1.out.cell 0
          have d1 := HH1.out.cell 1
          have d2 := HH1.out.cell 2
          have d3 := HH1.out.cell 3
          simp only [List.getElem?_cons_succ, List.getElem?_cons_zero] at d0 d1 d2 d3
          clear e0 e1 e2 e3
          obtain ⟨w2, hw2⟩ : ∃ w2, w2 = w1.drew := ⟨_, rfl⟩
          have HW2 := Lib.hid hw2
          have HG2 := Lib.hid (show Grw w0 base v XS.length XS u0 w2 by rw [hw2]; exact Grw.trans HG1.out (Grw.pre ((Below.refl _ _).drew) (Grw.refl (own_drew HG1.out.own))))
          have HX2 := Lib.hid (show Cd.CellB w2 base x [.int .i64 x.k, .int .i64 x.n, .string ⟨x.s.toArray⟩, .slice Av x.l.length cv] by rw [hw2]; exact HXC.out.keep ((Below.refl _ _).drew))
          have HT2 := Lib.hid (show Cd.Tab w2 base bw bt by rw [hw2]; exact HTB.out.keep ((Below.refl _ _).drew))
          have HZ2 := HZX.out _ _ _ _ HG2.out
          have HEN2 := Lib.hid (show ∀ v3 w3, Grw w2 base u0 (XS ++ x.enc).length (XS ++ x.enc) v3 w3 → Grw w0 base v (xs ++ (3 :: (Cd.num l.length ++ Cd.T.encs (l.take (j + 1))))).length (xs ++ (3 :: (Cd.num l.length ++ Cd.T.encs (l.take (j + 1))))) v3 w3 from fun v3 w3 hG => by
            rw [show xs ++ (3 :: (Cd.num l.length ++ Cd.T.encs (l.take (j + 1)))) = XS ++ x.enc by rw [← HXS.out, HES.out]; simp]
            exact HG2.out.trans hG)
          have HLE := Lib.hid (show XS.length + x.enc.length ≤ 90000000 by
            have h1 := HLN.out; have h2 := HEL.out
            rw [← HXS.out]
            simp
            omega)
          have HNR := Lib.hid (show -9223372036854775808 ≤ x.n ∧ x.n ≤ 9223372036854775807 by
            have h := HXC.out
            clear HXC HX2
            cases h
            assumption)
          clear hw2
          rcases Cd.T.fd_cases HF.out with ⟨k1, q1, q2⟩ | ⟨k1, q1, q2⟩ | ⟨k1, q1, q2, q3⟩
          · have HE := Lib.hid (Cd.enc_1 k1)
            have HK := Lib.hid (Cd.wInt_any u0 base 1 x.n ⟨x.s.toArray⟩ Av x.l.length cv XS w2 HG2.out.own HZ2 HNR.out (by have := HLE.out; omega))
            rw [← HE.out] at HK
            have t1 := HTB.out.c1
            rw [k1] at d0
            clear q1 q2 k1
            go_still_tail 9, (by kernel_rfl)
            change wpList _ _ _ _ _ w1.drew
            rw [← HW2.out]
            go_wp2_with ((with_reducible refine HK.out.mono ?_); rintro e w3 ⟨v3, rfl, hG3⟩; have HG3 := Lib.hid hG3; clear hG3)
            exact ⟨⟨j + 1, by omega, by go_num, HEN2.out _ _ HG3.out⟩, by simp [intOf]; omega⟩
          · have HE := Lib.hid (Cd.enc_2 k1)
            have HK := Lib.hid (Cd.wText_any u0 base 2 x.n x.s Av x.l.length cv XS w2 HG2.out.own HZ2 (by have := HLE.out; rw [HE.out] at this; simp at this; omega))
            rw [← HE.out] at HK
            have t1 := HTB.out.c2
            rw [k1] at d0
            clear q1 q2 k1
            go_still_tail 9, (by kernel_rfl)
            change wpList _ _ _ _ _ w1.drew
            rw [← HW2.out]
            go_wp2_with ((with_reducible refine HK.out.mono ?_); rintro e w3 ⟨v3, rfl, hG3⟩; have HG3 := Lib.hid hG3; clear hG3)
            exact ⟨⟨j + 1, by omega, by go_num, HEN2.out _ _ HG3.out⟩, by simp [intOf]; omega⟩
          · have HK := Lib.hid (IH.out x [.int .i64 x.k, .int .i64 x.n, .string ⟨x.s.toArray⟩, .slice Av x.l.length cv] w2 u0 base XS bw bt HH.out k1 HF.out HX2.out HT2.out HG2.out.own HZ2 HLE.out)
            rw [k1] at HK d0
            have t1 := HTB.out.c3
            clear q1 q2 q3 k1
            go_still_tail 9, (by kernel_rfl)
            change wpList _ _ _ _ _ w1.drew
            rw [← HW2.out]
            go_wp2_with ((with_reducible refine HK.out.mono ?_); rintro e w3 ⟨v3, rfl, hG3⟩; have HG3 := Lib.hid hG3; clear hG3)
            exact ⟨⟨j + 1, by omega, by go_num, HEN2.out _ _ HG3.out⟩, by simp [intOf]; omega⟩
        · obtain rfl : j = l.length := by omega
          have HE := Lib.hid (show Grw w base v (xs ++ (3 :: (Cd.num l.length ++ Cd.T.encs l))).length (xs ++ (3 :: (Cd.num l.length ++ Cd.T.encs l))) u0 wr by
            have h := HGR.out
            rw [List.take_length] at h
            exact Grw.pre HB0.out h)
          go_wp2_with fail
          go_ret
          exact ⟨_, rfl, HE.out⟩
theorem Cd.wList_any : ∀ (h : Nat) (t : Cd.T) (cs : List Value) (w : World) (v : Value) (base : Nat) (xs : List UInt8) (bw bt : Nat), t.hgt ≤ h → h ≤ 1000000 → t.k = 3 → t.fd.isSome = true → Cd.CellB w base t cs → Cd.Tab w base bw bt →
    w.ownsRow base 5 1 v xs.length (xs.map fun a => Value.int .u8 (a.toNat : Int)) → base ≤ w.heap.size → xs.length + t.enc.length ≤ 90000000 →
    Calls Tryd.prog 100 #[v, .agg cs.toArray, .pointer (some ⟨bw, 0, none⟩)] w (Cd.RetG w base v (xs ++ t.enc)) := by
  intro h
  induction h with
  | zero => intro t cs w v base xs bw bt hh; cases t; rw [Cd.T.hgt] at hh; omega
  | succ h ih => exact Cd.wList_step h ih
end Go.Proofs.YtideglpjgplpnaaDoor
