import Derived.Test.YtnbbleajbbgmjaaDoorMClkR1
import Derived.Test.YtnbbleajbbgmjaaDoorMRcW9
/- Contracts of the reference's receipts: Times. -/
namespace Go.Proofs.YtnbbleajbbgmjaaDoor
open Go.RowKit
set_option linter.unusedVariables false

/-- the cells that Times reads -/
theorem Rc.keepT {W2 : World} {xb bc o : Nat} {v1 v2 v3 v4 v5 : Value} (hb : bc < W2.heap.size) (hx : xb < W2.heap.size)
    (h1 : W2.cell? ⟨xb, 0, none⟩ = some v1) (h2 : W2.cell? ⟨xb, 2, none⟩ = some v2) (h3 : W2.cell? ⟨bc, o, none⟩ = some v3) (h4 : W2.cell? ⟨bc, o + 1, none⟩ = some v4) (h5 : W2.cell? ⟨bc, o + 2, none⟩ = some v5) (w' : World) (s : Below W2.heap.size W2 w') :
    w'.cell? ⟨xb, 0, none⟩ = some v1 ∧ w'.cell? ⟨xb, 2, none⟩ = some v2 ∧ w'.cell? ⟨bc, o, none⟩ = some v3 ∧ w'.cell? ⟨bc, o + 1, none⟩ = some v4 ∧ w'.cell? ⟨bc, o + 2, none⟩ = some v5 ∧ Below W2.heap.size W2 w' :=
  ⟨(s.cell hx).trans h1, (s.cell hx).trans h2, (s.cell hb).trans h3, (s.cell hb).trans h4, (s.cell hb).trans h5, s⟩
/-- behind the call: the range lies in a block of its own -/
def Rc.midT (n0 : Nat) (W2 : World) (v0 v1 : Value) (lo hi : Int) : Exit → Act → World → Prop := fun e a' W' => e = .normal ∧ ∃ (rb : Nat) (u6 u7 u8 u9 u10 u11 u12 u13 u14 u15 u16 u17 u18 u19 u20 : Value),
  a' = { tmps := #[v0, v1, undef, .pointer (some ⟨n0, 0, none⟩), .pointer (some ⟨n0 + 1, 0, none⟩), .pointer (some ⟨rb, 0, none⟩), u6, u7, u8, u9, u10, u11, u12, u13, u14, u15, u16, u17, u18, u19, u20], defers := [] } ∧ Has W' rb 38 [Rc.i lo, Rc.i hi] ∧ Below W2.heap.size W2 W'

set_option maxRecDepth 100000 in
set_option maxHeartbeats 8000000 in
theorem Rc.rtimes_any (Ac : Option Addr) (nc cc : Nat) (c : List Rc.C) (x : Rc.R) (w : World) (hC : Rc.Clks w w.heap.size Ac nc c) (hm : nc ≤ maxLen) (hx0 : 0 ≤ x.rf) (hx1 : x.rf < nc) (hx32 : x.dg.length = 32) :
    Calls Tryd.prog 47 #[.slice Ac nc cc, .agg x.cells.toArray] w fun e w' => e = .returned (.agg #[Rc.i (Rc.spL c x), Rc.i (Rc.spH c x)]) ∧ Below w.heap.size w w' := by
  have hcl := hC.len
  unfold maxLen at hm
  obtain ⟨q, hqc⟩ : ∃ q, c[x.rf.toNat]? = some q := ⟨_, List.getElem?_eq_getElem (by omega)⟩
  have HSP := Lib.hid (show Rc.spL c x = Clk.timLo q.s q.er q.d x.st ∧ Rc.spH c x = Clk.timHi q.s q.er q.d x.st from by
    have hd : c.getD x.rf.toNat default = q := by rw [List.getD_eq_getElem?_getD, hqc]; rfl
    exact ⟨by unfold Rc.spL; rw [hd], by unfold Rc.spH; rw [hd]⟩)
  obtain ⟨bc, oc, rfl, hbc, q0, q1, q2⟩ := hC.get x.rf.toNat q hqc
  obtain ⟨rn, hrn⟩ : ∃ rn : Nat, x.rf.toNat = rn := ⟨_, rfl⟩
  have hrx : x.rf = (rn : Int) := by omega
  rw [hrn] at q0 q1 q2
  obtain ⟨W2, hW2⟩ : ∃ W2, W2 = (w.alloc (.cells x.cells.toArray 47)).alloc (.cells #[.int .i64 0, .int .i64 0] 38) := ⟨_, rfl⟩
  have HB2 := Lib.hid (show Below w.heap.size w W2 from by rw [hW2]; exact below_two w _ _)
  have HX2 := Lib.hid (show Has W2 w.heap.size 47 x.cells from by rw [hW2]; exact (Has.new w _ _).alloc _)
  have HR2 := Lib.hid (show Has W2 (w.heap.size + 1) 38 [.int .i64 0, .int .i64 0] from by
    rw [hW2]
    have h := Has.new (w.alloc (.cells x.cells.toArray 47)) 38 [.int .i64 0, .int .i64 0]
    rw [World.size_alloc] at h
    exact h)
  have x0 : W2.cell? ⟨w.heap.size, 0, none⟩ = some (Rc.i x.rf) := HX2.out.cell 0
  have x2 : W2.cell? ⟨w.heap.size, 2, none⟩ = some (Rc.i x.st) := HX2.out.cell 2
  rw [hrx] at x0
  have r0 := (HB2.out.cell (p := ⟨bc, oc + rn * 3, none⟩) hbc).trans q0
  have r1 := (HB2.out.cell (p := ⟨bc, oc + rn * 3 + 1, none⟩) hbc).trans q1
  have r2 := (HB2.out.cell (p := ⟨bc, oc + rn * 3 + 2, none⟩) hbc).trans q2
  have hzx : w.heap.size < W2.heap.size := HX2.out.lt
  have hzc : bc < W2.heap.size := by omega
  have hlr : (rn : Int) < (nc : Int) := by omega
  have HT := Lib.hid (fun W' => Clk.rtimes_any q.s q.er q.d x.st W')
  rw [← HSP.out.1, ← HSP.out.2] at HT
  generalize Rc.spL c x = lo at HT ⊢
  generalize Rc.spH c x = hi at HT ⊢
  have hmix : Tryd.prog.follows .mixedOrders = true := by kernel_rfl
  clear hqc hrn hrx hx0 hx1 q0 q1 q2 hC hcl HSP
  go_enter Tryd.func47, Tryd.ntmps47
  go_upto_region 1 with fail
  change Code.wp _ _ _ _ ((w.alloc (.cells x.cells.toArray 47)).alloc (.cells #[.int .i64 0, .int .i64 0] 38))
  rw [← hW2]
  clear hW2
  refine Code.wp_mono (Q := Rc.midT w.heap.size W2 (.slice (some ⟨bc, oc, none⟩) nc cc) (.agg x.cells.toArray) lo hi) ?tail ?region
  case region =>
    have KP := Lib.hid (Rc.keepT hzc hzx x0 x2 r0 r1 r2)
    have s2 : Below W2.heap.size W2 W2.drew := (Below.refl _ W2).drew
    go_region_held3 (fun w' => w'.cell? ⟨w.heap.size, 0, none⟩ = some (Rc.i (rn : Int)) ∧ w'.cell? ⟨w.heap.size, 2, none⟩ = some (Rc.i x.st) ∧ w'.cell? ⟨bc, oc + rn * 3, none⟩ = some (Rc.i q.s) ∧ w'.cell? ⟨bc, oc + rn * 3 + 1, none⟩ = some (Rc.i q.er) ∧ w'.cell? ⟨bc, oc + rn * 3 + 2, none⟩ = some (Rc.i q.d) ∧ Below W2.heap.size W2 w')
      (first
        | exact KP.out _ (by assumption)
        | exact KP.out _ (Rc.new2 (by assumption))
        | exact KP.out _ (Rc.set2 (by assumption))
        | exact KP.out _ (Rc.set2B (by assumption)))
      (first
        | (go_at_call 66
           (with_reducible refine (HT.out _).mono ?_)
           rintro e W4 ⟨rfl, hb4⟩
           refine Rc.boxA hb4 (fun gA sA g0 g1 k0 k1 kz => ?_))
        | (go_at_call 66
           (with_reducible refine (HT.out _).mono ?_)
           rintro e W4 ⟨rfl, hb4⟩
           have sB := s2.trans hb4))
    all_goals (refine ⟨rfl, _, _, _, _, _, _, _, _, _, _, _, _, _, _, _, _, rfl, ?_, ?_⟩)
    all_goals first
      | exact Has.new _ _ _
      | exact (gA.set 0 _).set 1 _
      | exact Rc.new2 sB
      | exact Rc.set2 sA
  case tail =>
    rintro e a' W5 ⟨rfl, rb, u6, u7, u8, u9, u10, u11, u12, u13, u14, u15, u16, u17, u18, u19, u20, rfl, hHas, hB5⟩
    obtain ⟨zr, c0, c1⟩ := hHas.r2
    have hR5 := HR2.out.keep hB5
    obtain ⟨zr5, d0, d1⟩ := hR5.r2
    have f0 := hR5.frozen 0
    have f1 := hR5.frozen 1
    have HB5 := Lib.hid (HB2.out.trans (hB5.mono HB2.out.size))
    clear hB5 hHas hR5 x0 x2 r0 r1 r2
    go_wp2_with fail
    refine bodyPost_ret (v := .agg #[Rc.i lo, Rc.i hi]) (by simp [results, Tryd.results47, go_sem, d0, d1]) rfl ⟨rfl, ?_⟩
    exact (HB5.out.setCell (p := ⟨w.heap.size + 1, 0, none⟩) (Nat.le_succ _) _).setCell (p := ⟨w.heap.size + 1, 1, none⟩) (Nat.le_succ _) _
end Go.Proofs.YtnbbleajbbgmjaaDoor
/- Contract of the reference's When, from valid's. -/
namespace Go.Proofs.YtnbbleajbbgmjaaDoor
open Go.RowKit
set_option linter.unusedVariables false

/-- the times that the receipts leave, first and last -/
def Rc.m1 (r : Int × Int) (x : Nat × Int × Int) : Int × Int := (if r.1 < x.2.1 then x.2.1 else r.1, if x.2.2 < r.2 then x.2.2 else r.2)
def Rc.mm (xs : List (Nat × Int × Int)) : Int × Int := xs.foldl Rc.m1 (0, 1048576)
theorem Rc.mm_snoc (xs : List (Nat × Int × Int)) (x : Nat × Int × Int) : Rc.mm (xs ++ [x]) = Rc.m1 (Rc.mm xs) x := by unfold Rc.mm; rw [List.foldl_append]; rfl
theorem Rc.m1_mono (xs : List (Nat × Int × Int)) : ∀ r : Int × Int, r.1 ≤ (xs.foldl Rc.m1 r).1 ∧ (xs.foldl Rc.m1 r).2 ≤ r.2 := by
  induction xs with
  | nil => exact fun r => ⟨Int.le_refl _, Int.le_refl _⟩
  | cons x xs ih =>
    intro r
    obtain ⟨h1, h2⟩ := ih (Rc.m1 r x)
    have h3 : r.1 ≤ (Rc.m1 r x).1 := by unfold Rc.m1; dsimp only; split <;> omega
    have h4 : (Rc.m1 r x).2 ≤ r.2 := by unfold Rc.m1; dsimp only; split <;> omega
    exact ⟨Int.le_trans h3 h1, Int.le_trans h2 h4⟩
theorem Rc.mts_fold (xs : List (Nat × Int × Int)) : ∀ r : Int × Int, xs.foldl Rc.mt (if r.1 ≤ r.2 then some r else none) = if (xs.foldl Rc.m1 r).1 ≤ (xs.foldl Rc.m1 r).2 then some (xs.foldl Rc.m1 r) else none := by
  induction xs with
  | nil => exact fun r => rfl
  | cons x xs ih =>
    intro r
    rw [List.foldl_cons, List.foldl_cons, ← ih (Rc.m1 r x)]
    obtain ⟨a, b⟩ := r
    obtain ⟨k, p, q⟩ := x
    by_cases h : a ≤ b
    · rw [if_pos h]
      have h5 : Rc.mt (some (a, b)) (k, p, q) = if (Rc.m1 (a, b) (k, p, q)).1 ≤ (Rc.m1 (a, b) (k, p, q)).2 then some (Rc.m1 (a, b) (k, p, q)) else none := by
        unfold Rc.mt
        by_cases h6 : (if a < p then p else a) ≤ (if q < b then q else b)
        · obtain ⟨e1, e2, e3⟩ := Clk.meet_yes a b p q _ _ rfl rfl h6
          rw [if_pos (show (Rc.m1 (a, b) (k, p, q)).1 ≤ (Rc.m1 (a, b) (k, p, q)).2 from h6)]
          simp only [e1, e2, e3, if_true]
          rfl
        · obtain ⟨e1, e2, e3⟩ := Clk.meet_no a b p q _ _ rfl rfl (show (if q < b then q else b) < (if a < p then p else a) by omega)
          rw [if_neg (show ¬ (Rc.m1 (a, b) (k, p, q)).1 ≤ (Rc.m1 (a, b) (k, p, q)).2 from h6)]
          simp [e1]
      rw [h5]
    · rw [if_neg h]
      have h5 : ¬ (Rc.m1 (a, b) (k, p, q)).1 ≤ (Rc.m1 (a, b) (k, p, q)).2 := by
        unfold Rc.m1
        dsimp only at h ⊢
        split <;> split <;> omega
      rw [if_neg h5]
      rfl
theorem Rc.mts_mm (xs : List (Nat × Int × Int)) : Rc.mts xs = if (Rc.mm xs).1 ≤ (Rc.mm xs).2 then some (Rc.mm xs) else none := Rc.mts_fold xs (0, 1048576)
theorem Rc.when_no {xs : List (Nat × Int × Int)} (h : (Rc.mm xs).2 < (Rc.mm xs).1) : Rc.whenV 0 xs = .tuple #[.agg #[.int .i64 0, .int .i64 0], .int .i64 511] := by
  have h1 : Rc.mts xs = none := by rw [Rc.mts_mm, if_neg (by omega)]
  unfold Rc.whenV Rc.whenR
  rw [h1]; rfl
theorem Rc.when_yes {xs : List (Nat × Int × Int)} (h : (Rc.mm xs).1 ≤ (Rc.mm xs).2) : Rc.whenV 0 xs = .tuple #[.agg #[.int .i64 (Rc.mm xs).1, .int .i64 (Rc.mm xs).2], .int .i64 0] := by
  have h1 : Rc.mts xs = some (Rc.mm xs) := by rw [Rc.mts_mm, if_pos h]
  unfold Rc.whenV Rc.whenR
  rw [h1]; rfl
theorem Rc.when_err {E : Int} (xs : List (Nat × Int × Int)) (h : E ≠ 0) : Rc.whenV E xs = .tuple #[.agg #[.int .i64 0, .int .i64 0], .int .i64 E] := by
  unfold Rc.whenV Rc.whenR
  rw [if_neg h]

set_option maxRecDepth 100000 in
set_option maxHeartbeats 8000000 in
theorem Rc.rwhen_of (Ac As Al : Option Addr) (nc cc ns cs nl cl : Nat) (c : List Rc.C) (subs : List Rc.Sb) (l : List Rc.R) (no : Int) (E : Int) (w : World) (hE : Rc.Ev w w.heap.size Ac As Al nc ns nl c subs l)
    (hV : ∀ w', Below w.heap.size w w' → Calls Tryd.prog 46 #[.slice Ac nc cc, .slice As ns cs, .slice Al nl cl, Rc.i no] w' fun e w'' => e = .returned (.int .i64 E) ∧ Below w'.heap.size w' w'')
    (hrf : E = 0 → ∀ x ∈ l, 0 ≤ x.rf ∧ x.rf < nc) :
    Calls Tryd.prog 17 #[.slice Ac nc cc, .slice As ns cs, .slice Al nl cl, Rc.i no] w fun e w' => e = .returned (Rc.whenV E (Rc.ofs c l no)) ∧ Below w.heap.size w w' := by
  obtain ⟨W1, hW1⟩ : ∃ W1, W1 = w.alloc (.cells #[.int .i64 0, .int .i64 0] 38) := ⟨_, rfl⟩
  have HB1 := Lib.hid (show Below w.heap.size w W1 from by rw [hW1]; exact (Below.refl _ w).alloc (Nat.le_refl _) _)
  have HR1 := Lib.hid (show Has W1 w.heap.size 38 [.int .i64 0, .int .i64 0] from by rw [hW1]; exact Has.new w _ _)
  have HC := Lib.hid (hV W1 HB1.out)
  have HEV := Lib.hid hE
  have hll := hE.l.len
  have hnl := hE.ml
  unfold maxLen at hnl
  clear hV hE
  by_cases hE0 : E = 0
  · subst hE0
    have HRF := Lib.hid (hrf rfl)
    clear hrf
    go_enter Tryd.func17, Tryd.ntmps17
    go_upto_region 1 with fail
    rw [← hW1]
    clear hW1
    go_wp2_with fail
    ((with_reducible refine HC.out.mono ?_); rintro e w2 ⟨rfl, hb2⟩)
    have HR2 := Lib.hid (HR1.out.keep hb2)
    have HB2 := Lib.hid (HB1.out.trans (hb2.mono HB1.out.size))
    clear hb2
    go_upto_region 5 with fail
    obtain ⟨gr, hgr⟩ : ∃ gr, w2.heap.size = gr := ⟨_, rfl⟩
    obtain ⟨W3, hW3⟩ : ∃ W3, W3 = w2.alloc (.cells #[.int .i64 0, .int .i64 1048576] 38) := ⟨_, rfl⟩
    have hB3 : Below w2.heap.size w2 W3 := by rw [hW3]; exact (Below.refl _ w2).alloc (Nat.le_refl _) _
    have HM3 := Lib.hid (show Has W3 gr 38 [.int .i64 (Rc.mm []).1, .int .i64 (Rc.mm []).2] from by rw [hW3, ← hgr]; exact Has.new w2 _ _)
    have HR3 := Lib.hid (HR2.out.keep hB3)
    have HB3 := Lib.hid (HB2.out.trans (hB3.mono HB2.out.size))
    have hgw : w.heap.size < gr := by have := HR2.out.lt; omega
    rw [← hW3, hgr]
    clear hW3 hgr hB3 HR2 HB2
    go_wp2_with fail
    go_loopw [12] (fun i wr => ∃ k : Nat, k ≤ nl ∧ i = .int .i64 k ∧ Has wr gr 38 [.int .i64 (Rc.mm (Rc.ofp c l no k)).1, .int .i64 (Rc.mm (Rc.ofp c l no k)).2] ∧ Has wr w.heap.size 38 [.int .i64 0, .int .i64 0] ∧ Below w.heap.size w wr) (fun i _ => nl - (intOf i).toNat)
    case atStart => exact ⟨0, by omega, rfl, HM3.out, HR3.out, HB3.out⟩
    case round =>
      clear HM3 HR3 HB3
      obtain ⟨k, hk, rfl, hm, hr, hB⟩ := hrel
      have HB := Lib.hid hB
      have HM := Lib.hid hm
      have HR := Lib.hid hr
      clear hm hr hB
      by_cases hlt : k < nl
      · obtain ⟨x, hx⟩ : ∃ x, l[k]? = some x := ⟨_, List.getElem?_eq_getElem (by omega)⟩
        obtain ⟨hd32, bl, ol, rfl, hbl, hrx⟩ := (HEV.out.l.keep HB.out).get k x hx
        have hbw : bl < wr.heap.size := by have := HB.out.size; omega
        have HRX := Lib.hid hrx
        have hc35 : x.cells.length = 35 := Rc.R.cells_len hd32
        have HI47 := Lib.hid (show (Tryd.prog.info? 47).map (·.size) = some x.cells.length from by rw [hc35]; exact Rc.info47)
        have c1 : wr.cell? ⟨bl, ol + k * 35 + 1, none⟩ = some (Rc.i x.no) := hrx 1 _ rfl
        have HSN := Lib.hid (show Rc.ofp c l no (k + 1) = Rc.ofp c l no k ++ (if x.no = no then [(k, Rc.spL c x, Rc.spH c x)] else []) from by rw [Rc.ofp, Rc.ofk, hx])
        have HXM := Lib.hid (HRF.out x (List.mem_of_getElem? hx))
        have HD32 := Lib.hid hd32
        clear hx hrx hc35 hd32
        by_cases hno : x.no = no
        · have hq : (x.no == no) = true := by simpa using hno
          have HT := Lib.hid (Rc.rtimes_any Ac nc cc c x wr ((HEV.out.c.keep HB.out).more HB.out.size) HEV.out.mc HXM.out.1 HXM.out.2 HD32.out)
          have HS1 := Lib.hid (show Rc.mm (Rc.ofp c l no (k + 1)) = Rc.m1 (Rc.mm (Rc.ofp c l no k)) (k, Rc.spL c x, Rc.spH c x) from by rw [HSN.out, if_pos hno, Rc.mm_snoc])
          generalize Rc.mm (Rc.ofp c l no k) = m at HM HS1
          obtain ⟨lo, hi⟩ := m
          generalize Rc.spL c x = a at HT HS1
          generalize Rc.spH c x = b at HT HS1
          obtain ⟨lo', hlo⟩ : ∃ lo', (if lo < a then a else lo) = lo' := ⟨_, rfl⟩
          obtain ⟨hi', hhi⟩ : ∃ hi', (if b < hi then b else hi) = hi' := ⟨_, rfl⟩
          have HS2 := Lib.hid (show Rc.mm (Rc.ofp c l no (k + 1)) = (lo', hi') from by rw [HS1.out, ← hlo, ← hhi]; rfl)
          clear hno HS1 HXM HSN HD32
          go_wp2_with (first | (with_reducible refine wpList_load_mid rfl 47 (.tmp 40) rfl bl (ol + k * 35) rfl x.cells _ HRX.out Tryd.underlying47 rfl HI47.out ?_))
          ((with_reducible refine HT.out.mono ?_); rintro e w4 ⟨rfl, hb4⟩)
          have hm4 := HM.out.keep hb4
          obtain ⟨zm, m0, m1⟩ := hm4.r2
          have n0 := hm4.frozen 0
          have n1 := hm4.frozen 1
          have HM4 := Lib.hid hm4
          have HR4 := Lib.hid (HR.out.keep hb4)
          have HB4 := Lib.hid (HB.out.trans (hb4.mono HB.out.size))
          clear hb4 hm4 c1 HM HR HB HT HRX
          go_wp2_with fail
          have hne : w.heap.size ≠ gr := by omega
          refine ⟨⟨k + 1, by omega, by go_num, ?_, ?_, ?_⟩, by simp [intOf]; omega⟩
          · rw [HS2.out]
            exact ((HM4.out.set 0 _).set 1 _).alloc _
          · exact ((HR4.out.far hne _).far hne _).alloc _
          · exact (fun (hs : Below w.heap.size w _) => hs.alloc hs.size _) ((HB4.out.setCell (p := ⟨gr, 0, none⟩) (by show w.heap.size ≤ gr; omega) _).setCell (p := ⟨gr, 1, none⟩) (by show w.heap.size ≤ gr; omega) _)
        · have hq : (x.no == no) = false := by simpa using hno
          have HS1 := Lib.hid (show Rc.ofp c l no (k + 1) = Rc.ofp c l no k from by rw [HSN.out, if_neg hno, List.append_nil])
          clear hno HXM HSN
          go_wp2_with fail
          exact ⟨⟨k + 1, by omega, by go_num, by rw [HS1.out]; exact HM.out, HR.out, HB.out⟩, by simp [intOf]; omega⟩
      · obtain rfl : k = nl := by omega
        have HO := Lib.hid (show Rc.ofp c l no k = Rc.ofs c l no from by unfold Rc.ofs; rw [hll])
        have hm := HM.out
        have hr := HR.out
        rw [HO.out] at hm
        have HWN := Lib.hid (fun h => Rc.when_no (xs := Rc.ofs c l no) h)
        have HWY := Lib.hid (fun h => Rc.when_yes (xs := Rc.ofs c l no) h)
        generalize Rc.mm (Rc.ofs c l no) = m at hm HWN HWY
        obtain ⟨lo, hi⟩ := m
        obtain ⟨zm, m0, m1⟩ := hm.r2
        obtain ⟨z2, d0, d1⟩ := hr.r2
        have f0 := hr.frozen 0
        have f1 := hr.frozen 1
        have hne : gr ≠ w.heap.size := by omega
        clear hm hr HM HR HO
        dsimp only at HWN HWY m0 m1
        by_cases hlh : hi < lo
        · have hd : decide (hi < lo) = true := decide_eq_true hlh
          have HW := Lib.hid (HWN.out hlh)
          clear hlh HWN HWY
          go_wp2_with fail
          refine bodyPost_ret (v := .tuple #[.agg #[.int .i64 0, .int .i64 0], .int .i64 511]) (by simp [results, Tryd.results17, go_sem, d0, d1]) rfl ⟨by rw [HW.out], ?_⟩
          exact (HB.out.setCell (p := ⟨w.heap.size, 0, none⟩) (Nat.le_refl _) _).setCell (p := ⟨w.heap.size, 1, none⟩) (Nat.le_refl _) _
        · have hd : decide (hi < lo) = false := decide_eq_false hlh
          have HW := Lib.hid (HWY.out (by omega))
          clear hlh HWN HWY
          go_wp2_with fail
          refine bodyPost_ret (v := .tuple #[.agg #[.int .i64 lo, .int .i64 hi], .int .i64 0]) (by simp [results, Tryd.results17, go_sem, d0, d1]) rfl ⟨by rw [HW.out], ?_⟩
          exact (HB.out.setCell (p := ⟨w.heap.size, 0, none⟩) (Nat.le_refl _) _).setCell (p := ⟨w.heap.size, 1, none⟩) (Nat.le_refl _) _
  · have hd : (E != 0) = true := by simpa using hE0
    have HW := Lib.hid (Rc.when_err (Rc.ofs c l no) hE0)
    clear hrf hE0
    go_enter Tryd.func17, Tryd.ntmps17
    go_upto_region 1 with fail
    rw [← hW1]
    clear hW1
    go_wp2_with fail
    ((with_reducible refine HC.out.mono ?_); rintro e w2 ⟨rfl, hb2⟩)
    have HR2 := HR1.out.keep hb2
    have HB2 := Lib.hid (HB1.out.trans (hb2.mono HB1.out.size))
    obtain ⟨z2, d0, d1⟩ := HR2.r2
    have f0 := HR2.frozen 0
    have f1 := HR2.frozen 1
    clear hb2 HR2
    go_wp2_with fail
    refine bodyPost_ret (v := .tuple #[.agg #[.int .i64 0, .int .i64 0], .int .i64 E]) (by simp [results, Tryd.results17, go_sem, d0, d1]) rfl ⟨by rw [HW.out], ?_⟩
    exact (HB2.out.setCell (p := ⟨w.heap.size, 0, none⟩) (Nat.le_refl _) _).setCell (p := ⟨w.heap.size, 1, none⟩) (Nat.le_refl _) _
end Go.Proofs.YtnbbleajbbgmjaaDoor
/- The first two receipts that contradict each other, by two loops. Plain. -/
namespace Go.Proofs.YtnbbleajbbgmjaaDoor
open Go.RowKit
set_option linter.unusedVariables false

/-- do the receipts with two indices contradict each other? -/
def Rc.bd (c : List Rc.C) (l : List Rc.R) (no : Int) (a b : Nat) : Bool :=
  match l[a]?, l[b]? with
  | some x, some y => decide (x.no = no) && (decide (y.no = no) && (decide (Rc.spH c x < Rc.spL c y) || decide (Rc.spH c y < Rc.spL c x)))
  | _, _ => false
theorem Rc.bd_eq {c : List Rc.C} {l : List Rc.R} {no : Int} {a b : Nat} {x y : Rc.R} (hx : l[a]? = some x) (hy : l[b]? = some y) :
    Rc.bd c l no a b = (decide (x.no = no) && (decide (y.no = no) && (decide (Rc.spH c x < Rc.spL c y) || decide (Rc.spH c y < Rc.spL c x)))) := by unfold Rc.bd; rw [hx, hy]
theorem Rc.ofk_mem {c : List Rc.C} {l : List Rc.R} {no : Int} {k : Nat} {e : Nat × Int × Int} (h : e ∈ Rc.ofk c l no k) : ∃ x, l[k]? = some x ∧ x.no = no ∧ e = (k, Rc.spL c x, Rc.spH c x) := by
  unfold Rc.ofk at h
  cases hx : l[k]? with
  | none => rw [hx] at h; simp at h
  | some x =>
    rw [hx] at h
    dsimp only at h
    by_cases hn : x.no = no
    · rw [if_pos hn] at h
      exact ⟨x, rfl, hn, by simpa using h⟩
    · rw [if_neg hn] at h
      simp at h
theorem Rc.ofp_mem {c : List Rc.C} {l : List Rc.R} {no : Int} (n : Nat) {e : Nat × Int × Int} (h : e ∈ Rc.ofp c l no n) : ∃ i x, i < n ∧ l[i]? = some x ∧ x.no = no ∧ e = (i, Rc.spL c x, Rc.spH c x) := by
  induction n with
  | zero => simp [Rc.ofp] at h
  | succ n ih =>
    rw [Rc.ofp, List.mem_append] at h
    rcases h with h | h
    · obtain ⟨i, x, h1, h2⟩ := ih h
      exact ⟨i, x, by omega, h2⟩
    · obtain ⟨x, h2⟩ := Rc.ofk_mem h
      exact ⟨n, x, by omega, h2⟩
theorem Rc.badP_bd {c : List Rc.C} {l : List Rc.R} {no : Int} {i j : Nat} {x y : Rc.R} (hi : l[i]? = some x) (hj : l[j]? = some y) (hx : x.no = no) (hy : y.no = no) :
    Rc.badP (i, Rc.spL c x, Rc.spH c x) (j, Rc.spL c y, Rc.spH c y) = (decide (i < j) && Rc.bd c l no i j) := by
  rw [Rc.bd_eq hi hj, decide_eq_true hx, decide_eq_true hy, Bool.true_and, Bool.true_and]
  rfl
theorem Rc.hit_none {xs : List (Nat × Int × Int)} {x : Nat × Int × Int} (h : ∀ y ∈ xs, Rc.badP x y = false) : Rc.hit xs x = none := by
  unfold Rc.hit
  rw [Option.map_eq_none_iff, List.find?_eq_none]
  intro y hy
  rw [h y hy]
  decide
theorem Rc.conf_no {c : List Rc.C} {l : List Rc.R} {no : Int} (h : ∀ a b, a < b → b < l.length → Rc.bd c l no a b = false) : Rc.conf (Rc.ofs c l no) = none := by
  unfold Rc.conf
  rw [List.findSome?_eq_none_iff]
  intro x hx
  refine Rc.hit_none fun y hy => ?_
  obtain ⟨i, p, hi, hp, hpn, rfl⟩ := Rc.ofp_mem _ hx
  obtain ⟨j, q, hj, hq, hqn, rfl⟩ := Rc.ofp_mem _ hy
  rw [Rc.badP_bd hp hq hpn hqn]
  by_cases hij : i < j
  · rw [h i j hij hj, Bool.and_false]
  · rw [decide_eq_false hij]; rfl
theorem Rc.ofp_at {c : List Rc.C} {l : List Rc.R} {no : Int} {a : Nat} {x : Rc.R} (hx : l[a]? = some x) (hn : x.no = no) : ∃ r, Rc.ofs c l no = Rc.ofp c l no a ++ (a, Rc.spL c x, Rc.spH c x) :: r := by
  have ha : a < l.length := (List.getElem?_eq_some_iff.1 hx).1
  obtain ⟨r, hr⟩ := Rc.ofp_pre c l no (a + 1) l.length (by omega)
  refine ⟨r, ?_⟩
  unfold Rc.ofs
  rw [← hr, Rc.ofp, Rc.ofk, hx]
  dsimp only
  rw [if_pos hn, List.append_assoc]
  rfl
theorem Rc.conf_yes {c : List Rc.C} {l : List Rc.R} {no : Int} {a b : Nat} (hA : ∀ a' b', a' < a → a' < b' → b' < l.length → Rc.bd c l no a' b' = false) (hB : ∀ b', a < b' → b' < b → Rc.bd c l no a b' = false)
    (hab : a < b) (hbl : b < l.length) (h : Rc.bd c l no a b = true) : Rc.conf (Rc.ofs c l no) = some (a, b) := by
  obtain ⟨x, hx⟩ : ∃ x, l[a]? = some x := ⟨_, List.getElem?_eq_getElem (by omega)⟩
  obtain ⟨y, hy⟩ : ∃ y, l[b]? = some y := ⟨_, List.getElem?_eq_getElem hbl⟩
  have h' := h
  rw [Rc.bd_eq hx hy] at h'
  simp only [Bool.and_eq_true, decide_eq_true_eq] at h'
  obtain ⟨hxn, hyn, _⟩ := h'
  obtain ⟨r, hr⟩ := Rc.ofp_at (c := c) hx hxn
  obtain ⟨r2, hr2⟩ := Rc.ofp_at (c := c) hy hyn
  have hfind : (Rc.ofs c l no).find? (Rc.badP (a, Rc.spL c x, Rc.spH c x)) = some (b, Rc.spL c y, Rc.spH c y) := by
    have h0 : (Rc.ofp c l no b).find? (Rc.badP (a, Rc.spL c x, Rc.spH c x)) = none := by
      rw [List.find?_eq_none]
      intro z hz
      obtain ⟨j, q, hj, hq, hqn, rfl⟩ := Rc.ofp_mem _ hz
      rw [Rc.badP_bd hx hq hxn hqn]
      by_cases hij : a < j
      · rw [hB j hij hj, Bool.and_false]; decide
      · rw [decide_eq_false hij, Bool.false_and]; decide
    rw [hr2, List.find?_append, h0, Option.none_or, List.find?_cons_of_pos]
    rw [Rc.badP_bd hx hy hxn hyn, h, decide_eq_true hab]
    rfl
  have hpre : (Rc.ofp c l no a).findSome? (Rc.hit (Rc.ofs c l no)) = none := by
    rw [List.findSome?_eq_none_iff]
    intro z hz
    refine Rc.hit_none fun u hu => ?_
    obtain ⟨i, p, hi, hp, hpn, rfl⟩ := Rc.ofp_mem _ hz
    obtain ⟨j, q, hj, hq, hqn, rfl⟩ := Rc.ofp_mem _ hu
    rw [Rc.badP_bd hp hq hpn hqn]
    by_cases hij : i < j
    · rw [hA i j hi hij hj, Bool.and_false]
    · rw [decide_eq_false hij]; rfl
  unfold Rc.conf
  have hc : Rc.hit (Rc.ofs c l no) (a, Rc.spL c x, Rc.spH c x) = some (a, b) := by unfold Rc.hit; rw [hfind]; rfl
  generalize hH : Rc.hit (Rc.ofs c l no) = H at hpre hc
  rw [hr, List.findSome?_append, hpre, Option.none_or, List.findSome?_cons, hc]
theorem Rc.confV_err {E : Int} (xs : List (Nat × Int × Int)) (h : E ≠ 0) : Rc.confV E xs = .tuple #[.int .i64 0, .int .i64 0, .bool false, .int .i64 E] := by
  unfold Rc.confV Rc.confR
  rw [if_neg h]
theorem Rc.confV_no {xs : List (Nat × Int × Int)} (h : Rc.conf xs = none) : Rc.confV 0 xs = .tuple #[.int .i64 0, .int .i64 0, .bool false, .int .i64 0] := by
  unfold Rc.confV Rc.confR
  rw [h]; rfl
theorem Rc.confV_yes {xs : List (Nat × Int × Int)} {a b : Nat} (h : Rc.conf xs = some (a, b)) : Rc.confV 0 xs = .tuple #[.int .i64 (a : Int), .int .i64 (b : Int), .bool true, .int .i64 0] := by
  unfold Rc.confV Rc.confR
  rw [h]; rfl
end Go.Proofs.YtnbbleajbbgmjaaDoor
