import Derived.Test.YtideglpjgplpnaaDoorMDgC
/- Contract of part.mark. -/
namespace Go.Proofs.YtideglpjgplpnaaDoor
open Go.RowKit Go.Shelf
set_option linter.unusedVariables false

/-- the cells of a share's value: its texts and numbers -/
def Sl.ics (x : Shr.S) : List Int := [x.ep, x.ix, x.th, x.mn]
abbrev Sl.tcs (d : List UInt8) : List Value := [.int .i64 2, .int .i64 0, .string ⟨d.toArray⟩, .slice none 0 0]
theorem Sl.cell_txt (w : World) (B : Nat) (d : List UInt8) (hd : d.length ≤ maxLen) : Cd.CellB w B (Sl.txt d) (Sl.tcs d) :=
  .mk 2 0 d [] none 0 [] rfl (fun i hi => absurd hi (by simp)) Rd.none_ (fun _ => rfl) (by simp) hd (by omega) (by omega)
theorem Sl.cell_val {w : World} {base : Nat} {A : Option Addr} {c : Nat} {x : Shr.S} (h : w.ownsRow base 77 4 (.slice A 5 c) 5 (Rc.ics (Sl.ics x) ++ Sl.tcs x.d)) (hd : x.d.length ≤ maxLen)
    (h1 : Rc.in64 x.ep) (h2 : Rc.in64 x.ix) (h3 : Rc.in64 x.th) (h4 : Rc.in64 x.mn) :
    Cd.CellB w w.heap.size (Sl.val x) [.int .i64 3, .int .i64 0, .string ⟨#[]⟩, .slice A 5 c] := by
  have hc := Rc.own_caps h
  exact .mk 3 0 [] [Rc.int x.ep, Rc.int x.ix, Rc.int x.th, Rc.int x.mn, Sl.txt x.d] A c [Rc.ic x.ep, Rc.ic x.ix, Rc.ic x.th, Rc.ic x.mn, Sl.tcs x.d] rfl (fun i hi => by
    match i, hi with
    | 0, _ => exact Rc.cell_ic w _ _ h1
    | 1, _ => exact Rc.cell_ic w _ _ h2
    | 2, _ => exact Rc.cell_ic w _ _ h3
    | 3, _ => exact Rc.cell_ic w _ _ h4
    | 4, _ => exact Sl.cell_txt w _ _ hd) (by
      have hx : [Rc.ic x.ep, Rc.ic x.ix, Rc.ic x.th, Rc.ic x.mn, Sl.tcs x.d].flatten = Rc.ics (Sl.ics x) ++ Sl.tcs x.d := by simp [Rc.ics, Sl.ics]
      rw [hx]
      exact rd_of_own h) (own_nil h) (by simp [maxLen]) (by simp) (by omega) (by omega)

set_option maxRecDepth 100000 in
set_option maxHeartbeats 8000000 in
theorem Sl.mark_any (x : Shr.S) (A : Option Addr) (c : Nat) (w : World) (hd : RdB w A x.d.length x.d) (hdl : x.d.length ≤ 10000000)
    (h1 : Rc.in64 x.ep) (h2 : Rc.in64 x.ix) (h3 : Rc.in64 x.th) (h4 : Rc.in64 x.mn) (hG : Dg.G w Rc.K0 Rc.I0) :
    Calls Tryd.prog 38 #[.agg #[.int .i64 x.ep, .int .i64 x.ix, .int .i64 x.th, .int .i64 x.mn, .slice A x.d.length c]] w fun e w' => e = .returned (.agg ((Sl.mark x).map Dg.b8).toArray) ∧ Below w.heap.size w w' := by
  have HR := Lib.hid hd
  have HDL := Lib.hid hdl
  have HG := Lib.hid hG
  have HI := Lib.hid (And.intro h1 (And.intro h2 (And.intro h3 h4)))
  obtain ⟨W1, hW1⟩ : ∃ W1, W1 = (w.alloc (.cells #[.int .i64 x.ep, .int .i64 x.ix, .int .i64 x.th, .int .i64 x.mn, .slice A x.d.length c] 69)).alloc (.cells Dg.z32.toArray 23) := ⟨_, rfl⟩
  have HB1 := Lib.hid (show Below w.heap.size w W1 from by rw [hW1]; exact ((Below.refl _ w).alloc (Nat.le_refl _) _).alloc (by simp) _)
  have hX1 : Has W1 w.heap.size 69 [.int .i64 x.ep, .int .i64 x.ix, .int .i64 x.th, .int .i64 x.mn, .slice A x.d.length c] := by rw [hW1]; exact (Has.new w _ _).alloc _
  have hD1 : Has W1 (w.heap.size + 1) 23 Dg.z32 := by
    rw [hW1]
    exact Has.second w _ _ _
  have HX1 := Lib.hid hX1
  have HD1 := Lib.hid hD1
  have hz0 : w.heap.size + 1 < W1.heap.size := hD1.lt
  have hz1 : w.heap.size < W1.heap.size := by omega
  have x0 := hX1.cell 0
  have x1 := hX1.cell 1
  have x2 := hX1.cell 2
  have x3 := hX1.cell 3
  simp only [List.getElem?_cons_succ, List.getElem?_cons_zero] at x0 x1 x2 x3
  clear hd hdl hG h1 h2 h3 h4 hX1 hD1
  obtain ⟨D, hD⟩ : ∃ D, ((Sl.mark x).map Dg.b8).toArray = D := ⟨_, rfl⟩
  rw [hD]
  have HDZ := Lib.hid hD.symm
  clear hD
  go_enter Tryd.func38, Tryd.ntmps38
  go_upto_region 1 with fail
  change Code.wp _ _ _ _ ((w.alloc (.cells #[.int .i64 x.ep, .int .i64 x.ix, .int .i64 x.th, .int .i64 x.mn, .slice A x.d.length c] 69)).alloc (.cells Dg.z32.toArray 23))
  rw [← hW1]
  clear hW1
  go_wp2_with fail
  obtain ⟨W3, hW3⟩ : ∃ W3, W3 = (W1.alloc (.cells #[.int .i64 3, .int .i64 0, .string ⟨#[]⟩, .slice none 0 0] 77)).alloc (.cells #[.int .i64 x.ep, .int .i64 x.ix, .int .i64 x.th, .int .i64 x.mn] 3) := ⟨_, rfl⟩
  obtain ⟨gv, hgv⟩ : ∃ gv, gv = W1.heap.size := ⟨_, rfl⟩
  have HV3 := Lib.hid (show Has W3 gv 77 [.int .i64 3, .int .i64 0, .string ⟨#[]⟩, .slice none 0 0] from by rw [hW3, hgv]; exact (Has.new W1 _ _).alloc _)
  have HL3 := Lib.hid (show Has W3 (gv + 1) 3 [.int .i64 x.ep, .int .i64 x.ix, .int .i64 x.th, .int .i64 x.mn] from by rw [hW3, hgv]; exact Has.second W1 _ _ _)
  have HB3 := Lib.hid (show Below gv W1 W3 from by rw [hW3, hgv]; exact ((Below.refl _ W1).alloc (Nat.le_refl _) _).alloc (by simp) _)
  have HZ3 := Lib.hid (show gv + 2 ≤ W3.heap.size from by rw [hW3, hgv]; simp)
  rw [← hW3, ← hgv]
  rw [← hgv] at hz0 hz1
  have HGV := Lib.hid hgv
  clear hW3 hgv x0 x1 x2 x3
  go_loopw [23] (fun i wr => ∃ (k : Nat) (V : Value), k ≤ 4 ∧ i = .int .i64 k ∧ Has wr gv 77 [.int .i64 3, .int .i64 0, .string ⟨#[]⟩, V] ∧ wr.ownsRow (gv + 2) 77 4 V k (Rc.ics ((Sl.ics x).take k)) ∧
    Has wr (gv + 1) 3 [.int .i64 x.ep, .int .i64 x.ix, .int .i64 x.th, .int .i64 x.mn] ∧ Below gv W1 wr ∧ gv + 2 ≤ wr.heap.size) (fun i _ => 4 - (intOf i).toNat)
  case atStart => exact ⟨0, .slice none 0 0, by omega, rfl, HV3.out, ⟨rfl, .inl ⟨rfl, rfl⟩⟩, HL3.out, HB3.out, HZ3.out⟩
  case round =>
    clear HV3 HL3 HB3 HZ3
    obtain ⟨k, V, hk, rfl, hV, hO, hL, hB, hZ⟩ := hrel
    by_cases hlt : k < 4
    · obtain ⟨y, hy, htk⟩ : ∃ y, wr.cell? ⟨gv + 1, k, none⟩ = some (.int .i64 y) ∧ Rc.ics ((Sl.ics x).take (k + 1)) = Rc.ics ((Sl.ics x).take k) ++ Rc.ic y := by
        match k, hlt with
        | 0, _ => exact ⟨x.ep, hL.cell 0, rfl⟩
        | 1, _ => exact ⟨x.ix, hL.cell 1, rfl⟩
        | 2, _ => exact ⟨x.th, hL.cell 2, rfl⟩
        | 3, _ => exact ⟨x.mn, hL.cell 3, rfl⟩
      obtain ⟨Av, cv, rfl⟩ := Dg.own_form hO
      have c3 := hV.cell 3
      simp only [List.getElem?_cons_succ, List.getElem?_cons_zero] at c3
      have HTK := Lib.hid htk
      have HV := Lib.hid hV
      have HO := Lib.hid hO
      have HL := Lib.hid hL
      have HB := Lib.hid hB
      have HZ := Lib.hid hZ
      have hzl : gv < wr.heap.size := by omega
      have HOA := Lib.hid (own_below (w' := wr.alloc (.cells (Rc.ic y).toArray 77)) hO ((Below.refl _ _).alloc (Nat.le_refl _) _))
      have HRA := Lib.hid (rd_new wr 77 4 (Rc.ic y) rfl)
      have HSA := Lib.hid (show gv + 2 ≤ (wr.alloc (.cells (Rc.ic y).toArray 77)).heap.size from by rw [World.size_alloc]; omega)
      have H1 := Lib.hid (show ∀ u ∈ Rc.ic y, u.oneCell' = true from by simp [Rc.ic, Value.oneCell'])
      clear hV hO hL hB htk
      have HNE := Lib.hid (show ∀ g, (Value.slice Av k cv).ownBlock = some g → gv + 2 ≤ g from fun g e => own_ge HO.out e)
      go_wp2_with ((with_reducible refine wpList_append_rd rfl (.tmp 28) (.tmp 31) rfl Rc.elV rfl HOA.out rfl HRA.out H1.out (fun e => by cases e) (by unfold maxLen; omega) (by omega) HSA.out ?_); intro v' w5 hG; obtain ⟨hown5, hgr5, hat5⟩ := hG; obtain ⟨A5, c5, rfl⟩ := Dg.own_form hown5; have hV5 := (HV.out.alloc (.cells (Rc.ic y).toArray 77)).grown hgr5 (fun e => by have := HNE.out gv e; omega); have c35 : w5.cell? ⟨gv, 3, none⟩ = some (.slice Av k cv) := hV5.cell 3; have f35 := hV5.frozen 3; have HV5 := Lib.hid hV5; have HOW5 := Lib.hid hown5; have HGR5 := Lib.hid hgr5; clear hV5 hown5 hgr5 hat5)
      have HBA := Lib.hid ((HB.out.alloc (Nat.le_of_lt hzl) (.cells (Rc.ic y).toArray 77)).grown HGR5.out (by rw [World.size_alloc]; omega) (fun g e => by have := HNE.out g e; omega))
      have hz5 : gv + 2 ≤ w5.heap.size := Nat.le_trans HSA.out HGR5.out.size
      have h6 : Has (w5.setCell ⟨gv, 3, none⟩ (.slice A5 (k + 1) c5)) gv 77 [.int .i64 3, .int .i64 0, .string ⟨#[]⟩, .slice A5 (k + 1) c5] := HV5.out.set 3 _
      have o6 := own_far HOW5.out (p := ⟨gv, 3, none⟩) (by show gv < gv + 2; omega) (.slice A5 (k + 1) c5)
      have l6 := ((HL.out.alloc (.cells (Rc.ic y).toArray 77)).grown HGR5.out (fun e => by have := HNE.out (gv + 1) e; omega)).far (p := ⟨gv, 3, none⟩) (by show gv + 1 ≠ gv; omega) (.slice A5 (k + 1) c5)
      exact ⟨⟨k + 1, _, by omega, by go_num, h6, by rw [HTK.out]; exact o6, l6, HBA.out.setCell (p := ⟨gv, 3, none⟩) (Nat.le_refl _) _, by simpa using hz5⟩, by simp [intOf]; omega⟩
    · have hk3 : k = 4 := by omega
      rw [hk3] at hO
      clear hk3
      obtain ⟨Av, cv, rfl⟩ := Dg.own_form hO
      have HB := Lib.hid hB
      have HZ := Lib.hid hZ
      have hX1 := HX1.out.below hB hz1
      have y4 := hX1.cell 4
      have c3 := hV.cell 3
      simp only [List.getElem?_cons_succ, List.getElem?_cons_zero] at y4 c3
      have hzs : w.heap.size < wr.heap.size := by omega
      have hzl : gv < wr.heap.size := by omega
      have HV := Lib.hid hV
      have HBW := Lib.hid (HB1.out.trans (hB.mono (by omega)))
      have hstr := (HR.out.keep HBW.out).str (P := Tryd.prog) Tryd.underlying24 Tryd.underlying5 Tryd.underlying9 c
      have HO4 := Lib.hid (show wr.ownsRow (gv + 2) 77 4 (.slice Av 4 cv) 4 (Rc.ics (Sl.ics x)) from hO)
      have HOA := Lib.hid (own_below (w' := wr.alloc (.cells (Sl.tcs x.d).toArray 77)) HO4.out ((Below.refl _ _).alloc (Nat.le_refl _) _))
      have HRA := Lib.hid (rd_new wr 77 4 (Sl.tcs x.d) rfl)
      have HSA := Lib.hid (show gv + 2 ≤ (wr.alloc (.cells (Sl.tcs x.d).toArray 77)).heap.size from by rw [World.size_alloc]; omega)
      have H1 := Lib.hid (show ∀ u ∈ Sl.tcs x.d, u.oneCell' = true from by simp [Sl.tcs, Value.oneCell'])
      have HNE := Lib.hid (show ∀ g, (Value.slice Av 4 cv).ownBlock = some g → gv + 2 ≤ g from fun g e => own_ge HO4.out e)
      clear hV hO hL hB hX1
      go_wp2_with ((with_reducible refine wpList_append_rd rfl (.tmp 36) (.tmp 42) rfl Rc.elV rfl HOA.out rfl HRA.out H1.out (fun e => by cases e) (by unfold maxLen; omega) (by omega) HSA.out ?_); intro v' w5 hG; obtain ⟨hown5, hgr5, hat5⟩ := hG; obtain ⟨A5, c5, rfl⟩ := Dg.own_form hown5; have hV5 := (HV.out.alloc (.cells (Sl.tcs x.d).toArray 77)).grown hgr5 (fun e => by have := HNE.out gv e; omega); have c35 : w5.cell? ⟨gv, 3, none⟩ = some (.slice Av 4 cv) := hV5.cell 3; have f35 := hV5.frozen 3; have e0 : w5.cell? ⟨gv, 0, none⟩ = some (.int .i64 3) := hV5.cell 0; have e1 : w5.cell? ⟨gv, 1, none⟩ = some (.int .i64 0) := hV5.cell 1; have e2 : w5.cell? ⟨gv, 2, none⟩ = some (.string ⟨#[]⟩) := hV5.cell 2; have HV5 := Lib.hid hV5; have HOW5 := Lib.hid hown5; have HGR5 := Lib.hid hgr5; clear hV5 hown5 hgr5 hat5)
      obtain ⟨w6, hw6⟩ : ∃ w6, w6 = w5.setCell ⟨gv, 3, none⟩ (.slice A5 5 c5) := ⟨_, rfl⟩
      have hV6 : w6.ownsRow (gv + 2) 77 4 (.slice A5 5 c5) 5 (Rc.ics (Sl.ics x) ++ Sl.tcs x.d) := by
        rw [hw6]
        exact own_far HOW5.out (p := ⟨gv, 3, none⟩) (by show gv < gv + 2; omega) _
      have hC6 := Sl.cell_val hV6 (by have := HDL.out; unfold maxLen; omega) HI.out.1 HI.out.2.1 HI.out.2.2.1 HI.out.2.2.2
      have hB26 : Below gv W1 w6 := by
        rw [hw6]
        exact (((HB.out.alloc (by omega) _).grown HGR5.out (by rw [World.size_alloc]; omega) (fun g e => by have := HNE.out g e; omega))).setCell (p := ⟨gv, 3, none⟩) (Nat.le_refl _) _
      rw [← hw6]
      clear hw6 hV6
      have HB6 := Lib.hid (HB1.out.trans (hB26.mono (Nat.le_of_lt hz1)))
      have HD6 := Lib.hid (HD1.out.below hB26 hz0)
      have hsm := Sl.val_small x HDL.out
      have HEN := Lib.hid (by
        have h := Cd.encode_any (Sl.val x) _ w6 hsm.1 hC6 hsm.2
        unfold Cd.RetE at h
        rw [Sl.val_chk, Sl.val_out] at h
        exact h)
      have HSM := Lib.hid hsm.2
      have HDG := Lib.hid (show Sl.mark x = Dg.tagged Rc.K0 Rc.I0 Sl.tgS (Sl.val x).enc from rfl)
      generalize (Sl.val x).enc = L at HEN HSM HDG
      clear hC6 hB26 hsm c3 c35 f35 e0 e1 e2 y4 hstr
      ((with_reducible refine HEN.out.mono ?_); rintro e w7 ⟨v, rfl, hb7, ho7⟩)
      obtain ⟨A7, c7, rfl⟩ := Dg.own_form ho7
      have HB7 := Lib.hid (HB6.out.trans (hb7.mono HB6.out.size))
      have HD7 := Lib.hid (HD6.out.keep hb7)
      have HTG := Lib.hid (by
        have h := Dg.tagged_any w7 Sl.tgS A7 L.length c7 L Rc.K0 Rc.I0 (RdB.of_own ho7) (own_nil ho7) (by have := HSM.out; omega) (by decide) (HG.out.keep HB7.out)
        rw [← HDG.out, ← HDZ.out] at h
        exact h)
      clear hb7 ho7
      go_wp2_with fail
      ((with_reducible refine HTG.out.mono ?_); rintro e w8 ⟨rfl, hb8⟩)
      have HB8 := Lib.hid (HB7.out.trans (hb8.mono HB7.out.size))
      have HD8 := Lib.hid (show w8.heap[w.heap.size + 1]? = some (.cells Dg.z32.toArray 23 (0, 0)) from HD7.out.keep hb8)
      have hds : D.size = 32 := by rw [HDZ.out]; simp [Sl.mark_len]
      have hi31 : (Tryd.prog.info? 23).map (·.size) = some D.size := by rw [hds]; kernel_rfl
      have HI8 := Lib.hid hi31
      have HS8 := Lib.hid (show Dg.z32.toArray.size = D.size from by rw [hds]; rfl)
      have H18 := Lib.hid (show D.all (·.oneCell') = true from by rw [HDZ.out]; exact all_oneCell_toArray (one_bytes _))
      clear hb8 hds hi31
      go_wp2_with (first
        | (refine wpList_store_row (o := ⟨none, .store 23 (.tmp 2) (.tmp 51), _, _, _, _⟩) rfl 23 (.tmp 2) (.tmp 51) rfl (w.heap.size + 1) D rfl rfl 23 Dg.z32.toArray HD8.out HI8.out HS8.out H18.out ?_))
      have HF8 := Lib.hid (setRow_heap w8 (w.heap.size + 1) _ D 23 (0, 0) HD8.out)
      refine bodyPost_ret (results_cell_row rfl _ _ (w.heap.size + 1) 23 D (0, 0) _ rfl HF8.out Tryd.underlying23 rfl HI8.out) rfl ?_
      exact ⟨rfl, below_setRow HB8.out (by omega) _⟩
end Go.Proofs.YtideglpjgplpnaaDoor
/- Contracts of seals.Check and seals.wrong. -/
namespace Go.Proofs.YtideglpjgplpnaaDoor
open Go.RowKit Go.Shelf
set_option linter.unusedVariables false

set_option maxHeartbeats 1000000 in
theorem Sl.chk_i (nd : Nat) (th mn : Int) (nm : Nat) (Ad : Option Addr) (cd : Nat) (Am : Option Addr) (cA : Nat) (R : List Value) (w : World) (x1 : R[32]? = some (.slice Ad nd cd)) (x2 : R[33]? = some (.int .i64 th)) (x3 : R[34]? = some (.int .i64 mn)) (x4 : R[35]? = some (.slice Am nm cA)) :
    Calls Tryd.prog 21 #[.agg R.toArray] w fun e w' => e = .returned (.int .i64 (if nd < 1 ∨ 64 < nd ∨ th < 1 ∨ mn < th ∨ 8 < mn ∨ (nm : Int) ≠ mn then 500 else 0)) ∧ w.alloc (.cells R.toArray 27) = w' := by
  have hH := Has.new w 27 R
  have y1 := (hH.cell 32).trans x1
  have y2 := (hH.cell 33).trans x2
  have y3 := (hH.cell 34).trans x3
  have y4 := (hH.cell 35).trans x4
  clear hH x1 x2 x3 x4
  obtain ⟨E, hE⟩ : ∃ E : Int, (if nd < 1 ∨ 64 < nd ∨ th < 1 ∨ mn < th ∨ 8 < mn ∨ (nm : Int) ≠ mn then (500 : Int) else 0) = E := ⟨_, rfl⟩
  rw [hE]
  have HE := Lib.hid hE
  clear hE
  go_enter Tryd.func21, Tryd.ntmps21
  by_cases h1 : nd < 1
  · go_wp2_with fail
    go_ret
    exact ⟨by rw [← HE.out, if_pos (.inl h1)]; rfl, rfl⟩
  · by_cases h2 : 64 < nd
    · go_wp2_with fail
      go_ret
      exact ⟨by rw [← HE.out, if_pos (.inr (.inl h2))]; rfl, rfl⟩
    · by_cases h3 : th < 1
      · go_wp2_with fail
        go_ret
        exact ⟨by rw [← HE.out, if_pos (.inr (.inr (.inl h3)))]; rfl, rfl⟩
      · by_cases h4 : mn < th
        · go_wp2_with fail
          go_ret
          exact ⟨by rw [← HE.out, if_pos (.inr (.inr (.inr (.inl h4))))]; rfl, rfl⟩
        · by_cases h5 : 8 < mn
          · go_wp2_with fail
            go_ret
            exact ⟨by rw [← HE.out, if_pos (.inr (.inr (.inr (.inr (.inl h5)))))]; rfl, rfl⟩
          · by_cases h6 : (nm : Int) = mn
            · have q : ((nm : Int) != mn) = false := by simp [h6]
              have H6 := Lib.hid h6
              clear h6
              go_wp2_with fail
              go_ret
              exact ⟨by rw [← HE.out, if_neg (by have := H6.out; omega)]; rfl, rfl⟩
            · have q : ((nm : Int) != mn) = true := by simp [h6]
              have H6 := Lib.hid h6
              clear h6
              go_wp2_with fail
              go_ret
              exact ⟨by rw [← HE.out, if_pos (.inr (.inr (.inr (.inr (.inr H6.out)))))]; rfl, rfl⟩
theorem Sl.check_any (s : Sl.W) (Ad : Option Addr) (cd : Nat) (Am : Option Addr) (cA : Nat) (w : World) (hl : s.cm.length = 32) :
    Calls Tryd.prog 21 #[.agg (Sl.row s Ad cd Am cA).toArray] w fun e w' => e = .returned (.int .i64 (Sl.chk s)) ∧ Below w.heap.size w w' := by
  obtain ⟨x1, x2, x3, x4⟩ := Sl.row_at hl Ad cd Am cA
  refine (Sl.chk_i s.d.length s.th s.mn s.ms.length Ad cd Am cA _ w x1 x2 x3 x4).mono ?_
  rintro e w' ⟨rfl, rfl⟩
  exact ⟨rfl, (Below.refl _ _).alloc (Nat.le_refl _) _⟩
theorem Sl.wrong_any (R : List Value) (A : Option Addr) (n c : Nat) (w : World) : Calls Tryd.prog 31 #[.agg R.toArray, .slice A n c] w fun e w' => e = .returned (.func (.func 54) #[] #[.pointer (some ⟨w.heap.size + 1, 0, none⟩), .pointer (some ⟨w.heap.size, 0, none⟩)]) ∧ (w.alloc (.cells R.toArray 27)).alloc (.cells #[.slice A n c] 28) = w' := by
  have hmf : ∀ (fn : Fn) (first cap : Array Value) (w : World), (Instr.makeFunc fn first cap).run Tryd.prog w = .ok (.func fn first cap) w := fun _ _ _ _ => rfl
  go_enter Tryd.func31, Tryd.ntmps31
  go_wp2
  go_ret
  exact ⟨rfl, rfl⟩
end Go.Proofs.YtideglpjgplpnaaDoor
