import Derived.Test.YtideglpjgplpnaaDoorMShR1
/- Contracts of the references' points and Join. -/
namespace Go.Proofs.YtideglpjgplpnaaDoor
open Go.RowKit Go.Shelf
set_option linter.unusedVariables false

set_option maxRecDepth 100000 in
set_option maxHeartbeats 1000000 in
theorem Shr.rpts_any (A : Option Addr) (n c a : Nat) (xs : List Shr.C) (w : World) (hr : Shr.Rds w A n xs) (hn : n ≤ 1000) (hd : ∀ x, x ∈ xs → a < x.s.d.length) (hix : ∀ x, x ∈ xs → 0 ≤ x.s.ix ∧ x.s.ix ≤ 255) :
    Calls Tryd.prog 73 #[.slice A n c, .int .i64 a] w (Shr.RetP w n (Shr.ptX (Shr.vals xs)) (Shr.ptY (Shr.vals xs) a)) := by
  have HR := Lib.hid hr
  have HD := Lib.hid hd
  have HIX := Lib.hid hix
  have HL := Lib.hid hr.len
  clear hr hd hix
  go_enter Tryd.func73, Tryd.ntmps73
  go_wp2_with fail
  go_loopw [6, 7, 8] (fun v1 v2 i wr => ∃ k : Nat, k ≤ n ∧ i = .int .i64 k ∧ Two wr w.heap.size v1 v2 k ((Shr.ptX (Shr.vals xs)).take k) ((Shr.ptY (Shr.vals xs) a).take k) ∧ Below w.heap.size w wr) (fun _ _ i _ => n - (intOf i).toNat)
  case atStart => exact ⟨0, by omega, rfl, ⟨World.ownsRow_nil _ _ _ _, World.ownsRow_nil _ _ _ _, .inl rfl⟩, Below.refl _ _⟩
  case round =>
    obtain ⟨k, hk, rfl, hT, hB⟩ := hrel
    have HT := Lib.hid hT
    have HB := Lib.hid hB
    clear hT hB
    by_cases hlt : k < n
    · obtain ⟨b, off, rfl, hbw, e0, e1, e2, e3, e4⟩ := HR.out.at k hlt
      have hmem : xs[k]! ∈ xs := by rw [getElem!_pos xs k (by rw [HL.out]; exact hlt)]; exact List.getElem_mem _
      have hok := HR.out.mem k hlt
      have hda := HD.out _ hmem
      have hix := HIX.out _ hmem
      have HTX := Lib.hid (Shr.ptX_take xs k (by rw [HL.out]; exact hlt))
      have HTY := Lib.hid (Shr.ptY_take xs a k (by rw [HL.out]; exact hlt))
      generalize xs[k]! = x at e0 e1 e2 e3 e4 hok hda hix HTX HTY
      obtain ⟨bd, offd, hxA, hbd, ed0⟩ := hok.rd.byte a hda
      have hlenm := hok.len
      rw [hxA] at e4
      clear hok hmem hxA e0 e2 e3
      have hwx := u8_wrapI x.s.ix hix.1 hix.2
      generalize x.s.d.getD a 0 = y at ed0 HTY
      have HBX := Lib.hid (show x.s.bx = UInt8.ofNat x.s.ix.toNat from rfl)
      generalize x.s.d.length = dl at e4 hda hlenm
      generalize x.s.bx = bx at HTX HBX
      rw [← HBX.out] at hwx
      unfold maxLen at hlenm
      have e1w := (HB.out.cell (p := ⟨b, off + k * 5 + 1, none⟩) hbw).trans e1
      have HE4 := Lib.hid e4
      have HED := Lib.hid ed0
      have hszw := HB.out.size
      have hbw2 : b < wr.heap.size := by omega
      clear e1 e4 ed0
      go_wp2_with (first
        | (at_builtin; refine wpList_append_rd rfl (.tmp 15) (.tmp 22) rfl el8 rfl (HT.out.x.alloc _) rfl (rd_new wr 5 1 [B8 bx] rfl) (by simp [Value.oneCell']) (fun h => by (cases h)) (by simp only [maxLen]; omega) (by omega) (by simp; omega) ?_; intro v3 w3 hG3; have hY3 := (HT.out.y.alloc (.cells #[B8 bx] 5)).kept hG3.grown (two_sym HT.out.xy); have hz3 := hG3.grown.size; simp only [World.size_alloc] at hz3; have hB3 := (HB.out.alloc HB.out.size (.cells #[B8 bx] 5)).grown hG3.grown (by simp; omega) (fun g e => own_ge HT.out.x e); have c4 := (hB3.cell (p := ⟨b, off + k * 5 + 4, none⟩) hbw).trans HE4.out; have cd := (hB3.cell (p := ⟨bd, offd + a, none⟩) hbd).trans HED.out; have hb3 : b < w3.heap.size := (by omega); have hbd3 : bd < w3.heap.size := (by omega))
        | (at_builtin; refine wpList_append_rd rfl (.tmp 24) (.tmp 33) rfl el8 rfl (hY3.alloc _) rfl (rd_new w3 5 1 [B8 y] rfl) (by simp [Value.oneCell']) (fun h => by (cases h)) (by simp only [maxLen]; omega) (by omega) (by simp; omega) ?_; intro v4 w4 hG4))
      have hst : Two w4 w.heap.size v3 v4 (k + 1) ((Shr.ptX (Shr.vals xs)).take (k + 1)) ((Shr.ptY (Shr.vals xs) a).take (k + 1)) ∧ Below w.heap.size w w4 := by
        rw [HTX.out, HTY.out]
        exact HT.out.step HB.out hszw ((Below.refl _ _).alloc (Nat.le_refl _) _) hG3 ((Below.refl _ _).alloc (Nat.le_refl _) _) hG4
      have HST := Lib.hid hst
      clear hst hG3 hG4 hY3 hB3 c4 cd
      go_wp2_with fail
      go_roundw
      case rel => exact ⟨k + 1, by omega, by go_num, HST.out.1, HST.out.2⟩
      case measure => simp [intOf]; omega
    · obtain rfl : k = n := by omega
      go_wp2_with fail
      go_ret2
      refine ⟨_, _, rfl, ?_, HB.out⟩
      have e1 := List.take_of_length_le (l := Shr.ptX (Shr.vals xs)) (i := k) (by simp [Shr.ptX, Shr.vals, HL.out])
      have e2 := List.take_of_length_le (l := Shr.ptY (Shr.vals xs) a) (i := k) (by simp [Shr.ptY, Shr.vals, HL.out])
      rw [e1, e2] at HT
      exact HT.out

set_option maxRecDepth 100000 in
set_option maxHeartbeats 1000000 in
theorem Shr.rjoin_no (A : Option Addr) (n c : Nat) (xs : List Shr.C) (w : World) (hr : Shr.Rds w A n xs) (hn : n ≤ maxLen) (h : Shr.joinE (Shr.vals xs) ≠ 0) :
    Calls Tryd.prog 44 #[.slice A n c] w fun e w' => e = .returned (.tuple #[.slice none 0 0, .int .i64 (Shr.joinE (Shr.vals xs))]) ∧ Below w.heap.size w w' := by
  have HN := Lib.hid hn
  by_cases h1 : Shr.chkE (Shr.vals xs) = 0
  · have hg := Shr.good _ h1
    have hlt : ((Shr.vals xs).length : Int) < (Shr.vals xs)[0]!.th := by
      unfold Shr.joinE at h
      rw [if_neg (by simp [h1])] at h
      by_cases hh : ((Shr.vals xs).length : Int) < (Shr.vals xs)[0]!.th
      · exact hh
      · rw [if_neg hh] at h; exact absurd rfl h
    have HE := Lib.hid (show Shr.joinE (Shr.vals xs) = 60 by unfold Shr.joinE; rw [if_neg (by simp [h1]), if_pos hlt])
    have hpos : 0 < n := by have := hg.pos; rw [Shr.vals_len, hr.len] at this; exact this
    obtain ⟨b, off, rfl, hb, e0, e1, e2, e3, e4⟩ := hr.first hpos
    have hth8 : (Shr.vals xs)[0]!.th ≤ 8 := by have := hg.thm; have := hg.mn8; omega
    rw [Shr.vals_len, hr.len] at hlt
    rw [Shr.vals_at xs 0 (by rw [hr.len]; exact hpos)] at hlt hth8
    have HR := Lib.hid hr
    have H1 := Lib.hid h1
    clear hr h1 h hg e0 e1 e3 e4 hn
    generalize (xs[0]!).s.th = th at e2 hlt hth8
    go_enter Tryd.func44, Tryd.ntmps44
    go_wp2_with fail
    refine (Shr.rcheck_any (some ⟨b, off, none⟩) n c xs _ HR.out HN.out).mono ?_
    rintro e w1 ⟨rfl, hb1⟩
    rw [H1.out]
    have c2 := (hb1.cell (p := ⟨b, off + 2, none⟩) hb).trans e2
    have HB1 := Lib.hid hb1
    have hbw1 : b < w1.heap.size := Nat.lt_of_lt_of_le hb hb1.size
    clear hb1 e2
    go_wp2_with fail
    go_ret2
    exact ⟨by rw [HE.out]; rfl, HB1.out⟩
  · have HE := Lib.hid (show Shr.joinE (Shr.vals xs) = Shr.chkE (Shr.vals xs) by unfold Shr.joinE; rw [if_pos h1])
    have HR := Lib.hid hr
    clear hr h
    have hq : ∀ z : Int, z = Shr.chkE (Shr.vals xs) → (z != 0) = true := fun z e => by subst e; simpa using h1
    clear hn h1
    go_enter Tryd.func44, Tryd.ntmps44
    go_wp2_with fail
    refine (Shr.rcheck_any A n c xs _ HR.out HN.out).mono ?_
    rintro e w1 ⟨rfl, hb1⟩
    rw [← HE.out] at hq
    rw [← HE.out]
    generalize hje : Shr.joinE (Shr.vals xs) = je at hq ⊢
    have HJE := Lib.hid hje
    have hq2 := hq je rfl
    have HB1 := Lib.hid hb1
    clear hb1 hq HE hje
    go_wp2_with fail
    go_ret2
    exact ⟨by rw [HJE.out]; rfl, HB1.out⟩

set_option maxRecDepth 100000 in
set_option maxHeartbeats 1000000 in
theorem Shr.rjoin_yes (A : Option Addr) (n c : Nat) (xs : List Shr.C) (w : World) (hr : Shr.Rds w A n xs) (hnc : n ≤ c) (hcm : c ≤ maxLen) (h : Shr.joinE (Shr.vals xs) = 0) :
    Calls Tryd.prog 44 #[.slice A n c] w (RetBE w (Shr.vals xs)[0]!.d.length (Shr.joinV (Shr.vals xs))) := by
  have h1 : Shr.chkE (Shr.vals xs) = 0 := by
    unfold Shr.joinE at h
    by_cases h1 : Shr.chkE (Shr.vals xs) = 0
    · exact h1
    · rw [if_pos h1] at h; exact absurd h h1
  have hg := Shr.good _ h1
  have hlt : (Shr.vals xs)[0]!.th ≤ ((Shr.vals xs).length : Int) := by
    unfold Shr.joinE at h
    rw [if_neg (by simp [h1])] at h
    by_cases hh : ((Shr.vals xs).length : Int) < (Shr.vals xs)[0]!.th
    · rw [if_pos hh] at h; exact absurd h (by decide)
    · omega
  have hfew := hg.few
  have hpos : 0 < n := by have := hg.pos; rw [Shr.vals_len, hr.len] at this; exact this
  obtain ⟨b, off, rfl, hb, e0, e1, e2, e3, e4⟩ := hr.first hpos
  have hv0 := Shr.vals_at xs 0 (by rw [hr.len]; exact hpos)
  have hth1 := hg.th1
  have hd64 := hg.d64
  have HIX := Lib.hid hg.ix_of
  have HDL := Lib.hid hg.dl_of
  rw [Shr.vals_len, hr.len] at hlt hfew
  have HT := Lib.hid (show Shr.tt (Shr.vals xs) = (xs[0]!).s.th.toNat by rw [Shr.tt, hv0])
  have HJ := Lib.hid (show ∀ t : Nat, (xs[0]!).s.th = (t : Int) → ∀ dl : Nat, (xs[0]!).s.d.length = dl → Shr.joinV (Shr.vals xs) = (List.range dl).map (fun k => Fld.thrV (Shr.ptX (Shr.vals (xs.take t))) (Shr.ptY (Shr.vals (xs.take t)) k) 0) from fun t ht dl hdl => by
    unfold Shr.joinV
    rw [hv0, hdl]
    refine List.map_congr_left fun k _ => ?_
    rw [Shr.joinB, HT.out, ht, Int.toNat_natCast, Shr.vals_take])
  rw [hv0] at hlt hth1 hd64 HDL ⊢
  have HR := Lib.hid hr
  have H1 := Lib.hid h1
  have HCM := Lib.hid hcm
  obtain ⟨t, ht⟩ : ∃ t : Nat, (xs[0]!).s.th = (t : Int) := ⟨(xs[0]!).s.th.toNat, by omega⟩
  obtain ⟨dl, hdl⟩ : ∃ dl : Nat, (xs[0]!).s.d.length = dl := ⟨_, rfl⟩
  have HJ2 := Lib.hid (HJ.out t ht dl hdl)
  rw [ht] at e2 hlt hth1
  rw [hdl] at e4 hd64 HDL ⊢
  have HE2 := Lib.hid e2
  have HE4 := Lib.hid e4
  have htn : t ≤ n := by omega
  have ht1 : 1 ≤ t := by omega
  clear hr h1 h hg e0 e1 e3 hv0 HT HJ ht hdl hcm e2 e4 hlt hth1
  generalize (xs[0]!).A = A0 at HE4
  generalize (xs[0]!).c = c0 at HE4
  have dtn : decide (n < t) = false := decide_eq_false (by omega)
  go_enter Tryd.func44, Tryd.ntmps44
  go_wp2_with fail
  refine (Shr.rcheck_any (some ⟨b, off, none⟩) n c xs _ HR.out (by unfold maxLen; omega)).mono ?_
  rintro e w1 ⟨rfl, hb1⟩
  rw [H1.out]
  have c2 := (hb1.cell (p := ⟨b, off + 2, none⟩) hb).trans HE2.out
  have HB1 := Lib.hid hb1
  have hbw1 : b < w1.heap.size := Nat.lt_of_lt_of_le hb hb1.size
  clear hb1
  go_wp2_with fail
  clear c2 dtn
  have HTK := Lib.hid (fun k => List.range_succ (n := k))
  go_loopw [5, 6] (fun v i wr => ∃ k : Nat, k ≤ dl ∧ i = .int .i64 k ∧ wr.ownsRow w.heap.size 5 1 v k (((List.range k).map (fun k => Fld.thrV (Shr.ptX (Shr.vals (xs.take t))) (Shr.ptY (Shr.vals (xs.take t)) k) 0)).map B8) ∧ Below w.heap.size w wr) (fun _ i _ => dl - (intOf i).toNat)
  case atStart => exact ⟨0, by omega, rfl, World.ownsRow_nil _ _ _ _, HB1.out⟩
  case round =>
    obtain ⟨k, hk, rfl, hO, hB⟩ := hrel
    have HO := Lib.hid hO
    have HB := Lib.hid hB
    have c2 := (hB.cell (p := ⟨b, off + 2, none⟩) hb).trans HE2.out
    have c4 := (hB.cell (p := ⟨b, off + 4, none⟩) hb).trans HE4.out
    have hbw2 : b < wr.heap.size := Nat.lt_of_lt_of_le hb hB.size
    clear hO hB HB1 hbw1
    by_cases hlt : k < dl
    · unfold maxLen at HCM
      have hcm := HCM.out
      go_wp2_with fail
      refine (Shr.rpts_any (some ⟨b, off, none⟩) t c k (xs.take t) wr ((HR.out.keep HB.out).take t htn) (by omega) (fun x hx => by rw [HDL.out x (List.mem_of_mem_take hx)]; exact hlt) (fun x hx => HIX.out x (List.mem_of_mem_take hx))).mono ?_
      rintro e w2 ⟨v1, v2, rfl, hT2, hb2⟩
      obtain ⟨A1, c1, rfl⟩ := own_form hT2.x
      obtain ⟨A2, cc2, rfl⟩ := own_form hT2.y
      have HT2 := Lib.hid hT2
      have HO2 := Lib.hid (own_below HO.out hb2)
      have HB2 := Lib.hid (HB.out.trans (hb2.mono HB.out.size))
      clear hT2 hb2 c2 c4 hbw2 HO
      go_wp2_with fail
      refine (Fld.rthrough_any A1 A2 t c1 t cc2 _ _ 0 w2 (by unfold maxLen; omega) (by unfold maxLen; omega) (RdB.of_own HT2.out.x) (RdB.of_own HT2.out.y)).mono ?_
      rintro e w3 ⟨rfl, hb3⟩
      have HO3 := Lib.hid (own_below HO2.out hb3)
      have HB3 := Lib.hid (HB2.out.trans (hb3.mono HB2.out.size))
      have hz3 := HB3.out.size
      have HS := Lib.hid (show ((List.range (k + 1)).map (fun k => Fld.thrV (Shr.ptX (Shr.vals (xs.take t))) (Shr.ptY (Shr.vals (xs.take t)) k) 0)).map B8 = ((List.range k).map (fun k => Fld.thrV (Shr.ptX (Shr.vals (xs.take t))) (Shr.ptY (Shr.vals (xs.take t)) k) 0)).map B8 ++ [B8 (Fld.thrV (Shr.ptX (Shr.vals (xs.take t))) (Shr.ptY (Shr.vals (xs.take t)) k) 0)] by rw [List.range_succ]; simp)
      generalize Fld.thrV (Shr.ptX (Shr.vals (xs.take t))) (Shr.ptY (Shr.vals (xs.take t)) k) 0 = y at HS ⊢
      generalize Fld.thrE (Shr.ptX (Shr.vals (xs.take t))) (Shr.ptY (Shr.vals (xs.take t)) k) = ye
      clear hb3 HT2 HO2 HB2 HB
      go_wp2_with (at_builtin; refine wpList_append_rd rfl _ _ rfl el8 rfl (HO3.out.alloc _) rfl (rd_new w3 5 1 [B8 y] rfl) (by simp [Value.oneCell']) (fun h => by (cases h)) (by simp only [maxLen]; omega) (by omega) (by simp; omega) ?_; intro v4 w4 hG)
      have HO4 := Lib.hid (show w4.ownsRow w.heap.size 5 1 v4 (k + 1) (((List.range (k + 1)).map (fun k => Fld.thrV (Shr.ptX (Shr.vals (xs.take t))) (Shr.ptY (Shr.vals (xs.take t)) k) 0)).map B8) by rw [HS.out]; exact hG.own)
      have HB4 := Lib.hid ((HB3.out.alloc HB3.out.size (.cells #[B8 y] 5)).grown hG.grown (by simp; omega) (fun g e => own_ge HO3.out e))
      clear hG HO3 HB3
      go_wp2_with fail
      go_roundw
      case rel => exact ⟨k + 1, by omega, by go_num, HO4.out, HB4.out⟩
      case measure => simp [intOf]; omega
    · obtain rfl : k = dl := by omega
      obtain ⟨A9, c9, rfl⟩ := own_form HO.out
      go_wp2_with fail
      go_ret2
      exact ⟨A9, c9, rfl, own_nil HO.out, by rw [HJ2.out]; exact RdB.of_own HO.out, own_fresh HO.out, own_lt HO.out, HB.out⟩
end Go.Proofs.YtideglpjgplpnaaDoor
