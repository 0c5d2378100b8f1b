import Derived.Test.YtnbbleajbbgmjaaDoorMClkPlain
/- Contracts of the reference's Check, distance, Shows, May: for every argument, the same answers as the program's. -/
namespace Go.Proofs.YtnbbleajbbgmjaaDoor
open Go.RowKit Go.Shelf
set_option linter.unusedVariables false

theorem Clk.rcheck_ok (s er d : Int) (w : World) (h : Clk.okB s er d = true) :
    Calls Tryd.prog 42 #[.agg #[.int .i64 s, .int .i64 er, .int .i64 d]] w fun e w' => e = .returned (.int .i64 0) ∧ Below w.heap.size w w' := by
  rw [Clk.okB_iff] at h
  obtain ⟨h1, h2, h3, h4, h5, h6⟩ := h
  go_enter Tryd.func42, Tryd.ntmps42
  go_wp2
  go_ret
  exact ⟨rfl, (Below.refl _ _).alloc (Nat.le_refl _) _⟩

theorem Clk.rcheck_no (s er d : Int) (w : World) (h : Clk.okB s er d = false) :
    Calls Tryd.prog 42 #[.agg #[.int .i64 s, .int .i64 er, .int .i64 d]] w fun e w' => e = .returned (.int .i64 490) ∧ Below w.heap.size w w' := by
  have h' : ¬ (0 ≤ s ∧ s ≤ 1048576 ∧ 0 ≤ er ∧ er ≤ 65536 ∧ 0 ≤ d ∧ d ≤ 999) := fun k => by rw [(Clk.okB_iff s er d).2 k] at h; cases h
  have HH := Lib.hid h'
  clear h h'
  go_enter Tryd.func42, Tryd.ntmps42
  go_wp2
  all_goals first
    | (go_ret; exact ⟨rfl, (Below.refl _ _).alloc (Nat.le_refl _) _⟩)
    | (exfalso; have := HH.out; omega)

theorem Clk.rdist_any (a b : Int) (w : World) (ha : 0 ≤ a) (ha' : a ≤ 2097152) (hb : 0 ≤ b) (hb' : b ≤ 2097152) :
    Calls Tryd.prog 49 #[.int .i64 a, .int .i64 b] w fun e w' => e = .returned (.int .i64 (Clk.apart a b)) ∧ w = w' := by
  by_cases h : a < b
  · have hv := Lib.hid (show Clk.apart a b = b - a by simp [Clk.apart, h])
    go_enter Tryd.func49, Tryd.ntmps49
    go_wp2
    go_ret
    exact ⟨by rw [hv.out]; rfl, rfl⟩
  · have hv := Lib.hid (show Clk.apart a b = a - b by simp [Clk.apart, h])
    go_enter Tryd.func49, Tryd.ntmps49
    go_wp2
    go_ret
    exact ⟨by rw [hv.out]; rfl, rfl⟩

theorem Clk.rshows_any (s er d t x : Int) (w : World) (ho : Clk.okB s er d = true) (ht : Clk.tmB t = true) (hx : Clk.tmB x = true) :
    Calls Tryd.prog 22 #[.agg #[.int .i64 s, .int .i64 er, .int .i64 d], .int .i64 t, .int .i64 x] w fun e w' => e = .returned (.bool (Clk.shB s er d t x)) ∧ Below w.heap.size w w' := by
  rw [Clk.okB_iff] at ho
  rw [Clk.tmB_iff] at ht hx
  obtain ⟨h1, h2, h3, h4, h5, h6⟩ := ho
  obtain ⟨t1, t2⟩ := ht
  obtain ⟨x1, x2⟩ := hx
  have p1 := Clk.apart_nn t s
  have p2 := Clk.apart_le t s t1 t2 h1 h2
  obtain ⟨q1, q2⟩ := Clk.prod_bd _ d p1 p2 h5 h6
  go_enter Tryd.func22, Tryd.ntmps22
  go_wp2
  go_quiet ((go_at_call 49; exact Go.Proofs.YtnbbleajbbgmjaaDoor.quiet_left (Clk.rdist_any _ _ _ (by omega) (by omega) (by omega) (by omega))))
  go_wp2
  go_ret
  exact ⟨rfl, below_drewN ((Below.refl _ _).alloc (Nat.le_refl _) _) _⟩

theorem Clk.rcheck_any (s er d : Int) (w : World) :
    Calls Tryd.prog 42 #[.agg #[.int .i64 s, .int .i64 er, .int .i64 d]] w fun e w' => e = .returned (.int .i64 (Clk.chkE s er d)) ∧ Below w.heap.size w w' := by
  cases h : Clk.okB s er d with
  | true => exact (Clk.rcheck_ok s er d w h).mono fun _ _ ⟨he, hb⟩ => ⟨by rw [he, Clk.chkE, if_pos h], hb⟩
  | false => exact (Clk.rcheck_no s er d w h).mono fun _ _ ⟨he, hb⟩ => ⟨by rw [he, Clk.chkE, if_neg (by rw [h]; decide)], hb⟩


end Go.Proofs.YtnbbleajbbgmjaaDoor
/- Contract of the reference's Times: for every argument, the same answer as the program's. -/
namespace Go.Proofs.YtnbbleajbbgmjaaDoor
open Go.RowKit Go.Shelf
set_option linter.unusedVariables false

/-- the number in a cell, for a measure -/
def cellNat (w : World) (b i : Nat) : Nat := match w.cell? ⟨b, i, none⟩ with | some (.int _ n) => n.toNat | _ => 0

theorem Clk.rtimes_no1 (s er d x : Int) (w : World) (h : Clk.okB s er d = false) :
    Calls Tryd.prog 66 #[.agg #[.int .i64 s, .int .i64 er, .int .i64 d], .int .i64 x] w fun e w' => e = .returned (.tuple #[.agg #[.int .i64 0, .int .i64 0], .bool false, .int .i64 490]) ∧ Below w.heap.size w w' := by
  have H := Lib.hid h
  clear h
  go_enter Tryd.func66, Tryd.ntmps66
  go_wp2_with (go_at_call 42; refine (Clk.rcheck_no _ _ _ _ H.out).mono ?_; rintro e w1 ⟨rfl, hb⟩; obtain ⟨hc, hf⟩ := bcell hb)
  refine bodyPost_ret (v := .tuple #[.agg #[.int .i64 0, .int .i64 0], .bool false, .int .i64 490]) (by simp [results, Tryd.results66, go_sem, hc]) rfl ⟨rfl, ?_⟩
  have h0 : Below w.heap.size w w1 := ((((Below.refl _ _).alloc (Nat.le_refl _) _).alloc (by simp) _)).trans (hb.mono (by simp; omega))
  exact (h0.setCell (by simp) _).setCell (by simp) _

theorem Clk.rtimes_no2 (s er d x : Int) (w : World) (h : Clk.okB s er d = true) (hx : Clk.tmB x = false) :
    Calls Tryd.prog 66 #[.agg #[.int .i64 s, .int .i64 er, .int .i64 d], .int .i64 x] w fun e w' => e = .returned (.tuple #[.agg #[.int .i64 0, .int .i64 0], .bool false, .int .i64 1]) ∧ Below w.heap.size w w' := by
  have H := Lib.hid h
  clear h
  have hn : ¬ (0 ≤ x ∧ x ≤ 1048576) := fun k => by rw [(Clk.tmB_iff x).2 k] at hx; cases hx
  clear hx
  rcases (by omega : x < 0 ∨ 1048576 < x) with hx | hx
  · clear hn
    go_enter Tryd.func66, Tryd.ntmps66
    go_wp2_with (go_at_call 42; refine (Clk.rcheck_ok _ _ _ _ H.out).mono ?_; rintro e w1 ⟨rfl, hb⟩; obtain ⟨hc, hf⟩ := bcell hb)
    refine bodyPost_ret (v := .tuple #[.agg #[.int .i64 0, .int .i64 0], .bool false, .int .i64 1]) (by simp [results, Tryd.results66, go_sem, hc]) rfl ⟨rfl, ?_⟩
    have h0 : Below w.heap.size w w1 := ((((Below.refl _ _).alloc (Nat.le_refl _) _).alloc (by simp) _)).trans (hb.mono (by simp; omega))
    exact (h0.setCell (by simp) _).setCell (by simp) _
  · have hx0 : ¬ x < 0 := by omega
    clear hn
    go_enter Tryd.func66, Tryd.ntmps66
    go_wp2_with (go_at_call 42; refine (Clk.rcheck_ok _ _ _ _ H.out).mono ?_; rintro e w1 ⟨rfl, hb⟩; obtain ⟨hc, hf⟩ := bcell hb)
    refine bodyPost_ret (v := .tuple #[.agg #[.int .i64 0, .int .i64 0], .bool false, .int .i64 1]) (by simp [results, Tryd.results66, go_sem, hc]) rfl ⟨rfl, ?_⟩
    have h0 : Below w.heap.size w w1 := ((((Below.refl _ _).alloc (Nat.le_refl _) _).alloc (by simp) _)).trans (hb.mono (by simp; omega))
    exact (h0.setCell (by simp) _).setCell (by simp) _

set_option maxHeartbeats 4000000 in
theorem Clk.rtimes_yes (s er d x : Int) (w : World) (h : Clk.okB s er d = true) (hx : Clk.tmB x = true) :
    Calls Tryd.prog 66 #[.agg #[.int .i64 s, .int .i64 er, .int .i64 d], .int .i64 x] w fun e w' => e = .returned (.tuple #[.agg #[.int .i64 (Clk.lastB s er d x (-1)), .int .i64 (Clk.lastB s er d x 1)], .bool true, .int .i64 0]) ∧ Below w.heap.size w w' := by
  have H := Lib.hid h
  have HX := Lib.hid hx
  have ho := (Clk.okB_iff s er d).1 h
  obtain ⟨s0, s1, er0, er1, d0, d1⟩ := ho
  have hself := Lib.hid (Clk.sh_self s er d x er0 d0)
  rw [Clk.tmB_iff] at hx
  obtain ⟨x0, x1⟩ := hx
  clear h
  have dx0 : decide (x < 0) = false := decide_eq_false (by omega)
  have dx1 : decide (1048576 < x) = false := decide_eq_false (by omega)
  go_enter Tryd.func66, Tryd.ntmps66
  go_wp2_with (go_at_call 42; refine (Clk.rcheck_ok _ _ _ _ H.out).mono ?_; rintro e w1 ⟨rfl, hb⟩; obtain ⟨hc, hf⟩ := bcell hb)
  have hz : w.heap.size + 2 ≤ w1.heap.size := by have := hb.size; simp at this; omega
  have k0 : w1.cell? ⟨w.heap.size, 0, none⟩ = some (.int .i64 s) := (hc _ _ (by simp; omega)).trans (by simp [go_sem])
  have k1 : w1.cell? ⟨w.heap.size, 1, none⟩ = some (.int .i64 er) := (hc _ _ (by simp; omega)).trans (by simp [go_sem])
  have k2 : w1.cell? ⟨w.heap.size, 2, none⟩ = some (.int .i64 d) := (hc _ _ (by simp; omega)).trans (by simp [go_sem])
  have r0 : w1.cell? ⟨w.heap.size + 1, 0, none⟩ = some (.int .i64 0) := (hc _ _ (by simp)).trans (by simp [go_sem])
  have r1 : w1.cell? ⟨w.heap.size + 1, 1, none⟩ = some (.int .i64 0) := (hc _ _ (by simp)).trans (by simp [go_sem])
  have g0 : w1.frozen? ⟨w.heap.size + 1, 0, none⟩ = false := (hf _ _ (by simp)).trans (by simp [go_sem])
  have g1 : w1.frozen? ⟨w.heap.size + 1, 1, none⟩ = false := (hf _ _ (by simp)).trans (by simp [go_sem])
  have hB1 : Below w.heap.size w w1 := (((Below.refl _ _).alloc (Nat.le_refl _) _).alloc (by simp) _).trans (hb.mono (by simp; omega))
  clear hc hf hb dx0 dx1
  go_loopw [] (fun wr => ∃ lo : Int, 0 ≤ lo ∧ lo ≤ x ∧ Clk.shB s er d lo x = true ∧ Has wr w1.heap.size 38 [.int .i64 lo, .int .i64 x] ∧ Below w1.heap.size w1 wr)
    (fun wr => cellNat wr w1.heap.size 0)
  case atStart => exact ⟨x, x0, Int.le_refl _, hself.out, Has.new _ _ _, (Below.refl _ _).alloc (Nat.le_refl _) _⟩
  case round =>
    obtain ⟨lo, l0, l1, hlo, hr, hBr⟩ := hrel
    have c0 := hr.cell 0
    have c1 := hr.cell 1
    have fz0 := hr.frozen 0
    simp only [List.getElem?_cons_zero, List.getElem?_cons_succ] at c0 c1
    have m0 : Hid (cellNat wr w1.heap.size 0 = lo.toNat) := Lib.hid (by unfold cellNat; rw [c0])
    have HR := Lib.hid hr
    have q0 := (hBr.cell (p := ⟨w.heap.size, 0, none⟩) (by show w.heap.size < _; omega)).trans k0
    have q1 := (hBr.cell (p := ⟨w.heap.size, 1, none⟩) (by show w.heap.size < _; omega)).trans k1
    have q2 := (hBr.cell (p := ⟨w.heap.size, 2, none⟩) (by show w.heap.size < _; omega)).trans k2
    have HLO := Lib.hid hlo
    clear hr hlo
    have hlt : w1.heap.size < wr.heap.size := HR.out.lt
    have HBr := Lib.hid hBr
    clear hBr
    by_cases hgo : 0 < lo ∧ Clk.shB s er d (lo - 1) x = true
    · obtain ⟨hp, hs⟩ := hgo
      have Ht := Lib.hid ((Clk.tmB_iff (lo - 1)).2 (by omega))
      have HS := Lib.hid hs
      go_wp2_with (go_at_call 22; refine (Clk.rshows_any s er d (lo - 1) x _ H.out Ht.out HX.out).mono ?_; rintro e w3 ⟨rfl, hb3⟩; obtain ⟨hc3, hf3⟩ := bcell hb3)
      have hr3 : Has (w3.setCell ⟨w1.heap.size, 0, none⟩ (.int .i64 (lo - 1))) w1.heap.size 38 [.int .i64 (lo - 1), .int .i64 x] := (HR.out.keep hb3).set 0 _
      go_roundw
      case rel => exact ⟨lo - 1, by omega, by omega, HS.out, hr3, (HBr.out.trans (hb3.mono (Nat.le_of_lt hlt))).setCell (Nat.le_refl _) _⟩
      case measure =>
        rw [m0.out]
        have := hr3.cell 0
        simp only [List.getElem?_cons_zero] at this
        unfold cellNat
        rw [this]
        show (lo - 1).toNat < lo.toNat
        omega
    · have HEX := Lib.hid (show lo = 0 ∨ Clk.shB s er d (lo - 1) x = false by
        rcases Int.lt_or_le 0 lo with h | h
        · refine .inr ?_
          cases hh : Clk.shB s er d (lo - 1) x with
          | false => rfl
          | true => exact absurd ⟨h, hh⟩ hgo
        · exact .inl (by omega))
      clear hgo
      have hex2 : ∃ w3, Below wr.heap.size wr w3 := ⟨wr, Below.refl _ _⟩
      clear hex2
      by_cases hp : 0 < lo
      · have hs : Clk.shB s er d (lo - 1) x = false := by rcases HEX.out with h | h; omega; exact h
        have Ht := Lib.hid ((Clk.tmB_iff (lo - 1)).2 (by omega))
        have HS := Lib.hid hs
        go_wp2_with (go_at_call 22; refine (Clk.rshows_any s er d (lo - 1) x _ H.out Ht.out HX.out).mono ?_; rintro e w3 ⟨rfl, hb3⟩; obtain ⟨hc3, hf3⟩ := bcell hb3)
        have HR3 := Lib.hid (HR.out.keep hb3)
        have HB3 := Lib.hid (HBr.out.trans (hb3.mono (Nat.le_of_lt hlt)))
        clear HR HBr c0 c1 fz0 m0 q0 q1 q2 hlt hc3 hf3 hb3 hs
        go_loopw [] (fun wq => ∃ hi : Int, x ≤ hi ∧ hi ≤ 1048576 ∧ Clk.shB s er d hi x = true ∧ Has wq w1.heap.size 38 [.int .i64 lo, .int .i64 hi] ∧ Below w1.heap.size w1 wq)
          (fun wq => 1048576 - cellNat wq w1.heap.size 1)
        case atStart => exact ⟨x, Int.le_refl _, x1, hself.out, HR3.out, HB3.out⟩
        case round =>
          obtain ⟨wq, rfl⟩ : ∃ wq : World, wq = wr := ⟨_, rfl⟩
          obtain ⟨hi, i0, i1, hhi, hr, hBr⟩ := hrel
          have c0 := hr.cell 0
          have c1 := hr.cell 1
          have fz1 := hr.frozen 1
          simp only [List.getElem?_cons_zero, List.getElem?_cons_succ] at c0 c1
          have m1 : Hid (cellNat wq w1.heap.size 1 = hi.toNat) := Lib.hid (by unfold cellNat; rw [c1])
          have HQ := Lib.hid hr
          have q0 := (hBr.cell (p := ⟨w.heap.size, 0, none⟩) (by show w.heap.size < _; omega)).trans k0
          have q1 := (hBr.cell (p := ⟨w.heap.size, 1, none⟩) (by show w.heap.size < _; omega)).trans k1
          have q2 := (hBr.cell (p := ⟨w.heap.size, 2, none⟩) (by show w.heap.size < _; omega)).trans k2
          have p0 := (hBr.cell (p := ⟨w.heap.size + 1, 0, none⟩) (by show w.heap.size + 1 < _; omega)).trans r0
          have p1 := (hBr.cell (p := ⟨w.heap.size + 1, 1, none⟩) (by show w.heap.size + 1 < _; omega)).trans r1
          have v0 := (hBr.frozen (p := ⟨w.heap.size + 1, 0, none⟩) (by show w.heap.size + 1 < _; omega)).trans g0
          have v1 := (hBr.frozen (p := ⟨w.heap.size + 1, 1, none⟩) (by show w.heap.size + 1 < _; omega)).trans g1
          have hltq : w1.heap.size < wq.heap.size := hr.lt
          have hlt1 : w.heap.size + 1 < wq.heap.size := by omega
          have HHI := Lib.hid hhi
          have HBq := Lib.hid hBr
          clear hr hhi hBr
          by_cases hgo : hi < 1048576 ∧ Clk.shB s er d (hi + 1) x = true
          · obtain ⟨hp2, hs2⟩ := hgo
            have Ht2 := Lib.hid ((Clk.tmB_iff (hi + 1)).2 (by omega))
            have HS2 := Lib.hid hs2
            go_wp2_with (go_at_call 22; refine (Clk.rshows_any s er d (hi + 1) x _ H.out Ht2.out HX.out).mono ?_; rintro e w5 ⟨rfl, hb5⟩; obtain ⟨hc5, hf5⟩ := bcell hb5)
            have hr5 : Has (w5.setCell ⟨w1.heap.size, 1, none⟩ (.int .i64 (hi + 1))) w1.heap.size 38 [.int .i64 lo, .int .i64 (hi + 1)] := (HQ.out.keep hb5).set 1 _
            go_roundw
            case rel => exact ⟨hi + 1, by omega, by omega, HS2.out, hr5, (HBq.out.trans (hb5.mono (Nat.le_of_lt hltq))).setCell (Nat.le_refl _) _⟩
            case measure =>
              rw [m1.out]
              have := hr5.cell 1
              simp only [List.getElem?_cons_zero, List.getElem?_cons_succ] at this
              unfold cellNat
              rw [this]
              show 1048576 - (hi + 1).toNat < 1048576 - hi.toNat
              omega
          · have HEY := Lib.hid (show hi = 1048576 ∨ Clk.shB s er d (hi + 1) x = false by
              rcases Int.lt_or_le hi 1048576 with h | h
              · refine .inr ?_
                cases hh : Clk.shB s er d (hi + 1) x with
                | false => rfl
                | true => exact absurd ⟨h, hh⟩ hgo
              · exact .inl (by omega))
            clear hgo
            have hT := Clk.isTimes_of s er d x lo hi d0 d1 l0 l1 i0 i1 HLO.out HHI.out HEX.out HEY.out
            have HT := Lib.hid ((Clk.last_times s er d x H.out HX.out).unique hT)
            clear hT
            by_cases hp2 : hi < 1048576
            · have hs2 : Clk.shB s er d (hi + 1) x = false := by rcases HEY.out with h | h; omega; exact h
              have Ht2 := Lib.hid ((Clk.tmB_iff (hi + 1)).2 (by omega))
              have HS2 := Lib.hid hs2
              go_wp2_with (go_at_call 22; refine (Clk.rshows_any s er d (hi + 1) x _ H.out Ht2.out HX.out).mono ?_; rintro e w5 ⟨rfl, hb5⟩; obtain ⟨hc5, hf5⟩ := bcell hb5)
              refine bodyPost_ret (v := .tuple #[.agg #[.int .i64 lo, .int .i64 hi], .bool true, .int .i64 0]) (by simp [results, Tryd.results66, go_sem, hc5, p0, p1, hlt1]) rfl ⟨by rw [HT.out.1, HT.out.2], ?_⟩
              exact ((hB1.trans ((HBq.out.trans (hb5.mono (Nat.le_of_lt hltq))).mono (by omega))).setCell (by show w.heap.size ≤ w.heap.size + 1; omega) _).setCell (by show w.heap.size ≤ w.heap.size + 1; omega) _
            · go_wp2_with fail
              refine bodyPost_ret (v := .tuple #[.agg #[.int .i64 lo, .int .i64 hi], .bool true, .int .i64 0]) (by simp [results, Tryd.results66, go_sem, p0, p1]) rfl ⟨by rw [HT.out.1, HT.out.2], ?_⟩
              exact ((hB1.trans (HBq.out.mono (by omega))).setCell (by show w.heap.size ≤ w.heap.size + 1; omega) _).setCell (by show w.heap.size ≤ w.heap.size + 1; omega) _
      · have hb3 := Below.refl wr.heap.size wr
        obtain ⟨w3, hw3⟩ : ∃ w3, wr = w3 := ⟨_, rfl⟩
        subst hw3
        go_wp2_with fail
        have HR3 := Lib.hid (HR.out.keep hb3)
        have HB3 := Lib.hid (HBr.out.trans (hb3.mono (Nat.le_of_lt hlt)))
        clear HR HBr c0 c1 fz0 m0 q0 q1 q2 hlt hb3
        go_loopw [] (fun wq => ∃ hi : Int, x ≤ hi ∧ hi ≤ 1048576 ∧ Clk.shB s er d hi x = true ∧ Has wq w1.heap.size 38 [.int .i64 lo, .int .i64 hi] ∧ Below w1.heap.size w1 wq)
          (fun wq => 1048576 - cellNat wq w1.heap.size 1)
        case atStart => exact ⟨x, Int.le_refl _, x1, hself.out, HR3.out, HB3.out⟩
        case round =>
          obtain ⟨wq, rfl⟩ : ∃ wq : World, wq = wr := ⟨_, rfl⟩
          obtain ⟨hi, i0, i1, hhi, hr, hBr⟩ := hrel
          have c0 := hr.cell 0
          have c1 := hr.cell 1
          have fz1 := hr.frozen 1
          simp only [List.getElem?_cons_zero, List.getElem?_cons_succ] at c0 c1
          have m1 : Hid (cellNat wq w1.heap.size 1 = hi.toNat) := Lib.hid (by unfold cellNat; rw [c1])
          have HQ := Lib.hid hr
          have q0 := (hBr.cell (p := ⟨w.heap.size, 0, none⟩) (by show w.heap.size < _; omega)).trans k0
          have q1 := (hBr.cell (p := ⟨w.heap.size, 1, none⟩) (by show w.heap.size < _; omega)).trans k1
          have q2 := (hBr.cell (p := ⟨w.heap.size, 2, none⟩) (by show w.heap.size < _; omega)).trans k2
          have p0 := (hBr.cell (p := ⟨w.heap.size + 1, 0, none⟩) (by show w.heap.size + 1 < _; omega)).trans r0
          have p1 := (hBr.cell (p := ⟨w.heap.size + 1, 1, none⟩) (by show w.heap.size + 1 < _; omega)).trans r1
          have v0 := (hBr.frozen (p := ⟨w.heap.size + 1, 0, none⟩) (by show w.heap.size + 1 < _; omega)).trans g0
          have v1 := (hBr.frozen (p := ⟨w.heap.size + 1, 1, none⟩) (by show w.heap.size + 1 < _; omega)).trans g1
          have hltq : w1.heap.size < wq.heap.size := hr.lt
          have hlt1 : w.heap.size + 1 < wq.heap.size := by omega
          have HHI := Lib.hid hhi
          have HBq := Lib.hid hBr
          clear hr hhi hBr
          by_cases hgo : hi < 1048576 ∧ Clk.shB s er d (hi + 1) x = true
          · obtain ⟨hp2, hs2⟩ := hgo
            have Ht2 := Lib.hid ((Clk.tmB_iff (hi + 1)).2 (by omega))
            have HS2 := Lib.hid hs2
            go_wp2_with (go_at_call 22; refine (Clk.rshows_any s er d (hi + 1) x _ H.out Ht2.out HX.out).mono ?_; rintro e w5 ⟨rfl, hb5⟩; obtain ⟨hc5, hf5⟩ := bcell hb5)
            have hr5 : Has (w5.setCell ⟨w1.heap.size, 1, none⟩ (.int .i64 (hi + 1))) w1.heap.size 38 [.int .i64 lo, .int .i64 (hi + 1)] := (HQ.out.keep hb5).set 1 _
            go_roundw
            case rel => exact ⟨hi + 1, by omega, by omega, HS2.out, hr5, (HBq.out.trans (hb5.mono (Nat.le_of_lt hltq))).setCell (Nat.le_refl _) _⟩
            case measure =>
              rw [m1.out]
              have := hr5.cell 1
              simp only [List.getElem?_cons_zero, List.getElem?_cons_succ] at this
              unfold cellNat
              rw [this]
              show 1048576 - (hi + 1).toNat < 1048576 - hi.toNat
              omega
          · have HEY := Lib.hid (show hi = 1048576 ∨ Clk.shB s er d (hi + 1) x = false by
              rcases Int.lt_or_le hi 1048576 with h | h
              · refine .inr ?_
                cases hh : Clk.shB s er d (hi + 1) x with
                | false => rfl
                | true => exact absurd ⟨h, hh⟩ hgo
              · exact .inl (by omega))
            clear hgo
            have hT := Clk.isTimes_of s er d x lo hi d0 d1 l0 l1 i0 i1 HLO.out HHI.out HEX.out HEY.out
            have HT := Lib.hid ((Clk.last_times s er d x H.out HX.out).unique hT)
            clear hT
            by_cases hp2 : hi < 1048576
            · have hs2 : Clk.shB s er d (hi + 1) x = false := by rcases HEY.out with h | h; omega; exact h
              have Ht2 := Lib.hid ((Clk.tmB_iff (hi + 1)).2 (by omega))
              have HS2 := Lib.hid hs2
              go_wp2_with (go_at_call 22; refine (Clk.rshows_any s er d (hi + 1) x _ H.out Ht2.out HX.out).mono ?_; rintro e w5 ⟨rfl, hb5⟩; obtain ⟨hc5, hf5⟩ := bcell hb5)
              refine bodyPost_ret (v := .tuple #[.agg #[.int .i64 lo, .int .i64 hi], .bool true, .int .i64 0]) (by simp [results, Tryd.results66, go_sem, hc5, p0, p1, hlt1]) rfl ⟨by rw [HT.out.1, HT.out.2], ?_⟩
              exact ((hB1.trans ((HBq.out.trans (hb5.mono (Nat.le_of_lt hltq))).mono (by omega))).setCell (by show w.heap.size ≤ w.heap.size + 1; omega) _).setCell (by show w.heap.size ≤ w.heap.size + 1; omega) _
            · go_wp2_with fail
              refine bodyPost_ret (v := .tuple #[.agg #[.int .i64 lo, .int .i64 hi], .bool true, .int .i64 0]) (by simp [results, Tryd.results66, go_sem, p0, p1]) rfl ⟨by rw [HT.out.1, HT.out.2], ?_⟩
              exact ((hB1.trans (HBq.out.mono (by omega))).setCell (by show w.heap.size ≤ w.heap.size + 1; omega) _).setCell (by show w.heap.size ≤ w.heap.size + 1; omega) _

theorem Clk.rtimes_any (s er d x : Int) (w : World) :
    Calls Tryd.prog 66 #[.agg #[.int .i64 s, .int .i64 er, .int .i64 d], .int .i64 x] w fun e w' => e = .returned (.tuple #[.agg #[.int .i64 (Clk.timLo s er d x), .int .i64 (Clk.timHi s er d x)], .bool (Clk.timOk s er d x), .int .i64 (Clk.timE s er d x)]) ∧ Below w.heap.size w w' := by
  cases h : Clk.okB s er d with
  | false => exact (Clk.rtimes_no1 s er d x w h).mono fun _ _ ⟨he, hb⟩ => ⟨by rw [he]; simp [Clk.timLo, Clk.timHi, Clk.timOk, Clk.timE, h], hb⟩
  | true =>
    cases hx : Clk.tmB x with
    | false => exact (Clk.rtimes_no2 s er d x w h hx).mono fun _ _ ⟨he, hb⟩ => ⟨by rw [he]; simp [Clk.timLo, Clk.timHi, Clk.timOk, Clk.timE, h, hx], hb⟩
    | true => exact (Clk.rtimes_yes s er d x w h hx).mono fun _ _ ⟨he, hb⟩ => ⟨by rw [he]; simp [Clk.timLo, Clk.timHi, Clk.timOk, Clk.timE, h, hx], hb⟩

end Go.Proofs.YtnbbleajbbgmjaaDoor

