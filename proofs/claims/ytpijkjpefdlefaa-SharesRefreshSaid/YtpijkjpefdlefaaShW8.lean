/- Contract of shares.Join. -/
import Derived.Test.YtpijkjpefdlefaaShPl2
namespace Go.Proofs.Ytpijkjpefdlefaa
open Go.RowKit Go.Shelf
set_option linter.unusedVariables false

theorem below_n1 {w w' : World} {o1 : Obj} (hb : Below (w.alloc o1).heap.size (w.alloc o1) w') : Below w.heap.size w w' :=
  ((Below.refl _ _).alloc (Nat.le_refl _) _).trans (hb.mono (by simp))
theorem below_n2 {w w' : World} {o1 o2 : Obj} (hb : Below ((w.alloc o1).alloc o2).heap.size ((w.alloc o1).alloc o2) w') : Below w.heap.size w w' :=
  (((Below.refl _ _).alloc (Nat.le_refl _) _).alloc (by simp) _).trans (hb.mono (by simp; omega))
/-- what the closure of Join sees -/
structure Shr.Jn (bl bt : Nat) (A : Option Addr) (n c t : Nat) (xs : List Shr.C) (W : World) : Prop where
  l : W.cell? ⟨bl, 0, none⟩ = some (.slice A n c)
  t : W.cell? ⟨bt, 0, none⟩ = some (.int .i64 (t : Int))
  r : Shr.Rds W A n xs
  zl : bl < W.heap.size
  zt : bt < W.heap.size
theorem Shr.Jn.keep {bl bt : Nat} {A : Option Addr} {n c t : Nat} {xs : List Shr.C} {W W' : World} (h : Shr.Jn bl bt A n c t xs W) (hb : Below W.heap.size W W') : Shr.Jn bl bt A n c t xs W' :=
  ⟨(hb.cell (p := ⟨bl, 0, none⟩) h.zl).trans h.l, (hb.cell (p := ⟨bt, 0, none⟩) h.zt).trans h.t, h.r.keep hb, Nat.lt_of_lt_of_le h.zl hb.size, Nat.lt_of_lt_of_le h.zt hb.size⟩

set_option maxHeartbeats 1000000 in
theorem Shr.jn1_any (bl bt : Nat) (A : Option Addr) (n c t k : Nat) (xs : List Shr.C) (W : World) (hS : Shr.Jn bl bt A n c t xs W) (ht : t ≤ n) (hpos : 0 < t) (hn : n ≤ 8) (hc : n ≤ c) (hcm : c ≤ maxLen) (hk : k < 64) (hd : ∀ x, x ∈ xs → k < x.s.d.length) (hix : ∀ x, x ∈ xs → 0 ≤ x.s.ix ∧ x.s.ix ≤ 255) :
    Calls Try.prog 34 #[.int .i64 k, .pointer (some ⟨bl, 0, none⟩), .pointer (some ⟨bt, 0, none⟩)] W fun e W' => e = .returned (B8 (Fld.thrV (Shr.ptX (Shr.vals (xs.take t))) (Shr.ptY (Shr.vals (xs.take t)) k) 0)) ∧ Below W.heap.size W W' := by
  unfold maxLen at hcm
  obtain ⟨b, off, rfl, _⟩ := hS.r.first (by omega)
  have e1 := hS.l
  have e2 := hS.t
  have HR := Lib.hid (hS.r.take t ht)
  have HD := Lib.hid (show ∀ x, x ∈ xs.take t → k < x.s.d.length from fun x hx => hd x (List.mem_of_mem_take hx))
  have HIX := Lib.hid (show ∀ x, x ∈ xs.take t → 0 ≤ x.s.ix ∧ x.s.ix ≤ 255 from fun x hx => hix x (List.mem_of_mem_take hx))
  clear hS hd hix
  have hne : ¬ c = 0 := by omega
  go_enter Try.func34, Try.ntmps34
  go_wp2_with fail
  refine (Shr.points_any (some ⟨b, off, none⟩) t c k (xs.take t) W HR.out (by omega) HD.out HIX.out).mono ?_
  rintro e w1 ⟨v1, v2, rfl, hT, hb1⟩
  have HB1 := Lib.hid hb1
  obtain ⟨A1, c1, rfl⟩ := own_form hT.x
  obtain ⟨A2, c2, rfl⟩ := own_form hT.y
  have HX := Lib.hid (RdB.of_own hT.x)
  have HY := Lib.hid (RdB.of_own hT.y)
  clear hT hb1
  go_wp2_with fail
  refine (Fld.through_any A1 A2 t c1 t c2 _ _ 0 w1 (by omega) (by unfold maxLen; omega) HX.out HY.out).mono ?_
  rintro e w2 ⟨rfl, hb2⟩
  have HB2 := Lib.hid (HB1.out.trans (hb2.mono HB1.out.size))
  clear hb2
  go_wp2_with fail
  go_ret
  exact ⟨rfl, HB2.out⟩

/-- bytes are handed back, without an error -/
def RetBE (w : World) (n : Nat) (r : List UInt8) (e : Ending) (w' : World) : Prop := ∃ A c, e = .returned (.tuple #[.slice A n c, .int .i64 0]) ∧ (A = none → c = 0) ∧ RdB w' A n r ∧ Fresh w.heap.size A ∧ (∀ b off, A = some ⟨b, off, none⟩ → b < w'.heap.size) ∧ Below w.heap.size w w'

set_option maxHeartbeats 1000000 in
theorem Shr.join_no (A : Option Addr) (n c : Nat) (xs : List Shr.C) (w : World) (hr : Shr.Rds w A n xs) (hn : n ≤ maxLen) (h : Shr.joinE (Shr.vals xs) ≠ 0) :
    Calls Try.prog 17 #[.slice A n c] w fun e w' => e = .returned (.tuple #[.slice none 0 0, .int .i64 (Shr.joinE (Shr.vals xs))]) ∧ Below w.heap.size w w' := by
  have HN := Lib.hid hn
  by_cases h1 : Shr.chkE (Shr.vals xs) = 0
  · have hg := Shr.good _ h1
    have hlt : ((Shr.vals xs).length : Int) < (Shr.vals xs)[0]!.th := by
      unfold Shr.joinE at h
      rw [if_neg (by simp [h1])] at h
      by_cases hh : ((Shr.vals xs).length : Int) < (Shr.vals xs)[0]!.th
      · exact hh
      · rw [if_neg hh] at h; exact absurd rfl h
    have HE := Lib.hid (show Shr.joinE (Shr.vals xs) = 60 by unfold Shr.joinE; rw [if_neg (by simp [h1]), if_pos hlt])
    have hpos : 0 < n := by have := hg.pos; rw [Shr.vals_len, hr.len] at this; exact this
    obtain ⟨b, off, rfl, hb, e0, e1, e2, e3, e4⟩ := hr.first hpos
    have hth8 : (Shr.vals xs)[0]!.th ≤ 8 := by have := hg.thm; have := hg.mn8; omega
    rw [Shr.vals_len, hr.len] at hlt
    rw [Shr.vals_at xs 0 (by rw [hr.len]; exact hpos)] at hlt hth8
    have HR := Lib.hid hr
    have H1 := Lib.hid h1
    clear hr h1 h hg e0 e1 e3 e4 hn
    generalize (xs[0]!).s.th = th at e2 hlt hth8
    go_enter Try.func17, Try.ntmps17
    go_wp2_with fail
    refine (Shr.check_any (some ⟨b, off, none⟩) n c xs _ (HR.out.alloc _) HN.out).mono ?_
    rintro e w1 ⟨rfl, hb1⟩
    rw [H1.out]
    have c2 := (hb1.cell (p := ⟨b, off + 2, none⟩) (show b < _ by simp; omega)).trans ((((Below.refl w.heap.size w).alloc (Nat.le_refl _) _).cell (p := ⟨b, off + 2, none⟩) hb).trans e2)
    have HB1 := Lib.hid (below_n1 hb1)
    obtain ⟨z1, d1⟩ := ((Has.new w 22 [.slice (some ⟨b, off, none⟩) n c]).keep hb1).r1
    have hbw1 : b < w1.heap.size := Nat.lt_of_lt_of_le hb HB1.out.size
    clear hb1 e2
    go_wp2_with fail
    go_ret2
    exact ⟨by rw [HE.out]; rfl, HB1.out.alloc HB1.out.size _⟩
  · have HE := Lib.hid (show Shr.joinE (Shr.vals xs) = Shr.chkE (Shr.vals xs) by unfold Shr.joinE; rw [if_pos h1])
    have HR := Lib.hid hr
    clear hr h
    have hq : ∀ z : Int, z = Shr.chkE (Shr.vals xs) → (z != 0) = true := fun z e => by subst e; simpa using h1
    clear hn h1
    go_enter Try.func17, Try.ntmps17
    go_wp2_with fail
    refine (Shr.check_any A n c xs _ (HR.out.alloc _) HN.out).mono ?_
    rintro e w1 ⟨rfl, hb1⟩
    rw [← HE.out] at hq
    rw [← HE.out]
    generalize hje : Shr.joinE (Shr.vals xs) = je at hq ⊢
    have HJE := Lib.hid hje
    have hq2 := hq je rfl
    have HB1 := Lib.hid (below_n1 hb1)
    clear hb1 hq HE hje
    go_wp2_with fail
    go_ret2
    exact ⟨by rw [HJE.out]; rfl, HB1.out⟩

set_option maxHeartbeats 1000000 in
theorem Shr.join_yes (A : Option Addr) (n c : Nat) (xs : List Shr.C) (w : World) (hr : Shr.Rds w A n xs) (hnc : n ≤ c) (hcm : c ≤ maxLen) (h : Shr.joinE (Shr.vals xs) = 0) :
    Calls Try.prog 17 #[.slice A n c] w (RetBE w (Shr.vals xs)[0]!.d.length (Shr.joinV (Shr.vals xs))) := by
  have h1 : Shr.chkE (Shr.vals xs) = 0 := by
    unfold Shr.joinE at h
    by_cases h1 : Shr.chkE (Shr.vals xs) = 0
    · exact h1
    · rw [if_pos h1] at h; exact absurd h h1
  have hg := Shr.good _ h1
  have hlt : (Shr.vals xs)[0]!.th ≤ ((Shr.vals xs).length : Int) := by
    unfold Shr.joinE at h
    rw [if_neg (by simp [h1])] at h
    by_cases hh : ((Shr.vals xs).length : Int) < (Shr.vals xs)[0]!.th
    · rw [if_pos hh] at h; exact absurd h (by decide)
    · omega
  have hfew := hg.few
  have hpos : 0 < n := by have := hg.pos; rw [Shr.vals_len, hr.len] at this; exact this
  obtain ⟨b, off, rfl, hb, e0, e1, e2, e3, e4⟩ := hr.first hpos
  have hv0 := Shr.vals_at xs 0 (by rw [hr.len]; exact hpos)
  have hth1 := hg.th1
  have hd64 := hg.d64
  have HIX := Lib.hid hg.ix_of
  have HDL := Lib.hid hg.dl_of
  rw [Shr.vals_len, hr.len] at hlt hfew
  have HT := Lib.hid (show Shr.tt (Shr.vals xs) = (xs[0]!).s.th.toNat by rw [Shr.tt, hv0])
  have HJ := Lib.hid (show ∀ t : Nat, (xs[0]!).s.th = (t : Int) → ∀ dl : Nat, (xs[0]!).s.d.length = dl → Shr.joinV (Shr.vals xs) = (List.range dl).map (fun k => Fld.thrV (Shr.ptX (Shr.vals (xs.take t))) (Shr.ptY (Shr.vals (xs.take t)) k) 0) from fun t ht dl hdl => by
    unfold Shr.joinV
    rw [hv0, hdl]
    refine List.map_congr_left fun k _ => ?_
    rw [Shr.joinB, HT.out, ht, Int.toNat_natCast, Shr.vals_take])
  rw [hv0] at hlt hth1 hd64 HDL ⊢
  have HR := Lib.hid hr
  have H1 := Lib.hid h1
  have HCM := Lib.hid hcm
  obtain ⟨t, ht⟩ : ∃ t : Nat, (xs[0]!).s.th = (t : Int) := ⟨(xs[0]!).s.th.toNat, by omega⟩
  obtain ⟨dl, hdl⟩ : ∃ dl : Nat, (xs[0]!).s.d.length = dl := ⟨_, rfl⟩
  have HJ2 := Lib.hid (HJ.out t ht dl hdl)
  rw [ht] at e2 hlt hth1
  rw [hdl] at e4 hd64 HDL ⊢
  clear hr h1 h hg e0 e1 e3 hv0 HT HJ ht hdl hcm
  generalize (xs[0]!).A = A0 at e4
  generalize (xs[0]!).c = c0 at e4
  go_enter Try.func17, Try.ntmps17
  go_wp2_with fail
  refine (Shr.check_any (some ⟨b, off, none⟩) n c xs _ (HR.out.alloc _) (by unfold maxLen; omega)).mono ?_
  rintro e w1 ⟨rfl, hb1⟩
  rw [H1.out]
  have c2 := (hb1.cell (p := ⟨b, off + 2, none⟩) (show b < _ by simp; omega)).trans ((((Below.refl w.heap.size w).alloc (Nat.le_refl _) _).cell (p := ⟨b, off + 2, none⟩) hb).trans e2)
  have c4 := (hb1.cell (p := ⟨b, off + 4, none⟩) (show b < _ by simp; omega)).trans ((((Below.refl w.heap.size w).alloc (Nat.le_refl _) _).cell (p := ⟨b, off + 4, none⟩) hb).trans e4)
  have HB1 := Lib.hid (below_n1 hb1)
  have HH := Lib.hid ((Has.new w 22 [.slice (some ⟨b, off, none⟩) n c]).keep hb1)
  obtain ⟨z1, d1⟩ := HH.out.r1
  have hbw1 : b < w1.heap.size := Nat.lt_of_lt_of_le hb HB1.out.size
  clear hb1 e2 e4
  go_wp2_with fail
  have HB2 := Lib.hid (HB1.out.alloc HB1.out.size (.cells #[.int .i64 (t : Int)] 3))
  have hf : ∀ (k : Nat) (W : World), k < dl → Shr.Jn w.heap.size w1.heap.size (some ⟨b, off, none⟩) n c t xs W → Calls Try.prog 34 (#[.int .i64 (k : Int)] ++ #[.pointer (some ⟨w.heap.size, 0, none⟩), .pointer (some ⟨w1.heap.size, 0, none⟩)]) W fun e W' => e = .returned (B8 (Fld.thrV (Shr.ptX (Shr.vals (xs.take t))) (Shr.ptY (Shr.vals (xs.take t)) k) 0)) ∧ Below W.heap.size W W' :=
    fun k W hk hS => Shr.jn1_any _ _ (some ⟨b, off, none⟩) n c t k xs W hS (by omega) (by omega) hfew hnc HCM.out (by omega) (fun x hx => by rw [HDL.out x hx]; exact hk) HIX.out
  have hC := Shr.cols8 34 #[.pointer (some ⟨w.heap.size, 0, none⟩), .pointer (some ⟨w1.heap.size, 0, none⟩)] dl (fun k => Fld.thrV (Shr.ptX (Shr.vals (xs.take t))) (Shr.ptY (Shr.vals (xs.take t)) k) 0) (Shr.Jn w.heap.size w1.heap.size (some ⟨b, off, none⟩) n c t xs) (w1.alloc (.cells #[.int .i64 (t : Int)] 3)) (enters_of Try.func34 (by kernel_rfl) rfl)
    (fun W W' h hb => h.keep hb) hf ⟨(HH.out.alloc _).c1, (Has.new w1 3 [.int .i64 (t : Int)]).c1, HR.out.keep HB2.out, by simp; omega, by simp⟩ (by omega)
  ((with_reducible refine hC.mono ?_); rintro e w3 ⟨A3, c3, rfl, hn3, hr3, hfr3, hlt3, hb3⟩)
  clear hf hC
  have HB3 := Lib.hid (HB2.out.trans (hb3.mono HB2.out.size))
  have HR3 := Lib.hid hr3
  have HF3 := Lib.hid hfr3
  have HL3 := Lib.hid hlt3
  have HN3 := Lib.hid hn3
  clear hb3 hn3 hr3 hfr3 hlt3
  go_wp2_with fail
  go_ret2
  exact ⟨A3, c3, rfl, HN3.out, by rw [HJ2.out]; exact HR3.out, HF3.out.mono HB2.out.size, HL3.out, HB3.out⟩
end Go.Proofs.Ytpijkjpefdlefaa
