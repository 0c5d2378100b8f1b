/- Contract of shares.Refresh where it answers an error. -/
import Derived.Test.YtpijkjpefdlefaaShW11
namespace Go.Proofs.Ytpijkjpefdlefaa
open Go.RowKit Go.Shelf
set_option linter.unusedVariables false

theorem Shr.spE_one (dl : Nat) (th mn : Int) (nc : Nat) (h1 : dl ≤ 64) (h2 : 1 ≤ th) (h3 : th ≤ mn) (h4 : mn ≤ 8) (h : (nc : Int) ≠ (dl : Int) * (th - 1)) : Shr.spE dl 0 th mn nc = 1 := by
  unfold Shr.spE
  rw [if_neg (by omega), if_neg (by omega), if_neg (by omega), if_pos h]

set_option maxHeartbeats 1000000 in
theorem Shr.ref_chk (A : Option Addr) (n c : Nat) (A2 : Option Addr) (nc cc : Nat) (xs : List Shr.C) (w : World) (hr : Shr.Rds w A n xs) (hnm : n ≤ maxLen) (h1 : Shr.chkE (Shr.vals xs) ≠ 0) :
    Calls Try.prog 21 #[.slice A n c, .slice A2 nc cc] w fun e w' => e = .returned (.tuple #[.slice none 0 0, .int .i64 (Shr.chkE (Shr.vals xs))]) ∧ Below w.heap.size w w' := by
  have HR := Lib.hid hr
  have HN := Lib.hid hnm
  obtain ⟨je, hje⟩ : ∃ je, je = Shr.chkE (Shr.vals xs) := ⟨_, rfl⟩
  have hq : (je != 0) = true := by rw [hje]; simpa using h1
  have HJE := Lib.hid hje
  clear hr h1 hje hnm
  go_enter Try.func21, Try.ntmps21
  go_wp2_with fail
  refine (Shr.check_any A n c xs _ (HR.out.alloc _) HN.out).mono ?_
  rintro e w1 ⟨rfl, hb1⟩
  rw [← HJE.out]
  have HB1 := Lib.hid (below_n1 hb1)
  clear hb1
  go_wp2_with fail
  go_ret2
  exact ⟨by rw [← HJE.out]; rfl, HB1.out⟩

set_option maxRecDepth 100000 in
set_option maxHeartbeats 1000000 in
theorem Shr.ref_mn (A : Option Addr) (n c : Nat) (A2 : Option Addr) (nc cc : Nat) (xs : List Shr.C) (coins : List UInt8) (w : World) (hr : Shr.Rds w A n xs) (hnm : n ≤ maxLen) (hco : RdB w A2 nc coins) (hncc : nc ≤ cc) (hccm : cc ≤ maxLen) (hnil : A2 = none → cc = 0)
    (t dl : Nat) (ep mn : Int) (h1 : Shr.chkE (Shr.vals xs) = 0) (hth : (xs[0]!).s.th = (t : Int)) (hdl : (xs[0]!).s.d.length = dl) (hep : (xs[0]!).s.ep = ep) (hmn : (xs[0]!).s.mn = mn) (hne : (n : Int) ≠ mn) :
    Calls Try.prog 21 #[.slice A n c, .slice A2 nc cc] w fun e w' => e = .returned (.tuple #[.slice none 0 0, .int .i64 60]) ∧ Below w.heap.size w w' := by
  have hg := Shr.good _ h1
  have hpos : 0 < n := by have := hg.pos; rw [Shr.vals_len, hr.len] at this; exact this
  obtain ⟨b, off, rfl, hb, e0, e1, e2, e3, e4⟩ := hr.first hpos
  have hv0 := Shr.vals_at xs 0 (by rw [hr.len]; exact hpos)
  have g1 := hg.th1
  have g2 := hg.thm
  have g3 := hg.mn8
  have g4 := hg.d64
  have g5 := (hg.ep 0 hg.pos).2
  rw [hv0] at g1 g2 g3 g4 g5
  rw [hth] at e2 g1 g2
  rw [hmn] at e3 g2 g3
  rw [hdl] at e4 g4
  rw [hep] at e0 g5
  have HR := Lib.hid hr
  have H1 := Lib.hid h1
  have HN := Lib.hid hnm
  have HCO := Lib.hid hco
  have HCC := Lib.hid hncc
  have HCM := Lib.hid hccm
  have HNIL := Lib.hid hnil
  have HG := Lib.hid hg
  have HTH := Lib.hid hth
  have HDL := Lib.hid hdl
  have HLN := Lib.hid (show (Shr.vals xs).length = n by rw [Shr.vals_len, hr.len])
  clear hr h1 hnm hco hncc hccm hnil hg hv0 hth hdl hep hmn e1
  generalize (xs[0]!).A = A0 at e4
  generalize (xs[0]!).c = c0 at e4
  have q1 : ((n : Int) != mn) = true := by simpa using hne
  go_enter Try.func21, Try.ntmps21
  go_wp2_with fail
  refine (Shr.check_any (some ⟨b, off, none⟩) n c xs _ (HR.out.alloc _) HN.out).mono ?_
  rintro e w1 ⟨rfl, hb1⟩
  rw [H1.out]
  have hBa := (Below.refl w.heap.size w).alloc (Nat.le_refl _) (.cells #[.slice (some ⟨b, off, none⟩) n c] 22)
  have c0' := (hb1.cell (p := ⟨b, off, none⟩) (show b < _ by simp; omega)).trans ((hBa.cell (p := ⟨b, off, none⟩) hb).trans e0)
  have c2 := (hb1.cell (p := ⟨b, off + 2, none⟩) (show b < _ by simp; omega)).trans ((hBa.cell (p := ⟨b, off + 2, none⟩) hb).trans e2)
  have c3 := (hb1.cell (p := ⟨b, off + 3, none⟩) (show b < _ by simp; omega)).trans ((hBa.cell (p := ⟨b, off + 3, none⟩) hb).trans e3)
  have c4 := (hb1.cell (p := ⟨b, off + 4, none⟩) (show b < _ by simp; omega)).trans ((hBa.cell (p := ⟨b, off + 4, none⟩) hb).trans e4)
  have HB1 := Lib.hid (below_n1 hb1)
  have HH := Lib.hid ((Has.new w 22 [.slice (some ⟨b, off, none⟩) n c]).keep hb1)
  obtain ⟨z1, d1⟩ := HH.out.r1
  have hbw1 : b < w1.heap.size := Nat.lt_of_lt_of_le hb HB1.out.size
  clear hb1 e0 e2 e3 e4 hBa
  go_wp2_with fail
  go_quiet (fail)
  go_wp2_with fail
  go_ret2
  exact ⟨rfl, below_drewN HB1.out _⟩

set_option maxRecDepth 100000 in
set_option maxHeartbeats 1000000 in
theorem Shr.ref_ep (A : Option Addr) (n c : Nat) (A2 : Option Addr) (nc cc : Nat) (xs : List Shr.C) (coins : List UInt8) (w : World) (hr : Shr.Rds w A n xs) (hnm : n ≤ maxLen) (hco : RdB w A2 nc coins) (hncc : nc ≤ cc) (hccm : cc ≤ maxLen) (hnil : A2 = none → cc = 0)
    (t dl : Nat) (ep mn : Int) (h1 : Shr.chkE (Shr.vals xs) = 0) (hth : (xs[0]!).s.th = (t : Int)) (hdl : (xs[0]!).s.d.length = dl) (hep : (xs[0]!).s.ep = ep) (hmn : (xs[0]!).s.mn = mn) (hne : (n : Int) = mn) (hep2 : ep = 1048576) :
    Calls Try.prog 21 #[.slice A n c, .slice A2 nc cc] w fun e w' => e = .returned (.tuple #[.slice none 0 0, .int .i64 61]) ∧ Below w.heap.size w w' := by
  have hg := Shr.good _ h1
  have hpos : 0 < n := by have := hg.pos; rw [Shr.vals_len, hr.len] at this; exact this
  obtain ⟨b, off, rfl, hb, e0, e1, e2, e3, e4⟩ := hr.first hpos
  have hv0 := Shr.vals_at xs 0 (by rw [hr.len]; exact hpos)
  have g1 := hg.th1
  have g2 := hg.thm
  have g3 := hg.mn8
  have g4 := hg.d64
  have g5 := (hg.ep 0 hg.pos).2
  rw [hv0] at g1 g2 g3 g4 g5
  rw [hth] at e2 g1 g2
  rw [hmn] at e3 g2 g3
  rw [hdl] at e4 g4
  rw [hep] at e0 g5
  have HR := Lib.hid hr
  have H1 := Lib.hid h1
  have HN := Lib.hid hnm
  have HCO := Lib.hid hco
  have HCC := Lib.hid hncc
  have HCM := Lib.hid hccm
  have HNIL := Lib.hid hnil
  have HG := Lib.hid hg
  have HTH := Lib.hid hth
  have HDL := Lib.hid hdl
  have HLN := Lib.hid (show (Shr.vals xs).length = n by rw [Shr.vals_len, hr.len])
  clear hr h1 hnm hco hncc hccm hnil hg hv0 hth hdl hep hmn e1
  generalize (xs[0]!).A = A0 at e4
  generalize (xs[0]!).c = c0 at e4
  subst hne
  have q1 : ((n : Int) != (n : Int)) = false := by simp
  have q2 : (ep == 1048576) = true := by simpa using hep2
  clear hep2
  go_enter Try.func21, Try.ntmps21
  go_wp2_with fail
  refine (Shr.check_any (some ⟨b, off, none⟩) n c xs _ (HR.out.alloc _) HN.out).mono ?_
  rintro e w1 ⟨rfl, hb1⟩
  rw [H1.out]
  have hBa := (Below.refl w.heap.size w).alloc (Nat.le_refl _) (.cells #[.slice (some ⟨b, off, none⟩) n c] 22)
  have c0' := (hb1.cell (p := ⟨b, off, none⟩) (show b < _ by simp; omega)).trans ((hBa.cell (p := ⟨b, off, none⟩) hb).trans e0)
  have c2 := (hb1.cell (p := ⟨b, off + 2, none⟩) (show b < _ by simp; omega)).trans ((hBa.cell (p := ⟨b, off + 2, none⟩) hb).trans e2)
  have c3 := (hb1.cell (p := ⟨b, off + 3, none⟩) (show b < _ by simp; omega)).trans ((hBa.cell (p := ⟨b, off + 3, none⟩) hb).trans e3)
  have c4 := (hb1.cell (p := ⟨b, off + 4, none⟩) (show b < _ by simp; omega)).trans ((hBa.cell (p := ⟨b, off + 4, none⟩) hb).trans e4)
  have HB1 := Lib.hid (below_n1 hb1)
  have HH := Lib.hid ((Has.new w 22 [.slice (some ⟨b, off, none⟩) n c]).keep hb1)
  obtain ⟨z1, d1⟩ := HH.out.r1
  have hbw1 : b < w1.heap.size := Nat.lt_of_lt_of_le hb HB1.out.size
  clear hb1 e0 e2 e3 e4 hBa
  go_wp2_with fail
  go_quiet (fail)
  go_wp2_with fail
  go_ret2
  exact ⟨rfl, below_drewN HB1.out _⟩

set_option maxRecDepth 100000 in
set_option maxHeartbeats 4000000 in
theorem Shr.ref_co (A : Option Addr) (n c : Nat) (A2 : Option Addr) (nc cc : Nat) (xs : List Shr.C) (coins : List UInt8) (w : World) (hr : Shr.Rds w A n xs) (hnm : n ≤ maxLen) (hco : RdB w A2 nc coins) (hncc : nc ≤ cc) (hccm : cc ≤ maxLen) (hnil : A2 = none → cc = 0)
    (t dl : Nat) (ep mn : Int) (h1 : Shr.chkE (Shr.vals xs) = 0) (hth : (xs[0]!).s.th = (t : Int)) (hdl : (xs[0]!).s.d.length = dl) (hep : (xs[0]!).s.ep = ep) (hmn : (xs[0]!).s.mn = mn) (hne : (n : Int) = mn) (hep2 : ep ≠ 1048576) (hnc : (nc : Int) ≠ (dl : Int) * ((t : Int) - 1)) :
    Calls Try.prog 21 #[.slice A n c, .slice A2 nc cc] w fun e w' => e = .returned (.tuple #[.slice none 0 0, .int .i64 1]) ∧ Below w.heap.size w w' := by
  have hg := Shr.good _ h1
  have hpos : 0 < n := by have := hg.pos; rw [Shr.vals_len, hr.len] at this; exact this
  obtain ⟨b, off, rfl, hb, e0, e1, e2, e3, e4⟩ := hr.first hpos
  have hv0 := Shr.vals_at xs 0 (by rw [hr.len]; exact hpos)
  have g1 := hg.th1
  have g2 := hg.thm
  have g3 := hg.mn8
  have g4 := hg.d64
  have g5 := (hg.ep 0 hg.pos).2
  rw [hv0] at g1 g2 g3 g4 g5
  rw [hth] at e2 g1 g2
  rw [hmn] at e3 g2 g3
  rw [hdl] at e4 g4
  rw [hep] at e0 g5
  have HR := Lib.hid hr
  have H1 := Lib.hid h1
  have HN := Lib.hid hnm
  have HCO := Lib.hid hco
  have HCC := Lib.hid hncc
  have HCM := Lib.hid hccm
  have HNIL := Lib.hid hnil
  have HG := Lib.hid hg
  have HTH := Lib.hid hth
  have HDL := Lib.hid hdl
  have HLN := Lib.hid (show (Shr.vals xs).length = n by rw [Shr.vals_len, hr.len])
  clear hr h1 hnm hco hncc hccm hnil hg hv0 hth hdl hep hmn e1
  generalize (xs[0]!).A = A0 at e4
  generalize (xs[0]!).c = c0 at e4
  subst hne
  have q1 : ((n : Int) != (n : Int)) = false := by simp
  have q2 : (ep == 1048576) = false := by simpa using hep2
  have HSE := Lib.hid (Shr.spE_one dl (t : Int) (n : Int) nc (by omega) (by omega) (by omega) (by omega) hnc)
  have HNE := Lib.hid (show Shr.spE dl 0 (t : Int) (n : Int) nc ≠ 0 by rw [HSE.out]; decide)
  have HNM := Lib.hid (Nat.le_trans HCC.out HCM.out)
  clear hep2 hnc
  go_enter Try.func21, Try.ntmps21
  go_wp2_with fail
  refine (Shr.check_any (some ⟨b, off, none⟩) n c xs _ (HR.out.alloc _) HN.out).mono ?_
  rintro e w1 ⟨rfl, hb1⟩
  rw [H1.out]
  have hBa := (Below.refl w.heap.size w).alloc (Nat.le_refl _) (.cells #[.slice (some ⟨b, off, none⟩) n c] 22)
  have c0' := (hb1.cell (p := ⟨b, off, none⟩) (show b < _ by simp; omega)).trans ((hBa.cell (p := ⟨b, off, none⟩) hb).trans e0)
  have c2 := (hb1.cell (p := ⟨b, off + 2, none⟩) (show b < _ by simp; omega)).trans ((hBa.cell (p := ⟨b, off + 2, none⟩) hb).trans e2)
  have c3 := (hb1.cell (p := ⟨b, off + 3, none⟩) (show b < _ by simp; omega)).trans ((hBa.cell (p := ⟨b, off + 3, none⟩) hb).trans e3)
  have c4 := (hb1.cell (p := ⟨b, off + 4, none⟩) (show b < _ by simp; omega)).trans ((hBa.cell (p := ⟨b, off + 4, none⟩) hb).trans e4)
  have HB1 := Lib.hid (below_n1 hb1)
  have HH := Lib.hid ((Has.new w 22 [.slice (some ⟨b, off, none⟩) n c]).keep hb1)
  obtain ⟨z1, d1⟩ := HH.out.r1
  have hbw1 : b < w1.heap.size := Nat.lt_of_lt_of_le hb HB1.out.size
  clear hb1 e0 e2 e3 e4 hBa
  go_wp2_with fail
  go_quiet (fail)
  go_wp2_with fail
  generalize hWq : w1.drewN _ = W1
  have hzq : W1.heap.size = w1.heap.size := by rw [← hWq]; simp
  have HB1' := Lib.hid (show Below w.heap.size w W1 by rw [← hWq]; exact below_drewN HB1.out _)
  have HH' := Lib.hid (show Has W1 w.heap.size 22 [.slice (some ⟨b, off, none⟩) n c] by rw [← hWq]; exact HH.out.drewN _)
  replace d1 : W1.cell? ⟨w.heap.size, 0, none⟩ = some (.slice (some ⟨b, off, none⟩) n c) := HH'.out.c1
  replace z1 : w.heap.size < W1.heap.size := HH'.out.lt
  replace c2 : W1.cell? ⟨b, off + 2, none⟩ = some (.int .i64 (t : Int)) := by rw [← hWq]; exact c2
  replace c3 : W1.cell? ⟨b, off + 3, none⟩ = some (.int .i64 (n : Int)) := by rw [← hWq]; exact c3
  replace c4 : W1.cell? ⟨b, off + 4, none⟩ = some (.slice A0 dl c0) := by rw [← hWq]; exact c4
  replace hbw1 : b < W1.heap.size := by omega
  clear hWq hzq c0' HB1 HH
  have HC1 := Lib.hid (HCO.out.keep HB1'.out)
  have hmk := Shr.make_zc dl (by omega)
  have nw1 := World.new_ne W1 ⟨w.heap.size, 0, none⟩ d1
  have nw2 := World.new_ne W1 ⟨b, off + 2, none⟩ c2
  have nw3 := World.new_ne W1 ⟨b, off + 3, none⟩ c3
  have nw4 := World.new_ne W1 ⟨b, off + 4, none⟩ c4
  go_region_held3 (fun w' => w'.cell? ⟨w.heap.size, 0, none⟩ = some (.slice (some ⟨b, off, none⟩) n c) ∧ w'.cell? ⟨b, off + 2, none⟩ = some (.int .i64 (t : Int)) ∧ w'.cell? ⟨b, off + 3, none⟩ = some (.int .i64 (n : Int)) ∧ w'.cell? ⟨b, off + 4, none⟩ = some (.slice A0 dl c0))
    (first
      | exact ⟨d1, c2, c3, c4⟩
      | exact Shr.keep4 z1 hbw1 d1 c2 c3 c4 hbW
      | exact Shr.keep4 z1 hbw1 d1 c2 c3 c4 (hbW.alloc hbW.size _)
      | exact Shr.keep4 z1 hbw1 d1 c2 c3 c4 (hbW.setCell (p := ⟨W1.heap.size, 0, none⟩) (Nat.le_refl _) _)
      | exact Shr.keep4 z1 hbw1 d1 c2 c3 c4 (hbW.setCell (p := ⟨W1.heap.size + 1, 0, none⟩) (Nat.le_succ _) _)
      | go_keep)
    (first
      | (go_at_call 12; (with_reducible refine (Shr.split_no _ A2 dl dl nc cc 0 (t : Int) (n : Int) ((W1.alloc (.cells (Shr.zc dl) 5)).drew) (by unfold maxLen; omega) HNM.out ⟨by omega, by omega⟩ HNE.out).mono ?_); rintro e w5 ⟨rfl, hb5⟩; rw [HSE.out]; have hbW : Below W1.heap.size W1 w5 := (((Below.refl _ _).alloc (Nat.le_refl _) _).drew).trans (hb5.mono (by simp)))
      | (go_at_call 12; (with_reducible refine (Shr.split_no _ A2 dl dl nc cc 0 (t : Int) (n : Int) (((W1.alloc (.cells (Shr.zc dl) 5)).alloc (.cells #[.slice none 0 0] 22)).drew) (by unfold maxLen; omega) HNM.out ⟨by omega, by omega⟩ HNE.out).mono ?_); rintro e w5 ⟨rfl, hb5⟩; rw [HSE.out]; have hbW : Below W1.heap.size W1 w5 := ((((Below.refl _ _).alloc (Nat.le_refl _) _).alloc (by simp) _).drew).trans (hb5.mono (by simp; omega)); obtain ⟨z6, k6⟩ := (((Has.second W1 22 [.slice none 0 0] (.cells (Shr.zc dl) 5)).drew).keep hb5).r1; have f6 := (((Has.second W1 22 [.slice none 0 0] (.cells (Shr.zc dl) 5)).drew).keep hb5).frozen 0)
      | (go_at_call 12; (with_reducible refine (Shr.split_no _ A2 dl dl nc cc 0 (t : Int) (n : Int) (((W1.alloc (.cells #[.slice none 0 0] 22)).alloc (.cells (Shr.zc dl) 5)).drew) (by unfold maxLen; omega) HNM.out ⟨by omega, by omega⟩ HNE.out).mono ?_); rintro e w5 ⟨rfl, hb5⟩; rw [HSE.out]; have hbW : Below W1.heap.size W1 w5 := ((((Below.refl _ _).alloc (Nat.le_refl _) _).alloc (by simp) _).drew).trans (hb5.mono (by simp; omega)); obtain ⟨z6, k6⟩ := ((((Has.new W1 22 [.slice none 0 0]).alloc (.cells (Shr.zc dl) 5)).drew).keep hb5).r1; have f6 := ((((Has.new W1 22 [.slice none 0 0]).alloc (.cells (Shr.zc dl) 5)).drew).keep hb5).frozen 0))
  all_goals (
    have HBF := Lib.hid (HB1'.out.trans (hbW.mono HB1'.out.size))
    have hz5 := hbW.size
    have hzw := HB1'.out.size
    clear hb5 hbW
    go_wp2_with fail
    go_ret2
    exact ⟨rfl, by first | exact HBF.out.alloc HBF.out.size _ | exact HBF.out.setCell (p := ⟨W1.heap.size, 0, none⟩) hzw _ | exact HBF.out.setCell (p := ⟨W1.heap.size + 1, 0, none⟩) (Nat.le_succ_of_le hzw) _⟩)

end Go.Proofs.Ytpijkjpefdlefaa
