/- Contracts of the reference's Refresh. -/
import Derived.Test.YtpijkjpefdlefaaShR4
namespace Go.Proofs.Ytpijkjpefdlefaa
open Go.RowKit Go.Shelf
set_option linter.unusedVariables false

set_option maxRecDepth 100000 in
set_option maxHeartbeats 1000000 in
theorem Shr.rref_chk (A : Option Addr) (n c : Nat) (A2 : Option Addr) (nc cc : Nat) (xs : List Shr.C) (w : World) (hr : Shr.Rds w A n xs) (hnm : n ≤ maxLen) (h1 : Shr.chkE (Shr.vals xs) ≠ 0) :
    Calls Try.prog 22 #[.slice A n c, .slice A2 nc cc] w fun e w' => e = .returned (.tuple #[.slice none 0 0, .int .i64 (Shr.chkE (Shr.vals xs))]) ∧ Below w.heap.size w w' := by
  have HR := Lib.hid hr
  have HN := Lib.hid hnm
  obtain ⟨je, hje⟩ : ∃ je, je = Shr.chkE (Shr.vals xs) := ⟨_, rfl⟩
  have hq : (je != 0) = true := by rw [hje]; simpa using h1
  have HJE := Lib.hid hje
  clear hr h1 hje hnm
  go_enter Try.func22, Try.ntmps22
  go_wp2_with fail
  refine (Shr.rcheck_any A n c xs _ HR.out HN.out).mono ?_
  rintro e w1 ⟨rfl, hb1⟩
  rw [← HJE.out]
  have HB1 := Lib.hid hb1
  clear hb1
  go_wp2_with fail
  go_ret2
  exact ⟨by rw [← HJE.out]; rfl, HB1.out⟩

set_option maxRecDepth 100000 in
set_option maxHeartbeats 4000000 in
theorem Shr.rref_mn (A : Option Addr) (n c : Nat) (A2 : Option Addr) (nc cc : Nat) (xs : List Shr.C) (coins : List UInt8) (w : World) (hr : Shr.Rds w A n xs) (hnm : n ≤ maxLen) (hco : RdB w A2 nc coins) (hncc : nc ≤ cc) (hccm : cc ≤ maxLen) (hnil : A2 = none → cc = 0)
    (t dl : Nat) (ep mn : Int) (h1 : Shr.chkE (Shr.vals xs) = 0) (hth : (xs[0]!).s.th = (t : Int)) (hdl : (xs[0]!).s.d.length = dl) (hep : (xs[0]!).s.ep = ep) (hmn : (xs[0]!).s.mn = mn) (hne : (n : Int) ≠ mn) :
    Calls Try.prog 22 #[.slice A n c, .slice A2 nc cc] w fun e w' => e = .returned (.tuple #[.slice none 0 0, .int .i64 60]) ∧ Below w.heap.size w w' := by
  have hg := Shr.good _ h1
  have hpos : 0 < n := by have := hg.pos; rw [Shr.vals_len, hr.len] at this; exact this
  obtain ⟨b, off, rfl, hb, e0, e1, e2, e3, e4⟩ := hr.first hpos
  have hv0 := Shr.vals_at xs 0 (by rw [hr.len]; exact hpos)
  have g1 := hg.th1
  have g2 := hg.thm
  have g3 := hg.mn8
  have g4 := hg.d64
  have g5 := (hg.ep 0 hg.pos).2
  rw [hv0] at g1 g2 g3 g4 g5
  rw [hth] at e2 g1 g2
  rw [hmn] at e3 g2 g3
  rw [hdl] at e4 g4
  rw [hep] at e0 g5
  have HR := Lib.hid hr
  have H1 := Lib.hid h1
  have HN := Lib.hid hnm
  have HCO := Lib.hid hco
  have HCC := Lib.hid hncc
  have HCM := Lib.hid hccm
  have HNIL := Lib.hid hnil
  have HG := Lib.hid hg
  have HTH := Lib.hid hth
  have HDL := Lib.hid hdl
  have HLN := Lib.hid (show (Shr.vals xs).length = n by rw [Shr.vals_len, hr.len])
  clear hr h1 hnm hco hncc hccm hnil hg hv0 hth hdl hep hmn
  generalize (xs[0]!).s.ix = ix0 at e1
  generalize (xs[0]!).A = A0 at e4
  generalize (xs[0]!).c = c0 at e4
  have q1 : ((n : Int) != mn) = true := by simpa using hne
  go_enter Try.func22, Try.ntmps22
  go_wp2_with fail
  refine (Shr.rcheck_any (some ⟨b, off, none⟩) n c xs _ HR.out HN.out).mono ?_
  rintro e w1 ⟨rfl, hb1⟩
  rw [H1.out]
  have c0' := (hb1.cell (p := ⟨b, off, none⟩) hb).trans e0
  have c1' := (hb1.cell (p := ⟨b, off + 1, none⟩) hb).trans e1
  have c2 := (hb1.cell (p := ⟨b, off + 2, none⟩) hb).trans e2
  have c3 := (hb1.cell (p := ⟨b, off + 3, none⟩) hb).trans e3
  have c4 := (hb1.cell (p := ⟨b, off + 4, none⟩) hb).trans e4
  have HB1 := Lib.hid hb1
  have hbw1 : b < w1.heap.size := Nat.lt_of_lt_of_le hb hb1.size
  clear hb1 e0 e1 e2 e3 e4
  go_wp2_with fail
  go_ret2
  exact ⟨rfl, HB1.out.alloc HB1.out.size _⟩

set_option maxRecDepth 100000 in
set_option maxHeartbeats 4000000 in
theorem Shr.rref_ep (A : Option Addr) (n c : Nat) (A2 : Option Addr) (nc cc : Nat) (xs : List Shr.C) (coins : List UInt8) (w : World) (hr : Shr.Rds w A n xs) (hnm : n ≤ maxLen) (hco : RdB w A2 nc coins) (hncc : nc ≤ cc) (hccm : cc ≤ maxLen) (hnil : A2 = none → cc = 0)
    (t dl : Nat) (ep mn : Int) (h1 : Shr.chkE (Shr.vals xs) = 0) (hth : (xs[0]!).s.th = (t : Int)) (hdl : (xs[0]!).s.d.length = dl) (hep : (xs[0]!).s.ep = ep) (hmn : (xs[0]!).s.mn = mn) (hne : (n : Int) = mn) (hep2 : ep = 1048576) :
    Calls Try.prog 22 #[.slice A n c, .slice A2 nc cc] w fun e w' => e = .returned (.tuple #[.slice none 0 0, .int .i64 61]) ∧ Below w.heap.size w w' := by
  have hg := Shr.good _ h1
  have hpos : 0 < n := by have := hg.pos; rw [Shr.vals_len, hr.len] at this; exact this
  obtain ⟨b, off, rfl, hb, e0, e1, e2, e3, e4⟩ := hr.first hpos
  have hv0 := Shr.vals_at xs 0 (by rw [hr.len]; exact hpos)
  have g1 := hg.th1
  have g2 := hg.thm
  have g3 := hg.mn8
  have g4 := hg.d64
  have g5 := (hg.ep 0 hg.pos).2
  rw [hv0] at g1 g2 g3 g4 g5
  rw [hth] at e2 g1 g2
  rw [hmn] at e3 g2 g3
  rw [hdl] at e4 g4
  rw [hep] at e0 g5
  have HR := Lib.hid hr
  have H1 := Lib.hid h1
  have HN := Lib.hid hnm
  have HCO := Lib.hid hco
  have HCC := Lib.hid hncc
  have HCM := Lib.hid hccm
  have HNIL := Lib.hid hnil
  have HG := Lib.hid hg
  have HTH := Lib.hid hth
  have HDL := Lib.hid hdl
  have HLN := Lib.hid (show (Shr.vals xs).length = n by rw [Shr.vals_len, hr.len])
  clear hr h1 hnm hco hncc hccm hnil hg hv0 hth hdl hep hmn
  generalize (xs[0]!).s.ix = ix0 at e1
  generalize (xs[0]!).A = A0 at e4
  generalize (xs[0]!).c = c0 at e4
  subst hne hep2
  have q1 : ((n : Int) != (n : Int)) = false := by simp
  have q2 : ((1048576 : Int) == 1048576) = true := rfl
  go_enter Try.func22, Try.ntmps22
  go_wp2_with fail
  refine (Shr.rcheck_any (some ⟨b, off, none⟩) n c xs _ HR.out HN.out).mono ?_
  rintro e w1 ⟨rfl, hb1⟩
  rw [H1.out]
  have c0' := (hb1.cell (p := ⟨b, off, none⟩) hb).trans e0
  have c1' := (hb1.cell (p := ⟨b, off + 1, none⟩) hb).trans e1
  have c2 := (hb1.cell (p := ⟨b, off + 2, none⟩) hb).trans e2
  have c3 := (hb1.cell (p := ⟨b, off + 3, none⟩) hb).trans e3
  have c4 := (hb1.cell (p := ⟨b, off + 4, none⟩) hb).trans e4
  have HB1 := Lib.hid hb1
  have hbw1 : b < w1.heap.size := Nat.lt_of_lt_of_le hb hb1.size
  clear hb1 e0 e1 e2 e3 e4
  go_wp2_with fail
  go_ret2
  exact ⟨rfl, HB1.out.alloc HB1.out.size _⟩

set_option maxRecDepth 100000 in
set_option maxHeartbeats 4000000 in
theorem Shr.rref_co (A : Option Addr) (n c : Nat) (A2 : Option Addr) (nc cc : Nat) (xs : List Shr.C) (coins : List UInt8) (w : World) (hr : Shr.Rds w A n xs) (hnm : n ≤ maxLen) (hco : RdB w A2 nc coins) (hncc : nc ≤ cc) (hccm : cc ≤ maxLen) (hnil : A2 = none → cc = 0)
    (t dl : Nat) (ep mn : Int) (h1 : Shr.chkE (Shr.vals xs) = 0) (hth : (xs[0]!).s.th = (t : Int)) (hdl : (xs[0]!).s.d.length = dl) (hep : (xs[0]!).s.ep = ep) (hmn : (xs[0]!).s.mn = mn) (hne : (n : Int) = mn) (hep2 : ep ≠ 1048576) (hnc : (nc : Int) ≠ (dl : Int) * ((t : Int) - 1)) :
    Calls Try.prog 22 #[.slice A n c, .slice A2 nc cc] w fun e w' => e = .returned (.tuple #[.slice none 0 0, .int .i64 1]) ∧ Below w.heap.size w w' := by
  have hg := Shr.good _ h1
  have hpos : 0 < n := by have := hg.pos; rw [Shr.vals_len, hr.len] at this; exact this
  obtain ⟨b, off, rfl, hb, e0, e1, e2, e3, e4⟩ := hr.first hpos
  have hv0 := Shr.vals_at xs 0 (by rw [hr.len]; exact hpos)
  have g1 := hg.th1
  have g2 := hg.thm
  have g3 := hg.mn8
  have g4 := hg.d64
  have g5 := (hg.ep 0 hg.pos).2
  rw [hv0] at g1 g2 g3 g4 g5
  rw [hth] at e2 g1 g2
  rw [hmn] at e3 g2 g3
  rw [hdl] at e4 g4
  rw [hep] at e0 g5
  have HR := Lib.hid hr
  have H1 := Lib.hid h1
  have HN := Lib.hid hnm
  have HCO := Lib.hid hco
  have HCC := Lib.hid hncc
  have HCM := Lib.hid hccm
  have HNIL := Lib.hid hnil
  have HG := Lib.hid hg
  have HTH := Lib.hid hth
  have HDL := Lib.hid hdl
  have HLN := Lib.hid (show (Shr.vals xs).length = n by rw [Shr.vals_len, hr.len])
  clear hr h1 hnm hco hncc hccm hnil hg hv0 hth hdl hep hmn
  generalize (xs[0]!).s.ix = ix0 at e1
  generalize (xs[0]!).A = A0 at e4
  generalize (xs[0]!).c = c0 at e4
  subst hne
  have q1 : ((n : Int) != (n : Int)) = false := by simp
  have q2 : (ep == 1048576) = false := by simpa using hep2
  have HSE := Lib.hid (Shr.spE_one dl (t : Int) (n : Int) nc (by omega) (by omega) (by omega) (by omega) hnc)
  have HSP := Lib.hid (show ∀ (a : Option Addr) (w : World), Calls Try.prog 13 #[.slice a dl dl, .int .i64 0, .int .i64 (t : Int), .int .i64 (n : Int), .slice A2 nc cc] w fun e w' => e = .returned (.tuple #[.slice none 0 0, .int .i64 1]) ∧ Below w.heap.size w w' from fun a w => by
    have h := Shr.rsplit_no a A2 dl dl nc cc 0 (t : Int) (n : Int) w (by unfold maxLen; omega) (Nat.le_trans HCC.out HCM.out) ⟨by omega, by omega⟩ (by rw [HSE.out]; decide)
    rw [HSE.out] at h
    exact h)
  go_enter Try.func22, Try.ntmps22
  go_wp2_with fail
  refine (Shr.rcheck_any (some ⟨b, off, none⟩) n c xs _ HR.out HN.out).mono ?_
  rintro e w1 ⟨rfl, hb1⟩
  rw [H1.out]
  have c0' := (hb1.cell (p := ⟨b, off, none⟩) hb).trans e0
  have c1' := (hb1.cell (p := ⟨b, off + 1, none⟩) hb).trans e1
  have c2 := (hb1.cell (p := ⟨b, off + 2, none⟩) hb).trans e2
  have c3 := (hb1.cell (p := ⟨b, off + 3, none⟩) hb).trans e3
  have c4 := (hb1.cell (p := ⟨b, off + 4, none⟩) hb).trans e4
  have HB1 := Lib.hid hb1
  have hbw1 : b < w1.heap.size := Nat.lt_of_lt_of_le hb hb1.size
  clear hb1 e0 e1 e2 e3 e4
  go_wp2_with fail
  have HAN := Lib.hid (Has.new w1 41 [.int .i64 ep, .int .i64 ix0, .int .i64 (t : Int), .int .i64 (n : Int), .slice A0 dl c0])
  have HBN := Lib.hid (HB1.out.alloc HB1.out.size (.cells #[.int .i64 ep, .int .i64 ix0, .int .i64 (t : Int), .int .i64 (n : Int), .slice A0 dl c0] 41))
  have zba : w1.heap.size < (w1.alloc (.cells #[.int .i64 ep, .int .i64 ix0, .int .i64 (t : Int), .int .i64 (n : Int), .slice A0 dl c0] 41)).heap.size := HAN.out.lt
  have HZA := Lib.hid HB1.out.size
  obtain ⟨ba, hba⟩ : ∃ ba, ba = w1.heap.size := ⟨_, rfl⟩
  obtain ⟨W1, hW1⟩ : ∃ W1, W1 = w1.alloc (.cells #[.int .i64 ep, .int .i64 ix0, .int .i64 (t : Int), .int .i64 (n : Int), .slice A0 dl c0] 41) := ⟨_, rfl⟩
  rw [← hW1, ← hba] at HAN
  rw [← hW1] at HBN zba
  rw [← hba] at HZA zba
  rw [← hW1, ← hba]
  clear hW1 hba c0' c1' c2 c3 c4 hbw1
  have a2 := HAN.out.cell 2
  have a3 := HAN.out.cell 3
  have a4 := HAN.out.cell 4
  simp only [List.getElem?_cons_succ, List.getElem?_cons_zero] at a2 a3 a4
  have HC1 := Lib.hid (HCO.out.keep HBN.out)
  have hmk := Shr.make_zc dl (by omega)
  have nw2 := World.new_ne W1 ⟨ba, 2, none⟩ a2
  have nw3 := World.new_ne W1 ⟨ba, 3, none⟩ a3
  have nw4 := World.new_ne W1 ⟨ba, 4, none⟩ a4
  go_region_held3 (fun w' => w'.cell? ⟨ba, 2, none⟩ = some (.int .i64 (t : Int)) ∧ w'.cell? ⟨ba, 3, none⟩ = some (.int .i64 (n : Int)) ∧ w'.cell? ⟨ba, 4, none⟩ = some (.slice A0 dl c0))
    (first
      | exact ⟨a2, a3, a4⟩
      | exact ⟨hBw2 hbW a2 zba, hBw2 hbW a3 zba, hBw2 hbW a4 zba⟩
      | go_keep)
    (first
      | (go_at_call 13; (with_reducible refine (HSP.out _ _).mono ?_); rintro e w5 ⟨rfl, hb5⟩; have hbW : Below W1.heap.size W1 w5 := (((Below.refl _ _).alloc (Nat.le_refl _) _).drew).trans (hb5.mono (by simp))))
  have HBW := Lib.hid (HBN.out.trans (hbW.mono HBN.out.size))
  clear hbW hb5
  go_wp2_with fail
  go_ret2
  exact ⟨rfl, HBW.out⟩

end Go.Proofs.Ytpijkjpefdlefaa
