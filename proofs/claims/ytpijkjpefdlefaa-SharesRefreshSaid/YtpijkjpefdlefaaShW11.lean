/- Contract of shares.Refresh. -/
import Derived.Test.YtpijkjpefdlefaaShW10
namespace Go.Proofs.Ytpijkjpefdlefaa
open Go.RowKit Go.Shelf
set_option linter.unusedVariables false

def Shr.refE (l : List Shr.S) (nc : Nat) : Int :=
  if Shr.chkE l ≠ 0 then Shr.chkE l else if (l.length : Int) ≠ l[0]!.mn then 60 else if l[0]!.ep = 1048576 then 61 else if (nc : Int) ≠ (l[0]!.d.length : Int) * (l[0]!.th - 1) then 1 else 0
/-- the shares of zeros -/
def Shr.zer (l : List Shr.S) (coins : List UInt8) : List Shr.S := Shr.spl (List.replicate l[0]!.d.length 0) 0 (Shr.tt l) l.length coins
/-- two rows of bytes added -/
def Shr.addD (a b : List UInt8) : List UInt8 := (List.range a.length).map fun k => a.getD k 0 ^^^ b.getD k 0
def Shr.refV (l : List Shr.S) (coins : List UInt8) : List Shr.S := (List.range l.length).map fun i => ⟨l[i]!.ep + 1, l[i]!.ix, l[i]!.th, l[i]!.mn, Shr.addD l[i]!.d (Shr.zer l coins)[i]!.d⟩
/-- n zeros, as cells -/
def Shr.zc (n : Nat) : Array Value := ((List.replicate n (0 : UInt8)).map B8).toArray
theorem Shr.make_zc (n : Nat) (hn : n ≤ 64) (W : World) : (Instr.makeSlice 23 (.int .i64 (n : Int)) (.int .i64 (n : Int))).run Try.prog W = .ok (.slice (some ⟨W.heap.size, 0, none⟩) n n) (W.alloc (.cells (Shr.zc n) 5)) := by
  obtain ⟨i0, hi0, hz0, hz1, hz2⟩ := info_parts Fld.info8
  have hr := run_make (P := Try.prog) W 23 5 i0 _ Try.underlying23 hi0 hz0 .i64 .i64 n n (by omega) (Int.le_refl _) (by rw [hz2]; omega) (by omega)
  simp only [Int.toNat_natCast] at hr
  have e : (madeCells (Value.int .u8 0).cells (n * i0.size)) = Shr.zc n := by
    apply Array.ext'
    rw [hz1, Nat.mul_one, Shr.zc]
    have := toList_madeCells_one (.int .u8 0) n
    rw [List.map_replicate]
    exact this
  rw [e] at hr
  exact hr
theorem Shr.rd_zc (n : Nat) (W : World) : RdB (W.alloc (.cells (Shr.zc n) 5)) (some ⟨W.heap.size, 0, none⟩) n (List.replicate n 0) := by
  have h := RdB.new W 5 (List.replicate n 0)
  rw [List.length_replicate] at h
  exact h

theorem Shr.rd_zc2 (n : Nat) (W : World) (o : Obj) : RdB ((W.alloc o).alloc (.cells (Shr.zc n) 5)) (some ⟨W.heap.size + 1, 0, none⟩) n (List.replicate n 0) := by
  have h := Shr.rd_zc n (W.alloc o)
  rw [World.size_alloc W o] at h
  exact h
theorem Has.second (w : World) (t : TypeId) (cs : List Value) (o : Obj) : Has ((w.alloc o).alloc (.cells cs.toArray t)) (w.heap.size + 1) t cs := by
  have h := Has.new (w.alloc o) t cs
  rw [World.size_alloc w o] at h
  exact h

/-- what holds behind the call of Split in Refresh -/
structure Shr.R8 (w W : World) (bz : Nat) (b off n c c5 : Nat) (A5 : Option Addr) (zs : List Shr.C) : Prop where
  z : Has W bz 22 [.slice A5 n c5]
  l : Has W w.heap.size 22 [.slice (some ⟨b, off, none⟩) n c]
  r : Shr.Rds W A5 n zs
  b : Below w.heap.size w W
theorem Shr.Rds.setFar {W : World} {A : Option Addr} {n : Nat} {xs : List Shr.C} (h : Shr.Rds W A n xs) {g : Nat} (hA : Far A (some g)) (hx : ∀ x, x ∈ xs → Far x.A (some g)) (j : Nat) (u : Value) : Shr.Rds (W.setCell ⟨g, j, none⟩ u) A n xs :=
  ⟨Rd.kept h.rd (grownBy_set W g j u) hA, h.len, fun x hxm => (h.ok x hxm).kept (grownBy_set W g j u) (hx x hxm)⟩
theorem hBw2 {W wr : World} {g i : Nat} {v : Value} (hb : Below W.heap.size W wr) (h : W.cell? ⟨g, i, none⟩ = some v) (hg : g < W.heap.size) : wr.cell? ⟨g, i, none⟩ = some v := (hb.cell (p := ⟨g, i, none⟩) hg).trans h
theorem Shr.refV_len (l : List Shr.S) (coins : List UInt8) : (Shr.refV l coins).length = l.length := by simp [Shr.refV]
theorem Shr.refV_all (l : List Shr.S) (coins : List UInt8) (n : Nat) (h : l.length = n) : (Shr.refV l coins).take n = Shr.refV l coins := List.take_of_length_le (by rw [Shr.refV_len, h]; exact Nat.le_refl _)
theorem Shr.refV_take (l : List Shr.S) (coins : List UInt8) (k : Nat) (hk : k < l.length) : (Shr.refV l coins).take (k + 1) = (Shr.refV l coins).take k ++ [⟨l[k]!.ep + 1, l[k]!.ix, l[k]!.th, l[k]!.mn, Shr.addD l[k]!.d (Shr.zer l coins)[k]!.d⟩] := by
  rw [List.take_succ_eq_append_getElem (by rw [Shr.refV_len]; exact hk)]
  simp [Shr.refV]
theorem Shr.addD_len (a b : List UInt8) : (Shr.addD a b).length = a.length := by simp [Shr.addD]
theorem Shr.keep4 {W1 W' : World} {a b off : Nat} {v1 v2 v3 v4 : Value} (z1 : a < W1.heap.size) (z2 : b < W1.heap.size) (d1 : W1.cell? ⟨a, 0, none⟩ = some v1) (c2 : W1.cell? ⟨b, off + 2, none⟩ = some v2) (c3 : W1.cell? ⟨b, off + 3, none⟩ = some v3) (c4 : W1.cell? ⟨b, off + 4, none⟩ = some v4) (hb : Below W1.heap.size W1 W') :
    W'.cell? ⟨a, 0, none⟩ = some v1 ∧ W'.cell? ⟨b, off + 2, none⟩ = some v2 ∧ W'.cell? ⟨b, off + 3, none⟩ = some v3 ∧ W'.cell? ⟨b, off + 4, none⟩ = some v4 :=
  ⟨(hb.cell (p := ⟨a, 0, none⟩) z1).trans d1, (hb.cell (p := ⟨b, off + 2, none⟩) z2).trans c2, (hb.cell (p := ⟨b, off + 3, none⟩) z2).trans c3, (hb.cell (p := ⟨b, off + 4, none⟩) z2).trans c4⟩

set_option maxRecDepth 100000 in
set_option maxHeartbeats 4000000 in
theorem Shr.ref_yes (A : Option Addr) (n c : Nat) (A2 : Option Addr) (nc cc : Nat) (xs : List Shr.C) (coins : List UInt8) (w : World) (hr : Shr.Rds w A n xs) (hnm : n ≤ maxLen) (hco : RdB w A2 nc coins) (hncc : nc ≤ cc) (hccm : cc ≤ maxLen) (hnil : A2 = none → cc = 0)
    (t dl : Nat) (ep : Int) (h1 : Shr.chkE (Shr.vals xs) = 0) (hth : (xs[0]!).s.th = (t : Int)) (hdl : (xs[0]!).s.d.length = dl) (hep : (xs[0]!).s.ep = ep) (hmn : (xs[0]!).s.mn = (n : Int)) (hep2 : ep < 1048576) (hnc : nc = dl * (t - 1)) :
    Calls Try.prog 21 #[.slice A n c, .slice A2 nc cc] w (Shr.RetS w n (Shr.refV (Shr.vals xs) coins)) := by
  have hg := Shr.good _ h1
  have hpos : 0 < n := by have := hg.pos; rw [Shr.vals_len, hr.len] at this; exact this
  obtain ⟨b, off, rfl, hb, e0, e1, e2, e3, e4⟩ := hr.first hpos
  have hv0 := Shr.vals_at xs 0 (by rw [hr.len]; exact hpos)
  have g1 := hg.th1
  have g2 := hg.thm
  have g3 := hg.mn8
  have g4 := hg.d64
  have g5 := (hg.ep 0 hg.pos).2
  rw [hv0] at g1 g2 g3 g4 g5
  rw [hth] at e2 g1 g2
  rw [hmn] at e3 g2 g3
  rw [hdl] at e4 g4
  rw [hep] at e0 g5
  have HR := Lib.hid hr
  have H1 := Lib.hid h1
  have HN := Lib.hid hnm
  have HCO := Lib.hid hco
  have HCC := Lib.hid hncc
  have HCM := Lib.hid hccm
  have HNIL := Lib.hid hnil
  have HNC := Lib.hid hnc
  have HG := Lib.hid hg
  have HTH := Lib.hid hth
  have HDL := Lib.hid hdl
  have HLN := Lib.hid (show (Shr.vals xs).length = n by rw [Shr.vals_len, hr.len])
  clear hr h1 hnm hco hncc hccm hnil hnc hg hv0 hth hdl hep hmn e1
  generalize (xs[0]!).A = A0 at e4
  generalize (xs[0]!).c = c0 at e4
  have q1 : ((n : Int) != (n : Int)) = false := by simp
  have q2 : (ep == 1048576) = false := by simp; omega
  go_enter Try.func21, Try.ntmps21
  go_wp2_with fail
  refine (Shr.check_any (some ⟨b, off, none⟩) n c xs _ (HR.out.alloc _) HN.out).mono ?_
  rintro e w1 ⟨rfl, hb1⟩
  rw [H1.out]
  have hBa := (Below.refl w.heap.size w).alloc (Nat.le_refl _) (.cells #[.slice (some ⟨b, off, none⟩) n c] 22)
  have c0' := (hb1.cell (p := ⟨b, off, none⟩) (show b < _ by simp; omega)).trans ((hBa.cell (p := ⟨b, off, none⟩) hb).trans e0)
  have c2 := (hb1.cell (p := ⟨b, off + 2, none⟩) (show b < _ by simp; omega)).trans ((hBa.cell (p := ⟨b, off + 2, none⟩) hb).trans e2)
  have c3 := (hb1.cell (p := ⟨b, off + 3, none⟩) (show b < _ by simp; omega)).trans ((hBa.cell (p := ⟨b, off + 3, none⟩) hb).trans e3)
  have c4 := (hb1.cell (p := ⟨b, off + 4, none⟩) (show b < _ by simp; omega)).trans ((hBa.cell (p := ⟨b, off + 4, none⟩) hb).trans e4)
  have HB1 := Lib.hid (below_n1 hb1)
  have HH := Lib.hid ((Has.new w 22 [.slice (some ⟨b, off, none⟩) n c]).keep hb1)
  obtain ⟨z1, d1⟩ := HH.out.r1
  have hbw1 : b < w1.heap.size := Nat.lt_of_lt_of_le hb HB1.out.size
  clear hb1 e0 e2 e3 e4 hBa
  go_wp2_with fail
  go_quiet (fail)
  go_wp2_with fail
  generalize hWq : w1.drewN _ = W1
  have hzq : W1.heap.size = w1.heap.size := by rw [← hWq]; simp
  have HB1' := Lib.hid (show Below w.heap.size w W1 by rw [← hWq]; exact below_drewN HB1.out _)
  have HH' := Lib.hid (show Has W1 w.heap.size 22 [.slice (some ⟨b, off, none⟩) n c] by rw [← hWq]; exact HH.out.drewN _)
  replace d1 : W1.cell? ⟨w.heap.size, 0, none⟩ = some (.slice (some ⟨b, off, none⟩) n c) := HH'.out.c1
  replace z1 : w.heap.size < W1.heap.size := HH'.out.lt
  replace c2 : W1.cell? ⟨b, off + 2, none⟩ = some (.int .i64 (t : Int)) := by rw [← hWq]; exact c2
  replace c3 : W1.cell? ⟨b, off + 3, none⟩ = some (.int .i64 (n : Int)) := by rw [← hWq]; exact c3
  replace c4 : W1.cell? ⟨b, off + 4, none⟩ = some (.slice A0 dl c0) := by rw [← hWq]; exact c4
  replace hbw1 : b < W1.heap.size := by omega
  clear hWq hzq c0' HB1 HH
  have HC1 := Lib.hid (HCO.out.keep HB1'.out)
  have hmk := Shr.make_zc dl (by omega)
  have nw1 := World.new_ne W1 ⟨w.heap.size, 0, none⟩ d1
  have nw2 := World.new_ne W1 ⟨b, off + 2, none⟩ c2
  have nw3 := World.new_ne W1 ⟨b, off + 3, none⟩ c3
  have nw4 := World.new_ne W1 ⟨b, off + 4, none⟩ c4
  go_region_held3 (fun w' => w'.cell? ⟨w.heap.size, 0, none⟩ = some (.slice (some ⟨b, off, none⟩) n c) ∧ w'.cell? ⟨b, off + 2, none⟩ = some (.int .i64 (t : Int)) ∧ w'.cell? ⟨b, off + 3, none⟩ = some (.int .i64 (n : Int)) ∧ w'.cell? ⟨b, off + 4, none⟩ = some (.slice A0 dl c0))
    (first
      | exact ⟨d1, c2, c3, c4⟩
      | exact Shr.keep4 z1 hbw1 d1 c2 c3 c4 hbW
      | exact Shr.keep4 z1 hbw1 d1 c2 c3 c4 (hbW.alloc hbW.size _)
      | exact Shr.keep4 z1 hbw1 d1 c2 c3 c4 (hbW.setCell (p := ⟨W1.heap.size, 0, none⟩) (Nat.le_refl _) _)
      | exact Shr.keep4 z1 hbw1 d1 c2 c3 c4 (hbW.setCell (p := ⟨W1.heap.size + 1, 0, none⟩) (Nat.le_succ _) _)
      | go_keep)
    (first
      | (go_at_call 12; (with_reducible refine (Shr.split_yes _ A2 dl dl nc cc 0 t n (List.replicate dl 0) coins _ ((Shr.rd_zc dl W1).drew) ((HC1.out.alloc _).drew) HCC.out HCM.out HNIL.out (by omega) (by omega) (by omega) (by omega) (by omega) (by omega) HNC.out).mono ?_); rintro e w5 ⟨v5, zs, rfl, hO5, hfr5, hv5, hb5⟩; obtain ⟨A5, c5, rfl⟩ := own_form hO5.row; have hbW : Below W1.heap.size W1 w5 := (((Below.refl _ _).alloc (Nat.le_refl _) _).drew).trans (hb5.mono (by simp)))
      | (go_at_call 12; (with_reducible refine (Shr.split_yes _ A2 dl dl nc cc 0 t n (List.replicate dl 0) coins _ (((Shr.rd_zc dl W1).alloc _).drew) (((HC1.out.alloc _).alloc _).drew) HCC.out HCM.out HNIL.out (by omega) (by omega) (by omega) (by omega) (by omega) (by omega) HNC.out).mono ?_); rintro e w5 ⟨v5, zs, rfl, hO5, hfr5, hv5, hb5⟩; obtain ⟨A5, c5, rfl⟩ := own_form hO5.row; have hbW : Below W1.heap.size W1 w5 := ((((Below.refl _ _).alloc (Nat.le_refl _) _).alloc (by simp) _).drew).trans (hb5.mono (by simp; omega)); obtain ⟨z6, k6⟩ := (((Has.second W1 22 [.slice none 0 0] (.cells (Shr.zc dl) 5)).drew).keep hb5).r1; have f6 := (((Has.second W1 22 [.slice none 0 0] (.cells (Shr.zc dl) 5)).drew).keep hb5).frozen 0)
      | (go_at_call 12; (with_reducible refine (Shr.split_yes _ A2 dl dl nc cc 0 t n (List.replicate dl 0) coins _ ((Shr.rd_zc2 dl W1 _).drew) (((HC1.out.alloc _).alloc _).drew) HCC.out HCM.out HNIL.out (by omega) (by omega) (by omega) (by omega) (by omega) (by omega) HNC.out).mono ?_); rintro e w5 ⟨v5, zs, rfl, hO5, hfr5, hv5, hb5⟩; obtain ⟨A5, c5, rfl⟩ := own_form hO5.row; have hbW : Below W1.heap.size W1 w5 := ((((Below.refl _ _).alloc (Nat.le_refl _) _).alloc (by simp) _).drew).trans (hb5.mono (by simp; omega)); obtain ⟨z6, k6⟩ := ((((Has.new W1 22 [.slice none 0 0]).alloc (.cells (Shr.zc dl) 5)).drew).keep hb5).r1; have f6 := ((((Has.new W1 22 [.slice none 0 0]).alloc (.cells (Shr.zc dl) 5)).drew).keep hb5).frozen 0))
  · have hR : Shr.R8 w (w5.alloc (.cells #[.slice A5 n c5] 22)) (w5.heap.size) b off n c c5 A5 zs := ⟨Has.new w5 _ _, (HH'.out.keep hbW).alloc _, (hO5.rds).alloc _, (HB1'.out.trans (hbW.mono HB1'.out.size)).alloc (by have := HB1'.out.size; have := hbW.size; omega) _⟩
    generalize w5.alloc (.cells #[.slice A5 n c5] 22) = W6 at hR ⊢
    generalize w5.heap.size = bz at hR ⊢
    have HV5 := Lib.hid hv5
    clear hv5 hb5 hbW hO5 hfr5 z1 d1 c2 c3 c4 hbw1 hmk nw1 nw2 nw3 nw4
    have HR8 := Lib.hid hR
    obtain ⟨zl, el⟩ := hR.l.r1
    obtain ⟨zz, ez⟩ := hR.z.r1
    have hw6 := hR.b.size
    clear hR
    go_wp2_with fail
    go_loopw [4, 50] (fun v i wr => ∃ (k : Nat) (ys : List Shr.C), k ≤ n ∧ i = .int .i64 k ∧ Shr.Own wr W6.heap.size v k ys ∧ (∀ x, x ∈ ys → Fresh W6.heap.size x.A) ∧ Shr.vals ys = (Shr.refV (Shr.vals xs) coins).take k ∧ Below W6.heap.size W6 wr) (fun _ i _ => n - (intOf i).toNat)
    case atStart => exact ⟨0, [], by omega, rfl, Shr.Own.nil _ _, fun _ h => by (cases h), rfl, Below.refl _ _⟩
    case round =>
      obtain ⟨k, ys, hk, rfl, hO, hfr, hv, hB⟩ := hrel
      have HO := Lib.hid hO
      have HFR := Lib.hid hfr
      have HV := Lib.hid hv
      have HB := Lib.hid hB
      have hzr := hB.size
      have hBw := HR8.out.b.trans (hB.mono hw6)
      have HBW := Lib.hid hBw
      clear hO hfr hv hB
      by_cases hlt : k < n
      · obtain ⟨_, f0, f1, f2, f3, f4⟩ := (HR.out.keep hBw).at2 k hlt
        have el2 := (hBw2 HB.out el zl)
        have ez2 := (hBw2 HB.out ez zz)
        have hvk := Shr.vals_at xs k (by rw [← Shr.vals_len, HLN.out]; exact hlt)
        have hepk := (HG.out.ep k (by rw [HLN.out]; exact hlt)).2
        have hdk := HG.out.len_at k (by rw [HLN.out]; exact hlt)
        rw [Shr.vals_at xs 0 (by rw [← Shr.vals_len, HLN.out]; exact hpos), HDL.out, hvk] at hdk
        rw [hvk] at hepk
        have hzk : (zs[k]!).s = (Shr.zer (Shr.vals xs) coins)[k]! := by
          rw [← Shr.vals_at zs k (by rw [HR8.out.r.len]; exact hlt), HV5.out, Shr.zer, Shr.tt, HLN.out, Shr.vals_at xs 0 (by rw [← Shr.vals_len, HLN.out]; exact hpos), HDL.out, HTH.out, Int.toNat_natCast]
        have hzl : (zs[k]!).s.d.length = dl := by
          have h2 : k < (Shr.spl (List.replicate dl 0) 0 t n coins).length := by rw [Shr.spl_len]; exact hlt
          rw [← Shr.vals_at zs k (by rw [HR8.out.r.len]; exact hlt), HV5.out, getElem!_pos _ k h2]
          simp [Shr.spl, Shr.dat_len]
        have HT := Lib.hid (Shr.refV_take (Shr.vals xs) coins k (by rw [HLN.out]; exact hlt))
        rw [← hzk, hvk] at HT
        have HRF := Lib.hid (show ∀ (bi : Nat) (W : World), wr.heap.size ≤ bi → bi < W.heap.size → W.cell? ⟨bi, 0, none⟩ = some (.int .i64 (k : Int)) → Below wr.heap.size wr W → Shr.Rf w.heap.size bi bz (some ⟨b, off, none⟩) A5 n c c5 k xs zs W from fun bi W h1 h2 h3 h4 =>
          ⟨hBw2 h4 el2 (by omega), h3, hBw2 h4 ez2 (by omega), (HR.out.keep HBW.out).keep h4, (HR8.out.r.keep HB.out).keep h4, by have := h4.size; omega, h2, by have := h4.size; omega⟩)
        have HFF := Lib.hid (show ∀ (bi : Nat) (j : Nat) (W : World), j < dl → Shr.Rf w.heap.size bi bz (some ⟨b, off, none⟩) A5 n c c5 k xs zs W → Calls Try.prog 41 (#[.int .i64 (j : Int)] ++ #[.pointer (some ⟨w.heap.size, 0, none⟩), .pointer (some ⟨bi, 0, none⟩), .pointer (some ⟨bz, 0, none⟩)]) W fun e W' => e = .returned (B8 ((xs[k]!).s.d.getD j 0 ^^^ (zs[k]!).s.d.getD j 0)) ∧ Below W.heap.size W W' from
          fun bi j W hj hS => Shr.rf1_any _ _ _ (some ⟨b, off, none⟩) A5 n c c5 k j xs zs W hS hlt (by omega) (by rw [hdk]; exact hj) (by rw [hzl]; exact hj) (by omega))
        have HAD := Lib.hid (show (List.range dl).map (fun j => (xs[k]!).s.d.getD j 0 ^^^ (zs[k]!).s.d.getD j 0) = Shr.addD (xs[k]!).s.d (zs[k]!).s.d by rw [Shr.addD, hdk])
        generalize xs[k]! = x at f0 f1 f2 f3 f4 hepk hdk HT HFF HAD
        generalize zs[k]! = z at HT HFF HAD
        rw [hdk] at f4
        have HDK := Lib.hid hdk
        have zlr : w.heap.size < wr.heap.size := by omega
        have zbr : b < wr.heap.size := by omega
        have zzr : bz < wr.heap.size := by omega
        clear hvk hdk hzk hzl hBw
        go_wp2_with fail
        have HBn := Lib.hid (((Below.refl wr.heap.size wr).alloc (Nat.le_refl _) (.cells #[.int .i64 (k : Int)] 3)).alloc (by simp) (.cells #[.int .i64 (x.s.ep + 1), .int .i64 x.s.ix, .int .i64 x.s.th, .int .i64 x.s.mn, .slice x.A dl x.c] 41))
        have HSn := Lib.hid (Has.second wr 41 [.int .i64 (x.s.ep + 1), .int .i64 x.s.ix, .int .i64 x.s.th, .int .i64 x.s.mn, .slice x.A dl x.c] (.cells #[.int .i64 (k : Int)] 3))
        have hC := Shr.cols8 41 #[.pointer (some ⟨w.heap.size, 0, none⟩), .pointer (some ⟨wr.heap.size, 0, none⟩), .pointer (some ⟨bz, 0, none⟩)] dl (fun j => x.s.d.getD j 0 ^^^ z.s.d.getD j 0) (Shr.Rf w.heap.size wr.heap.size bz (some ⟨b, off, none⟩) A5 n c c5 k xs zs) _ (enters_of Try.func41 (by kernel_rfl) rfl)
          (fun W W' h hb => h.keep hb) (HFF.out wr.heap.size) (HRF.out wr.heap.size _ (Nat.le_refl _) (by simp; omega) (((Has.new wr 3 [.int .i64 (k : Int)]).alloc _).c1) HBn.out) (by omega)
        rw [HAD.out] at hC
        ((with_reducible refine hC.mono ?_); rintro e w7 ⟨A7, c7, rfl, hn7, hr7, hfr7, hlt7, hb7⟩)
        clear hC
        have HS7 := Lib.hid (HSn.out.keep hb7)
        have HB7 := Lib.hid (HBn.out.trans (hb7.mono (by simp; omega)))
        have q0 := HS7.out.cell 0
        have q1 := HS7.out.cell 1
        have q2 := HS7.out.cell 2
        have q3 := HS7.out.cell 3
        have q4 := HS7.out.cell 4
        have zs7 := HS7.out.lt
        have fs7 := HS7.out.frozen 4
        simp only [List.getElem?_cons_succ, List.getElem?_cons_zero] at q0 q1 q2 q3 q4
        obtain ⟨y, hy⟩ : ∃ y : Shr.C, y = ⟨⟨x.s.ep + 1, x.s.ix, x.s.th, x.s.mn, Shr.addD x.s.d z.s.d⟩, A7, c7⟩ := ⟨_, rfl⟩
        have hal : (Shr.addD x.s.d z.s.d).length = dl := by rw [Shr.addD_len, HDK.out]
        have hfr7' : Fresh (wr.heap.size + 2) A7 := hfr7.mono (by simp)
        obtain ⟨W8, hW8⟩ : ∃ W8, W8 = w7.setCell ⟨wr.heap.size + 1, 4, none⟩ (.slice A7 dl c7) := ⟨_, rfl⟩
        have HB8 := Lib.hid (show Below wr.heap.size wr W8 by rw [hW8]; exact HB7.out.setCell (Nat.le_succ _) _)
        have HO8 := Lib.hid (HO.out.keep HB8.out)
        have HY8 := Lib.hid (show y.Ok W8 ∧ Far y.A u4.ownBlock ∧ (∀ b off, y.A = some ⟨b, off, none⟩ → b < W8.heap.size) by
          rw [hy, hW8]
          refine ⟨⟨?_, ?_, hn7⟩, Far.fresh hfr7' HO.out.row (by omega), fun b off e => by have := hlt7 b off e; simpa using this⟩
          · show RdB _ A7 (Shr.addD x.s.d z.s.d).length _
            rw [hal]
            exact hr7.kept (grownBy_set w7 (wr.heap.size + 1) 4 _) (fun b off e e2 => by have := hfr7' b off e; injection e2 with e2; omega)
          · show (Shr.addD x.s.d z.s.d).length ≤ maxLen
            rw [hal]; unfold maxLen; omega)
        have HYC := Lib.hid (show y.cells = [.int .i64 (x.s.ep + 1), .int .i64 x.s.ix, .int .i64 x.s.th, .int .i64 x.s.mn, .slice A7 dl c7] by rw [hy]; show [_, _, _, _, Value.slice A7 (Shr.addD x.s.d z.s.d).length c7] = _; rw [hal])
        have HYS := Lib.hid (show y.s = ⟨x.s.ep + 1, x.s.ix, x.s.th, x.s.mn, Shr.addD x.s.d z.s.d⟩ by rw [hy])
        have HYF := Lib.hid (show Fresh W6.heap.size y.A by rw [hy]; exact hfr7'.mono (by omega))
        have HRD8 := Lib.hid (show Rd (W8.alloc (.cells #[.int .i64 (x.s.ep + 1), .int .i64 x.s.ix, .int .i64 x.s.th, .int .i64 x.s.mn, .slice A7 dl c7] 41)) (W8.heap.size + 1) 5 (some ⟨w7.heap.size, 0, none⟩) 1 [.int .i64 (x.s.ep + 1), .int .i64 x.s.ix, .int .i64 x.s.th, .int .i64 x.s.mn, .slice A7 dl c7] by
          have h := rd_new W8 41 5 [.int .i64 (x.s.ep + 1), .int .i64 x.s.ix, .int .i64 x.s.th, .int .i64 x.s.mn, .slice A7 dl c7] rfl
          have e : W8.heap.size = w7.heap.size := by rw [hW8]; simp
          rw [World.size_alloc, e] at h
          rw [e]
          exact h)
        have hz8 : wr.heap.size ≤ w7.heap.size := HB7.out.size
        have HZ8 := Lib.hid hz8
        have HZW := Lib.hid (show W8.heap.size = w7.heap.size by rw [hW8]; simp)
        subst hW8
        clear hn7 hr7 hfr7 hfr7' hlt7 hb7 hal hy hz8 HSn HBn HS7 HFF HRF HAD
        go_wp2_with (at_builtin; refine wpList_append_rd rfl _ _ rfl elS rfl (HO8.out.row.alloc _) rfl HRD8.out (by simp [Value.oneCell']) (fun h => by (cases h)) (by simp only [maxLen]; omega) (by omega) (by have := HZ8.out; simp; omega) ?_; intro v9 w9 hG9; have HG9 := Lib.hid hG9; clear hG9)
        have HO9 := Lib.hid (HO8.out.grow HY8.out (by rw [HYC.out]; exact HG9.out))
        have HB9 := Lib.hid (((HB.out.trans (HB8.out.mono hzr)).alloc (by have := HZ8.out; have := HZW.out; omega) (.cells #[.int .i64 (x.s.ep + 1), .int .i64 x.s.ix, .int .i64 x.s.th, .int .i64 x.s.mn, .slice A7 dl c7] 41)).grown HG9.out.grown (by have := HZ8.out; simp; omega) (fun g e => own_ge HO8.out.row e))
        have HV9 := Lib.hid (show Shr.vals (ys ++ [y]) = (Shr.refV (Shr.vals xs) coins).take (k + 1) by rw [Shr.vals, List.map_append, HT.out]; show Shr.vals ys ++ [y.s] = _; rw [HV.out, HYS.out])
        have HF9 := Lib.hid (show ∀ q, q ∈ ys ++ [y] → Fresh W6.heap.size q.A from fun q hq => by
          rcases List.mem_append.1 hq with h | h
          · exact HFR.out q h
          · rw [List.mem_singleton] at h; subst h; exact HYF.out)
        go_wp2_with fail
        go_roundw
        case rel => exact ⟨k + 1, ys ++ [y], by omega, by go_num, HO9.out, HF9.out, HV9.out, HB9.out⟩
        case measure => simp [intOf]; omega
      · obtain rfl : k = n := by omega
        go_wp2_with fail
        go_ret2
        exact ⟨_, ys, rfl, HO.out.mono hw6, fun x hx => (HFR.out x hx).mono hw6, by rw [HV.out, Shr.refV_all _ _ _ HLN.out], HBW.out⟩
  · have hR : Shr.R8 w (w5.setCell ⟨W1.heap.size + 1, 0, none⟩ (.slice A5 n c5)) (W1.heap.size + 1) b off n c c5 A5 zs := ⟨((((Has.second W1 22 [.slice none 0 0] (.cells (Shr.zc dl) 5)).drew).keep hb5)).set 0 _, (HH'.out.keep hbW).far (by show w.heap.size ≠ W1.heap.size + 1; omega) _, hO5.rds.setFar (fun b off e e2 => by have := own_fresh hO5.row b off e; injection e2 with e2; simp at this; omega) (fun x hx b off e e2 => by have := hfr5 x hx b off e; injection e2 with e2; simp at this; omega) _ _, (HB1'.out.trans (hbW.mono HB1'.out.size)).setCell (show w.heap.size ≤ W1.heap.size + 1 by have := HB1'.out.size; omega) _⟩
    generalize w5.setCell ⟨W1.heap.size + 1, 0, none⟩ (.slice A5 n c5) = W6 at hR ⊢
    generalize W1.heap.size + 1 = bz at hR ⊢
    have HV5 := Lib.hid hv5
    clear hv5 hb5 hbW hO5 hfr5 z1 d1 c2 c3 c4 hbw1 hmk nw1 nw2 nw3 nw4
    have HR8 := Lib.hid hR
    obtain ⟨zl, el⟩ := hR.l.r1
    obtain ⟨zz, ez⟩ := hR.z.r1
    have hw6 := hR.b.size
    clear hR
    go_wp2_with fail
    go_loopw [4, 50] (fun v i wr => ∃ (k : Nat) (ys : List Shr.C), k ≤ n ∧ i = .int .i64 k ∧ Shr.Own wr W6.heap.size v k ys ∧ (∀ x, x ∈ ys → Fresh W6.heap.size x.A) ∧ Shr.vals ys = (Shr.refV (Shr.vals xs) coins).take k ∧ Below W6.heap.size W6 wr) (fun _ i _ => n - (intOf i).toNat)
    case atStart => exact ⟨0, [], by omega, rfl, Shr.Own.nil _ _, fun _ h => by (cases h), rfl, Below.refl _ _⟩
    case round =>
      obtain ⟨k, ys, hk, rfl, hO, hfr, hv, hB⟩ := hrel
      have HO := Lib.hid hO
      have HFR := Lib.hid hfr
      have HV := Lib.hid hv
      have HB := Lib.hid hB
      have hzr := hB.size
      have hBw := HR8.out.b.trans (hB.mono hw6)
      have HBW := Lib.hid hBw
      clear hO hfr hv hB
      by_cases hlt : k < n
      · obtain ⟨_, f0, f1, f2, f3, f4⟩ := (HR.out.keep hBw).at2 k hlt
        have el2 := (hBw2 HB.out el zl)
        have ez2 := (hBw2 HB.out ez zz)
        have hvk := Shr.vals_at xs k (by rw [← Shr.vals_len, HLN.out]; exact hlt)
        have hepk := (HG.out.ep k (by rw [HLN.out]; exact hlt)).2
        have hdk := HG.out.len_at k (by rw [HLN.out]; exact hlt)
        rw [Shr.vals_at xs 0 (by rw [← Shr.vals_len, HLN.out]; exact hpos), HDL.out, hvk] at hdk
        rw [hvk] at hepk
        have hzk : (zs[k]!).s = (Shr.zer (Shr.vals xs) coins)[k]! := by
          rw [← Shr.vals_at zs k (by rw [HR8.out.r.len]; exact hlt), HV5.out, Shr.zer, Shr.tt, HLN.out, Shr.vals_at xs 0 (by rw [← Shr.vals_len, HLN.out]; exact hpos), HDL.out, HTH.out, Int.toNat_natCast]
        have hzl : (zs[k]!).s.d.length = dl := by
          have h2 : k < (Shr.spl (List.replicate dl 0) 0 t n coins).length := by rw [Shr.spl_len]; exact hlt
          rw [← Shr.vals_at zs k (by rw [HR8.out.r.len]; exact hlt), HV5.out, getElem!_pos _ k h2]
          simp [Shr.spl, Shr.dat_len]
        have HT := Lib.hid (Shr.refV_take (Shr.vals xs) coins k (by rw [HLN.out]; exact hlt))
        rw [← hzk, hvk] at HT
        have HRF := Lib.hid (show ∀ (bi : Nat) (W : World), wr.heap.size ≤ bi → bi < W.heap.size → W.cell? ⟨bi, 0, none⟩ = some (.int .i64 (k : Int)) → Below wr.heap.size wr W → Shr.Rf w.heap.size bi bz (some ⟨b, off, none⟩) A5 n c c5 k xs zs W from fun bi W h1 h2 h3 h4 =>
          ⟨hBw2 h4 el2 (by omega), h3, hBw2 h4 ez2 (by omega), (HR.out.keep HBW.out).keep h4, (HR8.out.r.keep HB.out).keep h4, by have := h4.size; omega, h2, by have := h4.size; omega⟩)
        have HFF := Lib.hid (show ∀ (bi : Nat) (j : Nat) (W : World), j < dl → Shr.Rf w.heap.size bi bz (some ⟨b, off, none⟩) A5 n c c5 k xs zs W → Calls Try.prog 41 (#[.int .i64 (j : Int)] ++ #[.pointer (some ⟨w.heap.size, 0, none⟩), .pointer (some ⟨bi, 0, none⟩), .pointer (some ⟨bz, 0, none⟩)]) W fun e W' => e = .returned (B8 ((xs[k]!).s.d.getD j 0 ^^^ (zs[k]!).s.d.getD j 0)) ∧ Below W.heap.size W W' from
          fun bi j W hj hS => Shr.rf1_any _ _ _ (some ⟨b, off, none⟩) A5 n c c5 k j xs zs W hS hlt (by omega) (by rw [hdk]; exact hj) (by rw [hzl]; exact hj) (by omega))
        have HAD := Lib.hid (show (List.range dl).map (fun j => (xs[k]!).s.d.getD j 0 ^^^ (zs[k]!).s.d.getD j 0) = Shr.addD (xs[k]!).s.d (zs[k]!).s.d by rw [Shr.addD, hdk])
        generalize xs[k]! = x at f0 f1 f2 f3 f4 hepk hdk HT HFF HAD
        generalize zs[k]! = z at HT HFF HAD
        rw [hdk] at f4
        have HDK := Lib.hid hdk
        have zlr : w.heap.size < wr.heap.size := by omega
        have zbr : b < wr.heap.size := by omega
        have zzr : bz < wr.heap.size := by omega
        clear hvk hdk hzk hzl hBw
        go_wp2_with fail
        have HBn := Lib.hid (((Below.refl wr.heap.size wr).alloc (Nat.le_refl _) (.cells #[.int .i64 (k : Int)] 3)).alloc (by simp) (.cells #[.int .i64 (x.s.ep + 1), .int .i64 x.s.ix, .int .i64 x.s.th, .int .i64 x.s.mn, .slice x.A dl x.c] 41))
        have HSn := Lib.hid (Has.second wr 41 [.int .i64 (x.s.ep + 1), .int .i64 x.s.ix, .int .i64 x.s.th, .int .i64 x.s.mn, .slice x.A dl x.c] (.cells #[.int .i64 (k : Int)] 3))
        have hC := Shr.cols8 41 #[.pointer (some ⟨w.heap.size, 0, none⟩), .pointer (some ⟨wr.heap.size, 0, none⟩), .pointer (some ⟨bz, 0, none⟩)] dl (fun j => x.s.d.getD j 0 ^^^ z.s.d.getD j 0) (Shr.Rf w.heap.size wr.heap.size bz (some ⟨b, off, none⟩) A5 n c c5 k xs zs) _ (enters_of Try.func41 (by kernel_rfl) rfl)
          (fun W W' h hb => h.keep hb) (HFF.out wr.heap.size) (HRF.out wr.heap.size _ (Nat.le_refl _) (by simp; omega) (((Has.new wr 3 [.int .i64 (k : Int)]).alloc _).c1) HBn.out) (by omega)
        rw [HAD.out] at hC
        ((with_reducible refine hC.mono ?_); rintro e w7 ⟨A7, c7, rfl, hn7, hr7, hfr7, hlt7, hb7⟩)
        clear hC
        have HS7 := Lib.hid (HSn.out.keep hb7)
        have HB7 := Lib.hid (HBn.out.trans (hb7.mono (by simp; omega)))
        have q0 := HS7.out.cell 0
        have q1 := HS7.out.cell 1
        have q2 := HS7.out.cell 2
        have q3 := HS7.out.cell 3
        have q4 := HS7.out.cell 4
        have zs7 := HS7.out.lt
        have fs7 := HS7.out.frozen 4
        simp only [List.getElem?_cons_succ, List.getElem?_cons_zero] at q0 q1 q2 q3 q4
        obtain ⟨y, hy⟩ : ∃ y : Shr.C, y = ⟨⟨x.s.ep + 1, x.s.ix, x.s.th, x.s.mn, Shr.addD x.s.d z.s.d⟩, A7, c7⟩ := ⟨_, rfl⟩
        have hal : (Shr.addD x.s.d z.s.d).length = dl := by rw [Shr.addD_len, HDK.out]
        have hfr7' : Fresh (wr.heap.size + 2) A7 := hfr7.mono (by simp)
        obtain ⟨W8, hW8⟩ : ∃ W8, W8 = w7.setCell ⟨wr.heap.size + 1, 4, none⟩ (.slice A7 dl c7) := ⟨_, rfl⟩
        have HB8 := Lib.hid (show Below wr.heap.size wr W8 by rw [hW8]; exact HB7.out.setCell (Nat.le_succ _) _)
        have HO8 := Lib.hid (HO.out.keep HB8.out)
        have HY8 := Lib.hid (show y.Ok W8 ∧ Far y.A u4.ownBlock ∧ (∀ b off, y.A = some ⟨b, off, none⟩ → b < W8.heap.size) by
          rw [hy, hW8]
          refine ⟨⟨?_, ?_, hn7⟩, Far.fresh hfr7' HO.out.row (by omega), fun b off e => by have := hlt7 b off e; simpa using this⟩
          · show RdB _ A7 (Shr.addD x.s.d z.s.d).length _
            rw [hal]
            exact hr7.kept (grownBy_set w7 (wr.heap.size + 1) 4 _) (fun b off e e2 => by have := hfr7' b off e; injection e2 with e2; omega)
          · show (Shr.addD x.s.d z.s.d).length ≤ maxLen
            rw [hal]; unfold maxLen; omega)
        have HYC := Lib.hid (show y.cells = [.int .i64 (x.s.ep + 1), .int .i64 x.s.ix, .int .i64 x.s.th, .int .i64 x.s.mn, .slice A7 dl c7] by rw [hy]; show [_, _, _, _, Value.slice A7 (Shr.addD x.s.d z.s.d).length c7] = _; rw [hal])
        have HYS := Lib.hid (show y.s = ⟨x.s.ep + 1, x.s.ix, x.s.th, x.s.mn, Shr.addD x.s.d z.s.d⟩ by rw [hy])
        have HYF := Lib.hid (show Fresh W6.heap.size y.A by rw [hy]; exact hfr7'.mono (by omega))
        have HRD8 := Lib.hid (show Rd (W8.alloc (.cells #[.int .i64 (x.s.ep + 1), .int .i64 x.s.ix, .int .i64 x.s.th, .int .i64 x.s.mn, .slice A7 dl c7] 41)) (W8.heap.size + 1) 5 (some ⟨w7.heap.size, 0, none⟩) 1 [.int .i64 (x.s.ep + 1), .int .i64 x.s.ix, .int .i64 x.s.th, .int .i64 x.s.mn, .slice A7 dl c7] by
          have h := rd_new W8 41 5 [.int .i64 (x.s.ep + 1), .int .i64 x.s.ix, .int .i64 x.s.th, .int .i64 x.s.mn, .slice A7 dl c7] rfl
          have e : W8.heap.size = w7.heap.size := by rw [hW8]; simp
          rw [World.size_alloc, e] at h
          rw [e]
          exact h)
        have hz8 : wr.heap.size ≤ w7.heap.size := HB7.out.size
        have HZ8 := Lib.hid hz8
        have HZW := Lib.hid (show W8.heap.size = w7.heap.size by rw [hW8]; simp)
        subst hW8
        clear hn7 hr7 hfr7 hfr7' hlt7 hb7 hal hy hz8 HSn HBn HS7 HFF HRF HAD
        go_wp2_with (at_builtin; refine wpList_append_rd rfl _ _ rfl elS rfl (HO8.out.row.alloc _) rfl HRD8.out (by simp [Value.oneCell']) (fun h => by (cases h)) (by simp only [maxLen]; omega) (by omega) (by have := HZ8.out; simp; omega) ?_; intro v9 w9 hG9; have HG9 := Lib.hid hG9; clear hG9)
        have HO9 := Lib.hid (HO8.out.grow HY8.out (by rw [HYC.out]; exact HG9.out))
        have HB9 := Lib.hid (((HB.out.trans (HB8.out.mono hzr)).alloc (by have := HZ8.out; have := HZW.out; omega) (.cells #[.int .i64 (x.s.ep + 1), .int .i64 x.s.ix, .int .i64 x.s.th, .int .i64 x.s.mn, .slice A7 dl c7] 41)).grown HG9.out.grown (by have := HZ8.out; simp; omega) (fun g e => own_ge HO8.out.row e))
        have HV9 := Lib.hid (show Shr.vals (ys ++ [y]) = (Shr.refV (Shr.vals xs) coins).take (k + 1) by rw [Shr.vals, List.map_append, HT.out]; show Shr.vals ys ++ [y.s] = _; rw [HV.out, HYS.out])
        have HF9 := Lib.hid (show ∀ q, q ∈ ys ++ [y] → Fresh W6.heap.size q.A from fun q hq => by
          rcases List.mem_append.1 hq with h | h
          · exact HFR.out q h
          · rw [List.mem_singleton] at h; subst h; exact HYF.out)
        go_wp2_with fail
        go_roundw
        case rel => exact ⟨k + 1, ys ++ [y], by omega, by go_num, HO9.out, HF9.out, HV9.out, HB9.out⟩
        case measure => simp [intOf]; omega
      · obtain rfl : k = n := by omega
        go_wp2_with fail
        go_ret2
        exact ⟨_, ys, rfl, HO.out.mono hw6, fun x hx => (HFR.out x hx).mono hw6, by rw [HV.out, Shr.refV_all _ _ _ HLN.out], HBW.out⟩
  · have hR : Shr.R8 w (w5.setCell ⟨W1.heap.size, 0, none⟩ (.slice A5 n c5)) (W1.heap.size) b off n c c5 A5 zs := ⟨(((((Has.new W1 22 [.slice none 0 0]).alloc (.cells (Shr.zc dl) 5)).drew).keep hb5)).set 0 _, (HH'.out.keep hbW).far (by show w.heap.size ≠ W1.heap.size; omega) _, hO5.rds.setFar (fun b off e e2 => by have := own_fresh hO5.row b off e; injection e2 with e2; simp at this; omega) (fun x hx b off e e2 => by have := hfr5 x hx b off e; injection e2 with e2; simp at this; omega) _ _, (HB1'.out.trans (hbW.mono HB1'.out.size)).setCell (show w.heap.size ≤ W1.heap.size by have := HB1'.out.size; omega) _⟩
    generalize w5.setCell ⟨W1.heap.size, 0, none⟩ (.slice A5 n c5) = W6 at hR ⊢
    generalize W1.heap.size = bz at hR ⊢
    have HV5 := Lib.hid hv5
    clear hv5 hb5 hbW hO5 hfr5 z1 d1 c2 c3 c4 hbw1 hmk nw1 nw2 nw3 nw4
    have HR8 := Lib.hid hR
    obtain ⟨zl, el⟩ := hR.l.r1
    obtain ⟨zz, ez⟩ := hR.z.r1
    have hw6 := hR.b.size
    clear hR
    go_wp2_with fail
    go_loopw [4, 50] (fun v i wr => ∃ (k : Nat) (ys : List Shr.C), k ≤ n ∧ i = .int .i64 k ∧ Shr.Own wr W6.heap.size v k ys ∧ (∀ x, x ∈ ys → Fresh W6.heap.size x.A) ∧ Shr.vals ys = (Shr.refV (Shr.vals xs) coins).take k ∧ Below W6.heap.size W6 wr) (fun _ i _ => n - (intOf i).toNat)
    case atStart => exact ⟨0, [], by omega, rfl, Shr.Own.nil _ _, fun _ h => by (cases h), rfl, Below.refl _ _⟩
    case round =>
      obtain ⟨k, ys, hk, rfl, hO, hfr, hv, hB⟩ := hrel
      have HO := Lib.hid hO
      have HFR := Lib.hid hfr
      have HV := Lib.hid hv
      have HB := Lib.hid hB
      have hzr := hB.size
      have hBw := HR8.out.b.trans (hB.mono hw6)
      have HBW := Lib.hid hBw
      clear hO hfr hv hB
      by_cases hlt : k < n
      · obtain ⟨_, f0, f1, f2, f3, f4⟩ := (HR.out.keep hBw).at2 k hlt
        have el2 := (hBw2 HB.out el zl)
        have ez2 := (hBw2 HB.out ez zz)
        have hvk := Shr.vals_at xs k (by rw [← Shr.vals_len, HLN.out]; exact hlt)
        have hepk := (HG.out.ep k (by rw [HLN.out]; exact hlt)).2
        have hdk := HG.out.len_at k (by rw [HLN.out]; exact hlt)
        rw [Shr.vals_at xs 0 (by rw [← Shr.vals_len, HLN.out]; exact hpos), HDL.out, hvk] at hdk
        rw [hvk] at hepk
        have hzk : (zs[k]!).s = (Shr.zer (Shr.vals xs) coins)[k]! := by
          rw [← Shr.vals_at zs k (by rw [HR8.out.r.len]; exact hlt), HV5.out, Shr.zer, Shr.tt, HLN.out, Shr.vals_at xs 0 (by rw [← Shr.vals_len, HLN.out]; exact hpos), HDL.out, HTH.out, Int.toNat_natCast]
        have hzl : (zs[k]!).s.d.length = dl := by
          have h2 : k < (Shr.spl (List.replicate dl 0) 0 t n coins).length := by rw [Shr.spl_len]; exact hlt
          rw [← Shr.vals_at zs k (by rw [HR8.out.r.len]; exact hlt), HV5.out, getElem!_pos _ k h2]
          simp [Shr.spl, Shr.dat_len]
        have HT := Lib.hid (Shr.refV_take (Shr.vals xs) coins k (by rw [HLN.out]; exact hlt))
        rw [← hzk, hvk] at HT
        have HRF := Lib.hid (show ∀ (bi : Nat) (W : World), wr.heap.size ≤ bi → bi < W.heap.size → W.cell? ⟨bi, 0, none⟩ = some (.int .i64 (k : Int)) → Below wr.heap.size wr W → Shr.Rf w.heap.size bi bz (some ⟨b, off, none⟩) A5 n c c5 k xs zs W from fun bi W h1 h2 h3 h4 =>
          ⟨hBw2 h4 el2 (by omega), h3, hBw2 h4 ez2 (by omega), (HR.out.keep HBW.out).keep h4, (HR8.out.r.keep HB.out).keep h4, by have := h4.size; omega, h2, by have := h4.size; omega⟩)
        have HFF := Lib.hid (show ∀ (bi : Nat) (j : Nat) (W : World), j < dl → Shr.Rf w.heap.size bi bz (some ⟨b, off, none⟩) A5 n c c5 k xs zs W → Calls Try.prog 41 (#[.int .i64 (j : Int)] ++ #[.pointer (some ⟨w.heap.size, 0, none⟩), .pointer (some ⟨bi, 0, none⟩), .pointer (some ⟨bz, 0, none⟩)]) W fun e W' => e = .returned (B8 ((xs[k]!).s.d.getD j 0 ^^^ (zs[k]!).s.d.getD j 0)) ∧ Below W.heap.size W W' from
          fun bi j W hj hS => Shr.rf1_any _ _ _ (some ⟨b, off, none⟩) A5 n c c5 k j xs zs W hS hlt (by omega) (by rw [hdk]; exact hj) (by rw [hzl]; exact hj) (by omega))
        have HAD := Lib.hid (show (List.range dl).map (fun j => (xs[k]!).s.d.getD j 0 ^^^ (zs[k]!).s.d.getD j 0) = Shr.addD (xs[k]!).s.d (zs[k]!).s.d by rw [Shr.addD, hdk])
        generalize xs[k]! = x at f0 f1 f2 f3 f4 hepk hdk HT HFF HAD
        generalize zs[k]! = z at HT HFF HAD
        rw [hdk] at f4
        have HDK := Lib.hid hdk
        have zlr : w.heap.size < wr.heap.size := by omega
        have zbr : b < wr.heap.size := by omega
        have zzr : bz < wr.heap.size := by omega
        clear hvk hdk hzk hzl hBw
        go_wp2_with fail
        have HBn := Lib.hid (((Below.refl wr.heap.size wr).alloc (Nat.le_refl _) (.cells #[.int .i64 (k : Int)] 3)).alloc (by simp) (.cells #[.int .i64 (x.s.ep + 1), .int .i64 x.s.ix, .int .i64 x.s.th, .int .i64 x.s.mn, .slice x.A dl x.c] 41))
        have HSn := Lib.hid (Has.second wr 41 [.int .i64 (x.s.ep + 1), .int .i64 x.s.ix, .int .i64 x.s.th, .int .i64 x.s.mn, .slice x.A dl x.c] (.cells #[.int .i64 (k : Int)] 3))
        have hC := Shr.cols8 41 #[.pointer (some ⟨w.heap.size, 0, none⟩), .pointer (some ⟨wr.heap.size, 0, none⟩), .pointer (some ⟨bz, 0, none⟩)] dl (fun j => x.s.d.getD j 0 ^^^ z.s.d.getD j 0) (Shr.Rf w.heap.size wr.heap.size bz (some ⟨b, off, none⟩) A5 n c c5 k xs zs) _ (enters_of Try.func41 (by kernel_rfl) rfl)
          (fun W W' h hb => h.keep hb) (HFF.out wr.heap.size) (HRF.out wr.heap.size _ (Nat.le_refl _) (by simp; omega) (((Has.new wr 3 [.int .i64 (k : Int)]).alloc _).c1) HBn.out) (by omega)
        rw [HAD.out] at hC
        ((with_reducible refine hC.mono ?_); rintro e w7 ⟨A7, c7, rfl, hn7, hr7, hfr7, hlt7, hb7⟩)
        clear hC
        have HS7 := Lib.hid (HSn.out.keep hb7)
        have HB7 := Lib.hid (HBn.out.trans (hb7.mono (by simp; omega)))
        have q0 := HS7.out.cell 0
        have q1 := HS7.out.cell 1
        have q2 := HS7.out.cell 2
        have q3 := HS7.out.cell 3
        have q4 := HS7.out.cell 4
        have zs7 := HS7.out.lt
        have fs7 := HS7.out.frozen 4
        simp only [List.getElem?_cons_succ, List.getElem?_cons_zero] at q0 q1 q2 q3 q4
        obtain ⟨y, hy⟩ : ∃ y : Shr.C, y = ⟨⟨x.s.ep + 1, x.s.ix, x.s.th, x.s.mn, Shr.addD x.s.d z.s.d⟩, A7, c7⟩ := ⟨_, rfl⟩
        have hal : (Shr.addD x.s.d z.s.d).length = dl := by rw [Shr.addD_len, HDK.out]
        have hfr7' : Fresh (wr.heap.size + 2) A7 := hfr7.mono (by simp)
        obtain ⟨W8, hW8⟩ : ∃ W8, W8 = w7.setCell ⟨wr.heap.size + 1, 4, none⟩ (.slice A7 dl c7) := ⟨_, rfl⟩
        have HB8 := Lib.hid (show Below wr.heap.size wr W8 by rw [hW8]; exact HB7.out.setCell (Nat.le_succ _) _)
        have HO8 := Lib.hid (HO.out.keep HB8.out)
        have HY8 := Lib.hid (show y.Ok W8 ∧ Far y.A u4.ownBlock ∧ (∀ b off, y.A = some ⟨b, off, none⟩ → b < W8.heap.size) by
          rw [hy, hW8]
          refine ⟨⟨?_, ?_, hn7⟩, Far.fresh hfr7' HO.out.row (by omega), fun b off e => by have := hlt7 b off e; simpa using this⟩
          · show RdB _ A7 (Shr.addD x.s.d z.s.d).length _
            rw [hal]
            exact hr7.kept (grownBy_set w7 (wr.heap.size + 1) 4 _) (fun b off e e2 => by have := hfr7' b off e; injection e2 with e2; omega)
          · show (Shr.addD x.s.d z.s.d).length ≤ maxLen
            rw [hal]; unfold maxLen; omega)
        have HYC := Lib.hid (show y.cells = [.int .i64 (x.s.ep + 1), .int .i64 x.s.ix, .int .i64 x.s.th, .int .i64 x.s.mn, .slice A7 dl c7] by rw [hy]; show [_, _, _, _, Value.slice A7 (Shr.addD x.s.d z.s.d).length c7] = _; rw [hal])
        have HYS := Lib.hid (show y.s = ⟨x.s.ep + 1, x.s.ix, x.s.th, x.s.mn, Shr.addD x.s.d z.s.d⟩ by rw [hy])
        have HYF := Lib.hid (show Fresh W6.heap.size y.A by rw [hy]; exact hfr7'.mono (by omega))
        have HRD8 := Lib.hid (show Rd (W8.alloc (.cells #[.int .i64 (x.s.ep + 1), .int .i64 x.s.ix, .int .i64 x.s.th, .int .i64 x.s.mn, .slice A7 dl c7] 41)) (W8.heap.size + 1) 5 (some ⟨w7.heap.size, 0, none⟩) 1 [.int .i64 (x.s.ep + 1), .int .i64 x.s.ix, .int .i64 x.s.th, .int .i64 x.s.mn, .slice A7 dl c7] by
          have h := rd_new W8 41 5 [.int .i64 (x.s.ep + 1), .int .i64 x.s.ix, .int .i64 x.s.th, .int .i64 x.s.mn, .slice A7 dl c7] rfl
          have e : W8.heap.size = w7.heap.size := by rw [hW8]; simp
          rw [World.size_alloc, e] at h
          rw [e]
          exact h)
        have hz8 : wr.heap.size ≤ w7.heap.size := HB7.out.size
        have HZ8 := Lib.hid hz8
        have HZW := Lib.hid (show W8.heap.size = w7.heap.size by rw [hW8]; simp)
        subst hW8
        clear hn7 hr7 hfr7 hfr7' hlt7 hb7 hal hy hz8 HSn HBn HS7 HFF HRF HAD
        go_wp2_with (at_builtin; refine wpList_append_rd rfl _ _ rfl elS rfl (HO8.out.row.alloc _) rfl HRD8.out (by simp [Value.oneCell']) (fun h => by (cases h)) (by simp only [maxLen]; omega) (by omega) (by have := HZ8.out; simp; omega) ?_; intro v9 w9 hG9; have HG9 := Lib.hid hG9; clear hG9)
        have HO9 := Lib.hid (HO8.out.grow HY8.out (by rw [HYC.out]; exact HG9.out))
        have HB9 := Lib.hid (((HB.out.trans (HB8.out.mono hzr)).alloc (by have := HZ8.out; have := HZW.out; omega) (.cells #[.int .i64 (x.s.ep + 1), .int .i64 x.s.ix, .int .i64 x.s.th, .int .i64 x.s.mn, .slice A7 dl c7] 41)).grown HG9.out.grown (by have := HZ8.out; simp; omega) (fun g e => own_ge HO8.out.row e))
        have HV9 := Lib.hid (show Shr.vals (ys ++ [y]) = (Shr.refV (Shr.vals xs) coins).take (k + 1) by rw [Shr.vals, List.map_append, HT.out]; show Shr.vals ys ++ [y.s] = _; rw [HV.out, HYS.out])
        have HF9 := Lib.hid (show ∀ q, q ∈ ys ++ [y] → Fresh W6.heap.size q.A from fun q hq => by
          rcases List.mem_append.1 hq with h | h
          · exact HFR.out q h
          · rw [List.mem_singleton] at h; subst h; exact HYF.out)
        go_wp2_with fail
        go_roundw
        case rel => exact ⟨k + 1, ys ++ [y], by omega, by go_num, HO9.out, HF9.out, HV9.out, HB9.out⟩
        case measure => simp [intOf]; omega
      · obtain rfl : k = n := by omega
        go_wp2_with fail
        go_ret2
        exact ⟨_, ys, rfl, HO.out.mono hw6, fun x hx => (HFR.out x hx).mono hw6, by rw [HV.out, Shr.refV_all _ _ _ HLN.out], HBW.out⟩
end Go.Proofs.Ytpijkjpefdlefaa
