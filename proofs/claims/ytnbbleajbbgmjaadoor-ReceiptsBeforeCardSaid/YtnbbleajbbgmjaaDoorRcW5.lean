/- Contracts of the last closure of receipts.Check, and of Check. -/
import Derived.Laws.EntriesVeiled
import Derived.Deep.Cut
import Derived.Test.YtnbbleajbbgmjaaDoorRcW3
import Derived.Test.YtnbbleajbbgmjaaDoorRcW4
namespace Go.Proofs.YtnbbleajbbgmjaaDoor
open Go.RowKit
set_option linter.unusedVariables false

set_option maxHeartbeats 2000000 in
theorem Rc.ch4_any (g3 gv : Nat) (Ac As Al : Option Addr) (nc cc ns cs nl cl : Nat) (subs : List Rc.Sb) (l : List Rc.R) (K : List UInt32) (I : Dg.S) (w : World) (hz : g3 < w.heap.size ∧ gv < w.heap.size) (h1 : w.cell? ⟨g3, 0, none⟩ = some (.slice Al nl cl))
    (v0 : w.cell? ⟨gv, 0, none⟩ = some (.slice Ac nc cc)) (v1 : w.cell? ⟨gv, 1, none⟩ = some (.slice As ns cs)) (v2 : w.cell? ⟨gv, 2, none⟩ = some (.slice Al nl cl))
    (hS : Rc.Subs w w.heap.size As ns subs) (hL : Rc.Rcs w w.heap.size Al nl l) (hnc : nc ≤ maxLen) (hns : ns ≤ maxLen) (hnl : nl ≤ maxLen) (hG : Dg.G w K I) :
    Calls Tryd.prog 40 #[.pointer (some ⟨g3, 0, none⟩), .pointer (some ⟨gv, 0, none⟩)] w fun e w' => e = .returned (.bool (Rc.pre (Rc.badR K I nc subs l) nl)) ∧ Below w.heap.size w w' := by
  have HS := Lib.hid hS
  have HL := Lib.hid hL
  have HG := Lib.hid hG
  have HNC := Lib.hid hnc
  have HNS := Lib.hid hns
  have HNL := Lib.hid hnl
  have hz2 := hz.2
  unfold maxLen at hnl
  clear hS hL hG hnc hns
  go_enter Tryd.func40, Tryd.ntmps40
  go_wp2_with fail
  go_loopw [6] (fun i wr => ∃ k : Nat, k ≤ nl ∧ i = .int .i64 k ∧ Rc.pre (Rc.badR K I nc subs l) k = false ∧ Below w.heap.size w wr) (fun i _ => nl - (intOf i).toNat)
  case atStart => exact ⟨0, by omega, rfl, rfl, Below.refl _ _⟩
  case round =>
    obtain ⟨k, hk, rfl, hx, hB⟩ := hrel
    by_cases hlt : k < nl
    · have HX := Lib.hid (show Rc.pre (Rc.badR K I nc subs l) (k + 1) = Rc.badR K I nc subs l k by rw [Rc.pre, hx, Bool.false_or])
      have HA := Lib.hid (show Rc.badR K I nc subs l k = true → Rc.pre (Rc.badR K I nc subs l) nl = true from fun h => Rc.pre_yes _ nl k hlt h)
      have HC := Lib.hid (Rc.receipt_any Ac As Al nc cc ns cs nl cl subs l k K I wr ((HS.out.keep hB).more hB.size) ((HL.out.keep hB).more hB.size) hlt HNC.out HNS.out HNL.out (HG.out.keep hB))
      have e0 := (hB.cell (p := ⟨gv, 0, none⟩) hz2).trans v0
      have e1 := (hB.cell (p := ⟨gv, 1, none⟩) hz2).trans v1
      have e2 := (hB.cell (p := ⟨gv, 2, none⟩) hz2).trans v2
      have HB := Lib.hid hB
      clear hx hB
      cases hq : Rc.badR K I nc subs l k with
      | true =>
        rw [hq] at HC HA
        clear hq
        go_wp2_with fail
        ((with_reducible refine HC.out.mono ?_); rintro e w1 ⟨rfl, hb1⟩)
        have HB1 := Lib.hid (HB.out.trans (hb1.mono HB.out.size))
        have HT := Lib.hid (HA.out (by first | rfl | trivial))
        clear hb1 e0 e1 e2
        go_wp2_with fail
        go_ret
        exact ⟨by rw [HT.out]; rfl, HB1.out⟩
      | false =>
        rw [hq] at HC HX
        clear hq
        go_wp2_with fail
        ((with_reducible refine HC.out.mono ?_); rintro e w1 ⟨rfl, hb1⟩)
        have HB1 := Lib.hid (HB.out.trans (hb1.mono HB.out.size))
        clear hb1 e0 e1 e2
        go_wp2_with fail
        exact ⟨⟨k + 1, by omega, by go_num, HX.out, HB1.out⟩, by simp [intOf]; omega⟩
    · obtain rfl : k = nl := by omega
      have HX := Lib.hid hx
      have HB := Lib.hid hB
      clear hx hB
      go_wp2_with fail
      go_ret
      exact ⟨by rw [HX.out]; rfl, HB.out⟩

/-- is evidence not valid? -/
def Rc.w1 (nc ns nl : Nat) : Bool := decide (8 < nc) || (decide (32 < ns) || decide (256 < nl))
def Rc.wrong (K : List UInt32) (I : Dg.S) (c : List Rc.C) (subs : List Rc.Sb) (l : List Rc.R) : Bool :=
  Rc.w1 c.length subs.length l.length || (Rc.pre (Rc.w2 c) c.length || (Rc.pre (Rc.w3 subs) subs.length || Rc.pre (Rc.badR K I c.length subs l) l.length))
def Rc.chkE (K : List UInt32) (I : Dg.S) (c : List Rc.C) (subs : List Rc.Sb) (l : List Rc.R) : Int := if Rc.wrong K I c subs l = true then 510 else 0
/-- evidence in memory -/
structure Rc.Ev (w : World) (B : Nat) (Ac As Al : Option Addr) (nc ns nl : Nat) (c : List Rc.C) (subs : List Rc.Sb) (l : List Rc.R) : Prop where
  c : Rc.Clks w B Ac nc c
  s : Rc.Subs w B As ns subs
  l : Rc.Rcs w B Al nl l
  mc : nc ≤ maxLen
  ms : ns ≤ maxLen
  ml : nl ≤ maxLen
theorem Rc.Ev.keep {w w' : World} {B : Nat} {Ac As Al : Option Addr} {nc ns nl : Nat} {c : List Rc.C} {subs : List Rc.Sb} {l : List Rc.R} (h : Rc.Ev w B Ac As Al nc ns nl c subs l) (hb : Below B w w') : Rc.Ev w' B Ac As Al nc ns nl c subs l :=
  ⟨h.c.keep hb, h.s.keep hb, h.l.keep hb, h.mc, h.ms, h.ml⟩
theorem Rc.Ev.more {w : World} {B B' : Nat} {Ac As Al : Option Addr} {nc ns nl : Nat} {c : List Rc.C} {subs : List Rc.Sb} {l : List Rc.R} (h : Rc.Ev w B Ac As Al nc ns nl c subs l) (hB : B ≤ B') : Rc.Ev w B' Ac As Al nc ns nl c subs l :=
  ⟨h.c.more hB, h.s.more hB, h.l.more hB, h.mc, h.ms, h.ml⟩
theorem Rc.Ev.up {w w' : World} {Ac As Al : Option Addr} {nc ns nl : Nat} {c : List Rc.C} {subs : List Rc.Sb} {l : List Rc.R} (h : Rc.Ev w w.heap.size Ac As Al nc ns nl c subs l) (hb : Below w.heap.size w w') : Rc.Ev w' w'.heap.size Ac As Al nc ns nl c subs l :=
  (h.keep hb).more hb.size

set_option maxRecDepth 100000 in
set_option maxHeartbeats 4000000 in
theorem Rc.check_any (Ac As Al : Option Addr) (nc cc ns cs nl cl : Nat) (c : List Rc.C) (subs : List Rc.Sb) (l : List Rc.R) (K : List UInt32) (I : Dg.S) (w : World) (hE : Rc.Ev w w.heap.size Ac As Al nc ns nl c subs l) (hG : Dg.G w K I) :
    Calls Tryd.prog 14 #[.slice Ac nc cc, .slice As ns cs, .slice Al nl cl] w fun e w' => e = .returned (.int .i64 (Rc.chkE K I c subs l)) ∧ Below w.heap.size w w' := by
  have HEV := Lib.hid hE
  have HG := Lib.hid hG
  have HW := Lib.hid (show Rc.wrong K I c subs l = (Rc.w1 nc ns nl || (Rc.pre (Rc.w2 c) nc || (Rc.pre (Rc.w3 subs) ns || Rc.pre (Rc.badR K I nc subs l) nl))) from by
    unfold Rc.wrong
    rw [hE.c.len, hE.s.len, hE.l.len])
  have HCE := Lib.hid (show Rc.chkE K I c subs l = if Rc.wrong K I c subs l = true then 510 else 0 from rfl)
  generalize Rc.chkE K I c subs l = E at HCE ⊢
  generalize Rc.wrong K I c subs l = wr0 at HW HCE
  have hmf : ∀ (fn : Fn) (first cap : Array Value) (w : World), (Instr.makeFunc fn first cap).run Tryd.prog w = .ok (.func fn first cap) w := fun _ _ _ _ => rfl
  clear hE hG
  go_enter Tryd.func14, Tryd.ntmps14
  go_wp2_with fail
  obtain ⟨W1, hW1⟩ : ∃ W1, W1 = ((((w.alloc (.cells #[.slice Ac nc cc] 22)).alloc (.cells #[.slice As ns cs] 23)).alloc (.cells #[.slice Al nl cl] 24)).alloc (.cells #[.slice Ac nc cc, .slice As ns cs, .slice Al nl cl] 70)).alloc (.cells #[.func (.func 34) #[] #[.pointer (some ⟨w.heap.size, 0, none⟩), .pointer (some ⟨w.heap.size + 1, 0, none⟩), .pointer (some ⟨w.heap.size + 1 + 1, 0, none⟩)], .func (.func 35) #[] #[.pointer (some ⟨w.heap.size, 0, none⟩)], .func (.func 39) #[] #[.pointer (some ⟨w.heap.size + 1, 0, none⟩)], .func (.func 40) #[] #[.pointer (some ⟨w.heap.size + 1 + 1, 0, none⟩), .pointer (some ⟨w.heap.size + 1 + 1 + 1, 0, none⟩)]] 28) := ⟨_, rfl⟩
  have HST := Lib.hid (show St w W1 [(w.heap.size + 1 + 1 + 1 + 1, 28, [.func (.func 34) #[] #[.pointer (some ⟨w.heap.size, 0, none⟩), .pointer (some ⟨w.heap.size + 1, 0, none⟩), .pointer (some ⟨w.heap.size + 1 + 1, 0, none⟩)], .func (.func 35) #[] #[.pointer (some ⟨w.heap.size, 0, none⟩)], .func (.func 39) #[] #[.pointer (some ⟨w.heap.size + 1, 0, none⟩)], .func (.func 40) #[] #[.pointer (some ⟨w.heap.size + 1 + 1, 0, none⟩), .pointer (some ⟨w.heap.size + 1 + 1 + 1, 0, none⟩)]]), (w.heap.size + 1 + 1 + 1, 70, [.slice Ac nc cc, .slice As ns cs, .slice Al nl cl]), (w.heap.size + 1 + 1, 24, [.slice Al nl cl]), (w.heap.size + 1, 23, [.slice As ns cs]), (w.heap.size, 22, [.slice Ac nc cc])] from by
    rw [hW1]
    have h := (((((St.start w).new 22 [.slice Ac nc cc]).new 23 [.slice As ns cs]).new 24 [.slice Al nl cl]).new 70 [.slice Ac nc cc, .slice As ns cs, .slice Al nl cl]).new 28 [.func (.func 34) #[] #[.pointer (some ⟨w.heap.size, 0, none⟩), .pointer (some ⟨w.heap.size + 1, 0, none⟩), .pointer (some ⟨w.heap.size + 1 + 1, 0, none⟩)], .func (.func 35) #[] #[.pointer (some ⟨w.heap.size, 0, none⟩)], .func (.func 39) #[] #[.pointer (some ⟨w.heap.size + 1, 0, none⟩)], .func (.func 40) #[] #[.pointer (some ⟨w.heap.size + 1 + 1, 0, none⟩), .pointer (some ⟨w.heap.size + 1 + 1 + 1, 0, none⟩)]]
    simp only [World.size_alloc] at h
    exact h)
  rw [← hW1]
  clear hW1
  go_loopw [20] (fun i wr => ∃ k : Nat, k ≤ 4 ∧ i = .int .i64 k ∧ (1 ≤ k → Rc.w1 nc ns nl = false) ∧ (2 ≤ k → Rc.pre (Rc.w2 c) nc = false) ∧ (3 ≤ k → Rc.pre (Rc.w3 subs) ns = false) ∧ (4 ≤ k → Rc.pre (Rc.badR K I nc subs l) nl = false) ∧ St w wr [(w.heap.size + 1 + 1 + 1 + 1, 28, [.func (.func 34) #[] #[.pointer (some ⟨w.heap.size, 0, none⟩), .pointer (some ⟨w.heap.size + 1, 0, none⟩), .pointer (some ⟨w.heap.size + 1 + 1, 0, none⟩)], .func (.func 35) #[] #[.pointer (some ⟨w.heap.size, 0, none⟩)], .func (.func 39) #[] #[.pointer (some ⟨w.heap.size + 1, 0, none⟩)], .func (.func 40) #[] #[.pointer (some ⟨w.heap.size + 1 + 1, 0, none⟩), .pointer (some ⟨w.heap.size + 1 + 1 + 1, 0, none⟩)]]), (w.heap.size + 1 + 1 + 1, 70, [.slice Ac nc cc, .slice As ns cs, .slice Al nl cl]), (w.heap.size + 1 + 1, 24, [.slice Al nl cl]), (w.heap.size + 1, 23, [.slice As ns cs]), (w.heap.size, 22, [.slice Ac nc cc])]) (fun i _ => 4 - (intOf i).toNat)
  case atStart => exact ⟨0, by omega, rfl, (fun h => by omega), (fun h => by omega), (fun h => by omega), (fun h => by omega), HST.out⟩
  case round =>
    clear HST
    obtain ⟨k, hk, rfl, k1, k2, k3, k4, hS⟩ := hrel
    have HS := Lib.hid hS
    have HER := Lib.hid (HEV.out.up hS.below)
    have HGR := Lib.hid (HG.out.keep hS.below)
    have zz := hS.le
    have g1 := (hS.nth 4 rfl).c1
    have g2 := (hS.nth 3 rfl).c1
    have g3 := (hS.nth 2 rfl).c1
    obtain ⟨zv, v0, v1, v2⟩ := (hS.nth 1 rfl).r3
    have z2 := (hS.nth 3 rfl).lt
    have z3 := (hS.nth 2 rfl).lt
    have z5 := (hS.nth 0 rfl).lt
    have HC1 := Lib.hid (Rc.ch1_any _ _ _ Ac As Al nc cc ns cs nl cl wr g1 g2 g3)
    rw [show (decide (8 < nc) || (decide (32 < ns) || decide (256 < nl))) = Rc.w1 nc ns nl from rfl] at HC1
    have HC2 := Lib.hid (Rc.ch2_any _ Ac nc cc c wr g1 HER.out.c HER.out.mc)
    have HC3 := Lib.hid (Rc.ch3_any _ As ns cs subs wr z2 g2 HER.out.s HER.out.ms)
    have HC4 := Lib.hid (Rc.ch4_any _ _ Ac As Al nc cc ns cs nl cl subs l K I wr ⟨z3, zv⟩ g3 v0 v1 v2 HER.out.s HER.out.l HER.out.mc HER.out.ms HER.out.ml HGR.out)
    have f0 : wr.cell? ⟨w.heap.size + 1 + 1 + 1 + 1, 0, none⟩ = some (.func (.func 34) #[] #[.pointer (some ⟨w.heap.size, 0, none⟩), .pointer (some ⟨w.heap.size + 1, 0, none⟩), .pointer (some ⟨w.heap.size + 1 + 1, 0, none⟩)]) := (hS.nth 0 rfl).cell 0
    have f1 : wr.cell? ⟨w.heap.size + 1 + 1 + 1 + 1, 1, none⟩ = some (.func (.func 35) #[] #[.pointer (some ⟨w.heap.size, 0, none⟩)]) := (hS.nth 0 rfl).cell 1
    have f2 : wr.cell? ⟨w.heap.size + 1 + 1 + 1 + 1, 2, none⟩ = some (.func (.func 39) #[] #[.pointer (some ⟨w.heap.size + 1, 0, none⟩)]) := (hS.nth 0 rfl).cell 2
    have f3 : wr.cell? ⟨w.heap.size + 1 + 1 + 1 + 1, 3, none⟩ = some (.func (.func 40) #[] #[.pointer (some ⟨w.heap.size + 1 + 1, 0, none⟩), .pointer (some ⟨w.heap.size + 1 + 1 + 1, 0, none⟩)]) := (hS.nth 0 rfl).cell 3
    clear hS g1 g2 g3 zv v0 v1 v2 z2 z3 HER HGR
    generalize Rc.w1 nc ns nl = q1 at HW HC1 k1
    generalize Rc.pre (Rc.w2 c) nc = q2 at HW HC2 k2
    generalize Rc.pre (Rc.w3 subs) ns = q3 at HW HC3 k3
    generalize Rc.pre (Rc.badR K I nc subs l) nl = q4 at HW HC4 k4
    have K1 := Lib.hid k1
    have K2 := Lib.hid k2
    have K3 := Lib.hid k3
    have K4 := Lib.hid k4
    clear k1 k2 k3 k4
    obtain rfl | rfl | rfl | rfl | rfl : k = 0 ∨ k = 1 ∨ k = 2 ∨ k = 3 ∨ k = 4 := by omega
    · cases hq : q1 with
      | true =>
        subst hq
        have HT := Lib.hid (show E = 510 from by rw [HCE.out, if_pos (by rw [HW.out]; simp)])
        go_wp2_with fail
        ((with_reducible refine HC1.out.mono ?_); rintro e w2 ⟨rfl, hb2⟩)
        have HB2 := Lib.hid (HS.out.below.trans (hb2.mono HS.out.below.size))
        clear hb2
        go_wp2_with fail
        go_ret
        exact ⟨by rw [HT.out]; rfl, HB2.out⟩
      | false =>
        subst hq
        go_wp2_with fail
        ((with_reducible refine HC1.out.mono ?_); rintro e w2 ⟨rfl, hb2⟩)
        have HS2 := Lib.hid (HS.out.keep hb2)
        clear hb2 f0 f1 f2 f3
        go_wp2_with fail
        exact ⟨⟨1, by omega, by go_num, (fun _ => (by first | rfl | trivial)), (fun h => by omega), (fun h => by omega), (fun h => by omega), HS2.out⟩, by simp [intOf]⟩
    · cases hq : q2 with
      | true =>
        subst hq
        have HT := Lib.hid (show E = 510 from by rw [HCE.out, if_pos (by rw [HW.out, K1.out (by omega)]; simp)])
        go_wp2_with fail
        ((with_reducible refine HC2.out.mono ?_); rintro e w2 ⟨rfl, hb2⟩)
        have HB2 := Lib.hid (HS.out.below.trans (hb2.mono HS.out.below.size))
        clear hb2
        go_wp2_with fail
        go_ret
        exact ⟨by rw [HT.out]; rfl, HB2.out⟩
      | false =>
        subst hq
        go_wp2_with fail
        ((with_reducible refine HC2.out.mono ?_); rintro e w2 ⟨rfl, hb2⟩)
        have HS2 := Lib.hid (HS.out.keep hb2)
        clear hb2 f0 f1 f2 f3
        go_wp2_with fail
        exact ⟨⟨2, by omega, by go_num, (fun _ => K1.out (by omega)), (fun _ => (by first | rfl | trivial)), (fun h => by omega), (fun h => by omega), HS2.out⟩, by simp [intOf]⟩
    · cases hq : q3 with
      | true =>
        subst hq
        have HT := Lib.hid (show E = 510 from by rw [HCE.out, if_pos (by rw [HW.out, K1.out (by omega), K2.out (by omega)]; simp)])
        go_wp2_with fail
        ((with_reducible refine HC3.out.mono ?_); rintro e w2 ⟨rfl, hb2⟩)
        have HB2 := Lib.hid (HS.out.below.trans (hb2.mono HS.out.below.size))
        clear hb2
        go_wp2_with fail
        go_ret
        exact ⟨by rw [HT.out]; rfl, HB2.out⟩
      | false =>
        subst hq
        go_wp2_with fail
        ((with_reducible refine HC3.out.mono ?_); rintro e w2 ⟨rfl, hb2⟩)
        have HS2 := Lib.hid (HS.out.keep hb2)
        clear hb2 f0 f1 f2 f3
        go_wp2_with fail
        exact ⟨⟨3, by omega, by go_num, (fun _ => K1.out (by omega)), (fun _ => K2.out (by omega)), (fun _ => (by first | rfl | trivial)), (fun h => by omega), HS2.out⟩, by simp [intOf]⟩
    · cases hq : q4 with
      | true =>
        subst hq
        have HT := Lib.hid (show E = 510 from by rw [HCE.out, if_pos (by rw [HW.out, K1.out (by omega), K2.out (by omega), K3.out (by omega)]; simp)])
        go_wp2_with fail
        ((with_reducible refine HC4.out.mono ?_); rintro e w2 ⟨rfl, hb2⟩)
        have HB2 := Lib.hid (HS.out.below.trans (hb2.mono HS.out.below.size))
        clear hb2
        go_wp2_with fail
        go_ret
        exact ⟨by rw [HT.out]; rfl, HB2.out⟩
      | false =>
        subst hq
        go_wp2_with fail
        ((with_reducible refine HC4.out.mono ?_); rintro e w2 ⟨rfl, hb2⟩)
        have HS2 := Lib.hid (HS.out.keep hb2)
        clear hb2 f0 f1 f2 f3
        go_wp2_with fail
        exact ⟨⟨4, by omega, by go_num, (fun _ => K1.out (by omega)), (fun _ => K2.out (by omega)), (fun _ => K3.out (by omega)), (fun _ => (by first | rfl | trivial)), HS2.out⟩, by simp [intOf]⟩
    · have HT := Lib.hid (show E = 0 from by rw [HCE.out, if_neg (by rw [HW.out, K1.out (by omega), K2.out (by omega), K3.out (by omega), K4.out (by omega)]; decide)])
      go_wp2_with fail
      go_ret
      exact ⟨by rw [HT.out]; rfl, HS.out.below⟩
end Go.Proofs.YtnbbleajbbgmjaaDoor
