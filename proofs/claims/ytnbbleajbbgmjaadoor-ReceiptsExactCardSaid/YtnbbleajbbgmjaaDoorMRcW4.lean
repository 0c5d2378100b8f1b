import Derived.Laws.EntriesVeiled
import Derived.Test.YtnbbleajbbgmjaaDoorMClkPlain
import Derived.Test.YtnbbleajbbgmjaaDoorMRcW2
import Derived.Deep.Cut
import Derived.Test.YtnbbleajbbgmjaaDoorMRcW3
/- Contracts of the four closures of receipts.Check, and of Check. -/
namespace Go.Proofs.YtnbbleajbbgmjaaDoor
open Go.RowKit
set_option linter.unusedVariables false

structure Rc.C where
  (s er d : Int)
  deriving Inhabited
def Rc.C.cells (c : Rc.C) : List Value := [Rc.i c.s, Rc.i c.er, Rc.i c.d]
def Rc.C.bad (c : Rc.C) : Bool := !Clk.okB c.s c.er c.d
/-- a slice reads as clocks -/
structure Rc.Clks (w : World) (B : Nat) (A : Option Addr) (n : Nat) (l : List Rc.C) : Prop where
  len : l.length = n
  rd : Rd w B 3 A n (l.map Rc.C.cells).flatten
theorem Rc.Clks.keep {w w' : World} {B : Nat} {A : Option Addr} {n : Nat} {l : List Rc.C} (h : Rc.Clks w B A n l) (hb : Below B w w') : Rc.Clks w' B A n l := ⟨h.len, h.rd.below hb (Nat.le_refl _)⟩
theorem Rc.Clks.more {w : World} {B B' : Nat} {A : Option Addr} {n : Nat} {l : List Rc.C} (h : Rc.Clks w B A n l) (hB : B ≤ B') : Rc.Clks w B' A n l := ⟨h.len, h.rd.more hB⟩
theorem Rc.Clks.get {w : World} {B : Nat} {A : Option Addr} {n : Nat} {l : List Rc.C} (h : Rc.Clks w B A n l) (i : Nat) (c : Rc.C) (hs : l[i]? = some c) :
    ∃ b off, A = some ⟨b, off, none⟩ ∧ b < B ∧ w.cell? ⟨b, off + i * 3, none⟩ = some (Rc.i c.s) ∧ w.cell? ⟨b, off + i * 3 + 1, none⟩ = some (Rc.i c.er) ∧ w.cell? ⟨b, off + i * 3 + 2, none⟩ = some (Rc.i c.d) := by
  have hi : i < n := by rw [← h.len]; exact (List.getElem?_eq_some_iff.1 hs).1
  obtain ⟨b, off, e, hb, hc⟩ := rdK (xss := l.map Rc.C.cells) (by omega) (by rw [List.length_map]; exact h.len) (fun xs hx => by obtain ⟨q, hq, rfl⟩ := List.mem_map.1 hx; rfl) h.rd i hi c.cells (by rw [List.getElem?_map, hs]; rfl)
  exact ⟨b, off, e, hb, hc 0 _ rfl, hc 1 _ rfl, hc 2 _ rfl⟩

/-- is one of the first k so? -/
def Rc.pre (f : Nat → Bool) : Nat → Bool
  | 0 => false
  | k + 1 => Rc.pre f k || f k
theorem Rc.pre_yes (f : Nat → Bool) (n k : Nat) (hk : k < n) (h : f k = true) : Rc.pre f n = true := by
  induction n with
  | zero => omega
  | succ n ih =>
    rw [Rc.pre]
    by_cases he : k = n
    · subst he; rw [h, Bool.or_true]
    · rw [ih (by omega), Bool.true_or]
theorem Rc.pre_no (f : Nat → Bool) (n : Nat) (h : Rc.pre f n = false) : ∀ k, k < n → f k = false := by
  intro k hk
  cases hf : f k with
  | false => rfl
  | true => rw [Rc.pre_yes f n k hk hf] at h; cases h
def Rc.w2 (c : List Rc.C) : Nat → Bool := fun i => match c[i]? with | none => false | some x => x.bad
def Rc.w3 (l : List Rc.Sb) : Nat → Bool := fun i => match l[i]? with | none => false | some s => s.odd || !(decide (s.no = (i : Int)))

theorem Rc.clock_any (x : Rc.C) (w : World) : Calls Tryd.prog 37 #[.agg #[Rc.i x.s, Rc.i x.er, Rc.i x.d]] w fun e w' => e = .returned (.bool x.bad) ∧ Below w.heap.size w w' := by
  have HB := Lib.hid ((Below.refl w.heap.size w).alloc (Nat.le_refl _) (.cells #[Rc.i x.s, Rc.i x.er, Rc.i x.d] 51))
  have HC := Lib.hid (Clk.check_any x.s x.er x.d (w.alloc (.cells #[Rc.i x.s, Rc.i x.er, Rc.i x.d] 51)))
  cases ho : Clk.okB x.s x.er x.d with
  | true =>
    have HE := Lib.hid (show x.bad = false from by unfold Rc.C.bad; rw [ho]; rfl)
    rw [show Clk.chkE x.s x.er x.d = 0 from by rw [Clk.chkE, if_pos ho]] at HC
    clear ho
    go_enter Tryd.func37, Tryd.ntmps37
    go_wp2_with (first | ((with_reducible refine HC.out.mono ?_); rintro e w1 ⟨rfl, hb1⟩; have HB1 := Lib.hid (HB.out.trans (hb1.mono HB.out.size)); clear hb1))
    go_ret
    exact ⟨by rw [HE.out]; rfl, HB1.out⟩
  | false =>
    have HE := Lib.hid (show x.bad = true from by unfold Rc.C.bad; rw [ho]; rfl)
    rw [show Clk.chkE x.s x.er x.d = 490 from by rw [Clk.chkE, if_neg (by rw [ho]; decide)]] at HC
    clear ho
    go_enter Tryd.func37, Tryd.ntmps37
    go_wp2_with (first | ((with_reducible refine HC.out.mono ?_); rintro e w1 ⟨rfl, hb1⟩; have HB1 := Lib.hid (HB.out.trans (hb1.mono HB.out.size)); clear hb1))
    go_ret
    exact ⟨by rw [HE.out]; rfl, HB1.out⟩

set_option maxHeartbeats 1000000 in
theorem Rc.indexc_any (A : Option Addr) (n c : Nat) (l : List Rc.C) (w : World) (hr : Rc.Clks w w.heap.size A n l) (hn : n ≤ maxLen) :
    Calls Tryd.prog 64 #[.slice A n c, .func (.func 37) #[] #[]] w fun e w' => (∃ z : Int, e = .returned (Rc.i z) ∧ decide (0 ≤ z) = Rc.pre (Rc.w2 l) n) ∧ Below w.heap.size w w' := by
  have hl := hr.len
  unfold maxLen at hn
  have HR := Lib.hid hr
  clear hr
  go_enter Tryd.func64, Tryd.ntmps64
  go_wp2_with fail
  go_loopw [8] (fun i wr => ∃ k : Nat, k ≤ n ∧ i = .int .i64 k ∧ Rc.pre (Rc.w2 l) k = false ∧ Below w.heap.size w wr) (fun i _ => n - (intOf i).toNat)
  case atStart => exact ⟨0, by omega, rfl, rfl, Below.refl _ _⟩
  case round =>
    obtain ⟨k, hk, rfl, hx, hB⟩ := hrel
    by_cases hlt : k < n
    · obtain ⟨q, hq⟩ : ∃ q, l[k]? = some q := ⟨_, List.getElem?_eq_getElem (by omega)⟩
      obtain ⟨b, off, rfl, hb, c0, c1, c2⟩ := (HR.out.keep hB).get k q hq
      have hw2 : Rc.w2 l k = q.bad := by unfold Rc.w2; rw [hq]
      have HX := Lib.hid (show Rc.pre (Rc.w2 l) (k + 1) = q.bad by rw [Rc.pre, hx, Bool.false_or, hw2])
      have HA := Lib.hid (show q.bad = true → Rc.pre (Rc.w2 l) n = true from fun h => Rc.pre_yes _ n k hlt (by rw [hw2, h]))
      have HC := Lib.hid (Rc.clock_any q wr)
      have HB := Lib.hid hB
      clear hx hw2 hq hB
      cases hq : q.bad with
      | true =>
        have HQ := Lib.hid hq
        rw [hq] at HC
        clear hq
        go_wp2_with fail
        ((with_reducible refine HC.out.mono ?_); rintro e w1 ⟨rfl, hb1⟩)
        have HB1 := Lib.hid (HB.out.trans (hb1.mono HB.out.size))
        clear hb1 c0 c1 c2
        go_wp2_with fail
        go_ret
        exact ⟨⟨_, rfl, by rw [HA.out HQ.out]; exact decide_eq_true (by omega)⟩, HB1.out⟩
      | false =>
        rw [hq] at HC HX
        clear hq
        go_wp2_with fail
        ((with_reducible refine HC.out.mono ?_); rintro e w1 ⟨rfl, hb1⟩)
        have HB1 := Lib.hid (HB.out.trans (hb1.mono HB.out.size))
        clear hb1 c0 c1 c2
        go_wp2_with fail
        exact ⟨⟨k + 1, by omega, by go_num, HX.out, HB1.out⟩, by simp [intOf]; omega⟩
    · obtain rfl : k = n := by omega
      have HX := Lib.hid hx
      have HB := Lib.hid hB
      clear hx hB
      go_wp2_with fail
      go_ret
      exact ⟨⟨-1, rfl, by rw [HX.out]; decide⟩, HB.out⟩
theorem Rc.containsc_any (A : Option Addr) (n c : Nat) (l : List Rc.C) (w : World) (hr : Rc.Clks w w.heap.size A n l) (hn : n ≤ maxLen) :
    Calls Tryd.prog 36 #[.slice A n c, .func (.func 37) #[] #[]] w fun e w' => e = .returned (.bool (Rc.pre (Rc.w2 l) n)) ∧ Below w.heap.size w w' := by
  have HI := Lib.hid (Rc.indexc_any A n c l w hr hn)
  clear hr
  go_enter Tryd.func36, Tryd.ntmps36
  go_wp2_with fail
  ((with_reducible refine HI.out.mono ?_); rintro e w1 ⟨⟨z, rfl, hz⟩, hb1⟩)
  have HZ := Lib.hid hz
  have HB := Lib.hid hb1
  clear hz hb1
  go_wp2_with fail
  go_ret
  exact ⟨by rw [← HZ.out]; rfl, HB.out⟩

theorem Rc.ch1_any (g1 g2 g3 : Nat) (Ac As Al : Option Addr) (nc cc ns cs nl cl : Nat) (w : World) (h1 : w.cell? ⟨g1, 0, none⟩ = some (.slice Ac nc cc)) (h2 : w.cell? ⟨g2, 0, none⟩ = some (.slice As ns cs)) (h3 : w.cell? ⟨g3, 0, none⟩ = some (.slice Al nl cl)) :
    Calls Tryd.prog 34 #[.pointer (some ⟨g1, 0, none⟩), .pointer (some ⟨g2, 0, none⟩), .pointer (some ⟨g3, 0, none⟩)] w fun e w' => e = .returned (.bool (decide (8 < nc) || (decide (32 < ns) || decide (256 < nl)))) ∧ Below w.heap.size w w' := by
  by_cases k1 : 8 < nc
  · have HE := Lib.hid (show (decide (8 < nc) || (decide (32 < ns) || decide (256 < nl))) = true from by rw [decide_eq_true k1]; rfl)
    have d1 : decide ((8 : Int) < (nc : Int)) = true := decide_eq_true (by omega)
    go_enter Tryd.func34, Tryd.ntmps34
    go_wp2_with fail
    go_ret
    exact ⟨by rw [HE.out]; rfl, Below.refl _ _⟩
  · have d1 : decide ((8 : Int) < (nc : Int)) = false := decide_eq_false (by omega)
    by_cases k2 : 32 < ns
    · have HE := Lib.hid (show (decide (8 < nc) || (decide (32 < ns) || decide (256 < nl))) = true from by rw [decide_eq_true k2]; simp)
      have d2 : decide ((32 : Int) < (ns : Int)) = true := decide_eq_true (by omega)
      go_enter Tryd.func34, Tryd.ntmps34
      go_wp2_with fail
      go_ret
      exact ⟨by rw [HE.out]; rfl, Below.refl _ _⟩
    · have d2 : decide ((32 : Int) < (ns : Int)) = false := decide_eq_false (by omega)
      by_cases k3 : 256 < nl
      · have HE := Lib.hid (show (decide (8 < nc) || (decide (32 < ns) || decide (256 < nl))) = true from by rw [decide_eq_true k3]; simp)
        have d3 : decide ((256 : Int) < (nl : Int)) = true := decide_eq_true (by omega)
        go_enter Tryd.func34, Tryd.ntmps34
        go_wp2_with fail
        go_ret
        exact ⟨by rw [HE.out]; rfl, Below.refl _ _⟩
      · have HE := Lib.hid (show (decide (8 < nc) || (decide (32 < ns) || decide (256 < nl))) = false from by rw [decide_eq_false k1, decide_eq_false k2, decide_eq_false k3]; rfl)
        have d3 : decide ((256 : Int) < (nl : Int)) = false := decide_eq_false (by omega)
        go_enter Tryd.func34, Tryd.ntmps34
        go_wp2_with fail
        go_ret
        exact ⟨by rw [HE.out]; rfl, Below.refl _ _⟩
theorem Rc.ch2_any (g1 : Nat) (Ac : Option Addr) (nc cc : Nat) (l : List Rc.C) (w : World) (h1 : w.cell? ⟨g1, 0, none⟩ = some (.slice Ac nc cc)) (hr : Rc.Clks w w.heap.size Ac nc l) (hn : nc ≤ maxLen) :
    Calls Tryd.prog 35 #[.pointer (some ⟨g1, 0, none⟩)] w fun e w' => e = .returned (.bool (Rc.pre (Rc.w2 l) nc)) ∧ Below w.heap.size w w' := by
  have HC := Lib.hid (Rc.containsc_any Ac nc cc l w hr hn)
  clear hr
  go_enter Tryd.func35, Tryd.ntmps35
  go_wp2_with fail
  ((with_reducible refine HC.out.mono ?_); rintro e w1 ⟨rfl, hb1⟩)
  have HB := Lib.hid hb1
  clear hb1
  go_wp2_with fail
  go_ret
  exact ⟨rfl, HB.out⟩

set_option maxHeartbeats 2000000 in
theorem Rc.ch3_any (g2 : Nat) (As : Option Addr) (ns cs : Nat) (l : List Rc.Sb) (w : World) (hz : g2 < w.heap.size) (h1 : w.cell? ⟨g2, 0, none⟩ = some (.slice As ns cs)) (hr : Rc.Subs w w.heap.size As ns l) (hn : ns ≤ maxLen) :
    Calls Tryd.prog 39 #[.pointer (some ⟨g2, 0, none⟩)] w fun e w' => e = .returned (.bool (Rc.pre (Rc.w3 l) ns)) ∧ Below w.heap.size w w' := by
  have hl := hr.len
  unfold maxLen at hn
  have HR := Lib.hid hr
  clear hr
  go_enter Tryd.func39, Tryd.ntmps39
  go_wp2_with fail
  go_loopw [6] (fun i wr => ∃ k : Nat, k ≤ ns ∧ i = .int .i64 k ∧ Rc.pre (Rc.w3 l) k = false ∧ Below w.heap.size w wr) (fun i _ => ns - (intOf i).toNat)
  case atStart => exact ⟨0, by omega, rfl, rfl, Below.refl _ _⟩
  case round =>
    obtain ⟨k, hk, rfl, hx, hB⟩ := hrel
    by_cases hlt : k < ns
    · obtain ⟨q, hq⟩ : ∃ q, l[k]? = some q := ⟨_, List.getElem?_eq_getElem (by omega)⟩
      obtain ⟨b, off, Ag, cg, rfl, hb, c0, c1, c2, c3, hrg, hmg⟩ := (HR.out.keep hB).get k q hq
      have hw3 : Rc.w3 l k = (q.odd || !(decide (q.no = (k : Int)))) := by unfold Rc.w3; rw [hq]
      have HX := Lib.hid (show Rc.pre (Rc.w3 l) (k + 1) = (q.odd || !(decide (q.no = (k : Int)))) by rw [Rc.pre, hx, Bool.false_or, hw3])
      have HA := Lib.hid (show (q.odd || !(decide (q.no = (k : Int)))) = true → Rc.pre (Rc.w3 l) ns = true from fun h => Rc.pre_yes _ ns k hlt (by rw [hw3, h]))
      obtain ⟨W1, hW1⟩ : ∃ W1, W1 = wr.alloc (.cells #[Rc.i q.no, Rc.i q.comp, Rc.i q.puz, .slice Ag q.grid.length cg] 27) := ⟨_, rfl⟩
      have HBA := Lib.hid (show Below wr.heap.size wr W1 from by rw [hW1]; exact (Below.refl _ wr).alloc (Nat.le_refl _) _)
      have hH1 : Has W1 wr.heap.size 27 [Rc.i q.no, Rc.i q.comp, Rc.i q.puz, .slice Ag q.grid.length cg] := by rw [hW1]; exact Has.new wr _ _
      have HO := Lib.hid (show Calls Tryd.prog 26 #[.agg #[Rc.i q.no, Rc.i q.comp, Rc.i q.puz, .slice Ag q.grid.length cg]] (wr.alloc (.cells #[Rc.i q.no, Rc.i q.comp, Rc.i q.puz, .slice Ag q.grid.length cg] 27)) fun e w' => e = .returned (.bool q.odd) ∧ Below W1.heap.size W1 w' from by
        rw [← hW1]
        exact Rc.odd_any q.no q.comp q.puz Ag q.grid.length cg q.grid W1 ((Rd.below (hrg.more hB.size) HBA.out (Nat.le_refl _)).more HBA.out.size) hmg)
      have HH1 := Lib.hid hH1
      have HB := Lib.hid hB
      have HB1 := Lib.hid (hB.trans (HBA.out.mono hB.size))
      clear hx hw3 hq hB hrg hmg hH1 hb hW1
      cases ho : q.odd with
      | true =>
        rw [ho] at HO HA
        clear ho
        go_wp2_with (first | ((with_reducible refine HO.out.mono ?_); rintro e w1 ⟨rfl, hb1⟩; have HB2 := Lib.hid (HB1.out.trans (hb1.mono HB1.out.size)); clear hb1))
        go_ret
        exact ⟨by rw [HA.out rfl]; rfl, HB2.out⟩
      | false =>
        rw [ho] at HO HA HX
        rw [Bool.false_or] at HA HX
        clear ho
        by_cases hn2 : q.no = (k : Int)
        · have hd : (q.no != (k : Int)) = false := by simp [hn2]
          have HX2 := Lib.hid (show Rc.pre (Rc.w3 l) (k + 1) = false from by rw [HX.out, decide_eq_true hn2]; rfl)
          clear hn2
          go_wp2_with (first | ((with_reducible refine HO.out.mono ?_); rintro e w1 ⟨rfl, hb1⟩; have HB2 := Lib.hid (HB1.out.trans (hb1.mono HB1.out.size)); have x0 : w1.cell? ⟨wr.heap.size, 0, none⟩ = some (Rc.i q.no) := (HH1.out.keep hb1).cell 0; clear hb1))
          exact ⟨⟨k + 1, by omega, by go_num, HX2.out, HB2.out⟩, by simp [intOf]; omega⟩
        · have hd : (q.no != (k : Int)) = true := by simp [hn2]
          have HX2 := Lib.hid (show Rc.pre (Rc.w3 l) ns = true from HA.out (by rw [decide_eq_false hn2]; rfl))
          clear hn2
          go_wp2_with (first | ((with_reducible refine HO.out.mono ?_); rintro e w1 ⟨rfl, hb1⟩; have HB2 := Lib.hid (HB1.out.trans (hb1.mono HB1.out.size)); have x0 : w1.cell? ⟨wr.heap.size, 0, none⟩ = some (Rc.i q.no) := (HH1.out.keep hb1).cell 0; clear hb1))
          go_ret
          exact ⟨by rw [HX2.out]; rfl, HB2.out⟩
    · obtain rfl : k = ns := by omega
      have HX := Lib.hid hx
      have HB := Lib.hid hB
      clear hx hB
      go_wp2_with fail
      go_ret
      exact ⟨by rw [HX.out]; rfl, HB.out⟩
end Go.Proofs.YtnbbleajbbgmjaaDoor
/- Contracts of the last closure of receipts.Check, and of Check. -/
namespace Go.Proofs.YtnbbleajbbgmjaaDoor
open Go.RowKit
set_option linter.unusedVariables false

set_option maxHeartbeats 2000000 in
theorem Rc.ch4_any (g3 gv : Nat) (Ac As Al : Option Addr) (nc cc ns cs nl cl : Nat) (subs : List Rc.Sb) (l : List Rc.R) (K : List UInt32) (I : Dg.S) (w : World) (hz : g3 < w.heap.size ∧ gv < w.heap.size) (h1 : w.cell? ⟨g3, 0, none⟩ = some (.slice Al nl cl))
    (v0 : w.cell? ⟨gv, 0, none⟩ = some (.slice Ac nc cc)) (v1 : w.cell? ⟨gv, 1, none⟩ = some (.slice As ns cs)) (v2 : w.cell? ⟨gv, 2, none⟩ = some (.slice Al nl cl))
    (hS : Rc.Subs w w.heap.size As ns subs) (hL : Rc.Rcs w w.heap.size Al nl l) (hnc : nc ≤ maxLen) (hns : ns ≤ maxLen) (hnl : nl ≤ maxLen) (hG : Dg.G w K I) :
    Calls Tryd.prog 40 #[.pointer (some ⟨g3, 0, none⟩), .pointer (some ⟨gv, 0, none⟩)] w fun e w' => e = .returned (.bool (Rc.pre (Rc.badR K I nc subs l) nl)) ∧ Below w.heap.size w w' := by
  have HS := Lib.hid hS
  have HL := Lib.hid hL
  have HG := Lib.hid hG
  have HNC := Lib.hid hnc
  have HNS := Lib.hid hns
  have HNL := Lib.hid hnl
  have hz2 := hz.2
  unfold maxLen at hnl
  clear hS hL hG hnc hns
  go_enter Tryd.func40, Tryd.ntmps40
  go_wp2_with fail
  go_loopw [6] (fun i wr => ∃ k : Nat, k ≤ nl ∧ i = .int .i64 k ∧ Rc.pre (Rc.badR K I nc subs l) k = false ∧ Below w.heap.size w wr) (fun i _ => nl - (intOf i).toNat)
  case atStart => exact ⟨0, by omega, rfl, rfl, Below.refl _ _⟩
  case round =>
    obtain ⟨k, hk, rfl, hx, hB⟩ := hrel
    by_cases hlt : k < nl
    · have HX := Lib.hid (show Rc.pre (Rc.badR K I nc subs l) (k + 1) = Rc.badR K I nc subs l k by rw [Rc.pre, hx, Bool.false_or])
      have HA := Lib.hid (show Rc.badR K I nc subs l k = true → Rc.pre (Rc.badR K I nc subs l) nl = true from fun h => Rc.pre_yes _ nl k hlt h)
      have HC := Lib.hid (Rc.receipt_any Ac As Al nc cc ns cs nl cl subs l k K I wr ((HS.out.keep hB).more hB.size) ((HL.out.keep hB).more hB.size) hlt HNC.out HNS.out HNL.out (HG.out.keep hB))
      have e0 := (hB.cell (p := ⟨gv, 0, none⟩) hz2).trans v0
      have e1 := (hB.cell (p := ⟨gv, 1, none⟩) hz2).trans v1
      have e2 := (hB.cell (p := ⟨gv, 2, none⟩) hz2).trans v2
      have HB := Lib.hid hB
      clear hx hB
      cases hq : Rc.badR K I nc subs l k with
      | true =>
        rw [hq] at HC HA
        clear hq
        go_wp2_with fail
        ((with_reducible refine HC.out.mono ?_); rintro e w1 ⟨rfl, hb1⟩)
        have HB1 := Lib.hid (HB.out.trans (hb1.mono HB.out.size))
        have HT := Lib.hid (HA.out (by first | rfl | trivial))
        clear hb1 e0 e1 e2
        go_wp2_with fail
        go_ret
        exact ⟨by rw [HT.out]; rfl, HB1.out⟩
      | false =>
        rw [hq] at HC HX
        clear hq
        go_wp2_with fail
        ((with_reducible refine HC.out.mono ?_); rintro e w1 ⟨rfl, hb1⟩)
        have HB1 := Lib.hid (HB.out.trans (hb1.mono HB.out.size))
        clear hb1 e0 e1 e2
        go_wp2_with fail
        exact ⟨⟨k + 1, by omega, by go_num, HX.out, HB1.out⟩, by simp [intOf]; omega⟩
    · obtain rfl : k = nl := by omega
      have HX := Lib.hid hx
      have HB := Lib.hid hB
      clear hx hB
      go_wp2_with fail
      go_ret
      exact ⟨by rw [HX.out]; rfl, HB.out⟩

/-- is evidence not valid? -/
def Rc.w1 (nc ns nl : Nat) : Bool := decide (8 < nc) || (decide (32 < ns) || decide (256 < nl))
def Rc.wrong (K : List UInt32) (I : Dg.S) (c : List Rc.C) (subs : List Rc.Sb) (l : List Rc.R) : Bool :=
  Rc.w1 c.length subs.length l.length || (Rc.pre (Rc.w2 c) c.length || (Rc.pre (Rc.w3 subs) subs.length || Rc.pre (Rc.badR K I c.length subs l) l.length))
def Rc.chkE (K : List UInt32) (I : Dg.S) (c : List Rc.C) (subs : List Rc.Sb) (l : List Rc.R) : Int := if Rc.wrong K I c subs l = true then 510 else 0
/-- evidence in memory -/
structure Rc.Ev (w : World) (B : Nat) (Ac As Al : Option Addr) (nc ns nl : Nat) (c : List Rc.C) (subs : List Rc.Sb) (l : List Rc.R) : Prop where
  c : Rc.Clks w B Ac nc c
  s : Rc.Subs w B As ns subs
  l : Rc.Rcs w B Al nl l
  mc : nc ≤ maxLen
  ms : ns ≤ maxLen
  ml : nl ≤ maxLen
theorem Rc.Ev.keep {w w' : World} {B : Nat} {Ac As Al : Option Addr} {nc ns nl : Nat} {c : List Rc.C} {subs : List Rc.Sb} {l : List Rc.R} (h : Rc.Ev w B Ac As Al nc ns nl c subs l) (hb : Below B w w') : Rc.Ev w' B Ac As Al nc ns nl c subs l :=
  ⟨h.c.keep hb, h.s.keep hb, h.l.keep hb, h.mc, h.ms, h.ml⟩
theorem Rc.Ev.more {w : World} {B B' : Nat} {Ac As Al : Option Addr} {nc ns nl : Nat} {c : List Rc.C} {subs : List Rc.Sb} {l : List Rc.R} (h : Rc.Ev w B Ac As Al nc ns nl c subs l) (hB : B ≤ B') : Rc.Ev w B' Ac As Al nc ns nl c subs l :=
  ⟨h.c.more hB, h.s.more hB, h.l.more hB, h.mc, h.ms, h.ml⟩
theorem Rc.Ev.up {w w' : World} {Ac As Al : Option Addr} {nc ns nl : Nat} {c : List Rc.C} {subs : List Rc.Sb} {l : List Rc.R} (h : Rc.Ev w w.heap.size Ac As Al nc ns nl c subs l) (hb : Below w.heap.size w w') : Rc.Ev w' w'.heap.size Ac As Al nc ns nl c subs l :=
  (h.keep hb).more hb.size

set_option maxRecDepth 100000 in
set_option maxHeartbeats 4000000 in
theorem Rc.check_any (Ac As Al : Option Addr) (nc cc ns cs nl cl : Nat) (c : List Rc.C) (subs : List Rc.Sb) (l : List Rc.R) (K : List UInt32) (I : Dg.S) (w : World) (hE : Rc.Ev w w.heap.size Ac As Al nc ns nl c subs l) (hG : Dg.G w K I) :
    Calls Tryd.prog 14 #[.slice Ac nc cc, .slice As ns cs, .slice Al nl cl] w fun e w' => e = .returned (.int .i64 (Rc.chkE K I c subs l)) ∧ Below w.heap.size w w' := by
  have HEV := Lib.hid hE
  have HG := Lib.hid hG
  have HW := Lib.hid (show Rc.wrong K I c subs l = (Rc.w1 nc ns nl || (Rc.pre (Rc.w2 c) nc || (Rc.pre (Rc.w3 subs) ns || Rc.pre (Rc.badR K I nc subs l) nl))) from by
    unfold Rc.wrong
    rw [hE.c.len, hE.s.len, hE.l.len])
  have HCE := Lib.hid (show Rc.chkE K I c subs l = if Rc.wrong K I c subs l = true then 510 else 0 from rfl)
  generalize Rc.chkE K I c subs l = E at HCE ⊢
  generalize Rc.wrong K I c subs l = wr0 at HW HCE
  have hmf : ∀ (fn : Fn) (first cap : Array Value) (w : World), (Instr.makeFunc fn first cap).run Tryd.prog w = .ok (.func fn first cap) w := fun _ _ _ _ => rfl
  clear hE hG
  go_enter Tryd.func14, Tryd.ntmps14
  go_wp2_with fail
  obtain ⟨W1, hW1⟩ : ∃ W1, W1 = ((((w.alloc (.cells #[.slice Ac nc cc] 22)).alloc (.cells #[.slice As ns cs] 23)).alloc (.cells #[.slice Al nl cl] 24)).alloc (.cells #[.slice Ac nc cc, .slice As ns cs, .slice Al nl cl] 70)).alloc (.cells #[.func (.func 34) #[] #[.pointer (some ⟨w.heap.size, 0, none⟩), .pointer (some ⟨w.heap.size + 1, 0, none⟩), .pointer (some ⟨w.heap.size + 1 + 1, 0, none⟩)], .func (.func 35) #[] #[.pointer (some ⟨w.heap.size, 0, none⟩)], .func (.func 39) #[] #[.pointer (some ⟨w.heap.size + 1, 0, none⟩)], .func (.func 40) #[] #[.pointer (some ⟨w.heap.size + 1 + 1, 0, none⟩), .pointer (some ⟨w.heap.size + 1 + 1 + 1, 0, none⟩)]] 28) := ⟨_, rfl⟩
  have HST := Lib.hid (show St w W1 [(w.heap.size + 1 + 1 + 1 + 1, 28, [.func (.func 34) #[] #[.pointer (some ⟨w.heap.size, 0, none⟩), .pointer (some ⟨w.heap.size + 1, 0, none⟩), .pointer (some ⟨w.heap.size + 1 + 1, 0, none⟩)], .func (.func 35) #[] #[.pointer (some ⟨w.heap.size, 0, none⟩)], .func (.func 39) #[] #[.pointer (some ⟨w.heap.size + 1, 0, none⟩)], .func (.func 40) #[] #[.pointer (some ⟨w.heap.size + 1 + 1, 0, none⟩), .pointer (some ⟨w.heap.size + 1 + 1 + 1, 0, none⟩)]]), (w.heap.size + 1 + 1 + 1, 70, [.slice Ac nc cc, .slice As ns cs, .slice Al nl cl]), (w.heap.size + 1 + 1, 24, [.slice Al nl cl]), (w.heap.size + 1, 23, [.slice As ns cs]), (w.heap.size, 22, [.slice Ac nc cc])] from by
    rw [hW1]
    have h := (((((St.start w).new 22 [.slice Ac nc cc]).new 23 [.slice As ns cs]).new 24 [.slice Al nl cl]).new 70 [.slice Ac nc cc, .slice As ns cs, .slice Al nl cl]).new 28 [.func (.func 34) #[] #[.pointer (some ⟨w.heap.size, 0, none⟩), .pointer (some ⟨w.heap.size + 1, 0, none⟩), .pointer (some ⟨w.heap.size + 1 + 1, 0, none⟩)], .func (.func 35) #[] #[.pointer (some ⟨w.heap.size, 0, none⟩)], .func (.func 39) #[] #[.pointer (some ⟨w.heap.size + 1, 0, none⟩)], .func (.func 40) #[] #[.pointer (some ⟨w.heap.size + 1 + 1, 0, none⟩), .pointer (some ⟨w.heap.size + 1 + 1 + 1, 0, none⟩)]]
    simp only [World.size_alloc] at h
    exact h)
  rw [← hW1]
  clear hW1
  go_loopw [20] (fun i wr => ∃ k : Nat, k ≤ 4 ∧ i = .int .i64 k ∧ (1 ≤ k → Rc.w1 nc ns nl = false) ∧ (2 ≤ k → Rc.pre (Rc.w2 c) nc = false) ∧ (3 ≤ k → Rc.pre (Rc.w3 subs) ns = false) ∧ (4 ≤ k → Rc.pre (Rc.badR K I nc subs l) nl = false) ∧ St w wr [(w.heap.size + 1 + 1 + 1 + 1, 28, [.func (.func 34) #[] #[.pointer (some ⟨w.heap.size, 0, none⟩), .pointer (some ⟨w.heap.size + 1, 0, none⟩), .pointer (some ⟨w.heap.size + 1 + 1, 0, none⟩)], .func (.func 35) #[] #[.pointer (some ⟨w.heap.size, 0, none⟩)], .func (.func 39) #[] #[.pointer (some ⟨w.heap.size + 1, 0, none⟩)], .func (.func 40) #[] #[.pointer (some ⟨w.heap.size + 1 + 1, 0, none⟩), .pointer (some ⟨w.heap.size + 1 + 1 + 1, 0, none⟩)]]), (w.heap.size + 1 + 1 + 1, 70, [.slice Ac nc cc, .slice As ns cs, .slice Al nl cl]), (w.heap.size + 1 + 1, 24, [.slice Al nl cl]), (w.heap.size + 1, 23, [.slice As ns cs]), (w.heap.size, 22, [.slice Ac nc cc])]) (fun i _ => 4 - (intOf i).toNat)
  case atStart => exact ⟨0, by omega, rfl, (fun h => by omega), (fun h => by omega), (fun h => by omega), (fun h => by omega), HST.out⟩
  case round =>
    clear HST
    obtain ⟨k, hk, rfl, k1, k2, k3, k4, hS⟩ := hrel
    have HS := Lib.hid hS
    have HER := Lib.hid (HEV.out.up hS.below)
    have HGR := Lib.hid (HG.out.keep hS.below)
    have zz := hS.le
    have g1 := (hS.nth 4 rfl).c1
    have g2 := (hS.nth 3 rfl).c1
    have g3 := (hS.nth 2 rfl).c1
    obtain ⟨zv, v0, v1, v2⟩ := (hS.nth 1 rfl).r3
    have z2 := (hS.nth 3 rfl).lt
    have z3 := (hS.nth 2 rfl).lt
    have z5 := (hS.nth 0 rfl).lt
    have HC1 := Lib.hid (Rc.ch1_any _ _ _ Ac As Al nc cc ns cs nl cl wr g1 g2 g3)
    rw [show (decide (8 < nc) || (decide (32 < ns) || decide (256 < nl))) = Rc.w1 nc ns nl from rfl] at HC1
    have HC2 := Lib.hid (Rc.ch2_any _ Ac nc cc c wr g1 HER.out.c HER.out.mc)
    have HC3 := Lib.hid (Rc.ch3_any _ As ns cs subs wr z2 g2 HER.out.s HER.out.ms)
    have HC4 := Lib.hid (Rc.ch4_any _ _ Ac As Al nc cc ns cs nl cl subs l K I wr ⟨z3, zv⟩ g3 v0 v1 v2 HER.out.s HER.out.l HER.out.mc HER.out.ms HER.out.ml HGR.out)
    have f0 : wr.cell? ⟨w.heap.size + 1 + 1 + 1 + 1, 0, none⟩ = some (.func (.func 34) #[] #[.pointer (some ⟨w.heap.size, 0, none⟩), .pointer (some ⟨w.heap.size + 1, 0, none⟩), .pointer (some ⟨w.heap.size + 1 + 1, 0, none⟩)]) := (hS.nth 0 rfl).cell 0
    have f1 : wr.cell? ⟨w.heap.size + 1 + 1 + 1 + 1, 1, none⟩ = some (.func (.func 35) #[] #[.pointer (some ⟨w.heap.size, 0, none⟩)]) := (hS.nth 0 rfl).cell 1
    have f2 : wr.cell? ⟨w.heap.size + 1 + 1 + 1 + 1, 2, none⟩ = some (.func (.func 39) #[] #[.pointer (some ⟨w.heap.size + 1, 0, none⟩)]) := (hS.nth 0 rfl).cell 2
    have f3 : wr.cell? ⟨w.heap.size + 1 + 1 + 1 + 1, 3, none⟩ = some (.func (.func 40) #[] #[.pointer (some ⟨w.heap.size + 1 + 1, 0, none⟩), .pointer (some ⟨w.heap.size + 1 + 1 + 1, 0, none⟩)]) := (hS.nth 0 rfl).cell 3
    clear hS g1 g2 g3 zv v0 v1 v2 z2 z3 HER HGR
    generalize Rc.w1 nc ns nl = q1 at HW HC1 k1
    generalize Rc.pre (Rc.w2 c) nc = q2 at HW HC2 k2
    generalize Rc.pre (Rc.w3 subs) ns = q3 at HW HC3 k3
    generalize Rc.pre (Rc.badR K I nc subs l) nl = q4 at HW HC4 k4
    have K1 := Lib.hid k1
    have K2 := Lib.hid k2
    have K3 := Lib.hid k3
    have K4 := Lib.hid k4
    clear k1 k2 k3 k4
    obtain rfl | rfl | rfl | rfl | rfl : k = 0 ∨ k = 1 ∨ k = 2 ∨ k = 3 ∨ k = 4 := by omega
    · cases hq : q1 with
      | true =>
        subst hq
        have HT := Lib.hid (show E = 510 from by rw [HCE.out, if_pos (by rw [HW.out]; simp)])
        go_wp2_with fail
        ((with_reducible refine HC1.out.mono ?_); rintro e w2 ⟨rfl, hb2⟩)
        have HB2 := Lib.hid (HS.out.below.trans (hb2.mono HS.out.below.size))
        clear hb2
        go_wp2_with fail
        go_ret
        exact ⟨by rw [HT.out]; rfl, HB2.out⟩
      | false =>
        subst hq
        go_wp2_with fail
        ((with_reducible refine HC1.out.mono ?_); rintro e w2 ⟨rfl, hb2⟩)
        have HS2 := Lib.hid (HS.out.keep hb2)
        clear hb2 f0 f1 f2 f3
        go_wp2_with fail
        exact ⟨⟨1, by omega, by go_num, (fun _ => (by first | rfl | trivial)), (fun h => by omega), (fun h => by omega), (fun h => by omega), HS2.out⟩, by simp [intOf]⟩
    · cases hq : q2 with
      | true =>
        subst hq
        have HT := Lib.hid (show E = 510 from by rw [HCE.out, if_pos (by rw [HW.out, K1.out (by omega)]; simp)])
        go_wp2_with fail
        ((with_reducible refine HC2.out.mono ?_); rintro e w2 ⟨rfl, hb2⟩)
        have HB2 := Lib.hid (HS.out.below.trans (hb2.mono HS.out.below.size))
        clear hb2
        go_wp2_with fail
        go_ret
        exact ⟨by rw [HT.out]; rfl, HB2.out⟩
      | false =>
        subst hq
        go_wp2_with fail
        ((with_reducible refine HC2.out.mono ?_); rintro e w2 ⟨rfl, hb2⟩)
        have HS2 := Lib.hid (HS.out.keep hb2)
        clear hb2 f0 f1 f2 f3
        go_wp2_with fail
        exact ⟨⟨2, by omega, by go_num, (fun _ => K1.out (by omega)), (fun _ => (by first | rfl | trivial)), (fun h => by omega), (fun h => by omega), HS2.out⟩, by simp [intOf]⟩
    · cases hq : q3 with
      | true =>
        subst hq
        have HT := Lib.hid (show E = 510 from by rw [HCE.out, if_pos (by rw [HW.out, K1.out (by omega), K2.out (by omega)]; simp)])
        go_wp2_with fail
        ((with_reducible refine HC3.out.mono ?_); rintro e w2 ⟨rfl, hb2⟩)
        have HB2 := Lib.hid (HS.out.below.trans (hb2.mono HS.out.below.size))
        clear hb2
        go_wp2_with fail
        go_ret
        exact ⟨by rw [HT.out]; rfl, HB2.out⟩
      | false =>
        subst hq
        go_wp2_with fail
        ((with_reducible refine HC3.out.mono ?_); rintro e w2 ⟨rfl, hb2⟩)
        have HS2 := Lib.hid (HS.out.keep hb2)
        clear hb2 f0 f1 f2 f3
        go_wp2_with fail
        exact ⟨⟨3, by omega, by go_num, (fun _ => K1.out (by omega)), (fun _ => K2.out (by omega)), (fun _ => (by first | rfl | trivial)), (fun h => by omega), HS2.out⟩, by simp [intOf]⟩
    · cases hq : q4 with
      | true =>
        subst hq
        have HT := Lib.hid (show E = 510 from by rw [HCE.out, if_pos (by rw [HW.out, K1.out (by omega), K2.out (by omega), K3.out (by omega)]; simp)])
        go_wp2_with fail
        ((with_reducible refine HC4.out.mono ?_); rintro e w2 ⟨rfl, hb2⟩)
        have HB2 := Lib.hid (HS.out.below.trans (hb2.mono HS.out.below.size))
        clear hb2
        go_wp2_with fail
        go_ret
        exact ⟨by rw [HT.out]; rfl, HB2.out⟩
      | false =>
        subst hq
        go_wp2_with fail
        ((with_reducible refine HC4.out.mono ?_); rintro e w2 ⟨rfl, hb2⟩)
        have HS2 := Lib.hid (HS.out.keep hb2)
        clear hb2 f0 f1 f2 f3
        go_wp2_with fail
        exact ⟨⟨4, by omega, by go_num, (fun _ => K1.out (by omega)), (fun _ => K2.out (by omega)), (fun _ => K3.out (by omega)), (fun _ => (by first | rfl | trivial)), HS2.out⟩, by simp [intOf]⟩
    · have HT := Lib.hid (show E = 0 from by rw [HCE.out, if_neg (by rw [HW.out, K1.out (by omega), K2.out (by omega), K3.out (by omega), K4.out (by omega)]; decide)])
      go_wp2_with fail
      go_ret
      exact ⟨by rw [HT.out]; rfl, HS.out.below⟩
end Go.Proofs.YtnbbleajbbgmjaaDoor
