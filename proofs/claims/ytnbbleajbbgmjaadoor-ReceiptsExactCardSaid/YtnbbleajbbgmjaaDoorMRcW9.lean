import Derived.Test.YtnbbleajbbgmjaaDoorMRcW8
/- Contract of receipts.Conflict: the first two receipts that contradict each other. -/
namespace Go.Proofs.YtnbbleajbbgmjaaDoor
open Go.RowKit Go.Shelf
attribute [local go_sem] Oper.semAt_some
set_option linter.unusedVariables false

/-- do two receipts contradict each other, the first one first? -/
def Rc.badP (x y : Nat × Int × Int) : Bool := decide (x.1 < y.1) && (decide (x.2.2 < y.2.1) || decide (y.2.2 < x.2.1))
def Rc.hit (xs : List (Nat × Int × Int)) (x : Nat × Int × Int) : Option (Nat × Nat) := (xs.find? (Rc.badP x)).map fun y => (x.1, y.1)
def Rc.conf (xs : List (Nat × Int × Int)) : Option (Nat × Nat) := xs.findSome? (Rc.hit xs)
/-- what Conflict answers -/
def Rc.confR (E : Int) (xs : List (Nat × Int × Int)) : Int × Int × Bool × Int := if E = 0 then (match Rc.conf xs with | none => (0, 0, false, 0) | some p => ((p.1 : Int), (p.2 : Int), true, 0)) else (0, 0, false, E)
def Rc.confV (E : Int) (xs : List (Nat × Int × Int)) : Value := .tuple #[.int .i64 (Rc.confR E xs).1, .int .i64 (Rc.confR E xs).2.1, .bool (Rc.confR E xs).2.2.1, .int .i64 (Rc.confR E xs).2.2.2]
def Rc.cL (z S0 ge gn : Nat) (ev : List Value) (no : Int) (r0 r1 : Nat) (r2 : Bool) (r3 : Int) : List (Nat × TypeId × List Value) :=
  [(z + 1 + 1 + 1 + 1, 32, [.int .i64 r3]), (z + 1 + 1 + 1, 4, [.bool r2]), (z + 1 + 1, 3, [.int .i64 (r1 : Int)]), (z + 1, 3, [.int .i64 (r0 : Int)]), (z, 3, [Rc.i no]), (S0, 70, ev), (S0 + 1, 85, [.func (.func 48) #[] #[]]), (ge, 70, ev), (gn, 3, [Rc.i no])]
theorem St.own {w0 : World} {B : Nat} {l : List (Nat × TypeId × List Value)} (hB : w0.heap.size ≤ B) : OwnFrom B (fun (_ : Unit) W => St w0 W l) := fun _ X Y row hs hg hr =>
  ⟨ownFrom_below (β := Unit) (Nat.le_refl _) hB () X Y row hs.below hg hr, fun x hx => (hs.has x hx).grow hg (fun r e => (hr r e).2)⟩

theorem Rc.cL_put {w W : World} {S0 ge gn : Nat} {ev : List Value} {no : Int} {r0 r1 : Nat} {r2 : Bool} {r3 : Int} (h : St w W (Rc.cL w.heap.size S0 ge gn ev no r0 r1 r2 r3)) (hS : w.heap.size + 5 ≤ S0) (hge : w.heap.size + 5 < ge) (hgn : w.heap.size + 5 < gn) (a b : Nat) (ok : Bool) (e : Int) :
    St w ((((W.setCell ⟨w.heap.size + 1, 0, none⟩ (.int .i64 (a : Int))).setCell ⟨w.heap.size + 1 + 1, 0, none⟩ (.int .i64 (b : Int))).setCell ⟨w.heap.size + 1 + 1 + 1, 0, none⟩ (.bool ok)).setCell ⟨w.heap.size + 1 + 1 + 1 + 1, 0, none⟩ (.int .i64 e)) (Rc.cL w.heap.size S0 ge gn ev no a b ok e) ∧ KeepsOthers W ((((W.setCell ⟨w.heap.size + 1, 0, none⟩ (.int .i64 (a : Int))).setCell ⟨w.heap.size + 1 + 1, 0, none⟩ (.int .i64 (b : Int))).setCell ⟨w.heap.size + 1 + 1 + 1, 0, none⟩ (.bool ok)).setCell ⟨w.heap.size + 1 + 1 + 1 + 1, 0, none⟩ (.int .i64 e)) :=
  ⟨⟨((((h.below.setCell (p := ⟨w.heap.size + 1, 0, none⟩) (by show w.heap.size ≤ w.heap.size + 1; omega) (.int .i64 (a : Int))).setCell (p := ⟨w.heap.size + 1 + 1, 0, none⟩) (by show w.heap.size ≤ w.heap.size + 1 + 1; omega) (.int .i64 (b : Int))).setCell (p := ⟨w.heap.size + 1 + 1 + 1, 0, none⟩) (by show w.heap.size ≤ w.heap.size + 1 + 1 + 1; omega) (.bool ok)).setCell (p := ⟨w.heap.size + 1 + 1 + 1 + 1, 0, none⟩) (by show w.heap.size ≤ w.heap.size + 1 + 1 + 1 + 1; omega) (.int .i64 e)), fun x hx => by
    simp only [Rc.cL, List.mem_cons, List.not_mem_nil, or_false] at hx
    rcases hx with rfl | rfl | rfl | rfl | rfl | rfl | rfl | rfl | rfl
    · exact (((((h.nth 0 rfl).far (p := ⟨w.heap.size + 1, 0, none⟩) (by show w.heap.size + 1 + 1 + 1 + 1 ≠ w.heap.size + 1; omega) (.int .i64 (a : Int))).far (p := ⟨w.heap.size + 1 + 1, 0, none⟩) (by show w.heap.size + 1 + 1 + 1 + 1 ≠ w.heap.size + 1 + 1; omega) (.int .i64 (b : Int))).far (p := ⟨w.heap.size + 1 + 1 + 1, 0, none⟩) (by show w.heap.size + 1 + 1 + 1 + 1 ≠ w.heap.size + 1 + 1 + 1; omega) (.bool ok)).set 0 (.int .i64 e))
    · exact (((((h.nth 1 rfl).far (p := ⟨w.heap.size + 1, 0, none⟩) (by show w.heap.size + 1 + 1 + 1 ≠ w.heap.size + 1; omega) (.int .i64 (a : Int))).far (p := ⟨w.heap.size + 1 + 1, 0, none⟩) (by show w.heap.size + 1 + 1 + 1 ≠ w.heap.size + 1 + 1; omega) (.int .i64 (b : Int))).set 0 (.bool ok)).far (p := ⟨w.heap.size + 1 + 1 + 1 + 1, 0, none⟩) (by show w.heap.size + 1 + 1 + 1 ≠ w.heap.size + 1 + 1 + 1 + 1; omega) (.int .i64 e))
    · exact (((((h.nth 2 rfl).far (p := ⟨w.heap.size + 1, 0, none⟩) (by show w.heap.size + 1 + 1 ≠ w.heap.size + 1; omega) (.int .i64 (a : Int))).set 0 (.int .i64 (b : Int))).far (p := ⟨w.heap.size + 1 + 1 + 1, 0, none⟩) (by show w.heap.size + 1 + 1 ≠ w.heap.size + 1 + 1 + 1; omega) (.bool ok)).far (p := ⟨w.heap.size + 1 + 1 + 1 + 1, 0, none⟩) (by show w.heap.size + 1 + 1 ≠ w.heap.size + 1 + 1 + 1 + 1; omega) (.int .i64 e))
    · exact (((((h.nth 3 rfl).set 0 (.int .i64 (a : Int))).far (p := ⟨w.heap.size + 1 + 1, 0, none⟩) (by show w.heap.size + 1 ≠ w.heap.size + 1 + 1; omega) (.int .i64 (b : Int))).far (p := ⟨w.heap.size + 1 + 1 + 1, 0, none⟩) (by show w.heap.size + 1 ≠ w.heap.size + 1 + 1 + 1; omega) (.bool ok)).far (p := ⟨w.heap.size + 1 + 1 + 1 + 1, 0, none⟩) (by show w.heap.size + 1 ≠ w.heap.size + 1 + 1 + 1 + 1; omega) (.int .i64 e))
    · exact (((((h.nth 4 rfl).far (p := ⟨w.heap.size + 1, 0, none⟩) (by show w.heap.size ≠ w.heap.size + 1; omega) (.int .i64 (a : Int))).far (p := ⟨w.heap.size + 1 + 1, 0, none⟩) (by show w.heap.size ≠ w.heap.size + 1 + 1; omega) (.int .i64 (b : Int))).far (p := ⟨w.heap.size + 1 + 1 + 1, 0, none⟩) (by show w.heap.size ≠ w.heap.size + 1 + 1 + 1; omega) (.bool ok)).far (p := ⟨w.heap.size + 1 + 1 + 1 + 1, 0, none⟩) (by show w.heap.size ≠ w.heap.size + 1 + 1 + 1 + 1; omega) (.int .i64 e))
    · exact (((((h.nth 5 rfl).far (p := ⟨w.heap.size + 1, 0, none⟩) (by show S0 ≠ w.heap.size + 1; omega) (.int .i64 (a : Int))).far (p := ⟨w.heap.size + 1 + 1, 0, none⟩) (by show S0 ≠ w.heap.size + 1 + 1; omega) (.int .i64 (b : Int))).far (p := ⟨w.heap.size + 1 + 1 + 1, 0, none⟩) (by show S0 ≠ w.heap.size + 1 + 1 + 1; omega) (.bool ok)).far (p := ⟨w.heap.size + 1 + 1 + 1 + 1, 0, none⟩) (by show S0 ≠ w.heap.size + 1 + 1 + 1 + 1; omega) (.int .i64 e))
    · exact (((((h.nth 6 rfl).far (p := ⟨w.heap.size + 1, 0, none⟩) (by show S0 + 1 ≠ w.heap.size + 1; omega) (.int .i64 (a : Int))).far (p := ⟨w.heap.size + 1 + 1, 0, none⟩) (by show S0 + 1 ≠ w.heap.size + 1 + 1; omega) (.int .i64 (b : Int))).far (p := ⟨w.heap.size + 1 + 1 + 1, 0, none⟩) (by show S0 + 1 ≠ w.heap.size + 1 + 1 + 1; omega) (.bool ok)).far (p := ⟨w.heap.size + 1 + 1 + 1 + 1, 0, none⟩) (by show S0 + 1 ≠ w.heap.size + 1 + 1 + 1 + 1; omega) (.int .i64 e))
    · exact (((((h.nth 7 rfl).far (p := ⟨w.heap.size + 1, 0, none⟩) (by show ge ≠ w.heap.size + 1; omega) (.int .i64 (a : Int))).far (p := ⟨w.heap.size + 1 + 1, 0, none⟩) (by show ge ≠ w.heap.size + 1 + 1; omega) (.int .i64 (b : Int))).far (p := ⟨w.heap.size + 1 + 1 + 1, 0, none⟩) (by show ge ≠ w.heap.size + 1 + 1 + 1; omega) (.bool ok)).far (p := ⟨w.heap.size + 1 + 1 + 1 + 1, 0, none⟩) (by show ge ≠ w.heap.size + 1 + 1 + 1 + 1; omega) (.int .i64 e))
    · exact (((((h.nth 8 rfl).far (p := ⟨w.heap.size + 1, 0, none⟩) (by show gn ≠ w.heap.size + 1; omega) (.int .i64 (a : Int))).far (p := ⟨w.heap.size + 1 + 1, 0, none⟩) (by show gn ≠ w.heap.size + 1 + 1; omega) (.int .i64 (b : Int))).far (p := ⟨w.heap.size + 1 + 1 + 1, 0, none⟩) (by show gn ≠ w.heap.size + 1 + 1 + 1; omega) (.bool ok)).far (p := ⟨w.heap.size + 1 + 1 + 1 + 1, 0, none⟩) (by show gn ≠ w.heap.size + 1 + 1 + 1 + 1; omega) (.int .i64 e))⟩, ((((KeepsOthers.refl W).trans (KeepsOthers.setCell _ ⟨w.heap.size + 1, 0, none⟩ (.int .i64 (a : Int)))).trans (KeepsOthers.setCell _ ⟨w.heap.size + 1 + 1, 0, none⟩ (.int .i64 (b : Int)))).trans (KeepsOthers.setCell _ ⟨w.heap.size + 1 + 1 + 1, 0, none⟩ (.bool ok))).trans (KeepsOthers.setCell _ ⟨w.heap.size + 1 + 1 + 1 + 1, 0, none⟩ (.int .i64 e))⟩
/-- what lies in memory in a round of the inner loop -/
def Rc.nI (w W : World) (B : Nat) (L : List (Nat × TypeId × List Value)) (rb1 rb2 ge2 gn2 : Nat) (ev : List Value) (no : Int) (x : Nat × Int × Int) (W' : World) : Prop :=
  St w W' L ∧ Has W' rb1 3 [.int .i64 (x.1 : Int)] ∧ Has W' rb2 82 [Rc.i x.2.1, Rc.i x.2.2] ∧ Has W' ge2 70 ev ∧ Has W' gn2 3 [Rc.i no] ∧ KeepsFrom B W W'
theorem Rc.nI_own {w W : World} {B B' : Nat} {L : List (Nat × TypeId × List Value)} {rb1 rb2 ge2 gn2 : Nat} {ev : List Value} {no : Int} {x : Nat × Int × Int} (h1 : w.heap.size ≤ B') (h2 : W.heap.size ≤ B') : OwnFrom B' (fun (_ : Unit) W' => Rc.nI w W B L rb1 rb2 ge2 gn2 ev no x W') := by
  rintro _ X Y row ⟨hs, a1, a2, a3, a4, hk⟩ hg hr
  have hr' : ∀ r, row = some r → ∃ o : Obj, X.heap[r]? = some o ∧ o.isCells = false := fun r e => (hr r e).2
  exact ⟨St.own h1 () X Y row hs hg hr, a1.grow hg hr', a2.grow hg hr', a3.grow hg hr', a4.grow hg hr', ownFrom_keepsFrom (β := Unit) h2 () X Y row hk hg hr⟩
theorem Rc.nI.keep {w W : World} {B : Nat} {L : List (Nat × TypeId × List Value)} {rb1 rb2 ge2 gn2 : Nat} {ev : List Value} {no : Int} {x : Nat × Int × Int} {X Y : World} (h : Rc.nI w W B L rb1 rb2 ge2 gn2 ev no x X) (hb : Below X.heap.size X Y) : Rc.nI w W B L rb1 rb2 ge2 gn2 ev no x Y :=
  ⟨h.1.keep hb, h.2.1.keep hb, h.2.2.1.keep hb, h.2.2.2.1.keep hb, h.2.2.2.2.1.keep hb, h.2.2.2.2.2.trans ((keepsOthers_of_below hb).from _)⟩
theorem Rc.undef_bool {b : Bool} : some undef = some (Value.bool b) → False := fun h => by cases h
theorem find_snoc {α : Type} {p : α → Bool} {l : List α} {y : α} (h : l.find? p = none) : (l ++ [y]).find? p = if p y = true then some y else none := by
  rw [List.find?_append, h, Option.none_or, List.find?_cons]
  cases p y <;> rfl
theorem Rc.Kp.of_has {n0 ge gn : Nat} {w A B : World} {t t' : TypeId} {cs cs' : List Value} (h : Below w.heap.size w A) (k : Below w.heap.size w B) (hn : n0 = w.heap.size) (hz : A.heap.size ≤ B.heap.size) (h1 : Has A ge t cs) (h2 : Has B ge t cs) (h3 : Has A gn t' cs') (h4 : Has B gn t' cs') : Rc.Kp n0 ge gn A B := by
  subst hn
  exact ⟨⟨k.os.trans h.os.symm, k.tape.trans h.tape.symm, k.output.trans h.output.symm, hz, fun i hi => (k.block i hi).trans (h.block i hi).symm⟩, Eq.trans h2 h1.symm, Eq.trans h4 h3.symm⟩

set_option maxRecDepth 100000 in
set_option maxHeartbeats 8000000 in
theorem Rc.conf_in (n : Nat) (hn : 9 ≤ n) (Ac As Al : Option Addr) (nc cc ns cs nl cl : Nat) (c : List Rc.C) (subs : List Rc.Sb) (l : List Rc.R) (no : Int) (K : List UInt32) (I : Dg.S) (w : World) (hE : Rc.Ev w w.heap.size Ac As Al nc ns nl c subs l) (hG : Dg.G w K I) :
    CallsIn Fence.wide n Tryd.prog 18 #[.slice Ac nc cc, .slice As ns cs, .slice Al nl cl, Rc.i no] w fun e w' => e = .returned (Rc.confV (Rc.readE (Rc.chkE K I c subs l) ns no) (Rc.ofs c l no)) ∧ Below w.heap.size w w' := by
  have h1 : 1 ≤ n := by omega
  have h2 : 1 ≤ n - 1 := by omega
  have h3 : 1 ≤ n - 1 - 1 := by omega
  have h4 : 1 ≤ n - 1 - 1 - 1 := by omega
  have hfn : ∀ f, Fence.wide.fn f := fun _ => trivial
  obtain ⟨z, hz⟩ : ∃ z, z = w.heap.size := ⟨_, rfl⟩
  obtain ⟨W1, hW1⟩ : ∃ W1, W1 = ((((w.alloc (.cells #[Rc.i no] 3)).alloc (.cells #[.int .i64 0] 3)).alloc (.cells #[.int .i64 0] 3)).alloc (.cells #[.bool false] 4)).alloc (.cells #[.int .i64 0] 32) := ⟨_, rfl⟩
  have HST1 := Lib.hid (show St w W1 [(w.heap.size + 1 + 1 + 1 + 1, 32, [.int .i64 0]), (w.heap.size + 1 + 1 + 1, 4, [.bool false]), (w.heap.size + 1 + 1, 3, [.int .i64 0]), (w.heap.size + 1, 3, [.int .i64 0]), (w.heap.size, 3, [Rc.i no])] from by
    rw [hW1]
    have h := (((((St.start w).new 3 [Rc.i no]).new 3 [.int .i64 0]).new 3 [.int .i64 0]).new 4 [.bool false]).new 32 [.int .i64 0]
    simp only [World.size_alloc] at h
    exact h)
  have HEV := Lib.hid (hE.up HST1.out.below)
  have HRD := Lib.hid (Rc.read_any Ac As Al nc cc ns cs nl cl c subs l no K I W1 HEV.out (hG.keep HST1.out.below))
  have HRF := Lib.hid (show Rc.chkE K I c subs l = 0 → ∀ x ∈ l, 0 ≤ x.rf ∧ x.rf < nc from fun h => by rw [← hE.c.len]; exact Rc.ok_rf h)
  have hEE := Rc.chk_ok (K := K) (I := I) (c := c) (subs := subs) (l := l)
  generalize Rc.chkE K I c subs l = E0 at HRD HRF hEE ⊢
  have HEW := Lib.hid hE
  clear hG hE
  by_cases hq : E0 = 0 ∧ Rc.inB no ns = true
  · have HV : Rc.readV E0 ns no [.slice Ac nc cc, .slice As ns cs, .slice Al nl cl] = [.slice Ac nc cc, .slice As ns cs, .slice Al nl cl] ∧ Rc.readE E0 ns no = 0 := ⟨by rw [Rc.readV, if_pos hq], by rw [Rc.readE, if_pos hq.1, if_pos hq.2]⟩
    rw [HV.1, HV.2] at HRD
    rw [HV.2]
    have HRF := Lib.hid (HRF.out hq.1)
    clear HV hq hEE
    refine callsIn_of_wp_marks Tryd.func18 rfl trivial ?_ rfl
    simp only [Tryd.ntmps18, List.size_toArray, List.length_cons, List.length_nil, Nat.reduceAdd, Nat.reduceSub, Array.replicate_succ, Array.replicate_zero, List.push_toArray, List.append_toArray, List.nil_append, List.cons_append]
    gi_wp2_with (first
      | (gi_at_call 44
         rw [← hW1]
         (with_reducible refine (callsIn_wide.2 HRD.out).mono ?_)
         rintro e w2 ⟨rfl, hb2⟩
         have HS2 := Lib.hid (HST1.out.keep hb2)
         have c9 := HS2.out.nth 0 rfl
         obtain ⟨z7, c70⟩ := (HS2.out.nth 4 rfl).r1
         obtain ⟨z9, c90⟩ := c9.r1
         have f90 := c9.frozen 0
         clear c9 hb2)
      | (gi_at_call 45
         (refine (callsIn_wide.2 (Rc.of_any _ _ _ rfl rfl rfl no _)).mono ?_)
         rintro e w3 ⟨rfl, hw3⟩))
    obtain ⟨S0, hS0⟩ : ∃ S0, S0 = w2.heap.size := ⟨_, rfl⟩
    obtain ⟨ge, hge⟩ : ∃ ge, ge = S0 + 1 + 1 := ⟨_, rfl⟩
    obtain ⟨gn, hgn⟩ : ∃ gn, gn = ge + 1 := ⟨_, rfl⟩
    have hS3 : St w w3 (Rc.cL w.heap.size S0 ge gn [.slice Ac nc cc, .slice As ns cs, .slice Al nl cl] no 0 0 false 0) := by
      have g := ((((HS2.out.put (by omega) (fun x hx => by simp only [List.mem_cons, List.not_mem_nil, or_false] at hx; rcases hx with rfl | rfl | rfl | rfl <;> (dsimp only; omega)) 0 (.int .i64 0)).new 70 [.slice Ac nc cc, .slice As ns cs, .slice Al nl cl]).new 85 [.func (.func 48) #[] #[]]).new 70 [.slice Ac nc cc, .slice As ns cs, .slice Al nl cl]).new 3 [Rc.i no]
      simp only [World.size_alloc, World.size_setCell] at g
      rw [← hS0, ← hge, ← hgn, hw3] at g
      refine g.less (fun x hx => ?_)
      simp only [Rc.cL, List.mem_cons, List.not_mem_nil, or_false] at hx
      rcases hx with rfl | rfl | rfl | rfl | rfl | rfl | rfl | rfl | rfl
      · exact List.mem_of_getElem? (i := 4) rfl
      · exact List.mem_of_getElem? (i := 5) rfl
      · exact List.mem_of_getElem? (i := 6) rfl
      · exact List.mem_of_getElem? (i := 7) rfl
      · exact List.mem_of_getElem? (i := 8) rfl
      · exact List.mem_of_getElem? (i := 3) rfl
      · exact List.mem_of_getElem? (i := 2) rfl
      · exact List.mem_of_getElem? (i := 1) rfl
      · exact List.mem_of_getElem? (i := 0) rfl
    rw [← hS0, ← hge, ← hgn]
    have hz3 : w3.heap.size = S0 + 4 := by rw [← hw3, hS0]; simp
    have hzw2 : w.heap.size + 5 ≤ S0 := by omega
    have HS3 := Lib.hid hS3
    have HEV3 := Lib.hid ((HEW.out.keep hS3.below))
    have hgz : ge < w3.heap.size ∧ gn < w3.heap.size := by omega
    have HOF := Lib.hid (Rc.of_stops (n - 1) (by omega) ge gn Ac As Al nc cc ns cs nl cl c subs l no w.heap.size w3 hS3.below.size HEV3.out HRF.out hgz.1 hgz.2 ((hS3.nth 7 rfl).cell 0) ((hS3.nth 7 rfl).cell 1) ((hS3.nth 7 rfl).cell 2) ((hS3.nth 8 rfl).cell 0))
    have hgew : w.heap.size + 5 < ge := by omega
    have hgnw : w.heap.size + 5 < gn := by omega
    have hSge : S0 + 1 < ge := by omega
    have hSgn : S0 + 1 < gn := by omega
    have hgg : ge < gn := by omega
    have hS03 : S0 + 4 ≤ w3.heap.size := by omega
    clear hw3 hz3 hS0 hge hgn HRD hS3 HS2 c70 c90 f90 z7 z9
    refine wpIn_rangeFunc_ownH rfl h1 (gf := 65) (lb := #[.pointer (some ⟨ge, 0, none⟩), .pointer (some ⟨gn, 0, none⟩)]) rfl trivial (enters_of Tryd.func65 (by kernel_rfl) rfl)
      HOF.out (fun h k => h.trans k)
      (fun W l o o' hl ho hc hw => ⟨belowK_b (w := w3) (by omega) W l o o' hl ho hc hw, World.putObj_heap_other (by omega), World.putObj_heap_other (by omega)⟩)
      (Below.refl _ _) (fun _ => rfl)
      (fun pre W => pre.findSome? (Rc.hit (Rc.ofs c l no)) = none ∧ St w W (Rc.cL w.heap.size S0 ge gn [.slice Ac nc cc, .slice As ns cs, .slice Al nl cl] no 0 0 false 0))
      (fun c' pre W => c' = .ret ∧ ∃ p, pre.findSome? (Rc.hit (Rc.ofs c l no)) = some p ∧ St w W (Rc.cL w.heap.size S0 ge gn [.slice Ac nc cc, .slice As ns cs, .slice Al nl cl] no p.1 p.2 true 0))
      (fun pre X Y row hs hg hr => ⟨hs.1, St.own (B := w3.heap.size) (by omega) () X Y row hs.2 hg hr⟩)
      (fun c' pre X Y row hs hg hr => ⟨hs.1, by obtain ⟨p, hp, hs2⟩ := hs.2; exact ⟨p, hp, St.own (B := w3.heap.size) (by omega) () X Y row hs2 hg hr⟩⟩)
      ⟨rfl, HS3.out⟩
      (fun x a' W => ∃ rb1 rb2, Has W rb1 3 [.int .i64 (x.1 : Int)] ∧ Has W rb2 82 [Rc.i x.2.1, Rc.i x.2.2] ∧ a' = { tmps := #[.slice Ac nc cc, .slice As ns cs, .slice Al nl cl, Rc.i no, undef, undef, undef, .pointer (some ⟨w.heap.size, 0, none⟩), .pointer (some ⟨w.heap.size + 1, 0, none⟩), .pointer (some ⟨w.heap.size + 1 + 1, 0, none⟩), .pointer (some ⟨w.heap.size + 1 + 1 + 1, 0, none⟩), .pointer (some ⟨w.heap.size + 1 + 1 + 1 + 1, 0, none⟩), .pointer (some ⟨S0, 0, none⟩), .pointer (some ⟨S0 + 1, 0, none⟩), .pointer (some ⟨rb1, 0, none⟩), .pointer (some ⟨rb2, 0, none⟩), undef, undef, .tuple #[.agg #[.slice Ac nc cc, .slice As ns cs, .slice Al nl cl], .int .i64 0], .slice Ac nc cc, .slice As ns cs, .slice Al nl cl, Rc.i no, .tuple #[.agg #[.slice Ac nc cc, .slice As ns cs, .slice Al nl cl], .int .i64 0], .agg #[.slice Ac nc cc, .slice As ns cs, .slice Al nl cl], .int .i64 0, .int .i64 0, .bool false, undef, .agg #[.slice Ac nc cc, .slice As ns cs, .slice Al nl cl], Rc.i no, .func (.func 65) #[] #[.pointer (some ⟨ge, 0, none⟩), .pointer (some ⟨gn, 0, none⟩)], .int .i64 (x.1 : Int), .agg #[Rc.i x.2.1, Rc.i x.2.2], undef, undef, undef, undef, undef, undef, undef, undef, undef, undef, undef, undef, undef, undef, undef, undef, undef, undef, undef, undef, undef, undef], defers := [] })
      (fun x a' _ X Y row ⟨rb1, rb2, hx1, hx2, he⟩ hg hr => ⟨rb1, rb2, hx1.grow hg (fun r e => (hr r e).2), hx2.grow hg (fun r e => (hr r e).2), he⟩) ?assign ?body ?done ?stop
    case assign =>
      rintro L pre ⟨i1, lo, hi⟩ W K ⟨hpre, hS⟩ hK
      have HK := Lib.hid hK
      have HS := Lib.hid hS
      have HPRE := Lib.hid hpre
      have hge := (hS.nth 7 rfl).lt
      have hgn := (hS.nth 8 rfl).lt
      have hlw := hS.le
      clear hK hS hpre
      dsimp only [Rc.enc]
      gi_wp2
      refine HK.out _ _ (((KeepsOthers.alloc _ _).trans (KeepsOthers.alloc _ _)).from _) (((Rc.Kp.of (Below.refl _ _) hlw hge hgn).new hlw hge hgn _).new (by simp; omega) (by simp; omega) (by simp; omega) _) ⟨HPRE.out, (HS.out.alloc _).alloc _⟩ ⟨_, _, (Has.new _ _ _).alloc _, by first | exact Has.new _ _ _ | (have h := Has.new (W.alloc (.cells #[.int .i64 (i1 : Int)] 3)) 82 [Rc.i lo, Rc.i hi]; rw [World.size_alloc] at h; exact h), rfl⟩
    case body =>
      rintro L pre ⟨i1, lo, hi⟩ a' W hL ⟨rL, hrL⟩ ⟨hpre, hS⟩ ⟨rb1, rb2, hx1, hx2, rfl⟩ hlen
      have HPRE := Lib.hid hpre
      have HS := Lib.hid hS
      have HX1 := Lib.hid hx1
      have HX2 := Lib.hid hx2
      obtain ⟨z7, c70⟩ := (hS.nth 4 rfl).r1
      obtain ⟨z12, c120, c121, c122⟩ := (hS.nth 5 rfl).r3
      clear hpre hS hx1 hx2 hlen HOF
      gi_wp2_with (first
        | (gi_at_call 45
           (refine (CallsIn.inRound L (callsIn_wide.2 (Rc.of_any _ _ _ rfl rfl rfl no _))).mono ?_)
           rintro e w4 ⟨rfl, hw4⟩))
      have hz4 : w4.heap.size = W.heap.size + 2 := by rw [← hw4]; simp
      have hB4 : Below W.heap.size W w4 := by rw [← hw4]; exact ((Below.refl _ _).alloc (Nat.le_refl _) _).alloc (by simp) _
      have hge2 : Has w4 W.heap.size 70 [.slice Ac nc cc, .slice As ns cs, .slice Al nl cl] := by rw [← hw4]; exact (Has.new W _ [.slice Ac nc cc, .slice As ns cs, .slice Al nl cl]).alloc _
      have hgn2 : Has w4 (W.heap.size + 1) 3 [Rc.i no] := by
        rw [← hw4]
        have h := Has.new (W.alloc (.cells [.slice Ac nc cc, .slice As ns cs, .slice Al nl cl].toArray 70)) 3 [Rc.i no]
        rwa [World.size_alloc] at h
      obtain ⟨ge2, hge2e⟩ : ∃ ge2, ge2 = W.heap.size := ⟨_, rfl⟩
      obtain ⟨gn2, hgn2e⟩ : ∃ gn2, gn2 = ge2 + 1 := ⟨_, rfl⟩
      rw [← hge2e, ← hgn2e] at hgn2
      rw [← hge2e] at hge2
      rw [← hge2e, ← hgn2e]
      have hS4 := HS.out.keep hB4
      have hww4 := hS4.le
      have hwW := HS.out.le
      have HN4 := Lib.hid (show Rc.nI w W w3.heap.size (Rc.cL w.heap.size S0 ge gn [.slice Ac nc cc, .slice As ns cs, .slice Al nl cl] no 0 0 false 0) rb1 rb2 ge2 gn2 [.slice Ac nc cc, .slice As ns cs, .slice Al nl cl] no (i1, lo, hi) w4 from ⟨hS4, HX1.out.keep hB4, HX2.out.keep hB4, hge2, hgn2, (keepsOthers_of_below hB4).from _⟩)
      have HOF2 := Lib.hid ((Rc.of_stops (n - 1 - 1 - 1) (by omega) ge2 gn2 Ac As Al nc cc ns cs nl cl c subs l no w.heap.size w4 hww4 (HEW.out.keep hS4.below) HRF.out hge2.lt hgn2.lt (hge2.cell 0) (hge2.cell 1) (hge2.cell 2) (hgn2.cell 0)).inRound L)
      have hrL4 : w4.heap[L]? = some (.loop rL) := (hB4.block L (Array.getElem?_eq_some_iff.1 hrL).1).trans hrL
      have hW4 : W.heap.size ≤ w4.heap.size := by omega
      have hlg2 : w.heap.size + 5 < ge2 := by
        have := (HS.out.nth 8 rfl).lt
        omega
      have hz2 : ge2 < w4.heap.size ∧ gn2 < w4.heap.size := ⟨hge2.lt, hgn2.lt⟩
      clear hw4 hz4 hge2e hgn2e hge2 hgn2 hS4 c70 c120 c121 c122 z7 z12 hB4 HX1 HX2
      refine wpIn_rangeFunc_ownN (l₀ := L) rfl hrL4 h3 (gf := 65) (lb := #[.pointer (some ⟨ge2, 0, none⟩), .pointer (some ⟨gn2, 0, none⟩)]) rfl trivial (enters_of Tryd.func65 (by kernel_rfl) rfl)
        HOF2.out (fun h k => h.trans k)
        (fun W' l' o o' hl ho hc hw => ⟨belowK_b (w := w4) hww4 W' l' o o' hl ho hc hw, World.putObj_heap_other (by omega), World.putObj_heap_other (by omega)⟩)
        (Below.refl _ _) (fun _ => rfl)
        (fun pre2 W' => pre2.find? (Rc.badP (i1, lo, hi)) = none ∧ Rc.nI w W w3.heap.size (Rc.cL w.heap.size S0 ge gn [.slice Ac nc cc, .slice As ns cs, .slice Al nl cl] no 0 0 false 0) rb1 rb2 ge2 gn2 [.slice Ac nc cc, .slice As ns cs, .slice Al nl cl] no (i1, lo, hi) W')
        (fun c' pre2 W' => c' = .ret ∧ ∃ y, pre2.find? (Rc.badP (i1, lo, hi)) = some y ∧ St w W' (Rc.cL w.heap.size S0 ge gn [.slice Ac nc cc, .slice As ns cs, .slice Al nl cl] no i1 y.1 true 0) ∧ KeepsFrom w3.heap.size W W')
        (fun pre2 X Y row hs hg hr => ⟨hs.1, Rc.nI_own hww4 hW4 () X Y row hs.2 hg hr⟩)
        (fun c' pre2 X Y row hs hg hr => ⟨hs.1, by obtain ⟨y, hy, hs2, hk2⟩ := hs.2; exact ⟨y, hy, St.own hww4 () X Y row hs2 hg hr, ownFrom_keepsFrom (β := Unit) hW4 () X Y row hk2 hg hr⟩⟩)
        ⟨rfl, HN4.out⟩
        (fun y a' W' => ∃ rb3, Has W' rb3 82 [Rc.i y.2.1, Rc.i y.2.2] ∧ a' = { tmps := #[.slice Ac nc cc, .slice As ns cs, .slice Al nl cl, Rc.i no, undef, undef, undef, .pointer (some ⟨w.heap.size, 0, none⟩), .pointer (some ⟨w.heap.size + 1, 0, none⟩), .pointer (some ⟨w.heap.size + 1 + 1, 0, none⟩), .pointer (some ⟨w.heap.size + 1 + 1 + 1, 0, none⟩), .pointer (some ⟨w.heap.size + 1 + 1 + 1 + 1, 0, none⟩), .pointer (some ⟨S0, 0, none⟩), .pointer (some ⟨S0 + 1, 0, none⟩), .pointer (some ⟨rb1, 0, none⟩), .pointer (some ⟨rb2, 0, none⟩), .int .i64 (y.1 : Int), .pointer (some ⟨rb3, 0, none⟩), .tuple #[.agg #[.slice Ac nc cc, .slice As ns cs, .slice Al nl cl], .int .i64 0], .slice Ac nc cc, .slice As ns cs, .slice Al nl cl, Rc.i no, .tuple #[.agg #[.slice Ac nc cc, .slice As ns cs, .slice Al nl cl], .int .i64 0], .agg #[.slice Ac nc cc, .slice As ns cs, .slice Al nl cl], .int .i64 0, .int .i64 0, .bool false, undef, .agg #[.slice Ac nc cc, .slice As ns cs, .slice Al nl cl], Rc.i no, .func (.func 65) #[] #[.pointer (some ⟨ge, 0, none⟩), .pointer (some ⟨gn, 0, none⟩)], .int .i64 (i1 : Int), .agg #[Rc.i lo, Rc.i hi], .agg #[.slice Ac nc cc, .slice As ns cs, .slice Al nl cl], Rc.i no, .func (.func 65) #[] #[.pointer (some ⟨ge2, 0, none⟩), .pointer (some ⟨gn2, 0, none⟩)], .int .i64 (y.1 : Int), .agg #[Rc.i y.2.1, Rc.i y.2.2], undef, undef, undef, undef, undef, undef, undef, undef, undef, undef, undef, undef, undef, undef, undef, undef, undef], defers := [] })
        (fun y a' _ X Y row ⟨rb3, hx, he⟩ hg hr => ⟨rb3, hx.grow hg (fun r e => (hr r e).2), he⟩) ?assign2 ?body2 ?done2 ?stop2
      case assign2 =>
        rintro L2 pre2 ⟨k, lo2, hi2⟩ W' K ⟨hf, hN⟩ hK
        have HK := Lib.hid hK
        have HN := Lib.hid hN
        have HF := Lib.hid hf
        have hge := hN.2.2.2.1.lt
        have hgn := hN.2.2.2.2.1.lt
        have hlw := hN.1.le
        clear hK hN hf HOF2
        dsimp only [Rc.enc]
        gi_wp2
        exact HK.out _ _ ((KeepsOthers.alloc _ _).from _) ((Rc.Kp.of (Below.refl _ _) hlw hge hgn).new hlw hge hgn _) ⟨HF.out, HN.out.keep ((Below.refl _ _).alloc (Nat.le_refl _) _)⟩ ⟨_, Has.new _ _ _, rfl⟩
      case body2 =>
        rintro L2 pre2 ⟨k, lo2, hi2⟩ a' W' hL2 hr2 ⟨hf, hN⟩ ⟨rb3, hx3, rfl⟩ hlen2
        have HN := Lib.hid hN
        have HX3 := Lib.hid hx3
        have HFS := Lib.hid (find_snoc (p := Rc.badP (i1, lo, hi)) (y := (k, lo2, hi2)) hf)
        have HB1 := Lib.hid (fun W => Rc.before_any lo hi lo2 hi2 W)
        have HB2 := Lib.hid (fun W => Rc.before_any lo2 hi2 lo hi W)
        have hbd : Rc.badP (i1, lo, hi) (k, lo2, hi2) = (decide (i1 < k) && (decide (hi < lo2) || decide (hi2 < lo))) := rfl
        obtain ⟨aS, a1, a2, a3, a4, aK⟩ := hN
        have ac1 := a1.c1
        obtain ⟨ad0, ad1⟩ := a2.c2
        obtain ⟨ae0, ae1⟩ := (hx3).c2
        have af0 := (aS.nth 6 rfl).c1
        have ay4 := (aS.nth 0 rfl).c1
        have ay3 := (aS.nth 1 rfl).c1
        have ay2 := (aS.nth 2 rfl).c1
        have ay1 := (aS.nth 3 rfl).c1
        have az4 := (aS.nth 0 rfl).frozen 0
        have az3 := (aS.nth 1 rfl).frozen 0
        have az2 := (aS.nth 2 rfl).frozen 0
        have az1 := (aS.nth 3 rfl).frozen 0
        clear aS a1 a2 a3 a4 aK
        clear hf hr2 hlen2 hx3 HOF2 HN4 HS HPRE HEW HRF HEV HST1 HEV3 HS3 hrL hrL4
        by_cases hik : i1 < k
        · have hikI : (i1 : Int) < (k : Int) := by omega
          cases hb1 : decide (hi < lo2) with
          | true =>
            have HY := Lib.hid (show (pre2 ++ [(k, lo2, hi2)]).find? (Rc.badP (i1, lo, hi)) = some (k, lo2, hi2) from by rw [HFS.out, hbd, hb1, decide_eq_true hik, if_pos (by rfl)])
            rw [hb1] at HB1
            clear hb1 hbd
            gi_wp2_with fail
            refine ⟨fun _ => by omega, ?_⟩
            ((with_reducible refine (CallsIn.inRound L2 (CallsIn.inRound L (callsIn_wide.2 (HB1.out _)))).mono ?_); rintro e w5 ⟨rfl, hb_w5⟩)
            have HN5 := Lib.hid (HN.out.keep hb_w5)
            have HX5 := Lib.hid (HX3.out.keep hb_w5)
            have HB_w5 := Lib.hid hb_w5
            clear hb_w5 ac1 ad0 ad1 ae0 ae1 af0 ay4 ay3 ay2 ay1 az4 az3 az2 az1
            obtain ⟨bS, b1, b2, b3, b4, bK⟩ := HN5.out
            have bc1 := b1.c1
            obtain ⟨bd0, bd1⟩ := b2.c2
            obtain ⟨be0, be1⟩ := (HX5.out).c2
            have bf0 := (bS.nth 6 rfl).c1
            have by4 := (bS.nth 0 rfl).c1
            have by3 := (bS.nth 1 rfl).c1
            have by2 := (bS.nth 2 rfl).c1
            have by1 := (bS.nth 3 rfl).c1
            have bz4 := (bS.nth 0 rfl).frozen 0
            have bz3 := (bS.nth 1 rfl).frozen 0
            have bz2 := (bS.nth 2 rfl).frozen 0
            have bz1 := (bS.nth 3 rfl).frozen 0
            clear bS b1 b2 b3 b4 bK
            gi_wp2_with fail
            obtain ⟨kS, kK⟩ := Rc.cL_put HN5.out.1 hzw2 hgew hgnw i1 k true 0
            exact ⟨((keepsOthers_of_below HB_w5.out).trans kK).from _, rfl, _, HY.out, kS, HN5.out.2.2.2.2.2.trans (kK.from _)⟩
          | false =>
            rw [hb1] at HB1
            cases hb2 : decide (hi2 < lo) with
            | true =>
              have HY := Lib.hid (show (pre2 ++ [(k, lo2, hi2)]).find? (Rc.badP (i1, lo, hi)) = some (k, lo2, hi2) from by rw [HFS.out, hbd, hb1, hb2, decide_eq_true hik, if_pos (by rfl)])
              rw [hb2] at HB2
              clear hb1 hb2 hbd
              gi_wp2_with fail
              refine ⟨fun _ => by omega, ?_⟩
              ((with_reducible refine (CallsIn.inRound L2 (CallsIn.inRound L (callsIn_wide.2 (HB1.out _)))).mono ?_); rintro e w5 ⟨rfl, hb_w5⟩)
              have HN5 := Lib.hid (HN.out.keep hb_w5)
              have HX5 := Lib.hid (HX3.out.keep hb_w5)
              have HB_w5 := Lib.hid hb_w5
              clear hb_w5 ac1 ad0 ad1 ae0 ae1 af0 ay4 ay3 ay2 ay1 az4 az3 az2 az1
              obtain ⟨bS, b1, b2, b3, b4, bK⟩ := HN5.out
              have bc1 := b1.c1
              obtain ⟨bd0, bd1⟩ := b2.c2
              obtain ⟨be0, be1⟩ := (HX5.out).c2
              have bf0 := (bS.nth 6 rfl).c1
              have by4 := (bS.nth 0 rfl).c1
              have by3 := (bS.nth 1 rfl).c1
              have by2 := (bS.nth 2 rfl).c1
              have by1 := (bS.nth 3 rfl).c1
              have bz4 := (bS.nth 0 rfl).frozen 0
              have bz3 := (bS.nth 1 rfl).frozen 0
              have bz2 := (bS.nth 2 rfl).frozen 0
              have bz1 := (bS.nth 3 rfl).frozen 0
              clear bS b1 b2 b3 b4 bK
              gi_wp2_with fail
              refine ⟨fun _ => by omega, ?_⟩
              ((with_reducible refine (CallsIn.inRound L2 (CallsIn.inRound L (callsIn_wide.2 (HB2.out _)))).mono ?_); rintro e w6 ⟨rfl, hb_w6⟩)
              have HN6 := Lib.hid (HN5.out.keep hb_w6)
              have HX6 := Lib.hid (HX5.out.keep hb_w6)
              have HB_w6 := Lib.hid hb_w6
              clear hb_w6 bc1 bd0 bd1 be0 be1 bf0 by4 by3 by2 by1 bz4 bz3 bz2 bz1
              obtain ⟨dS, d1, d2, d3, d4, dK⟩ := HN6.out
              have dc1 := d1.c1
              obtain ⟨dd0, dd1⟩ := d2.c2
              obtain ⟨de0, de1⟩ := (HX6.out).c2
              have df0 := (dS.nth 6 rfl).c1
              have dy4 := (dS.nth 0 rfl).c1
              have dy3 := (dS.nth 1 rfl).c1
              have dy2 := (dS.nth 2 rfl).c1
              have dy1 := (dS.nth 3 rfl).c1
              have dz4 := (dS.nth 0 rfl).frozen 0
              have dz3 := (dS.nth 1 rfl).frozen 0
              have dz2 := (dS.nth 2 rfl).frozen 0
              have dz1 := (dS.nth 3 rfl).frozen 0
              clear dS d1 d2 d3 d4 dK
              gi_wp2_with fail
              obtain ⟨kS, kK⟩ := Rc.cL_put HN6.out.1 hzw2 hgew hgnw i1 k true 0
              exact ⟨(((keepsOthers_of_below HB_w5.out).trans (keepsOthers_of_below HB_w6.out)).trans kK).from _, rfl, _, HY.out, kS, HN6.out.2.2.2.2.2.trans (kK.from _)⟩
            | false =>
              have HY := Lib.hid (show (pre2 ++ [(k, lo2, hi2)]).find? (Rc.badP (i1, lo, hi)) = none from by rw [HFS.out, hbd, hb1, hb2, if_neg (by simp)])
              rw [hb2] at HB2
              clear hb1 hb2 hbd
              gi_wp2_with fail
              refine ⟨fun _ => by omega, ?_⟩
              ((with_reducible refine (CallsIn.inRound L2 (CallsIn.inRound L (callsIn_wide.2 (HB1.out _)))).mono ?_); rintro e w5 ⟨rfl, hb_w5⟩)
              have HN5 := Lib.hid (HN.out.keep hb_w5)
              have HX5 := Lib.hid (HX3.out.keep hb_w5)
              have HB_w5 := Lib.hid hb_w5
              clear hb_w5 ac1 ad0 ad1 ae0 ae1 af0 ay4 ay3 ay2 ay1 az4 az3 az2 az1
              obtain ⟨bS, b1, b2, b3, b4, bK⟩ := HN5.out
              have bc1 := b1.c1
              obtain ⟨bd0, bd1⟩ := b2.c2
              obtain ⟨be0, be1⟩ := (HX5.out).c2
              have bf0 := (bS.nth 6 rfl).c1
              have by4 := (bS.nth 0 rfl).c1
              have by3 := (bS.nth 1 rfl).c1
              have by2 := (bS.nth 2 rfl).c1
              have by1 := (bS.nth 3 rfl).c1
              have bz4 := (bS.nth 0 rfl).frozen 0
              have bz3 := (bS.nth 1 rfl).frozen 0
              have bz2 := (bS.nth 2 rfl).frozen 0
              have bz1 := (bS.nth 3 rfl).frozen 0
              clear bS b1 b2 b3 b4 bK
              gi_wp2_with fail
              refine ⟨fun _ => by omega, ?_⟩
              ((with_reducible refine (CallsIn.inRound L2 (CallsIn.inRound L (callsIn_wide.2 (HB2.out _)))).mono ?_); rintro e w6 ⟨rfl, hb_w6⟩)
              have HN6 := Lib.hid (HN5.out.keep hb_w6)
              have HX6 := Lib.hid (HX5.out.keep hb_w6)
              have HB_w6 := Lib.hid hb_w6
              clear hb_w6 bc1 bd0 bd1 be0 be1 bf0 by4 by3 by2 by1 bz4 bz3 bz2 bz1
              obtain ⟨dS, d1, d2, d3, d4, dK⟩ := HN6.out
              have dc1 := d1.c1
              obtain ⟨dd0, dd1⟩ := d2.c2
              obtain ⟨de0, de1⟩ := (HX6.out).c2
              have df0 := (dS.nth 6 rfl).c1
              have dy4 := (dS.nth 0 rfl).c1
              have dy3 := (dS.nth 1 rfl).c1
              have dy2 := (dS.nth 2 rfl).c1
              have dy1 := (dS.nth 3 rfl).c1
              have dz4 := (dS.nth 0 rfl).frozen 0
              have dz3 := (dS.nth 1 rfl).frozen 0
              have dz2 := (dS.nth 2 rfl).frozen 0
              have dz1 := (dS.nth 3 rfl).frozen 0
              clear dS d1 d2 d3 d4 dK
              gi_wp2_with fail
              exact ⟨((keepsOthers_of_below HB_w5.out).trans (keepsOthers_of_below HB_w6.out)).from _, Rc.Kp.of (HB_w5.out.trans (HB_w6.out.mono HB_w5.out.size)) HN.out.1.le HN.out.2.2.2.1.lt HN.out.2.2.2.2.1.lt, HY.out, HN6.out⟩
        · have HY := Lib.hid (show (pre2 ++ [(k, lo2, hi2)]).find? (Rc.badP (i1, lo, hi)) = none from by rw [HFS.out, hbd, decide_eq_false hik, if_neg (by simp)])
          have hikI : ¬ (i1 : Int) < (k : Int) := by omega
          have hikL : k ≤ i1 := by omega
          clear hbd
          gi_wp2_with fail
          all_goals first
            | exact (Rc.undef_bool ‹some undef = some (Value.bool _)›).elim
            | exact ⟨KeepsFrom.refl _ _, Rc.Kp.of (Below.refl _ _) HN.out.1.le HN.out.2.2.2.1.lt HN.out.2.2.2.2.1.lt, (by first | exact HY.out | (intro a a1 b hm; have := List.find?_eq_none.1 HY.out _ hm; simpa using this)), HN.out⟩
            | exact ⟨KeepsFrom.refl _ _, Rc.Kp.of (Below.refl _ _) HN.out.1.le HN.out.2.2.2.1.lt HN.out.2.2.2.2.1.lt, HY.out, HN.out⟩
      case done2 =>
        rintro xs W' rfl ⟨hf, hN⟩
        have HFF := Lib.hid (show (pre ++ [(i1, lo, hi)]).findSome? (Rc.hit (Rc.ofs c l no)) = none from by
          rw [List.findSome?_append, HPRE.out, Option.none_or, List.findSome?_cons]
          have h : Rc.hit (Rc.ofs c l no) (i1, lo, hi) = none := by unfold Rc.hit; rw [hf]; rfl
          rw [h]; rfl)
        have HN := Lib.hid hN
        clear hf hN HOF2 HN4 HPRE HEW HRF HEV HST1 HEV3 HS3 hrL hrL4
        gi_wp2
        exact ⟨HN.out.2.2.2.2.2, Rc.Kp.of_has HS.out.below HN.out.1.below rfl HN.out.2.2.2.2.2.size (HS.out.nth 7 rfl) (HN.out.1.nth 7 rfl) (HS.out.nth 8 rfl) (HN.out.1.nth 8 rfl), HFF.out, HN.out.1⟩
      case stop2 =>
        rintro c' pre2 W' ⟨r, hr⟩ ⟨rfl, y, hy, hS', hK'⟩
        have HFF := Lib.hid (show (pre ++ [(i1, lo, hi)]).findSome? (Rc.hit (Rc.ofs c l no)) = some (i1, y.1) from by
          rw [List.findSome?_append, HPRE.out, Option.none_or, List.findSome?_cons]
          have h : Rc.hit (Rc.ofs c l no) (i1, lo, hi) = some (i1, y.1) := by unfold Rc.hit; rw [← hr, List.find?_append, hy]; rfl
          rw [h])
        have HS' := Lib.hid hS'
        have HK' := Lib.hid hK'
        clear hy hr hS' hK' HOF2 HN4 HPRE HEW HRF HEV HST1 HEV3 HS3 hrL hrL4
        gi_wp2
        exact ⟨HK'.out, rfl, _, HFF.out, HS'.out⟩
    case done =>
      rintro D xs W hD rfl ⟨hnone, hS⟩ hK
      have HV := Lib.hid (show Rc.confV 0 (Rc.ofs c l no) = .tuple #[.int .i64 0, .int .i64 0, .bool false, .int .i64 0] from by unfold Rc.confV Rc.confR Rc.conf; rw [if_pos rfl, hnone])
      have HS := Lib.hid hS
      have HK := Lib.hid hK
      have ay4 := (hS.nth 0 rfl).c1
      have az4 := (hS.nth 0 rfl).frozen 0
      have ay3 := (hS.nth 1 rfl).c1
      have az3 := (hS.nth 1 rfl).frozen 0
      have ay2 := (hS.nth 2 rfl).c1
      have az2 := (hS.nth 2 rfl).frozen 0
      have ay1 := (hS.nth 3 rfl).c1
      have az1 := (hS.nth 3 rfl).frozen 0
      clear hnone hS hK HOF HEV3 HEV HST1 HEW HRF
      gi_wp2
      obtain ⟨kS, kK⟩ := Rc.cL_put HS.out hzw2 hgew hgnw 0 0 false 0
      obtain ⟨W', hW'⟩ : ∃ W', W' = ((((W.setCell ⟨w.heap.size + 1, 0, none⟩ (.int .i64 0)).setCell ⟨w.heap.size + 1 + 1, 0, none⟩ (.int .i64 0)).setCell ⟨w.heap.size + 1 + 1 + 1, 0, none⟩ (.bool false)).setCell ⟨w.heap.size + 1 + 1 + 1 + 1, 0, none⟩ (.int .i64 0)) := ⟨_, rfl⟩
      change St w ((((W.setCell ⟨w.heap.size + 1, 0, none⟩ (.int .i64 0)).setCell ⟨w.heap.size + 1 + 1, 0, none⟩ (.int .i64 0)).setCell ⟨w.heap.size + 1 + 1 + 1, 0, none⟩ (.bool false)).setCell ⟨w.heap.size + 1 + 1 + 1 + 1, 0, none⟩ (.int .i64 0)) _ at kS
      change KeepsOthers W ((((W.setCell ⟨w.heap.size + 1, 0, none⟩ (.int .i64 0)).setCell ⟨w.heap.size + 1 + 1, 0, none⟩ (.int .i64 0)).setCell ⟨w.heap.size + 1 + 1 + 1, 0, none⟩ (.bool false)).setCell ⟨w.heap.size + 1 + 1 + 1 + 1, 0, none⟩ (.int .i64 0)) at kK
      change bodyPostM _ _ _ _ _ _ _ ((((W.setCell ⟨w.heap.size + 1, 0, none⟩ (.int .i64 0)).setCell ⟨w.heap.size + 1 + 1, 0, none⟩ (.int .i64 0)).setCell ⟨w.heap.size + 1 + 1 + 1, 0, none⟩ (.bool false)).setCell ⟨w.heap.size + 1 + 1 + 1 + 1, 0, none⟩ (.int .i64 0))
      rw [← hW'] at kS kK ⊢
      clear hW'
      have kK2 : W'.heap[D]? = some (.deferred (some [])) := kK.same D _ HK.out rfl
      have kB2 : Below w.heap.size w (W'.putObj D (.deferred none)) := kS.below.trans (belowK_b (w := w3) (by omega) W' D _ _ hD kK2 rfl rfl)
      have e4 := ((kS.nth 0 rfl).putD kK2 (.deferred none)).c1
      have e3 := ((kS.nth 1 rfl).putD kK2 (.deferred none)).c1
      have e2 := ((kS.nth 2 rfl).putD kK2 (.deferred none)).c1
      have e1 := ((kS.nth 3 rfl).putD kK2 (.deferred none)).c1
      refine ⟨by simp, .inl ⟨_, _, rfl, run_takeDeferred kK2, ?_⟩⟩
      generalize W'.putObj D (.deferred none) = WD at e1 e2 e3 e4 kB2 ⊢
      exact ⟨.tuple #[.int .i64 0, .int .i64 0, .bool false, .int .i64 0], (by simp [results, Tryd.results18, go_sem, e1, e2, e3, e4]), by rw [HV.out], kB2⟩
    case stop =>
      rintro D c' pre W hD ⟨r, hr⟩ ⟨rfl, p, hp, hS⟩ hK
      have HV := Lib.hid (show Rc.confV 0 (Rc.ofs c l no) = .tuple #[.int .i64 (p.1 : Int), .int .i64 (p.2 : Int), .bool true, .int .i64 0] from by
        have h : Rc.conf (Rc.ofs c l no) = some p := by
          unfold Rc.conf
          have h2 : (pre ++ r).findSome? (Rc.hit (Rc.ofs c l no)) = some p := by rw [List.findSome?_append, hp]; rfl
          rw [hr] at h2
          exact h2
        unfold Rc.confV Rc.confR
        rw [if_pos rfl, h])
      have HS := Lib.hid hS
      have HK := Lib.hid hK
      obtain ⟨p1, p2⟩ := p
      clear hp hr hS hK HOF HEV3 HEV HST1 HEW HRF
      gi_wp2
      have kS := HS.out
      have kK2 := HK.out
      have kB2 : Below w.heap.size w (W.putObj D (.deferred none)) := kS.below.trans (belowK_b (w := w3) (by omega) W D _ _ hD kK2 rfl rfl)
      have e4 := ((kS.nth 0 rfl).putD kK2 (.deferred none)).c1
      have e3 := ((kS.nth 1 rfl).putD kK2 (.deferred none)).c1
      have e2 := ((kS.nth 2 rfl).putD kK2 (.deferred none)).c1
      have e1 := ((kS.nth 3 rfl).putD kK2 (.deferred none)).c1
      refine ⟨by simp, .inl ⟨_, _, rfl, run_takeDeferred kK2, ?_⟩⟩
      generalize W.putObj D (.deferred none) = WD at e1 e2 e3 e4 kB2 ⊢
      exact ⟨.tuple #[.int .i64 (p1 : Int), .int .i64 (p2 : Int), .bool true, .int .i64 0], (by simp [results, Tryd.results18, go_sem, e1, e2, e3, e4]), by rw [HV.out], kB2⟩
  · have HV : Rc.readV E0 ns no [.slice Ac nc cc, .slice As ns cs, .slice Al nl cl] = [.slice none 0 0, .slice none 0 0, .slice none 0 0] := by rw [Rc.readV, if_neg hq]; rfl
    rw [HV] at HRD
    have hER : Rc.readE E0 ns no = 510 ∨ Rc.readE E0 ns no = 1 := by
      unfold Rc.readE
      rcases hEE with rfl | rfl
      · rw [if_pos rfl, if_neg (fun h => hq ⟨rfl, h⟩)]; exact .inr rfl
      · exact .inl rfl
    have HWV := Lib.hid (show Rc.readE E0 ns no ≠ 0 → Rc.confV (Rc.readE E0 ns no) (Rc.ofs c l no) = .tuple #[.int .i64 0, .int .i64 0, .bool false, .int .i64 (Rc.readE E0 ns no)] from fun h => by unfold Rc.confV Rc.confR; rw [if_neg h])
    generalize Rc.readE E0 ns no = E1 at HRD HWV hER ⊢
    have hne : E1 ≠ 0 := by rcases hER with rfl | rfl <;> decide
    have HWV2 := Lib.hid (HWV.out hne)
    have hq1 : (E1 != 0) = true := by simpa using hne
    clear hER hne HV hq hEE HRF
    refine callsIn_of_wp_marks Tryd.func18 rfl trivial ?_ rfl
    simp only [Tryd.ntmps18, List.size_toArray, List.length_cons, List.length_nil, Nat.reduceAdd, Nat.reduceSub, Array.replicate_succ, Array.replicate_zero, List.push_toArray, List.append_toArray, List.nil_append, List.cons_append]
    gi_wp2_with (first
      | (gi_at_call 44
         rw [← hW1]
         (with_reducible refine (callsIn_wide.2 HRD.out).mono ?_)
         rintro e w2 ⟨rfl, hb2⟩
         have HS2 := Lib.hid (HST1.out.keep hb2)
         have y4 := (HS2.out.nth 0 rfl).c1
         have y3 := (HS2.out.nth 1 rfl).c1
         have y2 := (HS2.out.nth 2 rfl).c1
         have y1 := (HS2.out.nth 3 rfl).c1
         have x4 := (HS2.out.nth 0 rfl).frozen 0
         have x3 := (HS2.out.nth 1 rfl).frozen 0
         have x2 := (HS2.out.nth 2 rfl).frozen 0
         have x1 := (HS2.out.nth 3 rfl).frozen 0
         have z4 := (HS2.out.nth 0 rfl).lt
         have z3 := (HS2.out.nth 1 rfl).lt
         have z2 := (HS2.out.nth 2 rfl).lt
         have z1 := (HS2.out.nth 3 rfl).lt
         clear hb2))
    gi_region
    gi_wp2
    have e4 := ((((((((HS2.out.nth 0 rfl).set 0 (.int .i64 E1)).far (p := ⟨w.heap.size + 1, 0, none⟩) (by show w.heap.size + 1 + 1 + 1 + 1 ≠ w.heap.size + 1; omega) (.int .i64 0)).far (p := ⟨w.heap.size + 1 + 1, 0, none⟩) (by show w.heap.size + 1 + 1 + 1 + 1 ≠ w.heap.size + 1 + 1; omega) (.int .i64 0)).far (p := ⟨w.heap.size + 1 + 1 + 1, 0, none⟩) (by show w.heap.size + 1 + 1 + 1 + 1 ≠ w.heap.size + 1 + 1 + 1; omega) (.bool false)).set 0 (.int .i64 E1)).alloc (.cells #[.slice none 0 0, .slice none 0 0, .slice none 0 0] 70)).drew).cell 0
    have e3 := ((((((((HS2.out.nth 1 rfl).far (p := ⟨w.heap.size + 1 + 1 + 1 + 1, 0, none⟩) (by show w.heap.size + 1 + 1 + 1 ≠ w.heap.size + 1 + 1 + 1 + 1; omega) (.int .i64 E1)).far (p := ⟨w.heap.size + 1, 0, none⟩) (by show w.heap.size + 1 + 1 + 1 ≠ w.heap.size + 1; omega) (.int .i64 0)).far (p := ⟨w.heap.size + 1 + 1, 0, none⟩) (by show w.heap.size + 1 + 1 + 1 ≠ w.heap.size + 1 + 1; omega) (.int .i64 0)).set 0 (.bool false)).far (p := ⟨w.heap.size + 1 + 1 + 1 + 1, 0, none⟩) (by show w.heap.size + 1 + 1 + 1 ≠ w.heap.size + 1 + 1 + 1 + 1; omega) (.int .i64 E1)).alloc (.cells #[.slice none 0 0, .slice none 0 0, .slice none 0 0] 70)).drew).cell 0
    have e2 := ((((((((HS2.out.nth 2 rfl).far (p := ⟨w.heap.size + 1 + 1 + 1 + 1, 0, none⟩) (by show w.heap.size + 1 + 1 ≠ w.heap.size + 1 + 1 + 1 + 1; omega) (.int .i64 E1)).far (p := ⟨w.heap.size + 1, 0, none⟩) (by show w.heap.size + 1 + 1 ≠ w.heap.size + 1; omega) (.int .i64 0)).set 0 (.int .i64 0)).far (p := ⟨w.heap.size + 1 + 1 + 1, 0, none⟩) (by show w.heap.size + 1 + 1 ≠ w.heap.size + 1 + 1 + 1; omega) (.bool false)).far (p := ⟨w.heap.size + 1 + 1 + 1 + 1, 0, none⟩) (by show w.heap.size + 1 + 1 ≠ w.heap.size + 1 + 1 + 1 + 1; omega) (.int .i64 E1)).alloc (.cells #[.slice none 0 0, .slice none 0 0, .slice none 0 0] 70)).drew).cell 0
    have e1 := ((((((((HS2.out.nth 3 rfl).far (p := ⟨w.heap.size + 1 + 1 + 1 + 1, 0, none⟩) (by show w.heap.size + 1 ≠ w.heap.size + 1 + 1 + 1 + 1; omega) (.int .i64 E1)).set 0 (.int .i64 0)).far (p := ⟨w.heap.size + 1 + 1, 0, none⟩) (by show w.heap.size + 1 ≠ w.heap.size + 1 + 1; omega) (.int .i64 0)).far (p := ⟨w.heap.size + 1 + 1 + 1, 0, none⟩) (by show w.heap.size + 1 ≠ w.heap.size + 1 + 1 + 1; omega) (.bool false)).far (p := ⟨w.heap.size + 1 + 1 + 1 + 1, 0, none⟩) (by show w.heap.size + 1 ≠ w.heap.size + 1 + 1 + 1 + 1; omega) (.int .i64 E1)).alloc (.cells #[.slice none 0 0, .slice none 0 0, .slice none 0 0] 70)).drew).cell 0
    have kB := ((((((HS2.out.below.setCell (p := ⟨w.heap.size + 1 + 1 + 1 + 1, 0, none⟩) (by show w.heap.size ≤ w.heap.size + 1 + 1 + 1 + 1; omega) (.int .i64 E1)).setCell (p := ⟨w.heap.size + 1, 0, none⟩) (by show w.heap.size ≤ w.heap.size + 1; omega) (.int .i64 0)).setCell (p := ⟨w.heap.size + 1 + 1, 0, none⟩) (by show w.heap.size ≤ w.heap.size + 1 + 1; omega) (.int .i64 0)).setCell (p := ⟨w.heap.size + 1 + 1 + 1, 0, none⟩) (by show w.heap.size ≤ w.heap.size + 1 + 1 + 1; omega) (.bool false)).setCell (p := ⟨w.heap.size + 1 + 1 + 1 + 1, 0, none⟩) (by show w.heap.size ≤ w.heap.size + 1 + 1 + 1 + 1; omega) (.int .i64 E1)).alloc (by simp only [World.size_setCell]; omega) (.cells #[.slice none 0 0, .slice none 0 0, .slice none 0 0] 70)).drew
    simp only [List.set_cons_zero, List.getElem?_cons_zero] at e1 e2 e3 e4
    clear y1 y2 y3 y4 x1 x2 x3 x4
    generalize (World.alloc _ _).drew = WD at kB e1 e2 e3 e4 ⊢
    exact ⟨.tuple #[.int .i64 0, .int .i64 0, .bool false, .int .i64 E1], (by simp [results, Tryd.results18, go_sem, e1, e2, e3, e4]), by rw [HWV2.out], kB⟩
theorem Rc.conf_any (Ac As Al : Option Addr) (nc cc ns cs nl cl : Nat) (c : List Rc.C) (subs : List Rc.Sb) (l : List Rc.R) (no : Int) (K : List UInt32) (I : Dg.S) (w : World) (hE : Rc.Ev w w.heap.size Ac As Al nc ns nl c subs l) (hG : Dg.G w K I) :
    Calls Tryd.prog 18 #[.slice Ac nc cc, .slice As ns cs, .slice Al nl cl, Rc.i no] w fun e w' => e = .returned (Rc.confV (Rc.readE (Rc.chkE K I c subs l) ns no) (Rc.ofs c l no)) ∧ Below w.heap.size w w' :=
  callsIn_wide.1 (Rc.conf_in 10 (by omega) Ac As Al nc cc ns cs nl cl c subs l no K I w hE hG)
end Go.Proofs.YtnbbleajbbgmjaaDoor
