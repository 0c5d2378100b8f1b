import Derived.Test.YtnbbleajbbgmjaaDoorMRcW6
/- Contract of receipts.When: the times common to all receipts of a submission. -/
namespace Go.Proofs.YtnbbleajbbgmjaaDoor
open Go.RowKit Go.Shelf
attribute [local go_sem] Oper.semAt_some
set_option linter.unusedVariables false

/-- the times that all of the receipts leave -/
def Rc.mt (r : Option (Int × Int)) (x : Nat × Int × Int) : Option (Int × Int) :=
  match r with
  | none => none
  | some (a, b) => if Clk.meetOk a b x.2.1 x.2.2 = true then some (Clk.meetLo a b x.2.1 x.2.2, Clk.meetHi a b x.2.1 x.2.2) else none
def Rc.mts (xs : List (Nat × Int × Int)) : Option (Int × Int) := xs.foldl Rc.mt (some (0, 1048576))
theorem Rc.mts_snoc (xs : List (Nat × Int × Int)) (x : Nat × Int × Int) : Rc.mts (xs ++ [x]) = Rc.mt (Rc.mts xs) x := by unfold Rc.mts; rw [List.foldl_append]; rfl
theorem Rc.mt_none (xs : List (Nat × Int × Int)) : xs.foldl Rc.mt none = none := by
  induction xs with
  | nil => rfl
  | cons x xs ih => exact ih
theorem Rc.mts_none {xs ys : List (Nat × Int × Int)} (h : Rc.mts xs = none) : Rc.mts (xs ++ ys) = none := by
  unfold Rc.mts at h ⊢
  rw [List.foldl_append, h, Rc.mt_none]
/-- what When answers: of the error of read, and the receipts' times -/
def Rc.whenR (E : Int) (xs : List (Nat × Int × Int)) : Int × Int × Int := if E = 0 then (match Rc.mts xs with | none => (0, 0, 511) | some r => (r.1, r.2, 0)) else (0, 0, E)
def Rc.whenV (E : Int) (xs : List (Nat × Int × Int)) : Value := .tuple #[.agg #[.int .i64 (Rc.whenR E xs).1, .int .i64 (Rc.whenR E xs).2.1], .int .i64 (Rc.whenR E xs).2.2]
theorem has_own {β : Type} (g : Nat) (t : TypeId) (f : β → List Value) : Own (fun s W => Has W g t (f s)) := fun s X Y row hs hg hr =>
  (grownBy_keeps_cells hg hr hs rfl).trans hs
theorem Rc.chk_ok {K : List UInt32} {I : Dg.S} {c : List Rc.C} {subs : List Rc.Sb} {l : List Rc.R} : Rc.chkE K I c subs l = 0 ∨ Rc.chkE K I c subs l = 510 := by unfold Rc.chkE; split <;> simp
theorem Rc.ok_rf {K : List UInt32} {I : Dg.S} {c : List Rc.C} {subs : List Rc.Sb} {l : List Rc.R} (h : Rc.chkE K I c subs l = 0) : ∀ x ∈ l, 0 ≤ x.rf ∧ x.rf < c.length := by
  have h0 : Rc.wrong K I c subs l = false := by
    unfold Rc.chkE at h
    split at h
    · simp at h
    · rename_i h1; simpa using h1
  unfold Rc.wrong at h0
  simp only [Bool.or_eq_false_iff] at h0
  intro x hx
  obtain ⟨k, hk, he⟩ := List.mem_iff_getElem.1 hx
  have h1 := Rc.pre_no _ _ h0.2.2.2 k hk
  unfold Rc.badR at h1
  rw [List.getElem?_eq_getElem hk, he] at h1
  simp only [Bool.or_eq_false_iff, Bool.not_eq_false'] at h1
  have h2 := h1.1
  unfold Rc.inB at h2
  simpa using h2
theorem Rc.Kp.put {n0 ge gn z : Nat} {A B : World} (h : Rc.Kp n0 ge gn A B) (hz : n0 ≤ z) (h1 : ge ≠ z) (h2 : gn ≠ z) (i : Nat) (v : Value) : Rc.Kp n0 ge gn A (B.setCell ⟨z, i, none⟩ v) :=
  h.trans ⟨(Below.refl _ _).setCell hz _, Below.heap_setCell _ _ _ _ h1, Below.heap_setCell _ _ _ _ h2⟩
theorem Rc.Kp.new {n0 ge gn : Nat} {A B : World} (h : Rc.Kp n0 ge gn A B) (hz : n0 ≤ B.heap.size) (h1 : ge < B.heap.size) (h2 : gn < B.heap.size) (o : Obj) : Rc.Kp n0 ge gn A (B.alloc o) :=
  h.trans (.of ((Below.refl _ _).alloc (Nat.le_refl _) _) hz h1 h2)
theorem Has.grow {W W' : World} {row : Option Nat} {g : Nat} {t : TypeId} {cs : List Value} (h : Has W g t cs) (hg : W.grownBy W' row) (hr : ∀ r, row = some r → ∃ o : Obj, W.heap[r]? = some o ∧ o.isCells = false) : Has W' g t cs :=
  (grownBy_keeps_cells hg hr h rfl).trans h
theorem Has.putD {W : World} {g D : Nat} {t : TypeId} {cs : List Value} {ds : Option (List Deferred)} (h : Has W g t cs) (hD : W.heap[D]? = some (.deferred ds)) (o : Obj) : Has (W.putObj D o) g t cs :=
  (World.putObj_heap_other (fun e => by subst e; have := hD.symm.trans h; cases this)).trans h

theorem St.swap {w0 w : World} {a b : Nat × TypeId × List Value} {l : List (Nat × TypeId × List Value)} (h : St w0 w (a :: b :: l)) : St w0 w (b :: a :: l) := h.less (fun x hx => by
  rcases List.mem_cons.1 hx with rfl | hx
  · exact .tail _ (.head _)
  · rcases List.mem_cons.1 hx with rfl | hx
    · exact .head _
    · exact .tail _ (.tail _ hx))
/-- a loop's invariant: where the result's cells and the iterator's boxes lie -/
def Rc.wI (w : World) (z ge gn : Nat) (ev : List Value) (no : Int) (pre : List (Nat × Int × Int)) (W : World) : Prop :=
  ∃ a b, Rc.mts pre = some (a, b) ∧ Has W z 38 [.int .i64 a, .int .i64 b] ∧ Has W (z + 1) 32 [.int .i64 0] ∧ Has W ge 70 ev ∧ Has W gn 3 [Rc.i no] ∧ Below w.heap.size w W
theorem Rc.wI_own {w : World} {B z ge gn : Nat} {ev : List Value} {no : Int} (hB : w.heap.size ≤ B) : OwnFrom B (Rc.wI w z ge gn ev no) := by
  rintro pre X Y row ⟨a, b, hm, h8, h9, he, hn, hb⟩ hg hr
  have hr' : ∀ r, row = some r → ∃ o : Obj, X.heap[r]? = some o ∧ o.isCells = false := fun r e => (hr r e).2
  exact ⟨a, b, hm, h8.grow hg hr', h9.grow hg hr', he.grow hg hr', hn.grow hg hr', ownFrom_below (β := Unit) (Nat.le_refl _) hB () X Y row hb hg hr⟩
def Rc.wX (w : World) (z : Nat) (c : Code) (pre : List (Nat × Int × Int)) (W : World) : Prop :=
  c = .ret ∧ Rc.mts pre = none ∧ Has W z 38 [.int .i64 0, .int .i64 0] ∧ Has W (z + 1) 32 [.int .i64 511] ∧ Below w.heap.size w W
theorem Rc.wX_own {w : World} {B z : Nat} {c : Code} (hB : w.heap.size ≤ B) : OwnFrom B (Rc.wX w z c) := by
  rintro pre X Y row ⟨hc, hm, h8, h9, hb⟩ hg hr
  have hr' : ∀ r, row = some r → ∃ o : Obj, X.heap[r]? = some o ∧ o.isCells = false := fun r e => (hr r e).2
  exact ⟨hc, hm, h8.grow hg hr', h9.grow hg hr', ownFrom_below (β := Unit) (Nat.le_refl _) hB () X Y row hb hg hr⟩

set_option maxRecDepth 100000 in
set_option maxHeartbeats 8000000 in
theorem Rc.when_in (n : Nat) (hn : 6 ≤ n) (Ac As Al : Option Addr) (nc cc ns cs nl cl : Nat) (c : List Rc.C) (subs : List Rc.Sb) (l : List Rc.R) (no : Int) (K : List UInt32) (I : Dg.S) (w : World) (hE : Rc.Ev w w.heap.size Ac As Al nc ns nl c subs l) (hG : Dg.G w K I) :
    CallsIn Fence.wide n Tryd.prog 16 #[.slice Ac nc cc, .slice As ns cs, .slice Al nl cl, Rc.i no] w fun e w' => e = .returned (Rc.whenV (Rc.readE (Rc.chkE K I c subs l) ns no) (Rc.ofs c l no)) ∧ Below w.heap.size w w' := by
  have h1 : 1 ≤ n := by omega
  have h2 : 1 ≤ n - 1 := by omega
  have h3 : 1 ≤ n - 1 - 1 := by omega
  have hfn : ∀ f, Fence.wide.fn f := fun _ => trivial
  obtain ⟨W1, hW1⟩ : ∃ W1, W1 = (w.alloc (.cells #[.int .i64 0, .int .i64 0] 38)).alloc (.cells #[.int .i64 0] 32) := ⟨_, rfl⟩
  have HST1 := Lib.hid (show St w W1 [(w.heap.size + 1, 32, [.int .i64 0]), (w.heap.size, 38, [.int .i64 0, .int .i64 0])] from by
    rw [hW1]
    have h := ((St.start w).new 38 [.int .i64 0, .int .i64 0]).new 32 [.int .i64 0]
    simp only [World.size_alloc] at h
    exact h)
  have HEV := Lib.hid (hE.up HST1.out.below)
  have HRD := Lib.hid (Rc.read_any Ac As Al nc cc ns cs nl cl c subs l no K I W1 HEV.out (hG.keep HST1.out.below))
  have HRF := Lib.hid (show Rc.chkE K I c subs l = 0 → ∀ x ∈ l, 0 ≤ x.rf ∧ x.rf < nc from fun h => by rw [← hE.c.len]; exact Rc.ok_rf h)
  have hEE := Rc.chk_ok (K := K) (I := I) (c := c) (subs := subs) (l := l)
  generalize Rc.chkE K I c subs l = E0 at HRD HRF hEE ⊢
  clear hG
  by_cases hq : E0 = 0 ∧ Rc.inB no ns = true
  · have HV : Rc.readV E0 ns no [.slice Ac nc cc, .slice As ns cs, .slice Al nl cl] = [.slice Ac nc cc, .slice As ns cs, .slice Al nl cl] ∧ Rc.readE E0 ns no = 0 := ⟨by rw [Rc.readV, if_pos hq], by rw [Rc.readE, if_pos hq.1, if_pos hq.2]⟩
    rw [HV.1, HV.2] at HRD
    rw [HV.2]
    have HRF := Lib.hid (HRF.out hq.1)
    clear HV hq hEE
    refine callsIn_of_wp_marks Tryd.func16 rfl trivial ?_ rfl
    simp only [Tryd.ntmps16, List.size_toArray, List.length_cons, List.length_nil, Nat.reduceAdd, Nat.reduceSub, Array.replicate_succ, Array.replicate_zero, List.push_toArray, List.append_toArray, List.nil_append, List.cons_append]
    gi_wp2_with (first
      | (gi_at_call 44
         rw [← hW1]
         (with_reducible refine (callsIn_wide.2 HRD.out).mono ?_)
         rintro e w2 ⟨rfl, hb2⟩
         have HS2 := Lib.hid (HST1.out.keep hb2)
         have c8 := HS2.out.nth 1 rfl
         have c9 := HS2.out.nth 0 rfl
         obtain ⟨z8, c80, c81⟩ := c8.r2
         obtain ⟨z9, c90⟩ := c9.r1
         have f80 := c8.frozen 0
         have f81 := c8.frozen 1
         have f90 := c9.frozen 0
         clear c8 c9 hb2)
      | (gi_at_call 45
         (refine (callsIn_wide.2 (Rc.of_any _ _ _ rfl rfl rfl no _)).mono ?_)
         rintro e w3 ⟨rfl, hw3⟩))
    obtain ⟨ge, hge⟩ : ∃ ge, ge = w2.heap.size + 1 := ⟨_, rfl⟩
    obtain ⟨gn, hgn⟩ : ∃ gn, gn = ge + 1 := ⟨_, rfl⟩
    have hS3 : St w w3 [(gn, 3, [Rc.i no]), (ge, 70, [.slice Ac nc cc, .slice As ns cs, .slice Al nl cl]), (w2.heap.size, 70, [.slice Ac nc cc, .slice As ns cs, .slice Al nl cl]), (w.heap.size, 38, [.int .i64 0, .int .i64 1048576]), (w.heap.size + 1, 32, [.int .i64 0])] := by
      have g := ((((HS2.out.put (by omega) (by simp) 0 (.int .i64 0)).swap.put (by omega) (by simp) 0 (.int .i64 0)).put (by omega) (by simp) 1 (.int .i64 1048576)).new 70 [.slice Ac nc cc, .slice As ns cs, .slice Al nl cl]).new 70 [.slice Ac nc cc, .slice As ns cs, .slice Al nl cl]
      have g := g.new 3 [Rc.i no]
      simp only [World.size_alloc, World.size_setCell] at g
      rw [← hge, ← hgn, hw3] at g
      exact g
    rw [← hge, ← hgn]
    have hz3 : w3.heap.size = w2.heap.size + 3 := by rw [← hw3]; simp
    have hzw2 : w.heap.size + 2 ≤ w2.heap.size := by omega
    have HS3 := Lib.hid hS3
    have HEV3 := Lib.hid ((hE.keep hS3.below))
    have hgz : ge < w3.heap.size ∧ gn < w3.heap.size := by omega
    have HOF := Lib.hid (Rc.of_stops (n - 1) (by omega) ge gn Ac As Al nc cc ns cs nl cl c subs l no w.heap.size w3 hS3.below.size HEV3.out HRF.out hgz.1 hgz.2 ((hS3.nth 1 rfl).cell 0) ((hS3.nth 1 rfl).cell 1) ((hS3.nth 1 rfl).cell 2) ((hS3.nth 0 rfl).cell 0))
    have hgew : w.heap.size + 2 < ge := by omega
    have hgnw : w.heap.size + 2 < gn := by omega
    clear hw3 hge hgn HRD hS3 HS2 c80 c81 c90 f80 f81 f90 z8 z9 HRF
    refine wpIn_rangeFunc_ownH rfl h1 (gf := 65) (lb := #[.pointer (some ⟨ge, 0, none⟩), .pointer (some ⟨gn, 0, none⟩)]) rfl trivial (enters_of Tryd.func65 (by kernel_rfl) rfl)
      HOF.out (fun h k => h.trans k)
      (fun W l o o' hl ho hc hw => ⟨belowK_b (w := w3) (by omega) W l o o' hl ho hc hw, World.putObj_heap_other (by omega), World.putObj_heap_other (by omega)⟩)
      (Below.refl _ _) (fun _ => rfl)
      (Rc.wI w w.heap.size ge gn [.slice Ac nc cc, .slice As ns cs, .slice Al nl cl] no) (Rc.wX w w.heap.size) (Rc.wI_own (by omega)) (fun c => Rc.wX_own (by omega))
      ⟨0, 1048576, rfl, HS3.out.nth 3 rfl, HS3.out.nth 4 rfl, HS3.out.nth 1 rfl, HS3.out.nth 0 rfl, HS3.out.below⟩
      (fun x a' W => ∃ rb, Has W rb 82 [Rc.i x.2.1, Rc.i x.2.2] ∧ a' = { tmps := #[.slice Ac nc cc, .slice As ns cs, .slice Al nl cl, Rc.i no, undef, undef, undef, undef, .pointer (some ⟨w.heap.size, 0, none⟩), .pointer (some ⟨w.heap.size + 1, 0, none⟩), .pointer (some ⟨w2.heap.size, 0, none⟩), undef, .pointer (some ⟨rb, 0, none⟩), undef, undef, .tuple #[.agg #[.slice Ac nc cc, .slice As ns cs, .slice Al nl cl], .int .i64 0], .slice Ac nc cc, .slice As ns cs, .slice Al nl cl, Rc.i no, .tuple #[.agg #[.slice Ac nc cc, .slice As ns cs, .slice Al nl cl], .int .i64 0], .agg #[.slice Ac nc cc, .slice As ns cs, .slice Al nl cl], .int .i64 0, .int .i64 0, .bool false, undef, undef, .agg #[.int .i64 0, .int .i64 1048576], .agg #[.slice Ac nc cc, .slice As ns cs, .slice Al nl cl], Rc.i no, .func (.func 65) #[] #[.pointer (some ⟨ge, 0, none⟩), .pointer (some ⟨gn, 0, none⟩)], .int .i64 (x.1 : Int), .agg #[Rc.i x.2.1, Rc.i x.2.2], undef, undef, undef, undef, undef, undef, undef, undef, undef, undef, undef], defers := [] })
      (fun x a' _ X Y row ⟨rb, hx, he⟩ hg hr => ⟨rb, hx.grow hg (fun r e => (hr r e).2), he⟩) ?assign ?body ?done ?stop
    case assign =>
      rintro L pre ⟨k, lo, hi⟩ W K ⟨a, b, hm, g8, g9, hge, hgn, hB⟩ hK
      have HK := Lib.hid hK
      clear hK
      dsimp only [Rc.enc]
      gi_wp2
      exact HK.out _ _ ((KeepsOthers.alloc _ _).from _) ((Rc.Kp.of (Below.refl _ _) hB.size hge.lt hgn.lt).new hB.size hge.lt hgn.lt _) ⟨a, b, hm, g8.alloc _, g9.alloc _, hge.alloc _, hgn.alloc _, hB.alloc hB.size _⟩ ⟨_, Has.new _ _ _, rfl⟩
    case body =>
      rintro L pre ⟨k, lo, hi⟩ a' W hL hrec ⟨a, b, hm, g8, g9, hge, hgn, hB⟩ ⟨rb, hx, rfl⟩ hlen
      have HM := Lib.hid (show Rc.mts (pre ++ [(k, lo, hi)]) = if Clk.meetOk a b lo hi = true then some (Clk.meetLo a b lo hi, Clk.meetHi a b lo hi) else none from by rw [Rc.mts_snoc, hm]; rfl)
      clear hm hrec hlen
      have HMT := Lib.hid (fun W' => Clk.meet_any a b lo hi W')
      obtain ⟨z8, c80, c81⟩ := g8.r2
      obtain ⟨zx, cx0, cx1⟩ := hx.r2
      have HG := Lib.hid (fun (w' : World) (h : Below W.heap.size W w') => (⟨g8.keep h, g9.keep h, hge.keep h, hgn.keep h, hB.trans (h.mono hB.size)⟩ :
        Has w' w.heap.size 38 [.int .i64 a, .int .i64 b] ∧ Has w' (w.heap.size + 1) 32 [.int .i64 0] ∧ Has w' ge 70 [.slice Ac nc cc, .slice As ns cs, .slice Al nl cl] ∧ Has w' gn 3 [Rc.i no] ∧ Below w.heap.size w w'))
      have HKP := Lib.hid (Rc.Kp.of (n0 := w.heap.size) (ge := ge) (gn := gn) (Below.refl W.heap.size W) hB.size hge.lt hgn.lt)
      have hzz := hB.size
      have zge := hge.lt
      have zgn := hgn.lt
      clear g8 g9 hge hgn hB hx HOF HEV3 HEV HST1
      cases hok : Clk.meetOk a b lo hi with
      | true =>
        rw [hok] at HM HMT
        rw [if_pos rfl] at HM
        clear hok
        generalize Clk.meetLo a b lo hi = lo' at HM HMT
        generalize Clk.meetHi a b lo hi = hi' at HM HMT
        gi_wp2_with (first
          | (gi_at_call 25
             (with_reducible refine (CallsIn.inRound L (callsIn_wide.2 (HMT.out _))).mono ?_)
             rintro e w4 ⟨rfl, hb4⟩
             obtain ⟨g8', g9', ge', gn', hB'⟩ := HG.out w4 hb4
             obtain ⟨y8, d80, d81⟩ := g8'.r2
             have f80 := g8'.frozen 0
             have f81 := g8'.frozen 1
             have H8 := Lib.hid g8'
             have H9 := Lib.hid g9'
             have HGE := Lib.hid ge'
             have HGN := Lib.hid gn'
             have HB4 := Lib.hid hb4
             have HBB := Lib.hid hB'
             clear g8' g9' ge' gn' hB' hb4 c80 c81 cx0 cx1))
        have hs4 := HB4.out.size
        refine ⟨KeepsOthers.from (((keepsOthers_of_below HB4.out).trans ((KeepsOthers.setCell _ _ _).trans (KeepsOthers.setCell _ _ _))).trans (KeepsOthers.alloc _ _)) _,
          (((HKP.out.step hzz zge zgn HB4.out).put (Nat.le_refl _) (by omega) (by omega) 0 _).put (Nat.le_refl _) (by omega) (by omega) 1 _).new (by rw [World.size_setCell, World.size_setCell]; omega) (by rw [World.size_setCell, World.size_setCell]; omega) (by rw [World.size_setCell, World.size_setCell]; omega) _,
          lo', hi', HM.out, ((H8.out.set 0 _).set 1 _).alloc _, ((H9.out.far (p := ⟨w.heap.size, 0, none⟩) (by show w.heap.size + 1 ≠ w.heap.size; omega) _).far (p := ⟨w.heap.size, 1, none⟩) (by show w.heap.size + 1 ≠ w.heap.size; omega) _).alloc _,
          ((HGE.out.far (p := ⟨w.heap.size, 0, none⟩) (by show ge ≠ w.heap.size; omega) _).far (p := ⟨w.heap.size, 1, none⟩) (by show ge ≠ w.heap.size; omega) _).alloc _, ((HGN.out.far (p := ⟨w.heap.size, 0, none⟩) (by show gn ≠ w.heap.size; omega) _).far (p := ⟨w.heap.size, 1, none⟩) (by show gn ≠ w.heap.size; omega) _).alloc _,
          ((HBB.out.setCell (p := ⟨w.heap.size, 0, none⟩) (Nat.le_refl _) _).setCell (p := ⟨w.heap.size, 1, none⟩) (Nat.le_refl _) _).alloc (by rw [World.size_setCell, World.size_setCell]; exact HBB.out.size) _⟩
      | false =>
        rw [hok] at HM HMT
        rw [if_neg (by decide)] at HM
        clear hok
        generalize Clk.meetLo a b lo hi = lo' at HM HMT
        generalize Clk.meetHi a b lo hi = hi' at HM HMT
        gi_wp2_with (first
          | (gi_at_call 25
             (with_reducible refine (CallsIn.inRound L (callsIn_wide.2 (HMT.out _))).mono ?_)
             rintro e w4 ⟨rfl, hb4⟩
             obtain ⟨g8', g9', ge', gn', hB'⟩ := HG.out w4 hb4
             obtain ⟨y8, d80, d81⟩ := g8'.r2
             obtain ⟨y9, d90⟩ := g9'.r1
             have f80 := g8'.frozen 0
             have f81 := g8'.frozen 1
             have f90 := g9'.frozen 0
             have H8 := Lib.hid g8'
             have H9 := Lib.hid g9'
             have HB4 := Lib.hid hb4
             have HBB := Lib.hid hB'
             clear g8' g9' ge' gn' hB' hb4 c80 c81 cx0 cx1))
        have hs4 := HB4.out.size
        refine ⟨KeepsOthers.from (((keepsOthers_of_below HB4.out).trans (((KeepsOthers.setCell _ _ _).trans (KeepsOthers.setCell _ _ _)).trans (KeepsOthers.setCell _ _ _))).trans (KeepsOthers.alloc _ _)) _,
          rfl, HM.out, (((H8.out.set 0 _).set 1 _).far (p := ⟨w.heap.size + 1, 0, none⟩) (by show w.heap.size ≠ w.heap.size + 1; omega) _).alloc _,
          (((H9.out.far (p := ⟨w.heap.size, 0, none⟩) (by show w.heap.size + 1 ≠ w.heap.size; omega) _).far (p := ⟨w.heap.size, 1, none⟩) (by show w.heap.size + 1 ≠ w.heap.size; omega) _).set 0 _).alloc _,
          (((HBB.out.setCell (p := ⟨w.heap.size, 0, none⟩) (Nat.le_refl _) _).setCell (p := ⟨w.heap.size, 1, none⟩) (Nat.le_refl _) _).setCell (p := ⟨w.heap.size + 1, 0, none⟩) (by show w.heap.size ≤ w.heap.size + 1; omega) _).alloc (by rw [World.size_setCell, World.size_setCell, World.size_setCell]; exact HBB.out.size) _⟩
    case done =>
      rintro D xs W hD rfl ⟨a, b, hm, g8, g9, hge, hgn, hB⟩ hK
      have HV := Lib.hid (show Rc.whenV 0 (Rc.ofs c l no) = .tuple #[.agg #[.int .i64 a, .int .i64 b], .int .i64 0] from by unfold Rc.whenV Rc.whenR; rw [if_pos rfl, hm])
      obtain ⟨z8, c80, c81⟩ := g8.r2
      obtain ⟨z9, c90⟩ := g9.r1
      have f80 := g8.frozen 0
      have f81 := g8.frozen 1
      have f90 := g9.frozen 0
      have H8 := Lib.hid g8
      have H9 := Lib.hid g9
      have HB := Lib.hid hB
      have HK := Lib.hid hK
      clear hge hgn hB g8 g9 hK hm HOF HEV3 HEV HST1
      gi_wp2
      have hne : D ≠ w.heap.size := by omega
      have hne1 : D ≠ w.heap.size + 1 := by omega
      obtain ⟨W', hW'⟩ : ∃ W', W' = ((W.setCell ⟨w.heap.size, 0, none⟩ (.int .i64 a)).setCell ⟨w.heap.size, 1, none⟩ (.int .i64 b)).setCell ⟨w.heap.size + 1, 0, none⟩ (.int .i64 0) := ⟨_, rfl⟩
      rw [← hW']
      have k8 : Has W' w.heap.size 38 [.int .i64 a, .int .i64 b] := by rw [hW']; exact ((H8.out.set 0 _).set 1 _).far (p := ⟨w.heap.size + 1, 0, none⟩) (by show w.heap.size ≠ w.heap.size + 1; omega) _
      have k9 : Has W' (w.heap.size + 1) 32 [.int .i64 0] := by rw [hW']; exact ((H9.out.far (p := ⟨w.heap.size, 0, none⟩) (by show w.heap.size + 1 ≠ w.heap.size; omega) _).far (p := ⟨w.heap.size, 1, none⟩) (by show w.heap.size + 1 ≠ w.heap.size; omega) _).set 0 _
      have kB : Below w.heap.size w W' := by rw [hW']; exact ((HB.out.setCell (p := ⟨w.heap.size, 0, none⟩) (Nat.le_refl _) _).setCell (p := ⟨w.heap.size, 1, none⟩) (Nat.le_refl _) _).setCell (p := ⟨w.heap.size + 1, 0, none⟩) (by show w.heap.size ≤ w.heap.size + 1; omega) _
      have kK : W'.heap[D]? = some (.deferred (some [])) := by rw [hW', Below.heap_setCell _ _ _ _ hne1, Below.heap_setCell _ _ _ _ hne, Below.heap_setCell _ _ _ _ hne]; exact HK.out
      have r8 := k8.putD kK (.deferred none)
      have r9 := k9.putD kK (.deferred none)
      have e0 : (W'.putObj D (.deferred none)).cell? ⟨w.heap.size, 0, none⟩ = some (.int .i64 a) := r8.cell 0
      have e1 : (W'.putObj D (.deferred none)).cell? ⟨w.heap.size, 1, none⟩ = some (.int .i64 b) := r8.cell 1
      have e2 : (W'.putObj D (.deferred none)).cell? ⟨w.heap.size + 1, 0, none⟩ = some (.int .i64 0) := r9.cell 0
      have kB2 : Below w.heap.size w (W'.putObj D (.deferred none)) := kB.trans (belowK_b (w := w3) (by omega) W' D _ _ hD kK rfl rfl)
      clear r8 r9 k8 k9 c80 c81 c90 f80 f81 f90
      refine ⟨by simp, .inl ⟨_, _, rfl, run_takeDeferred kK, ?_⟩⟩
      generalize W'.putObj D (.deferred none) = WD at e0 e1 e2 kB2 ⊢
      exact ⟨.tuple #[.agg #[.int .i64 a, .int .i64 b], .int .i64 0], (by simp [results, Tryd.results16, go_sem, e0, e1, e2]), by rw [HV.out], kB2⟩
    case stop =>
      rintro D c' pre W hD ⟨r, hr⟩ ⟨rfl, hm, g8, g9, hB⟩ hK
      have HV := Lib.hid (show Rc.whenV 0 (Rc.ofs c l no) = .tuple #[.agg #[.int .i64 0, .int .i64 0], .int .i64 511] from by unfold Rc.whenV Rc.whenR; rw [if_pos rfl, ← hr, Rc.mts_none hm])
      have HK := Lib.hid hK
      have HB := Lib.hid hB
      have H8 := Lib.hid g8
      have H9 := Lib.hid g9
      clear hm hr hB hK g8 g9 HOF HEV3 HEV HST1
      gi_wp2
      have kK := HK.out
      have r8 := H8.out.putD kK (.deferred none)
      have r9 := H9.out.putD kK (.deferred none)
      have e0 : (W.putObj D (.deferred none)).cell? ⟨w.heap.size, 0, none⟩ = some (.int .i64 0) := r8.cell 0
      have e1 : (W.putObj D (.deferred none)).cell? ⟨w.heap.size, 1, none⟩ = some (.int .i64 0) := r8.cell 1
      have e2 : (W.putObj D (.deferred none)).cell? ⟨w.heap.size + 1, 0, none⟩ = some (.int .i64 511) := r9.cell 0
      have kB2 : Below w.heap.size w (W.putObj D (.deferred none)) := HB.out.trans (belowK_b (w := w3) (by omega) W D _ _ hD kK rfl rfl)
      refine ⟨by simp, .inl ⟨_, _, rfl, run_takeDeferred kK, ?_⟩⟩
      generalize W.putObj D (.deferred none) = WD at e0 e1 e2 kB2 ⊢
      exact ⟨.tuple #[.agg #[.int .i64 0, .int .i64 0], .int .i64 511], (by simp [results, Tryd.results16, go_sem, e0, e1, e2]), by rw [HV.out], kB2⟩
  · have HV : Rc.readV E0 ns no [.slice Ac nc cc, .slice As ns cs, .slice Al nl cl] = [.slice none 0 0, .slice none 0 0, .slice none 0 0] := by rw [Rc.readV, if_neg hq]; rfl
    rw [HV] at HRD
    have hER : Rc.readE E0 ns no = 510 ∨ Rc.readE E0 ns no = 1 := by
      unfold Rc.readE
      rcases hEE with rfl | rfl
      · rw [if_pos rfl, if_neg (fun h => hq ⟨rfl, h⟩)]; exact .inr rfl
      · exact .inl rfl
    have HWV := Lib.hid (show Rc.readE E0 ns no ≠ 0 → Rc.whenV (Rc.readE E0 ns no) (Rc.ofs c l no) = .tuple #[.agg #[.int .i64 0, .int .i64 0], .int .i64 (Rc.readE E0 ns no)] from fun h => by unfold Rc.whenV Rc.whenR; rw [if_neg h])
    generalize Rc.readE E0 ns no = E1 at HRD HWV hER ⊢
    clear HV hq hEE HRF
    have hne : E1 ≠ 0 := by rcases hER with rfl | rfl <;> decide
    have HWV2 := Lib.hid (HWV.out hne)
    have hq1 : (E1 != 0) = true := by simpa using hne
    clear hER hne
    refine callsIn_of_wp_marks Tryd.func16 rfl trivial ?_ rfl
    simp only [Tryd.ntmps16, List.size_toArray, List.length_cons, List.length_nil, Nat.reduceAdd, Nat.reduceSub, Array.replicate_succ, Array.replicate_zero, List.push_toArray, List.append_toArray, List.nil_append, List.cons_append]
    gi_wp2_with (first
      | (gi_at_call 44
         rw [← hW1]
         (with_reducible refine (callsIn_wide.2 HRD.out).mono ?_)
         rintro e w2 ⟨rfl, hb2⟩
         have HS2 := Lib.hid (HST1.out.keep hb2)
         have c8 := HS2.out.nth 1 rfl
         have c9 := HS2.out.nth 0 rfl
         obtain ⟨z8, c80, c81⟩ := c8.r2
         obtain ⟨z9, c90⟩ := c9.r1
         have f80 := c8.frozen 0
         have f81 := c8.frozen 1
         have f90 := c9.frozen 0
         clear c8 c9 hb2))
    gi_region
    gi_wp2
    have r8 := (((((HS2.out.nth 1 rfl).far (p := ⟨w.heap.size + 1, 0, none⟩) (by show w.heap.size ≠ w.heap.size + 1; omega) (.int .i64 E1)).set 0 (.int .i64 0)).set 1 (.int .i64 0)).far (p := ⟨w.heap.size + 1, 0, none⟩) (by show w.heap.size ≠ w.heap.size + 1; omega) (.int .i64 E1)).alloc (.cells #[.slice none 0 0, .slice none 0 0, .slice none 0 0] 70)
    have r9 := (((((HS2.out.nth 0 rfl).set 0 (.int .i64 E1)).far (p := ⟨w.heap.size, 0, none⟩) (by show w.heap.size + 1 ≠ w.heap.size; omega) (.int .i64 0)).far (p := ⟨w.heap.size, 1, none⟩) (by show w.heap.size + 1 ≠ w.heap.size; omega) (.int .i64 0)).set 0 (.int .i64 E1)).alloc (.cells #[.slice none 0 0, .slice none 0 0, .slice none 0 0] 70)
    have kB := (((((HS2.out.below.setCell (p := ⟨w.heap.size + 1, 0, none⟩) (by show w.heap.size ≤ w.heap.size + 1; omega) (.int .i64 E1)).setCell (p := ⟨w.heap.size, 0, none⟩) (Nat.le_refl _) (.int .i64 0)).setCell (p := ⟨w.heap.size, 1, none⟩) (Nat.le_refl _) (.int .i64 0)).setCell (p := ⟨w.heap.size + 1, 0, none⟩) (by show w.heap.size ≤ w.heap.size + 1; omega) (.int .i64 E1)).alloc (by rw [World.size_setCell, World.size_setCell, World.size_setCell, World.size_setCell]; omega) (.cells #[.slice none 0 0, .slice none 0 0, .slice none 0 0] 70)).drew
    have e0 := r8.drew.cell 0
    have e1 := r8.drew.cell 1
    have e2 := r9.drew.cell 0
    simp only [List.set_cons_zero, List.set_cons_succ, List.getElem?_cons_zero, List.getElem?_cons_succ] at e0 e1 e2
    clear r8 r9 c80 c81 c90 f80 f81 f90
    generalize (World.alloc _ _).drew = WD at kB e0 e1 e2 ⊢
    exact ⟨.tuple #[.agg #[.int .i64 0, .int .i64 0], .int .i64 E1], (by simp [results, Tryd.results16, go_sem, e0, e1, e2]), by rw [HWV2.out], kB⟩
theorem Rc.when_any (Ac As Al : Option Addr) (nc cc ns cs nl cl : Nat) (c : List Rc.C) (subs : List Rc.Sb) (l : List Rc.R) (no : Int) (K : List UInt32) (I : Dg.S) (w : World) (hE : Rc.Ev w w.heap.size Ac As Al nc ns nl c subs l) (hG : Dg.G w K I) :
    Calls Tryd.prog 16 #[.slice Ac nc cc, .slice As ns cs, .slice Al nl cl, Rc.i no] w fun e w' => e = .returned (Rc.whenV (Rc.readE (Rc.chkE K I c subs l) ns no) (Rc.ofs c l no)) ∧ Below w.heap.size w w' :=
  callsIn_wide.1 (Rc.when_in 10 (by omega) Ac As Al nc cc ns cs nl cl c subs l no K I w hE hG)
end Go.Proofs.YtnbbleajbbgmjaaDoor
