/- Contract of the closure 'last' of clocks.Times: the last time, going by halved distances, at which the clock can show the stamp. -/
import Derived.Test.YtnbbleajbbgmjaaDoorClkW3
namespace Go.Proofs.YtnbbleajbbgmjaaDoor
open Go.RowKit Go.Shelf
attribute [local go_sem] Oper.semAt_some
set_option linter.unusedVariables false

theorem Clk.go_tm (s er d x step t k : Int) (h : Clk.tmB t = true) : Clk.tmB (Clk.goB s er d x step t k) = true := by
  unfold Clk.goB
  split
  · rename_i h1; rw [Bool.and_eq_true] at h1; exact h1.1
  · exact h
theorem Clk.fold_tm (s er d x step : Int) (hx : Clk.tmB x = true) (l : List Int) : Clk.tmB (l.foldl (Clk.goB s er d x step) x) = true := by
  suffices H : ∀ (l : List Int) (t : Int), Clk.tmB t = true → Clk.tmB (l.foldl (Clk.goB s er d x step) t) = true from H l x hx
  intro l
  induction l with
  | nil => intro t h; exact h
  | cons a l ih => intro t h; exact ih _ (Clk.go_tm s er d x step t a h)

theorem Clk.halves_in (n : Nat) (w : World) : CallsIn Fence.wide n Tryd.prog 53 #[] w fun e w' => e = .returned (.func (.func 68) #[] #[]) ∧ w = w' := by
  refine callsIn_wide.2 ?_
  go_enter Tryd.func53, Tryd.ntmps53
  go_wp2
  go_ret
  exact ⟨rfl, rfl⟩

set_option maxRecDepth 100000 in
set_option maxHeartbeats 2000000 in
theorem Clk.last_in (n : Nat) (hn : 5 ≤ n) (s er d x step : Int) (bs bc : Nat) (w : World) (ho : Clk.okB s er d = true) (hx : Clk.tmB x = true) (hs : step = 1 ∨ step = -1)
    (hbs : bs < w.heap.size) (hbc : bc < w.heap.size) (cs : w.cell? ⟨bs, 0, none⟩ = some (.int .i64 x)) (c0 : w.cell? ⟨bc, 0, none⟩ = some (.int .i64 s)) (c1 : w.cell? ⟨bc, 1, none⟩ = some (.int .i64 er)) (c2 : w.cell? ⟨bc, 2, none⟩ = some (.int .i64 d)) :
    CallsIn Fence.wide n Tryd.prog 52 #[.int .i64 step, .pointer (some ⟨bs, 0, none⟩), .pointer (some ⟨bc, 0, none⟩)] w fun e w' => e = .returned (.int .i64 (Clk.lastB s er d x step)) ∧ Below w.heap.size w w' := by
  have h1 : 1 ≤ n := by omega
  have h2 : 1 ≤ n - 1 := by omega
  have h3 : 1 ≤ n - 1 - 1 := by omega
  have hfn : ∀ f, Fence.wide.fn f := fun _ => trivial
  have HO := Lib.hid ho
  have HX := Lib.hid hx
  have HS := Lib.hid hs
  clear ho hx hs
  refine callsIn_of_wp_marks Tryd.func52 rfl trivial ?_ rfl
  simp only [Tryd.ntmps52, List.size_toArray, List.length_cons, List.length_nil, Nat.reduceAdd, Nat.reduceSub, Array.replicate_succ, Array.replicate_zero, List.push_toArray, List.append_toArray, List.nil_append, List.cons_append]
  gi_wp2_with (gi_at_call 53; refine (Clk.halves_in (n - 1) _).mono ?_; rintro e w' ⟨rfl, rfl⟩)
  obtain ⟨W0, hW0⟩ : ∃ W0, (w.alloc (.cells #[.int .i64 step] 3)).alloc (.cells #[.int .i64 x] 3) = W0 := ⟨_, rfl⟩
  have hB0 : Below w.heap.size w W0 := by rw [← hW0]; exact ((Below.refl _ w).alloc (Nat.le_refl _) _).alloc (by simp) _
  have hz : W0.heap.size = w.heap.size + 2 := by rw [← hW0]; simp
  have b3 : Boxed W0 w.heap.size 3 (.int .i64 step) := by rw [← hW0]; exact (Boxed.new w _ _).alloc _
  have b5 : Boxed W0 (w.heap.size + 1) 3 (.int .i64 x) := by
    rw [← hW0]
    have := Boxed.new (w.alloc (.cells #[.int .i64 step] 3)) 3 (.int .i64 x)
    rwa [World.size_alloc] at this
  rw [hW0]
  clear hW0
  refine wpIn_rangeFunc_ownF rfl h1 (gf := 68) (lb := #[]) rfl trivial (enters_of Tryd.func68 (by kernel_rfl) rfl)
    (Clk.halves_stops (n - 1) h2 (Below w.heap.size) W0) belowK_t (belowK_b (by omega)) (Below.refl _ _) (fun _ => rfl)
    (fun pre W => (Boxed W w.heap.size 3 (.int .i64 step) ∧ Boxed W (w.heap.size + 1) 3 (.int .i64 ((pre.map (·.1)).foldl (Clk.goB s er d x step) x))) ∧ Below w.heap.size w W)
    (fun _ _ _ => False)
    (OwnFrom.and (Own.from (fun q X Y row hq hg hr => ⟨boxed_own w.heap.size 3 (fun (_ : Unit) => .int .i64 step) () X Y row hq.1 hg hr, boxed_own (w.heap.size + 1) 3 (fun (_ : Unit) => _) () X Y row hq.2 hg hr⟩) _) (ownFrom_below (Nat.le_refl _) (by omega)))
    (fun _ _ _ _ _ hq _ _ => hq)
    ⟨⟨b3, b5⟩, hB0⟩
    (fun v => { tmps := #[.int .i64 step, .pointer (some ⟨bs, 0, none⟩), .pointer (some ⟨bc, 0, none⟩), .pointer (some ⟨w.heap.size, 0, none⟩), .int .i64 0, .pointer (some ⟨w.heap.size + 1, 0, none⟩), .int .i64 v.1, undef, .int .i64 x, .func (.func 68) #[] #[], .int .i64 v.1, undef, undef, undef, undef, undef, undef, undef, undef, undef, undef, undef, undef, undef, undef, undef], defers := [] }) ?assign ?body ?done ?stop
  case assign =>
    intro l v W K hK
    gi_wp2
    exact hK
  case body =>
    rintro l pre ⟨v, v0, v1⟩ W ⟨⟨q3, q5⟩, hB⟩ _
    have hTt := Clk.fold_tm s er d x step HX.out (pre.map (·.1))
    have hfold := Lib.hid (show ((pre ++ [(⟨v, v0, v1⟩ : Clk.Dist)]).map (·.1)).foldl (Clk.goB s er d x step) x = Clk.goB s er d x step ((pre.map (·.1)).foldl (Clk.goB s er d x step) x) v by simp)
    generalize (pre.map (·.1)).foldl (Clk.goB s er d x step) x = T at q5 hTt hfold
    rw [Clk.tmB_iff] at hTt
    obtain ⟨T0, T1⟩ := hTt
    have e3 := q3.cell
    have e5 := q5.cell
    have f5 := q5.frozen
    have es := (hB.cell (p := ⟨bs, 0, none⟩) hbs).trans cs
    have e0 := (hB.cell (p := ⟨bc, 0, none⟩) hbc).trans c0
    have e1 := (hB.cell (p := ⟨bc, 1, none⟩) hbc).trans c1
    have e2 := (hB.cell (p := ⟨bc, 2, none⟩) hbc).trans c2
    clear cs c0 c1 c2
    have hbsW : bs < W.heap.size := Nat.lt_of_lt_of_le hbs hB.size
    have hbcW : bc < W.heap.size := Nat.lt_of_lt_of_le hbc hB.size
    have hgo : ∀ W', Below W.heap.size W W' → Boxed (W'.setCell ⟨w.heap.size + 1, 0, none⟩ (.int .i64 (T + step * v))) w.heap.size 3 (.int .i64 step) ∧ Boxed (W'.setCell ⟨w.heap.size + 1, 0, none⟩ (.int .i64 (T + step * v))) (w.heap.size + 1) 3 (.int .i64 (T + step * v)) := fun W' hb' => by
      have r3 : Boxed W' w.heap.size 3 (.int .i64 step) := (hb'.block _ q3.lt).trans q3
      have r5 : Boxed W' (w.heap.size + 1) 3 (.int .i64 T) := (hb'.block _ q5.lt).trans q5
      exact ⟨r3.other (by omega) _, r5.set _⟩
    have hst : ∀ W', Below W.heap.size W W' → Boxed W' w.heap.size 3 (.int .i64 step) ∧ Boxed W' (w.heap.size + 1) 3 (.int .i64 T) := fun W' hb' =>
      ⟨(hb'.block _ q3.lt).trans q3, (hb'.block _ q5.lt).trans q5⟩
    have hq3 := q3.lt
    have hq5 := q5.lt
    have HGO := Lib.hid hgo
    have HST := Lib.hid hst
    have Q3 := Lib.hid q3
    have Q5 := Lib.hid q5
    clear hgo hst q3 q5
    have hw2 : IntKind.i64.wrap (step * v) = step * v := by rcases HS.out with h | h <;> subst h <;> refine IntWalk.i64_in _ (by omega)
    have hw : IntKind.i64.wrap (T + step * v) = T + step * v := by rcases HS.out with h | h <;> subst h <;> refine IntWalk.i64_in _ (by omega)
    cases hv : Clk.tmB (T + step * v) with
    | false =>
      have HV := Lib.hid hv
      gi_wp2_with (first | (gi_at_call 50; refine (CallsIn.inRound l (callsIn_wide.2 (Clk.valid_any _ _))).mono ?_; rintro e w2 ⟨rfl, rfl⟩))
      refine ⟨KeepsOthers.refl _, Below.refl _ _, ⟨Q3.out, ?_⟩, hB⟩
      rw [hfold.out, Clk.goB, if_neg (by rw [HV.out]; simp)]
      exact Q5.out
    | true =>
      have HV := Lib.hid hv
      cases hsh : Clk.shB s er d (T + step * v) x with
      | false =>
        have HSH := Lib.hid hsh
        gi_wp2_with (first | (gi_at_call 50; refine (CallsIn.inRound l (callsIn_wide.2 (Clk.valid_any _ _))).mono ?_; rintro e w2 ⟨rfl, rfl⟩) | (gi_at_call 51; refine (CallsIn.inRound l (callsIn_wide.2 (Clk.shows_any s er d (T + step * v) x _ HO.out HV.out HX.out))).mono ?_; rintro e w3 ⟨rfl, hb3⟩))
        refine ⟨keepsOthers_of_below hb3, hb3.mono hB.size, ⟨(HST.out _ hb3).1, ?_⟩, hB.trans (hb3.mono hB.size)⟩
        rw [hfold.out, Clk.goB, if_neg (by rw [HSH.out]; simp)]
        exact (HST.out _ hb3).2
      | true =>
        have HSH := Lib.hid hsh
        gi_wp2_with (first | (gi_at_call 50; refine (CallsIn.inRound l (callsIn_wide.2 (Clk.valid_any _ _))).mono ?_; rintro e w2 ⟨rfl, rfl⟩) | (gi_at_call 51; refine (CallsIn.inRound l (callsIn_wide.2 (Clk.shows_any s er d (T + step * v) x _ HO.out HV.out HX.out))).mono ?_; rintro e w3 ⟨rfl, hb3⟩; obtain ⟨hc, hf⟩ := bcell hb3))
        refine ⟨(keepsOthers_of_below hb3).trans (KeepsOthers.setCell _ _ _), (hb3.mono hB.size).setCell (p := ⟨w.heap.size + 1, 0, none⟩) (by show w.heap.size ≤ w.heap.size + 1; omega) _, ⟨(HGO.out _ hb3).1, ?_⟩, (hB.trans (hb3.mono hB.size)).setCell (p := ⟨w.heap.size + 1, 0, none⟩) (by show w.heap.size ≤ w.heap.size + 1; omega) _⟩
        rw [hfold.out, Clk.goB, if_pos (by rw [HV.out, HSH.out]; rfl)]
        exact (HGO.out _ hb3).2
  case done =>
    rintro D ys W hD hys ⟨⟨q3, q5⟩, hB⟩ hK
    rw [hys] at q5
    have e5 : W.cell? ⟨w.heap.size + 1, 0, none⟩ = some (.int .i64 (Clk.lastB s er d x step)) := q5.cell
    clear hys q5
    gi_wp2
    refine ⟨by simp, .inl ⟨_, _, rfl, run_takeDeferred hK, ?_⟩⟩
    exact ⟨_, results_tmp rfl _ _ _, rfl, hB.trans (belowK_b (w := w) (Nat.le_refl _) W D _ _ (by omega) hK rfl rfl)⟩
  case stop =>
    rintro D c pre W _ _ h _
    exact h.elim

end Go.Proofs.YtnbbleajbbgmjaaDoor
