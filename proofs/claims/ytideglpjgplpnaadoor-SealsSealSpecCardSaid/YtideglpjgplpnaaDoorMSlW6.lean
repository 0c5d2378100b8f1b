import Derived.Test.YtideglpjgplpnaaDoorMSlW1
/- Contracts of slices.AppendSeq and slices.Collect over the iterator; seals.Altered. -/
namespace Go.Proofs.YtideglpjgplpnaaDoor
open Go.RowKit Go.Shelf
attribute [local go_sem] Oper.semAt_some
set_option linter.unusedVariables false
set_option linter.unusedSimpArgs false

def Sl.iv (i : Nat) : Value := .int .i64 (i : Int)
theorem own_keep_obj {w w' : World} {base e size n : Nat} {v : Value} {xs : List Value} {row : Option Nat} (h : w.ownsRow base e size v n xs) (hg : w.grownBy w' row) (hr : ∀ r, row = some r → ∃ o : Obj, w.heap[r]? = some o ∧ o.isCells = false) : w'.ownsRow base e size v n xs := by
  refine ⟨h.1, ?_⟩
  rcases h.2 with h0 | ⟨g, c, cur, hv, h1, hh, h2⟩
  · exact .inl h0
  · refine .inr ⟨g, c, cur, hv, h1, (hg.block g (Array.getElem?_eq_some_iff.1 hh).1 (fun e2 => ?_)).trans hh, h2⟩
    obtain ⟨o, ho, hc⟩ := hr g e2.symm
    rw [hh] at ho
    injection ho with ho
    subst ho
    cases hc
/-- between two rounds -/
def Sl.aI (w : World) (pre : List Nat) (W : World) : Prop := ∃ A c, Has W w.heap.size 35 [.slice A pre.length c] ∧ W.ownsRow (w.heap.size + 1) 3 1 (.slice A pre.length c) pre.length (pre.map Sl.iv) ∧ Below w.heap.size w W ∧ w.heap.size + 1 ≤ W.heap.size
theorem Sl.aI_own {w : World} {B : Nat} (hB : w.heap.size ≤ B) : OwnFrom B (Sl.aI w) := by
  rintro pre X Y row ⟨A, c, h1, h2, h3, h4⟩ hg hr
  have hr' : ∀ r, row = some r → ∃ o : Obj, X.heap[r]? = some o ∧ o.isCells = false := fun r e => (hr r e).2
  exact ⟨A, c, h1.grow hg hr', own_keep_obj h2 hg hr', ownFrom_below (β := Unit) (Nat.le_refl _) hB () X Y row h3 hg hr, Nat.le_trans h4 hg.size⟩
theorem Sl.elI : EltOk Tryd.prog 35 3 (.int .i64 0) 1 8 := ⟨Tryd.underlying35, by kernel_rfl, rfl, by decide⟩

set_option maxRecDepth 100000 in
set_option maxHeartbeats 4000000 in
theorem Sl.app_in (n : Nat) (hn : 3 ≤ n) (n0 gl gs : Nat) (lb : Array Value) (R : List Nat) (w : World) (hn0 : n0 ≤ w.heap.size) (hgl : gl < w.heap.size) (hgs : gs < w.heap.size) (hR : R.length ≤ 1000000)
    (hseq : SeqStopsK Fence.wide (n - 1) Tryd.prog 54 lb Sl.enc (Sl.Kp n0 gl gs) (fun r => r = R) (fun pre => ∃ r, pre ++ r = R) R.length w) :
    CallsIn Fence.wide n Tryd.prog 62 #[.slice none 0 0, .func (.func 54) #[] lb] w fun e w' => ∃ v, e = .returned v ∧ w'.ownsRow w.heap.size 3 1 v R.length (R.map Sl.iv) ∧ Below w.heap.size w w' := by
  have h1 : 1 ≤ n := by omega
  have h2 : 1 ≤ n - 1 := by omega
  have h3 : 1 ≤ n - 1 - 1 := by omega
  have hfn : ∀ f, Fence.wide.fn f := fun _ => trivial
  obtain ⟨W1, hW1⟩ : ∃ W1, W1 = w.alloc (.cells #[.slice none 0 0] 35) := ⟨_, rfl⟩
  have HB1 := Lib.hid (show Below w.heap.size w W1 from by rw [hW1]; exact (Below.refl _ w).alloc (Nat.le_refl _) _)
  have HS1 := Lib.hid (show Has W1 w.heap.size 35 [.slice none 0 0] from by rw [hW1]; exact Has.new w _ _)
  have hz1 : W1.heap.size = w.heap.size + 1 := by rw [hW1]; simp
  have HSQ := Lib.hid hseq
  clear hseq
  refine callsIn_of_wp_marks Tryd.func62 rfl trivial ?_ rfl
  simp only [Tryd.ntmps62, List.size_toArray, List.length_cons, List.length_nil, Nat.reduceAdd, Nat.reduceSub, Array.replicate_succ, Array.replicate_zero, List.push_toArray, List.append_toArray, List.nil_append, List.cons_append]
  gi_wp2
  rw [← hW1]
  clear hW1
  refine wpIn_rangeFunc_ownF rfl h1 (gf := 54) (lb := lb) rfl trivial (enters_of Tryd.func54 (by kernel_rfl) rfl)
    HSQ.out (fun h k => h.trans k)
    (fun W l o o' hl ho hc hw => ⟨belowK_b (w := W1) (by omega) W l o o' hl ho hc hw, World.putObj_heap_other (by omega), World.putObj_heap_other (by omega)⟩)
    HB1.out (fun _ => rfl)
    (Sl.aI w) (fun _ _ _ => False) (Sl.aI_own (by omega)) (fun c => by intro s X Y row h; exact h.elim)
    ⟨none, 0, HS1.out, ⟨rfl, .inl ⟨rfl, rfl⟩⟩, HB1.out, by omega⟩
    (fun x => { tmps := #[.slice none 0 0, .func (.func 54) #[] lb, .pointer (some ⟨w.heap.size, 0, none⟩), undef, .slice none 0 0, .int .i64 (x : Int), .func (.func 54) #[] lb, .int .i64 (x : Int), undef, undef, undef, undef, undef], defers := [] }) ?assign ?body ?done ?stop
  case assign =>
    intro L x W K hK
    have HK := Lib.hid hK
    clear hK
    dsimp only [Sl.enc]
    gi_wp2
    exact HK.out
  case body =>
    rintro L pre x W ⟨A, c, g1, g2, g3, g4⟩ hlen
    have c0 := g1.c1
    have f0 := g1.frozen 0
    have HG1 := Lib.hid g1
    have HG2 := Lib.hid g2
    have HG3 := Lib.hid g3
    have hlt : w.heap.size < W.heap.size := g1.lt
    have HOA := Lib.hid (own_below (w' := W.alloc (.cells #[.int .i64 (x : Int)] 3)) g2 ((Below.refl _ _).alloc (Nat.le_refl _) _))
    obtain ⟨i0, hi0, hz0, hz1', hz2⟩ := info_parts Sl.elI.info
    have hnew : ∀ j u, [Value.int .i64 (x : Int)][j]? = some u → (W.alloc (.cells #[.int .i64 (x : Int)] 3)).cell? ((⟨W.heap.size, 0, none⟩ : Addr).add j) = some u := fun j u hu => by
      have hj : j = 0 := by
        have := (List.getElem?_eq_some_iff.1 hu).1
        simpa using this
      subst hj
      exact ((Has.new W 3 [.int .i64 (x : Int)]).cell 0).trans hu
    clear g1 g2 g3 HSQ
    gi_wp2_with (refine wpListIn_append_own (o := ⟨some 11, _, _, _, _, _⟩) _ rfl (.tmp 8) (.tmp 10) 35 rfl (w.heap.size + 1) 3 i0 (.int .i64 0) 1 8 Tryd.underlying35 hi0 hz0 hz1' hz2 rfl (by decide) _ _ _ rfl HOA.out ⟨W.heap.size, 0, none⟩ 1 1 [.int .i64 (x : Int)] rfl rfl hnew (by simp [Value.oneCell']) (by unfold maxLen; omega) (by omega) (by rw [World.size_alloc]; omega) ?_; intro v' w5 hown hgr hnil; obtain ⟨A5, c5, rfl⟩ := Dg.own_form hown; have hS5 := (HG1.out.alloc (.cells #[.int .i64 (x : Int)] 3)).grown hgr (fun e => by have := (HOA.out.lt _ e).1; omega); have c5' := hS5.c1; have f5 := hS5.frozen 0; have HS5 := Lib.hid hS5; have HOW := Lib.hid hown; have HGR := Lib.hid hgr; clear hS5 hown hgr hnil)
    have hb5 : Below (w.heap.size + 1) W w5 := ((Below.refl _ W).alloc (by omega) _).grown HGR.out (by rw [World.size_alloc]; omega) (fun g e => (HOA.out.lt g e).1)
    have hb6 : Below w.heap.size W (w5.setCell ⟨w.heap.size, 0, none⟩ (.slice A5 (pre.length + 1) c5)) := (hb5.mono (show w.heap.size ≤ w.heap.size + 1 by omega)).setCell (p := ⟨w.heap.size, 0, none⟩) (Nat.le_refl _) _
    refine ⟨?_, ⟨hb6.mono hn0, hb6.block gl hgl, hb6.block gs hgs⟩, A5, c5, ?_, ?_, HG3.out.trans hb6, ?_⟩
    · refine ((KeepsOthers.alloc W _).trans (KeepsOthers.of_grownBy HGR.out (fun j o e ho => ?_))).trans (KeepsOthers.setCell _ _ _)
      rcases HOA.out.2 with ⟨h0, _⟩ | ⟨g, c2, cur, hv, hb, hh, hrest⟩
      · rw [h0] at e; cases e
      · rw [hv] at e
        injection e with e
        subst e
        rw [hh] at ho
        injection ho with ho
        subst ho
        rfl
    · rw [List.length_append]; exact HS5.out.set 0 _
    · rw [List.length_append, List.map_append]; exact own_far HOW.out (p := ⟨w.heap.size, 0, none⟩) (by show w.heap.size < w.heap.size + 1; omega) _
    · have h5 := hb6.size; omega
  case done =>
    rintro D xs W hD rfl ⟨A, c, g1, g2, g3, g4⟩ hK
    have c0 := g1.c1
    have HG1 := Lib.hid g1
    have HG2 := Lib.hid g2
    have HG3 := Lib.hid g3
    have HK := Lib.hid hK
    clear g1 g2 g3 hK HSQ
    gi_wp2
    have kK := HK.out
    refine ⟨by simp, .inl ⟨_, _, rfl, run_takeDeferred kK, ?_⟩⟩
    have hg := grownBy_putObj' W D (.deferred none)
    have hr : ∀ r, some D = some r → ∃ o : Obj, W.heap[r]? = some o ∧ o.isCells = false := fun r e => by injection e with e; subst e; exact ⟨_, kK, rfl⟩
    have o2 := own_keep_obj HG2.out hg hr
    have kB2 : Below w.heap.size w (W.putObj D (.deferred none)) := HG3.out.trans (belowK_b (w := W1) (by omega) W D _ _ hD kK rfl rfl)
    refine ⟨_, results_tmp rfl _ _ _, _, rfl, ?_, kB2⟩
    exact ⟨o2.1, by
      rcases o2.2 with h0 | ⟨g, c2, cur, hv, hb, hh, hrest⟩
      · exact .inl h0
      · exact .inr ⟨g, c2, cur, hv, by omega, hh, hrest⟩⟩
  case stop =>
    rintro D c pre W hD hsp hX hK
    exact hX.elim
set_option maxRecDepth 100000 in
set_option maxHeartbeats 4000000 in
theorem Sl.coll_any (n0 gl gs : Nat) (lb : Array Value) (R : List Nat) (w : World) (hn0 : n0 ≤ w.heap.size) (hgl : gl < w.heap.size) (hgs : gs < w.heap.size) (hR : R.length ≤ 1000000)
    (hseq : SeqStopsK Fence.wide 5 Tryd.prog 54 lb Sl.enc (Sl.Kp n0 gl gs) (fun r => r = R) (fun pre => ∃ r, pre ++ r = R) R.length w) :
    Calls Tryd.prog 34 #[.func (.func 54) #[] lb] w fun e w' => ∃ v, e = .returned v ∧ w'.ownsRow w.heap.size 3 1 v R.length (R.map Sl.iv) ∧ Below w.heap.size w w' := by
  have HC := Lib.hid (callsIn_wide.1 (Sl.app_in 6 (by omega) n0 gl gs lb R w hn0 hgl hgs hR hseq))
  clear hseq
  go_enter Tryd.func34, Tryd.ntmps34
  go_wp2_with fail
  refine HC.out.mono ?_
  rintro e w1 ⟨v, rfl, h1, h2⟩
  have H1 := Lib.hid h1
  have H2 := Lib.hid h2
  clear h1 h2
  go_wp2_with fail
  go_ret
  exact ⟨v, rfl, H1.out, H2.out⟩
/-- places and an error are handed back -/
def Sl.RetI (w : World) (l : List Nat) (z : Int) (e : Ending) (w' : World) : Prop := ∃ A c, e = .returned (.tuple #[.slice A l.length c, .int .i64 z]) ∧ Rd w' w'.heap.size 1 A l.length (l.map Sl.iv) ∧ Below w.heap.size w w'
/-- what the contracts of this package want of the shares and the world -/
structure Sl.Rdy (w : World) (A : Option Addr) (nl : Nat) (xs : List Shr.C) (s : Sl.W) (Ad : Option Addr) (cd : Nat) (Am : Option Addr) (cA : Nat) : Prop where
  r : Shr.Rds w A nl xs
  g : ∀ x ∈ xs, Sl.rg x.s
  n : nl ≤ 1000000
  d : ∀ x ∈ xs, x.s.d.length ≤ 10000000
  s : Sl.Ok s w Ad cd Am cA
  k : Dg.G w Rc.K0 Rc.I0
theorem Sl.Rdy.keep {w w' : World} {A : Option Addr} {nl : Nat} {xs : List Shr.C} {s : Sl.W} {Ad : Option Addr} {cd : Nat} {Am : Option Addr} {cA : Nat} (h : Sl.Rdy w A nl xs s Ad cd Am cA) (hb : Below w.heap.size w w') : Sl.Rdy w' A nl xs s Ad cd Am cA :=
  ⟨h.r.keep hb, h.g, h.n, h.d, h.s.keep hb, h.k.keep hb⟩
theorem Sl.chk_c {s : Sl.W} (h : Sl.chk s ≠ 0) : Sl.chk s = 500 := (Sl.chk_cases s).resolve_left h

set_option maxRecDepth 100000 in
set_option maxHeartbeats 4000000 in
theorem Sl.alt_any (A : Option Addr) (nl cl : Nat) (xs : List Shr.C) (s : Sl.W) (Ad : Option Addr) (cd : Nat) (Am : Option Addr) (cA : Nat) (w : World) (h : Sl.Rdy w A nl xs s Ad cd Am cA) :
    Calls Tryd.prog 14 #[.agg (Sl.row s Ad cd Am cA).toArray, .slice A nl cl] w (Sl.RetI w (Sl.altV s (Shr.vals xs)) (Sl.chk s)) := by
  have HH := Lib.hid h
  have h36 := Sl.row_len h.s.cl Ad cd Am cA
  have HCL := Lib.hid h.s.cl
  obtain ⟨T, hT⟩ : ∃ T, Sl.row s Ad cd Am cA = T := ⟨_, rfl⟩
  have HT := Lib.hid hT
  have HC := Lib.hid (fun W => Sl.check_any s Ad cd Am cA W h.s.cl)
  rw [hT] at h36 HC ⊢
  have HI := Lib.hid (show (Tryd.prog.info? 27).map (·.size) = some T.toArray.size from by rw [List.size_toArray, h36]; exact Sl.infoW)
  obtain ⟨W1, hW1⟩ : ∃ W1, W1 = w.alloc (.cells T.toArray 27) := ⟨_, rfl⟩
  have HB1 := Lib.hid (show Below w.heap.size w W1 from by rw [hW1]; exact (Below.refl _ w).alloc (Nat.le_refl _) _)
  have HS1 := Lib.hid (show Has W1 w.heap.size 27 T from by rw [hW1]; exact Has.new w _ _)
  have HS1r := Lib.hid (show W1.heap[w.heap.size]? = some (.cells T.toArray 27 (0, 0)) from HS1.out)
  clear h h36 hT
  obtain ⟨z, hz⟩ : ∃ z, Sl.chk s = z := ⟨_, rfl⟩
  rw [hz] at HC ⊢
  have HZ := Lib.hid hz
  go_enter Tryd.func14, Tryd.ntmps14
  go_upto_region 1 with fail
  change Code.wp _ _ _ _ (w.alloc (.cells T.toArray 27))
  rw [← hW1]
  clear hW1
  go_wp2_with (first
    | (with_reducible refine wpList_load_row rfl 27 (.tmp 2) rfl w.heap.size rfl 27 T.toArray (0, 0) _ HS1r.out Tryd.underlying27 rfl HI.out ?_))
  ((with_reducible refine (HC.out _).mono ?_); rintro e w2 ⟨rfl, hb2⟩)
  have HB2 := Lib.hid (HB1.out.trans (hb2.mono HB1.out.size))
  have HS2 := Lib.hid (HS1.out.keep hb2)
  have HS2r := Lib.hid (show w2.heap[w.heap.size]? = some (.cells T.toArray 27 (0, 0)) from HS2.out)
  clear hb2
  by_cases h0 : z = 0
  · subst h0
    have HG := Lib.hid (Sl.good HZ.out)
    go_wp2_with (first
      | (with_reducible refine wpList_load_row rfl 27 (.tmp 2) rfl w.heap.size rfl 27 T.toArray (0, 0) _ HS2r.out Tryd.underlying27 rfl HI.out ?_))
    ((with_reducible refine (Sl.wrong_any T A nl cl w2).mono ?_); rintro e w3 ⟨rfl, hw3⟩)
    have HB3 := Lib.hid (show Below w2.heap.size w2 w3 from by rw [← hw3]; exact below_of2 _ _ _)
    have HGS := Lib.hid (show Has w3 w2.heap.size 27 T from by rw [← hw3]; exact (Has.new w2 _ _).alloc _)
    have HGL := Lib.hid (show Has w3 (w2.heap.size + 1) 28 [.slice A nl cl] from by rw [← hw3]; exact Has.second w2 _ _ _)
    clear hw3
    have HA := Lib.hid (show (Sl.alt s (Shr.vals xs)).length ≤ 1000000 from Nat.le_trans (Sl.altp_le s _ _) (by rw [Shr.vals_len, HH.out.r.len]; exact HH.out.n))
    have HAV := Lib.hid (show Sl.altV s (Shr.vals xs) = Sl.alt s (Shr.vals xs) from by unfold Sl.altV; rw [if_pos HZ.out])
    have HSQ := Lib.hid (Sl.wr_stops 5 (by omega) (w2.heap.size + 1) w2.heap.size A nl cl xs s Ad cd Am cA w w3 (HB2.out.trans (HB3.out.mono HB2.out.size)) HH.out.r HH.out.g (by have := HH.out.n; unfold maxLen; omega) HH.out.d HH.out.s HG.out.mkl (by have := HG.out.mkl; have := HG.out.mn8; omega) HH.out.k HGL.out (by rw [HT.out]; exact HGS.out))
    have HCO := Lib.hid (Sl.coll_any w.heap.size (w2.heap.size + 1) w2.heap.size _ _ w3 (Nat.le_trans HB2.out.size HB3.out.size) HGL.out.lt HGS.out.lt HA.out HSQ.out)
    go_wp2_with fail
    ((with_reducible refine HCO.out.mono ?_); rintro e w4 ⟨v, rfl, ho4, hb4⟩)
    obtain ⟨A4, c4, rfl⟩ := Dg.own_form ho4
    have HO4 := Lib.hid ho4
    have HB4 := Lib.hid (HB2.out.trans ((HB3.out.trans (hb4.mono HB3.out.size)).mono HB2.out.size))
    clear ho4 hb4
    go_wp2_with fail
    go_ret2
    exact ⟨A4, c4, by rw [HAV.out]; rfl, by rw [HAV.out]; exact rd_of_own HO4.out, HB4.out⟩
  · have q : (z != 0) = true := by simpa using h0
    have HAV := Lib.hid (show Sl.altV s (Shr.vals xs) = [] from by unfold Sl.altV; rw [if_neg (by rw [HZ.out]; exact h0)])
    go_wp2_with fail
    go_ret2
    exact ⟨none, 0, by rw [HAV.out]; rfl, by rw [HAV.out]; exact Rd.none_, HB2.out⟩
end Go.Proofs.YtideglpjgplpnaaDoor
/- Contract of seals.Twin. -/
namespace Go.Proofs.YtideglpjgplpnaaDoor
open Go.RowKit Go.Shelf
set_option linter.unusedVariables false
set_option linter.unusedSimpArgs false

def Sl.twK (s : Sl.W) (l : List Shr.S) (b : List UInt8) : List UInt8 := if Sl.twE s l b.length = 0 then Sl.xorl s.d b else []
def Sl.twC (s : Sl.W) (l : List Shr.S) (b : List UInt8) : List UInt8 := if Sl.twE s l b.length = 0 then Shr.explV l (Sl.xorl s.d b) else []
/-- two texts and an error are handed back -/
def Sl.RetT (w : World) (l1 l2 : List UInt8) (z : Int) (e : Ending) (w' : World) : Prop := ∃ A1 c1 A2 c2, e = .returned (.tuple #[.slice A1 l1.length c1, .slice A2 l2.length c2, .int .i64 z]) ∧ RdB w' A1 l1.length l1 ∧ RdB w' A2 l2.length l2 ∧ (A1 = none → c1 = 0) ∧ (A2 = none → c2 = 0) ∧ l2.length ≤ c2 ∧ c2 ≤ maxLen ∧ Below w.heap.size w w'

set_option maxRecDepth 100000 in
set_option maxHeartbeats 4000000 in
theorem Sl.twin_any (A : Option Addr) (nl cl : Nat) (xs : List Shr.C) (s : Sl.W) (Ad : Option Addr) (cd : Nat) (Am : Option Addr) (cA : Nat) (Ab : Option Addr) (nb cb : Nat) (body : List UInt8) (w : World) (h : Sl.Rdy w A nl xs s Ad cd Am cA) (hb : RdB w Ab nb body) (hbm : nb ≤ maxLen) :
    Calls Tryd.prog 26 #[.agg (Sl.row s Ad cd Am cA).toArray, .slice A nl cl, .slice Ab nb cb] w (Sl.RetT w (Sl.twK s (Shr.vals xs) body) (Sl.twC s (Shr.vals xs) body) (Sl.twE s (Shr.vals xs) nb)) := by
  have HH := Lib.hid h
  have HBY := Lib.hid hb
  have hbl := hb.len
  have HBL := Lib.hid hbl
  have h36 := Sl.row_len h.s.cl Ad cd Am cA
  obtain ⟨T, hT⟩ : ∃ T, Sl.row s Ad cd Am cA = T := ⟨_, rfl⟩
  have HT := Lib.hid hT
  have HC := Lib.hid (fun W => Sl.check_any s Ad cd Am cA W h.s.cl)
  have t32 := (Sl.row_at h.s.cl Ad cd Am cA).1
  rw [hT] at h36 HC t32 ⊢
  have HI := Lib.hid (show (Tryd.prog.info? 27).map (·.size) = some T.toArray.size from by rw [List.size_toArray, h36]; exact Sl.infoW)
  obtain ⟨W1, hW1⟩ : ∃ W1, W1 = w.alloc (.cells T.toArray 27) := ⟨_, rfl⟩
  have HB1 := Lib.hid (show Below w.heap.size w W1 from by rw [hW1]; exact (Below.refl _ w).alloc (Nat.le_refl _) _)
  have HS1 := Lib.hid (show Has W1 w.heap.size 27 T from by rw [hW1]; exact Has.new w _ _)
  have HS1r := Lib.hid (show W1.heap[w.heap.size]? = some (.cells T.toArray 27 (0, 0)) from HS1.out)
  have HDL := Lib.hid h.s.dl
  clear h h36 hT hb
  obtain ⟨z, hz⟩ : ∃ z, Sl.chk s = z := ⟨_, rfl⟩
  rw [hz] at HC
  have HZ := Lib.hid hz
  clear hz
  obtain ⟨nd, hnd⟩ : ∃ nd, s.d.length = nd := ⟨_, rfl⟩
  have HND := Lib.hid hnd
  rw [hnd] at t32 HDL
  clear hnd
  unfold maxLen at hbm
  have hdm : nd ≤ 9223372036854775807 := by have h1 := HDL.out; unfold maxLen at h1; exact h1
  go_enter Tryd.func26, Tryd.ntmps26
  go_upto_region 1 with fail
  change Code.wp _ _ _ _ (w.alloc (.cells T.toArray 27))
  rw [← hW1]
  clear hW1
  go_wp2_with (first
    | (with_reducible refine wpList_load_row rfl 27 (.tmp 3) rfl w.heap.size rfl 27 T.toArray (0, 0) _ HS1r.out Tryd.underlying27 rfl HI.out ?_))
  ((with_reducible refine (HC.out _).mono ?_); rintro e w2 ⟨rfl, hb2⟩)
  have HB2 := Lib.hid (HB1.out.trans (hb2.mono HB1.out.size))
  have HS2 := Lib.hid (HS1.out.keep hb2)
  have y32 : w2.cell? ⟨w.heap.size, 32, none⟩ = some (.slice Ad nd cd) := (HS2.out.cell 32).trans t32
  clear hb2
  by_cases h0 : z = 0
  · subst h0
    have HG := Lib.hid (Sl.good HZ.out)
    by_cases hn : nb = nd
    · subst hn
      have q : ((nb : Int) != (nb : Int)) = false := by simp
      have h64 : nb ≤ 64 := by rw [← HND.out]; exact HG.out.d64
      have HE := Lib.hid (show Sl.twE s (Shr.vals xs) nb = Shr.explE (Shr.vals xs) nb from by unfold Sl.twE; rw [if_neg (by rw [HZ.out]; simp), if_neg (by rw [HND.out]; simp)])
      have HXO := Lib.hid (fun (W : World) (hb : Below w.heap.size w W) => Sl.xor_any Ad Ab nb cd cb s.d body W (by have h1 := (HH.out.s.keep hb).rd; rw [HND.out] at h1; exact h1) (HBY.out.keep hb) (by omega))
      go_wp2_with fail
      ((with_reducible refine (HXO.out _ HB2.out).mono ?_); rintro e w3 ⟨rfl, hx3, hb3⟩)
      have HB3 := Lib.hid (HB2.out.trans (hb3.mono HB2.out.size))
      have hxl : (Sl.xorl s.d body).length = nb := by rw [Sl.xorl_len, HND.out]
      have HK3 := Lib.hid (Sl.RetX.rd hx3 hxl)
      obtain ⟨gx, hgx⟩ : ∃ gx, gx = w2.heap.size := ⟨_, rfl⟩
      rw [← hgx] at HK3 ⊢
      clear hx3 hb3 hgx y32
      by_cases he : Shr.explE (Shr.vals xs) nb = 0
      · have HKV := Lib.hid (show Sl.twK s (Shr.vals xs) body = Sl.xorl s.d body ∧ Sl.twC s (Shr.vals xs) body = Shr.explV (Shr.vals xs) (Sl.xorl s.d body) from by
          constructor
          · unfold Sl.twK; rw [HBL.out, HE.out, he, if_pos rfl]
          · unfold Sl.twC; rw [HBL.out, HE.out, he, if_pos rfl])
        have HEX := Lib.hid (Shr.expl_cap A nl cl (some ⟨gx, 0, none⟩) nb nb xs (Sl.xorl s.d body) w3 (HH.out.r.keep HB3.out) (by have := HH.out.n; unfold maxLen; omega) HK3.out (by unfold maxLen; omega) he)
        rw [he] at HE
        clear q
        go_wp2_with fail
        ((with_reducible refine HEX.out.mono ?_); rintro e w4 ⟨A4, c4, rfl, hn4, hr4, hf4, hl4, hb4, hc4, hm4⟩)
        have HR4 := Lib.hid hr4
        have hln := hr4.len
        have HK4 := Lib.hid (HK3.out.keep hb4)
        have HB4 := Lib.hid (HB3.out.trans (hb4.mono HB3.out.size))
        have HC4 := Lib.hid (And.intro hn4 (And.intro hc4 hm4))
        clear hn4 hr4 hf4 hl4 hb4 hc4 hm4
        obtain ⟨n4, hn4⟩ : ∃ n4, nb * (Shr.tt (Shr.vals xs) - 1) = n4 := ⟨_, rfl⟩
        rw [hn4] at hln HR4 HC4 ⊢
        have HLN := Lib.hid hln
        clear hn4 hln
        go_wp2_with fail
        refine bodyPost_ret (v := .tuple #[.slice (some ⟨gx, 0, none⟩) nb nb, .slice A4 n4 c4, .int .i64 0]) (by simp [results, Tryd.results26, go_sem]) rfl ?_
        refine ⟨some ⟨gx, 0, none⟩, nb, A4, c4, ?_, ?_, ?_, (fun e => by cases e), HC4.out.1, ?_, HC4.out.2.2, HB4.out⟩
        · rw [HKV.out.1, HKV.out.2, hxl, HLN.out, HE.out]
        · rw [HKV.out.1, hxl]; exact HK4.out
        · rw [HKV.out.2, HLN.out]; exact HR4.out
        · rw [HKV.out.2, HLN.out]; exact HC4.out.2.1
      · have HKV := Lib.hid (show Sl.twK s (Shr.vals xs) body = [] ∧ Sl.twC s (Shr.vals xs) body = [] from by
          constructor
          · unfold Sl.twK; rw [HBL.out, HE.out, if_neg he]
          · unfold Sl.twC; rw [HBL.out, HE.out, if_neg he])
        have HEX := Lib.hid (Shr.expl_no A nl cl (some ⟨gx, 0, none⟩) nb nb xs w3 (HH.out.r.keep HB3.out) (by have := HH.out.n; unfold maxLen; omega) (by unfold maxLen; omega) he)
        obtain ⟨ze, hze⟩ : ∃ ze, Shr.explE (Shr.vals xs) nb = ze := ⟨_, rfl⟩
        rw [hze] at HEX HE he
        have q2 : (ze != 0) = true := by simpa using he
        clear q
        go_wp2_with fail
        ((with_reducible refine HEX.out.mono ?_); rintro e w4 ⟨rfl, hb4⟩)
        have HB4 := Lib.hid (HB3.out.trans (hb4.mono HB3.out.size))
        clear hb4
        go_wp2_with fail
        refine bodyPost_ret (v := .tuple #[.slice none 0 0, .slice none 0 0, .int .i64 ze]) (by simp [results, Tryd.results26, go_sem]) rfl ?_
        exact ⟨none, 0, none, 0, by rw [HKV.out.1, HKV.out.2, HE.out]; rfl, by rw [HKV.out.1]; exact RdB.none_, by rw [HKV.out.2]; exact RdB.none_, (fun _ => rfl), (fun _ => rfl), by rw [HKV.out.2]; exact Nat.le_refl _, by decide, HB4.out⟩
    · have q : ((nb : Int) != (nd : Int)) = true := by
        simpa using fun e : (nb : Int) = (nd : Int) => hn (by omega)
      have HE := Lib.hid (show Sl.twE s (Shr.vals xs) nb = 1 from by unfold Sl.twE; rw [if_neg (by rw [HZ.out]; simp), if_pos (by rw [HND.out]; exact hn)])
      have HKV := Lib.hid (show Sl.twK s (Shr.vals xs) body = [] ∧ Sl.twC s (Shr.vals xs) body = [] from by
        constructor
        · unfold Sl.twK; rw [HBL.out, HE.out]; rfl
        · unfold Sl.twC; rw [HBL.out, HE.out]; rfl)
      go_wp2_with fail
      refine bodyPost_ret (v := .tuple #[.slice none 0 0, .slice none 0 0, .int .i64 1]) (by simp [results, Tryd.results26, go_sem]) rfl ?_
      exact ⟨none, 0, none, 0, by rw [HKV.out.1, HKV.out.2, HE.out]; rfl, by rw [HKV.out.1]; exact RdB.none_, by rw [HKV.out.2]; exact RdB.none_, (fun _ => rfl), (fun _ => rfl), by rw [HKV.out.2]; exact Nat.le_refl _, by decide, HB2.out⟩
  · have q : (z != 0) = true := by simpa using h0
    have HE := Lib.hid (show Sl.twE s (Shr.vals xs) nb = z from by unfold Sl.twE; rw [if_pos (by rw [HZ.out]; exact h0), HZ.out])
    have HKV := Lib.hid (show Sl.twK s (Shr.vals xs) body = [] ∧ Sl.twC s (Shr.vals xs) body = [] from by
      constructor
      · unfold Sl.twK; rw [HBL.out, HE.out, if_neg h0]
      · unfold Sl.twC; rw [HBL.out, HE.out, if_neg h0])
    go_wp2_with fail
    refine bodyPost_ret (v := .tuple #[.slice none 0 0, .slice none 0 0, .int .i64 z]) (by simp [results, Tryd.results26, go_sem]) rfl ?_
    exact ⟨none, 0, none, 0, by rw [HKV.out.1, HKV.out.2, HE.out]; rfl, by rw [HKV.out.1]; exact RdB.none_, by rw [HKV.out.2]; exact RdB.none_, (fun _ => rfl), (fun _ => rfl), by rw [HKV.out.2]; exact Nat.le_refl _, by decide, HB2.out⟩
end Go.Proofs.YtideglpjgplpnaaDoor
