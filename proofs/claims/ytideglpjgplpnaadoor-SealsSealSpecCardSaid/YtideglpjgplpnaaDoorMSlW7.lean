import Derived.Test.YtideglpjgplpnaaDoorMSlW6
/- Contract of seals.Open. -/
namespace Go.Proofs.YtideglpjgplpnaaDoor
open Go.RowKit Go.Shelf
attribute [local go_sem] Oper.semAt_some
set_option linter.unusedVariables false
set_option linter.unusedSimpArgs false

/-- a body and an error are handed back -/
def Sl.RetO (w : World) (l : List UInt8) (z : Int) (e : Ending) (w' : World) : Prop := ∃ A c, e = .returned (.tuple #[.slice A l.length c, .int .i64 z]) ∧ (A = none → c = 0) ∧ RdB w' A l.length l ∧ Below w.heap.size w w'
theorem Sl.oI_own {w : World} {B : Nat} (L : List (Nat × TypeId × List Value)) (hB : w.heap.size ≤ B) : OwnFrom B (fun (pre : List Nat) W => pre = [] ∧ St w W L) := fun s X Y row h hg hr => ⟨h.1, St.own hB () X Y row h.2 hg hr⟩
theorem Sl.oX_own {w : World} {B : Nat} (L : List (Nat × TypeId × List Value)) (c : Code) (hB : w.heap.size ≤ B) : OwnFrom B (fun (pre : List Nat) W => c = .ret ∧ pre ≠ [] ∧ St w W L) := fun s X Y row h hg hr => ⟨h.1, h.2.1, St.own hB () X Y row h.2.2 hg hr⟩
/-- the cells of the results and the block of the rounds' deferred calls, behind them -/
structure Sl.OE (w W : World) (D : Nat) (v : Value) (z : Int) : Prop where
  c4 : Has W (w.heap.size + 1) 24 [v]
  c5 : Has W (w.heap.size + 2) 32 [.int .i64 z]
  k : W.heap[D]? = some (.deferred (some []))
  b : Below w.heap.size w W
  d : w.heap.size + 3 ≤ D
theorem Sl.OE.fin {w W : World} {D : Nat} {v : Value} {z : Int} (h : Sl.OE w W D v z) : (W.putObj D (.deferred none)).cell? ⟨w.heap.size + 1, 0, none⟩ = some v ∧ (W.putObj D (.deferred none)).cell? ⟨w.heap.size + 2, 0, none⟩ = some (.int .i64 z) ∧ Below w.heap.size w (W.putObj D (.deferred none)) :=
  ⟨(h.c4.putD h.k _).cell 0, (h.c5.putD h.k _).cell 0, h.b.trans (belowK_b (w := w) (Nat.le_refl _) W D _ _ (by have := h.d; omega) h.k rfl rfl)⟩

theorem Sl.OE.keep {w W W' : World} {D : Nat} {v : Value} {z : Int} (h : Sl.OE w W D v z) (hb : Below W.heap.size W W') : Sl.OE w W' D v z :=
  ⟨h.c4.keep hb, h.c5.keep hb, (hb.block D (Array.getElem?_eq_some_iff.1 h.k).1).trans h.k, h.b.trans (hb.mono h.b.size), h.d⟩
theorem Sl.OE.set4 {w W : World} {D : Nat} {v : Value} {z : Int} (h : Sl.OE w W D v z) (v' : Value) : Sl.OE w (W.setCell ⟨w.heap.size + 1, 0, none⟩ v') D v' z :=
  ⟨h.c4.set 0 v', h.c5.far (p := ⟨w.heap.size + 1, 0, none⟩) (by show w.heap.size + 2 ≠ w.heap.size + 1; omega) _, (Below.heap_setCell _ _ _ _ (by show D ≠ w.heap.size + 1; have := h.d; omega)).trans h.k, h.b.setCell (p := ⟨w.heap.size + 1, 0, none⟩) (by show w.heap.size ≤ w.heap.size + 1; omega) _, h.d⟩
theorem Sl.OE.set5 {w W : World} {D : Nat} {v : Value} {z : Int} (h : Sl.OE w W D v z) (z' : Int) : Sl.OE w (W.setCell ⟨w.heap.size + 2, 0, none⟩ (.int .i64 z')) D v z' :=
  ⟨h.c4.far (p := ⟨w.heap.size + 2, 0, none⟩) (by show w.heap.size + 1 ≠ w.heap.size + 2; omega) _, h.c5.set 0 (.int .i64 z'), (Below.heap_setCell _ _ _ _ (by show D ≠ w.heap.size + 2; have := h.d; omega)).trans h.k, h.b.setCell (p := ⟨w.heap.size + 2, 0, none⟩) (by show w.heap.size ≤ w.heap.size + 2; omega) _, h.d⟩
theorem Sl.OE.cells {w W : World} {D : Nat} {v : Value} {z : Int} (h : Sl.OE w W D v z) : W.cell? ⟨w.heap.size + 1, 0, none⟩ = some v ∧ W.cell? ⟨w.heap.size + 2, 0, none⟩ = some (.int .i64 z) ∧ W.frozen? ⟨w.heap.size + 1, 0, none⟩ = false ∧ W.frozen? ⟨w.heap.size + 2, 0, none⟩ = false ∧ w.heap.size + 1 < W.heap.size ∧ w.heap.size + 2 < W.heap.size :=
  ⟨h.c4.c1, h.c5.c1, h.c4.frozen 0, h.c5.frozen 0, h.c4.lt, h.c5.lt⟩
theorem Sl.opn_no {s : Sl.W} {l : List Shr.S} {z : Int} (h : Sl.opnE s l = z) (hz : z ≠ 0) : Sl.opnV s l = [] := by unfold Sl.opnV; rw [h, if_neg hz]
theorem run_op_store_int {P : Program} {o : Oper} {a : Act} {w : World} (ty : TypeId) (x y : Operand) (ho : o.op = .store ty x y)
    (b off : Nat) (hx : a.eval x = .pointer (some ⟨b, off, none⟩)) (k : IntKind) (n : Int) (hy : a.eval y = .int k n) (old : Value) (hc : w.cell? ⟨b, off, none⟩ = some old) (hf : w.frozen? ⟨b, off, none⟩ = false) (hz : (P.info? ty).map (·.size) = some 1) : (execOp a.eval o).run P w = .ok .skip (w.setCell ⟨b, off, none⟩ (.int k n)) := by
  have hsz : (sizeOf ty).run P w = .ok 1 w := by
    cases hq : P.info? ty with
    | none => simp [hq] at hz
    | some inf =>
      have hs : inf.size = 1 := by simpa [hq] using hz
      simp [sizeOf, typeInfo, Sem.run_bind, hq, hs]
  simp only [execOp, ho, hx, hy]
  simp [Instr.storeAt, Instr.sureAddr, storeVar, storeCells, hsz, Sem.run_bind, go_sem, hc, hf, Value.cells, Result.andThen]

set_option maxRecDepth 100000 in
set_option maxHeartbeats 8000000 in
theorem Sl.open_chk (A : Option Addr) (nl cl : Nat) (xs : List Shr.C) (s : Sl.W) (Ad : Option Addr) (cd : Nat) (Am : Option Addr) (cA : Nat) (w : World) (h : Sl.Rdy w A nl xs s Ad cd Am cA) (h0 : Sl.chk s ≠ 0) :
    Calls Tryd.prog 13 #[.agg (Sl.row s Ad cd Am cA).toArray, .slice A nl cl] w (Sl.RetO w (Sl.opnV s (Shr.vals xs)) (Sl.opnE s (Shr.vals xs))) := by
  have h36 := Sl.row_len h.s.cl Ad cd Am cA
  obtain ⟨T, hT⟩ : ∃ T, Sl.row s Ad cd Am cA = T := ⟨_, rfl⟩
  have HC := Lib.hid (fun W => Sl.check_any s Ad cd Am cA W h.s.cl)
  rw [hT] at h36 HC ⊢
  have HI := Lib.hid (show (Tryd.prog.info? 27).map (·.size) = some T.toArray.size from by rw [List.size_toArray, h36]; exact Sl.infoW)
  obtain ⟨W1, hW1⟩ : ∃ W1, W1 = ((w.alloc (.cells T.toArray 27)).alloc (.cells #[.slice none 0 0] 24)).alloc (.cells #[.int .i64 0] 32) := ⟨_, rfl⟩
  have HST1 := Lib.hid (show St w W1 [(w.heap.size + 2, 32, [.int .i64 0]), (w.heap.size + 1, 24, [.slice none 0 0]), (w.heap.size, 27, T)] from by
    rw [hW1]
    have h := (((St.start w).new 27 T).new 24 [.slice none 0 0]).new 32 [.int .i64 0]
    simp only [World.size_alloc] at h
    exact h)
  have HS1r := Lib.hid (show W1.heap[w.heap.size]? = some (.cells T.toArray 27 (0, 0)) from HST1.out.nth 2 rfl)
  clear h h36 hT
  obtain ⟨z, hz⟩ : ∃ z, Sl.chk s = z := ⟨_, rfl⟩
  rw [hz] at HC h0
  have HV := Lib.hid (show Sl.opnE s (Shr.vals xs) = z ∧ Sl.opnV s (Shr.vals xs) = [] from by
    have h1 : Sl.opnE s (Shr.vals xs) = z := by unfold Sl.opnE; rw [if_pos (by rw [hz]; exact h0), hz]
    exact ⟨h1, Sl.opn_no h1 h0⟩)
  have q : (z != 0) = true := by simpa using h0
  clear hz
  go_enter Tryd.func13, Tryd.ntmps13
  go_upto_region 1 with fail
  change Code.wp _ _ _ _ (((w.alloc (.cells T.toArray 27)).alloc (.cells #[.slice none 0 0] 24)).alloc (.cells #[.int .i64 0] 32))
  rw [← hW1, show w.heap.size + 1 + 1 = w.heap.size + 2 from rfl]
  clear hW1
  go_wp2_with (first
    | (with_reducible refine wpList_load_row rfl 27 (.tmp 2) rfl w.heap.size rfl 27 T.toArray (0, 0) _ HS1r.out Tryd.underlying27 rfl HI.out ?_))
  ((with_reducible refine (HC.out _).mono ?_); rintro e w2 ⟨rfl, hb2⟩)
  have HST2 := Lib.hid (HST1.out.keep hb2)
  have c5 := (HST2.out.nth 0 rfl).c1
  have f5 := (HST2.out.nth 0 rfl).frozen 0
  have c4 := (HST2.out.nth 1 rfl).c1
  have f4 := (HST2.out.nth 1 rfl).frozen 0
  clear hb2
  go_wp2_with fail
  have h5 := HST2.out.nth 0 rfl
  have h4 := HST2.out.nth 1 rfl
  have e4 := ((h4.set 0 (.slice none 0 0)).far (p := ⟨w.heap.size + 2, 0, none⟩) (by show w.heap.size + 1 ≠ w.heap.size + 2; omega) (.int .i64 z)).c1
  have e5 := ((h5.far (p := ⟨w.heap.size + 1, 0, none⟩) (by show w.heap.size + 2 ≠ w.heap.size + 1; omega) (.slice none 0 0)).set 0 (.int .i64 z)).c1
  have kB := (HST2.out.below.setCell (p := ⟨w.heap.size + 1, 0, none⟩) (by show w.heap.size ≤ w.heap.size + 1; omega) (.slice none 0 0)).setCell (p := ⟨w.heap.size + 2, 0, none⟩) (by show w.heap.size ≤ w.heap.size + 2; omega) (.int .i64 z)
  generalize (w2.setCell ⟨w.heap.size + 1, 0, none⟩ (.slice none 0 0)).setCell ⟨w.heap.size + 2, 0, none⟩ (.int .i64 z) = WD at e4 e5 kB ⊢
  refine bodyPost_ret (v := .tuple #[.slice none 0 0, .int .i64 z]) (by simp [results, Tryd.results13, go_sem, e4, e5]) rfl ?_
  exact ⟨none, 0, by rw [HV.out.1, HV.out.2]; rfl, (fun _ => rfl), by rw [HV.out.2]; exact RdB.none_, kB⟩

set_option maxRecDepth 100000 in
set_option maxHeartbeats 8000000 in
theorem Sl.open_any (A : Option Addr) (nl cl : Nat) (xs : List Shr.C) (s : Sl.W) (Ad : Option Addr) (cd : Nat) (Am : Option Addr) (cA : Nat) (w : World) (h : Sl.Rdy w A nl xs s Ad cd Am cA) (hcl : nl ≤ cl) (hcm : cl ≤ maxLen) :
    Calls Tryd.prog 13 #[.agg (Sl.row s Ad cd Am cA).toArray, .slice A nl cl] w (Sl.RetO w (Sl.opnV s (Shr.vals xs)) (Sl.opnE s (Shr.vals xs))) := by
  by_cases hchk : Sl.chk s ≠ 0
  · exact Sl.open_chk A nl cl xs s Ad cd Am cA w h hchk
  replace hchk : Sl.chk s = 0 := by simpa using hchk
  have HH := Lib.hid h
  have HCL := Lib.hid hcl
  have HCM := Lib.hid hcm
  have h36 := Sl.row_len h.s.cl Ad cd Am cA
  obtain ⟨T, hT⟩ : ∃ T, Sl.row s Ad cd Am cA = T := ⟨_, rfl⟩
  have HT := Lib.hid hT
  have HC := Lib.hid (fun W => Sl.check_any s Ad cd Am cA W h.s.cl)
  rw [hT] at h36 HC ⊢
  have HI := Lib.hid (show (Tryd.prog.info? 27).map (·.size) = some T.toArray.size from by rw [List.size_toArray, h36]; exact Sl.infoW)
  obtain ⟨W1, hW1⟩ : ∃ W1, W1 = ((w.alloc (.cells T.toArray 27)).alloc (.cells #[.slice none 0 0] 24)).alloc (.cells #[.int .i64 0] 32) := ⟨_, rfl⟩
  have HST1 := Lib.hid (show St w W1 [(w.heap.size + 2, 32, [.int .i64 0]), (w.heap.size + 1, 24, [.slice none 0 0]), (w.heap.size, 27, T)] from by
    rw [hW1]
    have h := (((St.start w).new 27 T).new 24 [.slice none 0 0]).new 32 [.int .i64 0]
    simp only [World.size_alloc] at h
    exact h)
  have HS1r := Lib.hid (show W1.heap[w.heap.size]? = some (.cells T.toArray 27 (0, 0)) from HST1.out.nth 2 rfl)
  clear h hcl hcm h36 hT
  rw [hchk] at HC
  have HZ := Lib.hid hchk
  clear hchk
  have h1 : 1 ≤ 10 := by omega
  have h2 : 1 ≤ 10 - 1 := by omega
  have h3 : 1 ≤ 10 - 1 - 1 := by omega
  have hfn : ∀ f, Fence.wide.fn f := fun _ => trivial
  refine (callsIn_wide (n := 10)).1 ?_
  refine callsIn_of_wp_marks Tryd.func13 rfl trivial ?_ rfl
  simp only [Tryd.ntmps13, List.size_toArray, List.length_cons, List.length_nil, Nat.reduceAdd, Nat.reduceSub, Array.replicate_succ, Array.replicate_zero, List.push_toArray, List.append_toArray, List.nil_append, List.cons_append]
  refine wpIn_wide.2 ?_
  go_upto_region 1 with fail
  change Code.wp _ _ _ _ (((w.alloc (.cells T.toArray 27)).alloc (.cells #[.slice none 0 0] 24)).alloc (.cells #[.int .i64 0] 32))
  rw [← hW1, show w.heap.size + 1 + 1 = w.heap.size + 2 from rfl]
  clear hW1
  go_wp2_with (first
    | (with_reducible refine wpList_load_row rfl 27 (.tmp 2) rfl w.heap.size rfl 27 T.toArray (0, 0) _ HS1r.out Tryd.underlying27 rfl HI.out ?_))
  ((with_reducible refine (HC.out _).mono ?_); rintro e w2 ⟨rfl, hb2⟩)
  have HST2 := Lib.hid (HST1.out.keep hb2)
  have HS2r := Lib.hid (show w2.heap[w.heap.size]? = some (.cells T.toArray 27 (0, 0)) from HST2.out.nth 2 rfl)
  have c5 := (HST2.out.nth 0 rfl).c1
  have f5 := (HST2.out.nth 0 rfl).frozen 0
  have c4 := (HST2.out.nth 1 rfl).c1
  have f4 := (HST2.out.nth 1 rfl).frozen 0
  have z5 := (HST2.out.nth 0 rfl).lt
  have z4 := (HST2.out.nth 1 rfl).lt
  clear hb2
  · have HG := Lib.hid (Sl.good HZ.out)
    clear c4 f4 c5 f5
    go_wp2_with (first
      | (with_reducible refine wpList_load_row rfl 27 (.tmp 2) rfl w.heap.size rfl 27 T.toArray (0, 0) _ HS2r.out Tryd.underlying27 rfl HI.out ?_))
    ((with_reducible refine (Sl.wrong_any T A nl cl w2).mono ?_); rintro e w3 ⟨rfl, hw3⟩)
    have HB3 := Lib.hid (show Below w2.heap.size w2 w3 from by rw [← hw3]; exact below_of2 _ _ _)
    obtain ⟨gs, hgs⟩ : ∃ gs, gs = w2.heap.size := ⟨_, rfl⟩
    obtain ⟨gl, hgl⟩ : ∃ gl, gl = w2.heap.size + 1 := ⟨_, rfl⟩
    have HGS := Lib.hid (show Has w3 gs 27 T from by rw [← hw3, hgs]; exact (Has.new w2 _ _).alloc _)
    have HGL := Lib.hid (show Has w3 gl 28 [.slice A nl cl] from by rw [← hw3, hgl]; exact Has.second w2 _ _ _)
    have HZ3 := Lib.hid (show w3.heap.size = w2.heap.size + 2 from by rw [← hw3]; simp)
    have HST3 := Lib.hid (show St w w3 [(w.heap.size + 2, 32, [.int .i64 0]), (w.heap.size + 1, 24, [.slice none 0 0]), (w.heap.size, 27, T), (gl, 28, [.slice A nl cl]), (gs, 27, T)] from by
      have h := HST2.out.keep HB3.out
      refine ⟨h.below, fun x hx => ?_⟩
      simp only [List.mem_cons, List.not_mem_nil, or_false] at hx
      rcases hx with rfl | rfl | rfl | rfl | rfl
      · exact h.nth 0 rfl
      · exact h.nth 1 rfl
      · exact h.nth 2 rfl
      · exact HGL.out
      · exact HGS.out)
    rw [← hgl, ← hgs]
    have HSQ := Lib.hid (Sl.wr_stops 9 (by omega) gl gs A nl cl xs s Ad cd Am cA w w3 HST3.out.below HH.out.r HH.out.g (by have := HH.out.n; unfold maxLen; omega) HH.out.d HH.out.s HG.out.mkl (by have := HG.out.mkl; have := HG.out.mn8; omega) HH.out.k HGL.out (by rw [HT.out]; exact HGS.out))
    have zs := HGS.out.lt
    have zl := HGL.out.lt
    have hgsw : w.heap.size + 2 < gs := by omega
    have hglw : w.heap.size + 2 < gl := by omega
    clear hw3 hgs hgl HS2r HS1r HST1 HST2 HB3 HZ3
    go_wp2_with fail
    refine (wpIn_wide (n := 10)).1 ?_
    refine wpIn_rangeFunc_ownF rfl h1 (gf := 54) (lb := #[.pointer (some ⟨gl, 0, none⟩), .pointer (some ⟨gs, 0, none⟩)]) rfl trivial (enters_of Tryd.func54 (by kernel_rfl) rfl)
      HSQ.out (fun h k => h.trans k)
      (fun W l o o' hl ho hc hw => ⟨belowK_b (w := w3) (Nat.le_of_lt (Nat.lt_of_lt_of_le (by omega) (Nat.le_of_lt zs))) W l o o' hl ho hc hw, World.putObj_heap_other (by omega), World.putObj_heap_other (by omega)⟩)
      (Below.refl _ _) (fun _ => rfl)
      (fun pre W => pre = [] ∧ St w W [(w.heap.size + 2, 32, [.int .i64 0]), (w.heap.size + 1, 24, [.slice none 0 0]), (w.heap.size, 27, T), (gl, 28, [.slice A nl cl]), (gs, 27, T)]) (fun c pre W => c = .ret ∧ pre ≠ [] ∧ St w W [(w.heap.size + 2, 32, [.int .i64 501]), (w.heap.size + 1, 24, [.slice none 0 0])]) (Sl.oI_own _ (by omega)) (fun c => Sl.oX_own _ c (by omega)) ⟨rfl, HST3.out⟩
      (fun x => { tmps := #[.agg T.toArray, .slice A nl cl, .pointer (some ⟨w.heap.size, 0, none⟩), undef, .pointer (some ⟨w.heap.size + 1, 0, none⟩), .pointer (some ⟨w.heap.size + 2, 0, none⟩), .int .i64 0, undef, .agg T.toArray, .int .i64 0, .int .i64 0, .bool false, undef, .agg T.toArray, .slice A nl cl, .func (.func 54) #[] #[.pointer (some ⟨gl, 0, none⟩), .pointer (some ⟨gs, 0, none⟩)], .int .i64 (x : Int), undef, undef, undef, undef, undef, undef, undef, undef, undef, undef, undef, undef, undef, undef, undef, undef, undef, undef, undef, undef, undef, undef, undef, undef], defers := [] }) ?assign ?body ?done ?stop
    case assign =>
      intro L x W K hK
      have HK := Lib.hid hK
      clear hK
      dsimp only [Sl.enc]
      gi_wp2
      exact HK.out
    case body =>
      rintro L pre x W ⟨rfl, hS⟩ hlen
      have c5 := (hS.nth 0 rfl).c1
      have f5 := (hS.nth 0 rfl).frozen 0
      have c4 := (hS.nth 1 rfl).c1
      have f4 := (hS.nth 1 rfl).frozen 0
      have HS := Lib.hid hS
      clear hS HST3 HGS HGL HSQ
      gi_wp2
      have h5 := HS.out.nth 0 rfl
      have h4 := HS.out.nth 1 rfl
      refine ⟨(KeepsOthers.setCell _ _ _).trans (KeepsOthers.setCell _ _ _), rfl, by simp, (HS.out.below.setCell (p := ⟨w.heap.size + 1, 0, none⟩) (by show w.heap.size ≤ w.heap.size + 1; omega) _).setCell (p := ⟨w.heap.size + 2, 0, none⟩) (by show w.heap.size ≤ w.heap.size + 2; omega) _, fun y hy => ?_⟩
      simp only [List.mem_cons, List.not_mem_nil, or_false] at hy
      rcases hy with rfl | rfl
      · exact (h5.far (p := ⟨w.heap.size + 1, 0, none⟩) (by show w.heap.size + 2 ≠ w.heap.size + 1; omega) _).set 0 _
      · exact (h4.set 0 _).far (p := ⟨w.heap.size + 2, 0, none⟩) (by show w.heap.size + 1 ≠ w.heap.size + 2; omega) _
    case done =>
      rintro D r W hD hr ⟨rfl, hS⟩ hK
      have HOE := Lib.hid (show Sl.OE w W D (.slice none 0 0) 0 from ⟨hS.nth 1 rfl, hS.nth 0 rfl, hK, hS.below, by omega⟩)
      have HAL := Lib.hid hr.symm
      have HGS := Lib.hid (hS.nth 2 rfl)
      have HBW := Lib.hid hS.below
      clear hS hK hr HST3 HGL HSQ
      obtain ⟨c4, c5, f4, f5, z4', z5'⟩ := HOE.out.cells
      have HRR := Lib.hid (HH.out.r.keep HBW.out)
      by_cases hj : Shr.joinE (Shr.vals xs) = 0
      · have HJ := Lib.hid (Shr.join_yes A nl cl xs W HRR.out HCL.out HCM.out hj)
        have HJ0 := Lib.hid hj
        have HDL := Lib.hid (show (Shr.joinV (Shr.vals xs)).length = (Shr.vals xs)[0]!.d.length from by simp [Shr.joinV])
        obtain ⟨nj, hnj⟩ : ∃ nj, (Shr.vals xs)[0]!.d.length = nj := ⟨_, rfl⟩
        rw [hnj] at HJ HDL
        have HNJ := Lib.hid hnj
        obtain ⟨nd, hnd⟩ : ∃ nd, s.d.length = nd := ⟨_, rfl⟩
        have HND := Lib.hid hnd
        have hd64 : nd ≤ 64 := by rw [← hnd]; exact HG.out.d64
        have hj64 : nj ≤ 64 := by
          have hg := (Shr.good (Shr.vals xs) (by
            have h2 := HJ0.out
            unfold Shr.joinE at h2
            by_cases h3 : Shr.chkE (Shr.vals xs) = 0
            · exact h3
            · rw [if_pos h3] at h2; exact absurd h2 h3)).d64
          omega
        have t32 : T[32]? = some (.slice Ad nd cd) := by rw [← HT.out, ← hnd]; exact (Sl.row_at HH.out.s.cl Ad cd Am cA).1
        clear c4 c5 f4 f5 hj hnj hnd
        go_wp2_with fail
        ((with_reducible refine HJ.out.mono ?_); rintro e w4 ⟨A4, c4, rfl, hn4, hr4, hf4, hl4, hb4⟩)
        have HOE4 := Lib.hid (HOE.out.keep hb4)
        have HGS4 := Lib.hid (HGS.out.keep hb4)
        have HR4 := Lib.hid hr4
        obtain ⟨c4', c5, f4, f5, y4, y5⟩ := HOE4.out.cells
        have hb4s := hb4.size
        have HF4 := Lib.hid (show ∀ b off, A4 = some ⟨b, off, none⟩ → w.heap.size + 2 < b from fun b off e => by have h1 := hf4 b off e; omega)
        clear hn4 hr4 hf4 hl4 hb4 HOE
        have HOE5 := Lib.hid (HOE4.out.set5 0)
        obtain ⟨w5, hw5⟩ : ∃ w5, w5 = w4.setCell ⟨w.heap.size + 2, 0, none⟩ (.int .i64 0) := ⟨_, rfl⟩
        have HR5 := Lib.hid (show RdB w5 A4 nj (Shr.joinV (Shr.vals xs)) from by
          rw [hw5]
          exact Rd.kept HR4.out (grownBy_set w4 _ _ _) (fun b off e e2 => by
            have h1 := HF4.out b off e
            injection e2 with e2
            omega))
        have HGS5 := Lib.hid (show Has w5 w.heap.size 27 T from by rw [hw5]; exact HGS4.out.far (p := ⟨w.heap.size + 2, 0, none⟩) (by show w.heap.size ≠ w.heap.size + 2; omega) _)
        rw [← hw5] at HOE5
        have HW5 := Lib.hid hw5
        have g32 : w4.cell? ⟨w.heap.size, 32, none⟩ = some (.slice Ad nd cd) := (HGS4.out.cell 32).trans t32
        clear hw5
        by_cases hn : nj = nd
        · subst hn
          have q : ((nj : Int) != (nj : Int)) = false := by simp
          have HXO := Lib.hid (Sl.xor_any Ad A4 nj cd c4 s.d (Shr.joinV (Shr.vals xs)) w5 (by have h1 := (HH.out.s.keep HOE5.out.b).rd; rw [HND.out] at h1; exact h1) HR5.out (by omega))
          obtain ⟨B, hB⟩ : ∃ B, Sl.xorl s.d (Shr.joinV (Shr.vals xs)) = B := ⟨_, rfl⟩
          rw [hB] at HXO
          have HB := Lib.hid hB
          have hBl : B.length = nj := by rw [← hB, Sl.xorl_len, HND.out]
          have HBL := Lib.hid hBl
          clear hB hBl t32
          go_wp2_with fail
          rw [← HW5.out]
          ((with_reducible refine HXO.out.mono ?_); rintro e w6 ⟨rfl, hx6, hb6⟩)
          have HOE6 := Lib.hid (HOE5.out.keep hb6)
          have HGS6 := Lib.hid (HGS5.out.keep hb6)
          have HX6 := Lib.hid (Sl.RetX.rd hx6 HBL.out)
          obtain ⟨gx, hgx⟩ : ∃ gx, gx = w5.heap.size := ⟨_, rfl⟩
          have HGX := Lib.hid (show w.heap.size + 2 < gx ∧ D < gx from by rw [hgx]; exact ⟨HOE5.out.c5.lt, (Array.getElem?_eq_some_iff.1 HOE5.out.k).1⟩)
          rw [← hgx] at HX6 ⊢
          obtain ⟨d4, d5, d6, d7, d8, d9⟩ := HOE6.out.cells
          clear hx6 hb6 hgx c4' c5 f4 f5 y4 y5 g32 q
          go_wp2_with fail
          have HOE7 := Lib.hid (HOE6.out.set4 (.slice (some ⟨gx, 0, none⟩) nj nj))
          obtain ⟨w7, hw7⟩ : ∃ w7, w7 = w6.setCell ⟨w.heap.size + 1, 0, none⟩ (.slice (some ⟨gx, 0, none⟩) nj nj) := ⟨_, rfl⟩
          rw [← hw7] at HOE7 ⊢
          have HX7 := Lib.hid (show RdB w7 (some ⟨gx, 0, none⟩) nj B from by
            rw [hw7]
            exact Rd.kept HX6.out (grownBy_set w6 _ _ _) (fun b off e e2 => by
              injection e with e
              injection e with e
              injection e2 with e2
              have := HGX.out
              omega))
          have HGS7 := Lib.hid (show Has w7 w.heap.size 27 T from by rw [hw7]; exact HGS6.out.far (p := ⟨w.heap.size + 1, 0, none⟩) (by show w.heap.size ≠ w.heap.size + 1; omega) _)
          obtain ⟨C, hC⟩ : ∃ C, s.cm = C := ⟨_, rfl⟩
          have HCC := Lib.hid hC
          have HC32 := Lib.hid (show C.length = 32 from by rw [← hC]; exact HH.out.s.cl)
          have HC32b := Lib.hid (show (Tryd.prog.info? 23).map (·.size) = some (C.map Dg.b8).length from by rw [List.length_map, HC32.out]; exact Sl.infoD)
          have hTC : ∀ i v, (C.map Dg.b8)[i]? = some v → T[i]? = some v := fun i v hv => by
            rw [← HT.out]
            unfold Sl.row
            rw [List.getElem?_append_left (by rw [hC]; exact (List.getElem?_eq_some_iff.1 hv).1), hC]
            exact hv
          have e4c := HOE7.out.c4.c1
          have s0 : Below w7.heap.size w7 w7.drew := (Below.refl _ w7).drew
          have KP := Lib.hid (fun (w' : World) (h : Below w7.heap.size w7 w') => (⟨(h.cell (p := ⟨w.heap.size + 1, 0, none⟩) HOE7.out.c4.lt).trans e4c, fun i v hv => by rw [Nat.zero_add]; exact ((HGS7.out.keep h).cell i).trans (hTC i v hv), h⟩ : w'.cell? ⟨w.heap.size + 1, 0, none⟩ = some (.slice (some ⟨gx, 0, none⟩) nj nj) ∧ w'.rangeAt w.heap.size 0 (C.map Dg.b8) ∧ Below w7.heap.size w7 w'))
          have HEN := Lib.hid (enters_of Tryd.func15 (by kernel_rfl) rfl)
          have HTG := Lib.hid (fun (w' : World) (h : Below w7.heap.size w7 w') => Dg.tagged_any w' Sl.tgC (some ⟨gx, 0, none⟩) nj nj B Rc.K0 Rc.I0 (HX7.out.keep h) (fun e => by cases e) (by omega) (by decide) (HH.out.k.keep (HOE7.out.b.trans (h.mono HOE7.out.b.size))))
          clear hw7 hC hTC e4c d4 d5 d6 d7 d8 d9
          refine Code.wp_mono (Q := NormalOnly (fun a' W' => ∃ u35 u36 u37 u38 : Value, a' = { tmps := #[.agg T.toArray, .slice A nl cl, .pointer (some ⟨w.heap.size, 0, none⟩), undef, .pointer (some ⟨w.heap.size + 1, 0, none⟩), .pointer (some ⟨w.heap.size + 2, 0, none⟩), .int .i64 0, .slice A4 nj c4, .agg T.toArray, .int .i64 0, .int .i64 0, .bool false, undef, .agg T.toArray, .slice A nl cl, .func (.func 54) #[] #[.pointer (some ⟨gl, 0, none⟩), .pointer (some ⟨gs, 0, none⟩)], undef, .tuple #[.slice A4 nj c4, .int .i64 0], .slice A nl cl, .tuple #[.slice A4 nj c4, .int .i64 0], .slice A4 nj c4, .int .i64 0, .int .i64 0, .bool false, undef, .slice A4 nj c4, .int .i64 nj, .pointer (some ⟨w.heap.size, 32, none⟩), .slice Ad nj cd, .int .i64 nj, .bool false, .pointer (some ⟨w.heap.size, 32, none⟩), .slice Ad nj cd, .slice A4 nj c4, .slice (some ⟨gx, 0, none⟩) nj nj, u35, u36, u37, u38, .bool (!(Sl.com B == C)), undef], defers := [{ target := Target.collected D, args := #[] }] } ∧ Below w7.heap.size w7 W')) ?tail ?region
          case region =>
            refine wp_region_named (fun ops hops => ?_)
            refine wp_region_T (by kernel_rfl) [] (fun w' => w'.cell? ⟨w.heap.size + 1, 0, none⟩ = some (.slice (some ⟨gx, 0, none⟩) nj nj) ∧ w'.rangeAt w.heap.size 0 (C.map Dg.b8) ∧ Below w7.heap.size w7 w') ?_
            rw [show ops.size = 5 from by rw [hops]; rfl]
            have HNS : Region.noSelect ops = true := by rw [hops]; kernel_rfl
            have hHeld := KP.out _ s0
            obtain ⟨o0, h0, d0, p0, g0⟩ := op_at5 hops 0 rfl (d := some 35) (p := Op.load 24 (Operand.tmp 4)) (g := none) rfl rfl rfl
            obtain ⟨o1, h1, d1, p1, g1⟩ := op_at5 hops 1 rfl (d := some 36) (p := Op.call { callee := Callee.value (Operand.func 15), args := #[Operand.const (Value.string { data := #[99, 111, 109, 109, 105, 116] }), Operand.tmp 35], argTypes := #[9, 24] }) (g := none) rfl rfl rfl
            obtain ⟨o2, h2, d2, p2, g2⟩ := op_at5 hops 2 rfl (d := some 37) (p := Op.fieldAddr 27 (Operand.tmp 2) 0) (g := none) rfl rfl rfl
            obtain ⟨o3, h3, d3, p3, g3⟩ := op_at5 hops 3 rfl (d := some 38) (p := Op.load 23 (Operand.tmp 37)) (g := none) rfl rfl rfl
            obtain ⟨o4, h4, d4, p4, g4⟩ := op_at5 hops 4 rfl (d := some 39) (p := Op.binOp BinOp.neq 23 (Operand.tmp 36) (Operand.tmp 38) 23) (g := none) rfl rfl rfl
            refine wpAnyT_take (i := 0) (v := .slice (some ⟨gx, 0, none⟩) nj nj) [0, 1, 4] h0 HNS (by rw [hops]; kernel_rfl) (by rw [hops]; kernel_rfl) (by rw [hops]; kernel_rfl) (fun _ _ _ => NormalOnly.hQ _ _ _) (Or.inl ⟨(wanted_none g0), fun w' h => run_op_load_cell 24 _ p0 (w.heap.size + 1) 0 (by rfl) _ h.1 _ Tryd.underlying24 rfl⟩) hHeld ?_
            rw [d0]
            simp only [Act.put, List.setIfInBounds_toArray, List.set_cons_zero, List.set_cons_succ]
            refine wpAnyT_take (i := 2) (v := .pointer (some ⟨w.heap.size, 0, none⟩)) [2, 3, 4] h2 HNS (by rw [hops]; kernel_rfl) (by rw [hops]; kernel_rfl) (by rw [hops]; kernel_rfl) (fun _ _ _ => NormalOnly.hQ _ _ _) (Or.inl ⟨(wanted_none g2), fun w' _ => by unfold execOp; rw [p2]; first | rfl | kernel_rfl⟩) hHeld ?_
            rw [d2]
            simp only [Act.put, List.setIfInBounds_toArray, List.set_cons_zero, List.set_cons_succ]
            refine wpAnyT_take (i := 3) (v := .agg (C.map Dg.b8).toArray) [3, 4] h3 HNS (by rw [hops]; kernel_rfl) (by rw [hops]; kernel_rfl) (by rw [hops]; kernel_rfl) (fun _ _ _ => NormalOnly.hQ _ _ _) (Or.inl ⟨(wanted_none g3), fun w' h => run_op_load_mid 23 _ p3 w.heap.size 0 (by rfl) (C.map Dg.b8) _ h.2.1 Tryd.underlying23 rfl HC32b.out⟩) hHeld ?_
            rw [d3]
            simp only [Act.put, List.setIfInBounds_toArray, List.set_cons_zero, List.set_cons_succ]
            refine wpAnyT_one (by rw [hops]; kernel_rfl) h1 (wanted_none g1) (fun K hK => ?_)
            refine wp_call2 15 _ _ _ (.string ⟨Sl.tgC.toArray⟩) (.slice (some ⟨gx, 0, none⟩) nj nj) p1 HEN.out (by rfl) (by rfl) ?_
            (refine (HTG.out _ s0).mono ?_; rintro e w9 ⟨rfl, hb9⟩)
            have s9 : Below w7.heap.size w7 w9 := s0.trans (hb9.mono s0.size)
            clear hb9
            refine ⟨_, rfl, ?_⟩
            rw [d1]
            simp only [Act.put, List.setIfInBounds_toArray, List.set_cons_zero, List.set_cons_succ]
            refine hK.out _ _ (fun _ => KP.out _ s9) ?_
            clear hK K hHeld
            have hHeld := KP.out _ s9
            refine wpAnyT_take (i := 4) (v := .bool (!(Sl.com B == C))) [4] h4 HNS (by rw [hops]; kernel_rfl) (by rw [hops]; kernel_rfl) (by rw [hops]; kernel_rfl) (fun _ _ _ => NormalOnly.hQ _ _ _) (Or.inl ⟨(wanted_none g4), fun w' _ => run_op_neq_agg 23 23 _ _ p4 _ _ _ (by rfl) (by rfl) (by kernel_rfl) (Sl.neqD _ _ (Sl.com_len _) HC32.out w')⟩) hHeld ?_
            rw [d4]
            simp only [Act.put, List.setIfInBounds_toArray, List.set_cons_zero, List.set_cons_succ]
            refine wpAnyT_done (by rw [hops]; kernel_rfl) ⟨rfl, _, _, _, _, rfl, s9⟩ _

          case tail =>
            rintro e a' W5 ⟨rfl, v35, v36, v37, v38, rfl, hb9⟩
            have HOE9 := Lib.hid (HOE7.out.keep hb9)
            have HX9 := Lib.hid (HX7.out.keep hb9)
            obtain ⟨d4, d5, d6, d7, d8, d9⟩ := HOE9.out.cells
            clear hb9 KP s0
            by_cases hq : Sl.com B = C
            · have q3 : (!(Sl.com B == C)) = false := by rw [hq]; simp
              rw [q3]
              have HV := Lib.hid (show Sl.opnE s (Shr.vals xs) = 0 ∧ Sl.opnV s (Shr.vals xs) = B from by
                have h1 : Sl.opnE s (Shr.vals xs) = 0 := by unfold Sl.opnE; rw [if_neg (by rw [HZ.out]; simp), if_neg (by rw [HAL.out]; simp), if_neg (by rw [HJ0.out]; simp), if_neg (by rw [HNJ.out, HND.out]; simp), if_neg (by rw [HB.out, HCC.out, hq]; simp)]
                exact ⟨h1, by unfold Sl.opnV; rw [h1, if_pos rfl, HB.out]⟩)
              have HOE := Lib.hid ((HOE9.out.set4 (.slice (some ⟨gx, 0, none⟩) nj nj)).set5 0)
              clear hq q3
              go_wp2_with fail
              have kk := HOE.out.k
              obtain ⟨w8, hw8⟩ : ∃ w8, w8 = (W5.setCell ⟨w.heap.size + 1, 0, none⟩ (.slice (some ⟨gx, 0, none⟩) nj nj)).setCell ⟨w.heap.size + 2, 0, none⟩ (.int .i64 0) := ⟨_, rfl⟩
              have HX8 := Lib.hid (show RdB (w8.putObj D (.deferred none)) (some ⟨gx, 0, none⟩) nj B from by
                rw [hw8]
                refine Rd.kept (Rd.kept (Rd.kept HX9.out (grownBy_set W5 _ _ _) (fun b off e e2 => ?_)) (grownBy_set _ _ _ _) (fun b off e e2 => ?_)) (grownBy_putObj' _ D _) (fun b off e e2 => ?_)
                all_goals (injection e with e; injection e with e; injection e2 with e2; have := HGX.out; omega))
              rw [← hw8] at HOE kk ⊢
              obtain ⟨e4, e5, kB⟩ := Sl.OE.fin HOE.out
              refine ⟨by simp, .inl ⟨_, _, rfl, run_takeDeferred HOE.out.k, ?_⟩⟩
              have HX8' := HX8.out
              generalize World.putObj _ D (.deferred none) = WD at e4 e5 kB HX8' ⊢
              exact ⟨.tuple #[.slice (some ⟨gx, 0, none⟩) nj nj, .int .i64 0], (by simp [results, Tryd.results13, go_sem, e4, e5]), some ⟨gx, 0, none⟩, nj, by rw [HV.out.1, HV.out.2, HBL.out], (fun e => by cases e), by rw [HV.out.2, HBL.out]; exact HX8', kB⟩
            · have q3 : (!(Sl.com B == C)) = true := by simpa using hq
              rw [q3]
              have HV := Lib.hid (show Sl.opnE s (Shr.vals xs) = 501 ∧ Sl.opnV s (Shr.vals xs) = [] from by
                have h1 : Sl.opnE s (Shr.vals xs) = 501 := by unfold Sl.opnE; rw [if_neg (by rw [HZ.out]; simp), if_neg (by rw [HAL.out]; simp), if_neg (by rw [HJ0.out]; simp), if_neg (by rw [HNJ.out, HND.out]; simp), if_pos (by rw [HB.out, HCC.out]; exact hq)]
                exact ⟨h1, Sl.opn_no h1 (by decide)⟩)
              have HOE := Lib.hid ((HOE9.out.set4 (.slice none 0 0)).set5 501)
              clear hq q3
              go_wp2_with fail
              obtain ⟨e4, e5, kB⟩ := Sl.OE.fin HOE.out
              refine ⟨by simp, .inl ⟨_, _, rfl, run_takeDeferred HOE.out.k, ?_⟩⟩
              generalize World.putObj _ D (.deferred none) = WD at e4 e5 kB ⊢
              exact ⟨.tuple #[.slice none 0 0, .int .i64 501], (by simp [results, Tryd.results13, go_sem, e4, e5]), none, 0, by rw [HV.out.1, HV.out.2]; rfl, (fun _ => rfl), by rw [HV.out.2]; exact RdB.none_, kB⟩

        · have q : ((nj : Int) != (nd : Int)) = true := by
            simpa using fun e : (nj : Int) = (nd : Int) => hn (by omega)
          have HV := Lib.hid (show Sl.opnE s (Shr.vals xs) = 501 ∧ Sl.opnV s (Shr.vals xs) = [] from by
            have h1 : Sl.opnE s (Shr.vals xs) = 501 := by unfold Sl.opnE; rw [if_neg (by rw [HZ.out]; simp), if_neg (by rw [HAL.out]; simp), if_neg (by rw [HJ0.out]; simp), if_pos (by rw [HNJ.out, HND.out]; exact hn)]
            exact ⟨h1, Sl.opn_no h1 (by decide)⟩)
          have HOE := Lib.hid (((HOE4.out.set5 0).set4 (.slice none 0 0)).set5 501)
          clear hn t32
          go_wp2_with fail
          obtain ⟨e4, e5, kB⟩ := Sl.OE.fin HOE.out
          refine ⟨by simp, .inl ⟨_, _, rfl, run_takeDeferred HOE.out.k, ?_⟩⟩
          generalize World.putObj _ D (.deferred none) = WD at e4 e5 kB ⊢
          exact ⟨.tuple #[.slice none 0 0, .int .i64 501], (by simp [results, Tryd.results13, go_sem, e4, e5]), none, 0, by rw [HV.out.1, HV.out.2]; rfl, (fun _ => rfl), by rw [HV.out.2]; exact RdB.none_, kB⟩

      · have HJ := Lib.hid (Shr.join_no A nl cl xs W HRR.out (by have := HH.out.n; unfold maxLen; omega) hj)
        have HV := Lib.hid (show Sl.opnE s (Shr.vals xs) = Shr.joinE (Shr.vals xs) ∧ Sl.opnV s (Shr.vals xs) = [] from by
          have h1 : Sl.opnE s (Shr.vals xs) = Shr.joinE (Shr.vals xs) := by unfold Sl.opnE; rw [if_neg (by rw [HZ.out]; simp), if_neg (by rw [HAL.out]; simp), if_pos hj]
          exact ⟨h1, Sl.opn_no h1 hj⟩)
        obtain ⟨ze, hze⟩ : ∃ ze, Shr.joinE (Shr.vals xs) = ze := ⟨_, rfl⟩
        rw [hze] at HJ HV hj
        have q : (ze != 0) = true := by simpa using hj
        clear c4 c5 f4 f5 hze
        go_wp2_with fail
        ((with_reducible refine HJ.out.mono ?_); rintro e w4 ⟨rfl, hb4⟩)
        have HOE4 := Lib.hid (HOE.out.keep hb4)
        obtain ⟨c4, c5, f4, f5, y4, y5⟩ := HOE4.out.cells
        clear hb4 HOE
        go_wp2_with fail
        have HOE5 := Lib.hid (HOE4.out.set5 ze)
        obtain ⟨w5, hw5⟩ : ∃ w5, w5 = w4.setCell ⟨w.heap.size + 2, 0, none⟩ (.int .i64 ze) := ⟨_, rfl⟩
        rw [← hw5] at HOE5 ⊢
        obtain ⟨d4, d5, d6, d7, d8, d9⟩ := HOE5.out.cells
        clear hw5 c4 c5 f4 f5
        refine Code.wp_mono (Q := NormalOnly (fun a' W' => ∃ u24 : Value, a' = { tmps := #[.agg T.toArray, .slice A nl cl, .pointer (some ⟨w.heap.size, 0, none⟩), undef, .pointer (some ⟨w.heap.size + 1, 0, none⟩), .pointer (some ⟨w.heap.size + 2, 0, none⟩), .int .i64 0, .slice none 0 0, .agg T.toArray, .int .i64 0, .int .i64 0, .bool false, undef, .agg T.toArray, .slice A nl cl, .func (.func 54) #[] #[.pointer (some ⟨gl, 0, none⟩), .pointer (some ⟨gs, 0, none⟩)], undef, .tuple #[.slice none 0 0, .int .i64 ze], .slice A nl cl, .tuple #[.slice none 0 0, .int .i64 ze], .slice none 0 0, .int .i64 ze, .int .i64 ze, .bool true, u24, undef, undef, undef, undef, undef, undef, undef, undef, undef, undef, undef, undef, undef, undef, undef, undef], defers := [{ target := Target.collected D, args := #[] }] } ∧ Sl.OE w W' D (.slice none 0 0) ze)) ?tail ?region
        case region =>
          refine wp_region_named (fun ops hops => ?_)
          refine wp_region_T (by kernel_rfl) [2] (fun w' => w'.cell? ⟨w.heap.size + 2, 0, none⟩ = some (.int .i64 ze)) ?_
          rw [show ops.size = 3 from by rw [hops]; rfl]
          have HNS : Region.noSelect ops = true := by rw [hops]; kernel_rfl
          have hHeld := d5
          obtain ⟨o0, h0, d0, p0, g0⟩ := op_at5 hops 0 rfl (d := some 24) (p := Op.load 32 (Operand.tmp 5)) (g := none) rfl rfl rfl
          obtain ⟨o1, h1, d1, p1, g1⟩ := op_at5 hops 1 rfl (d := none) (p := Op.store 24 (Operand.tmp 4) (Operand.const (Value.slice none 0 0))) (g := none) rfl rfl rfl
          obtain ⟨o2, h2, d2, p2, g2⟩ := op_at5 hops 2 rfl (d := none) (p := Op.store 32 (Operand.tmp 5) (Operand.tmp 24)) (g := none) rfl rfl rfl
          refine wpAnyT_take (i := 0) (v := .int .i64 ze) [0, 2] h0 HNS (by rw [hops]; kernel_rfl) (by rw [hops]; kernel_rfl) (by rw [hops]; kernel_rfl) (fun _ _ _ => NormalOnly.hQ _ _ _) (Or.inl ⟨(wanted_none g0), fun w' h => run_op_load_cell 32 _ p0 (w.heap.size + 2) 0 (by rfl) _ h _ Tryd.underlying32 rfl⟩) hHeld ?_
          rw [d0]
          simp only [Act.put, List.setIfInBounds_toArray, List.set_cons_zero, List.set_cons_succ]
          refine wpAnyT_one (by rw [hops]; kernel_rfl) h1 (wanted_none g1) (fun K hK => ?_)
          refine wp_runS (w' := w5.drew.setCell ⟨w.heap.size + 1, 0, none⟩ (.slice none 0 0)) (run_op_store_cell 24 _ _ p1 (w.heap.size + 1) 0 (by rfl) none 0 0 (by rfl) _ d4 d6 (by kernel_rfl)) ?_
          rw [d1]
          simp only [Act.put, List.setIfInBounds_toArray, List.set_cons_zero, List.set_cons_succ]
          have HOE6 := Lib.hid (HOE5.out.keep (Below.refl _ w5).drew |>.set4 (.slice none 0 0))
          obtain ⟨b4, b5, b6, b7, b8, b9⟩ := HOE6.out.cells
          refine hK.out _ _ (fun _ => b5) ?_
          clear hK K hHeld
          refine wpAnyT_one (by rw [hops]; kernel_rfl) h2 (wanted_none g2) (fun K hK => ?_)
          refine wp_runS (w' := (w5.drew.setCell ⟨w.heap.size + 1, 0, none⟩ (.slice none 0 0)).setCell ⟨w.heap.size + 2, 0, none⟩ (.int .i64 ze)) (run_op_store_int 32 _ _ p2 (w.heap.size + 2) 0 (by rfl) .i64 ze (by rfl) _ b5 b7 (by kernel_rfl)) ?_
          rw [d2]
          simp only [Act.put, List.setIfInBounds_toArray, List.set_cons_zero, List.set_cons_succ]
          refine hK.out _ _ (fun h => absurd (by decide) h) ?_
          refine wpAnyT_done (by rw [hops]; kernel_rfl) ⟨rfl, _, rfl, HOE6.out.set5 ze⟩ _
        case tail =>
          rintro e a' W5 ⟨rfl, v24, rfl, hOE⟩
          have HOE := Lib.hid hOE
          clear hOE HOE4 HOE5 d4 d5 d6 d7 d8 d9
          go_wp2_with fail
          obtain ⟨e4, e5, kB⟩ := Sl.OE.fin HOE.out
          refine ⟨by simp, .inl ⟨_, _, rfl, run_takeDeferred HOE.out.k, ?_⟩⟩
          generalize World.putObj _ D (.deferred none) = WD at e4 e5 kB ⊢
          exact ⟨.tuple #[.slice none 0 0, .int .i64 ze], (by simp [results, Tryd.results13, go_sem, e4, e5]), none, 0, by rw [HV.out.1, HV.out.2]; rfl, (fun _ => rfl), by rw [HV.out.2]; exact RdB.none_, kB⟩
    case stop =>
      rintro D c pre W hD ⟨r, hr⟩ ⟨rfl, hp, hS⟩ hK
      have HOE := Lib.hid (show Sl.OE w W D (.slice none 0 0) 501 from ⟨hS.nth 1 rfl, hS.nth 0 rfl, hK, hS.below, by omega⟩)
      have hal : Sl.alt s (Shr.vals xs) ≠ [] := fun e => by rw [e] at hr; exact hp (List.append_eq_nil_iff.1 hr).1
      have HV := Lib.hid (show Sl.opnE s (Shr.vals xs) = 501 ∧ Sl.opnV s (Shr.vals xs) = [] from by
        have h1 : Sl.opnE s (Shr.vals xs) = 501 := by unfold Sl.opnE; rw [if_neg (by rw [HZ.out]; simp), if_pos hal]
        exact ⟨h1, by unfold Sl.opnV; rw [h1]; rfl⟩)
      clear hS hK hr hp hal HST3 HGS HGL HSQ
      gi_wp2
      obtain ⟨e4, e5, kB⟩ := Sl.OE.fin HOE.out
      refine ⟨by simp, .inl ⟨_, _, rfl, run_takeDeferred HOE.out.k, ?_⟩⟩
      generalize World.putObj _ D (.deferred none) = WD at e4 e5 kB ⊢
      exact ⟨.tuple #[.slice none 0 0, .int .i64 501], (by simp [results, Tryd.results13, go_sem, e4, e5]), none, 0, by rw [HV.out.1, HV.out.2]; rfl, (fun _ => rfl), by rw [HV.out.2]; exact RdB.none_, kB⟩
end Go.Proofs.YtideglpjgplpnaaDoor
