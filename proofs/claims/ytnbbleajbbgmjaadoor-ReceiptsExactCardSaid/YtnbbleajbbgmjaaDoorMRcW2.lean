import Derived.Deep.Cut
import Derived.Test.YtnbbleajbbgmjaaDoorMCdW7
import Derived.Test.YtnbbleajbbgmjaaDoorMCdW3
import Derived.Test.YtnbbleajbbgmjaaDoorMRcW1
import Derived.Test.YtnbbleajbbgmjaaDoorMDgW6
import Derived.Stop.BytesEq
import Derived.Deep.MidRow
/- Contract of receipts.Digest. -/
namespace Go.Proofs.YtnbbleajbbgmjaaDoor
open Go.RowKit
set_option linter.unusedVariables false

theorem Rc.elV : EltOk Tryd.prog 60 62 (.agg #[.int .i64 0, .int .i64 0, .string ⟨#[]⟩, .slice none 0 0]) 4 56 := ⟨Tryd.underlying60, by kernel_rfl, rfl, by decide⟩
/-- the cells of a number as a value -/
abbrev Rc.ic (x : Int) : List Value := [.int .i64 1, .int .i64 x, .string ⟨#[]⟩, .slice none 0 0]
def Rc.ics (l : List Int) : List Value := (l.map Rc.ic).flatten
theorem Rc.ics_snoc (l : List Int) (x : Int) : Rc.ics (l ++ [x]) = Rc.ics l ++ Rc.ic x := by simp [Rc.ics]
theorem Rc.ics_len (l : List Int) : (Rc.ics l).length = l.length * 4 := by
  induction l with
  | nil => rfl
  | cons x l ih => rw [Rc.ics, List.map_cons, List.flatten_cons, List.length_append, ← Rc.ics, ih, List.length_cons]; simp; omega
def Rc.in64 (x : Int) : Prop := -9223372036854775808 ≤ x ∧ x ≤ 9223372036854775807
theorem Rc.cell_ic (w : World) (B : Nat) (x : Int) (hx : Rc.in64 x) : Cd.CellB w B (Rc.int x) (Rc.ic x) :=
  .mk 1 x [] [] none 0 [] rfl (fun i hi => absurd hi (by simp)) Rd.none_ (fun _ => rfl) (by simp) (by simp) (by omega) hx
theorem Rc.own_caps {w : World} {base e size n : Nat} {A : Option Addr} {c : Nat} {xs : List Value} (h : w.ownsRow base e size (.slice A n c) n xs) : n ≤ c ∧ c ≤ maxLen := by
  rcases h.2 with ⟨e, h0⟩ | ⟨g, cap, cur, hv, _, _, h1, h2, _⟩
  · injection e with _ _ e
    subst h0 e
    exact ⟨Nat.le_refl _, by decide⟩
  · injection hv with _ _ e3
    rw [e3]
    exact ⟨h1, h2⟩
/-- a list of numbers as a value -/
theorem Rc.cell_ints {w : World} {base : Nat} {A : Option Addr} {n c : Nat} {l : List Int} (h : w.ownsRow base 62 4 (.slice A n c) n (Rc.ics l)) (hl : l.length = n) (hx : ∀ x ∈ l, Rc.in64 x) : Cd.CellB w w.heap.size (Rc.ints l) [.int .i64 3, .int .i64 0, .string ⟨#[]⟩, .slice A n c] := by
  have hc := Rc.own_caps h
  have key : Cd.CellB w w.heap.size (.mk 3 0 [] (l.map Rc.int)) [.int .i64 3, .int .i64 0, .string ⟨([] : List UInt8).toArray⟩, .slice A (l.map Rc.int).length c] :=
    .mk 3 0 [] (l.map Rc.int) A c (l.map Rc.ic) (by simp) (fun i hi => by
      have hi2 : i < l.length := by simpa using hi
      rw [getElem!_pos _ i hi, getElem!_pos _ i (by simpa using hi2), List.getElem_map, List.getElem_map]
      exact Rc.cell_ic w _ _ (hx _ (List.getElem_mem _))) (by rw [List.length_map, hl]; exact rd_of_own h) (own_nil h) (by rw [List.length_map, hl]; omega) (by simp) (by omega) (by omega)
  rw [List.length_map, hl] at key
  exact key
/-- the whole submission as a value -/
theorem Rc.cell_sub {w : World} {base : Nat} {A : Option Addr} {c : Nat} {no comp puz : Int} {grid : List Int} {gc : List Value} (h : w.ownsRow base 62 4 (.slice A 4 c) 4 (Rc.ics [no, comp, puz] ++ gc)) (hg : Cd.CellB w w.heap.size (Rc.ints grid) gc)
    (h1 : Rc.in64 no) (h2 : Rc.in64 comp) (h3 : Rc.in64 puz) :
    Cd.CellB w w.heap.size (Rc.sub no comp puz grid) [.int .i64 3, .int .i64 0, .string ⟨#[]⟩, .slice A 4 c] := by
  have hc := Rc.own_caps h
  exact .mk 3 0 [] [Rc.int no, Rc.int comp, Rc.int puz, Rc.ints grid] A c [Rc.ic no, Rc.ic comp, Rc.ic puz, gc] rfl (fun i hi => by
    match i, hi with
    | 0, _ => exact Rc.cell_ic w _ no h1
    | 1, _ => exact Rc.cell_ic w _ comp h2
    | 2, _ => exact Rc.cell_ic w _ puz h3
    | 3, _ => exact hg) (by
      have hx : [Rc.ic no, Rc.ic comp, Rc.ic puz, gc].flatten = Rc.ics [no, comp, puz] ++ gc := by simp [Rc.ics]
      rw [hx]
      exact rd_of_own h) (own_nil h) (by simp [maxLen]) (by simp) (by omega) (by omega)
/-- the numbers of a valid submission are small -/
theorem Rc.odd_no {no comp puz : Int} {grid : List Int} (h : Rc.odd no comp puz grid = false) : (0 ≤ no ∧ no < 32) ∧ (0 ≤ comp ∧ comp < 8) ∧ (0 ≤ puz ∧ puz < 8) ∧ grid.length ≤ 256 ∧ ∀ x ∈ grid, 0 ≤ x ∧ x < 16 := by
  unfold Rc.odd at h
  simp only [Bool.or_eq_false_iff, Bool.not_eq_false', decide_eq_false_iff_not] at h
  obtain ⟨h1, h2, h3, h4, h5⟩ := h
  refine ⟨Rc.inB_yes h1, Rc.inB_yes h2, Rc.inB_yes h3, by omega, fun x hx => ?_⟩
  rw [List.any_eq_false] at h5
  have h6 := h5 x hx
  unfold Rc.noS at h6
  exact Rc.inB_yes (by simpa using h6)
/-- the digest of a submission, as cells -/
abbrev Rc.tag : List UInt8 := [115, 117, 98, 109, 105, 115, 115, 105, 111, 110]
def Rc.dig (K : List UInt32) (I : Dg.S) (no comp puz : Int) (grid : List Int) : List UInt8 := Dg.tagged K I Rc.tag (Rc.sub no comp puz grid).enc
def Rc.dv (K : List UInt32) (I : Dg.S) (no comp puz : Int) (grid : List Int) : List Value := if Rc.odd no comp puz grid = true then Dg.z32 else (Rc.dig K I no comp puz grid).map Dg.b8
def Rc.de (no comp puz : Int) (grid : List Int) : Int := if Rc.odd no comp puz grid = true then 510 else 0
theorem own_other {w w' : World} {base e size n : Nat} {v : Value} {xs : List Value} {row : Option Nat} (h : w.ownsRow base e size v n xs) (hg : w.grownBy w' row) (hne : ∀ g, v.ownBlock = some g → row ≠ some g) : w'.ownsRow base e size v n xs := by
  refine ⟨h.1, ?_⟩
  rcases h.2 with h0 | ⟨g, c, cur, hv, h1, hh, h2⟩
  · exact .inl h0
  · refine .inr ⟨g, c, cur, hv, h1, (hg.block g (Array.getElem?_eq_some_iff.1 hh).1 (fun e => hne g (by rw [hv]; rfl) e.symm)).trans hh, h2⟩

/-- a result out of a variable and one out of a slot -/
theorem results_cell_row2 {P : Program} {fn : Func} {p q : Tmp} {ty : TypeId} (h : fn.results = #[.cell p ty, .tmp q]) (tmps : Array Value) (w : World) (g : Nat) (t : TypeId) (cs : Array Value) (fr : Nat × Nat) (d : TypeDesc)
    (hp : tmps.getD p undef = .pointer (some ⟨g, 0, none⟩)) (hg : w.heap[g]? = some (.cells cs t fr))
    (hu : P.underlying ty = some d) (hd : (match d with | .struct _ | .array _ _ => true | _ => false) = true) (hi : (P.info? ty).map (·.size) = some cs.size) :
    (results fn tmps).run P w = .ok (.tuple #[.agg cs, tmps.getD q undef]) w := by
  have hp' : tmps[p]?.getD undef = .pointer (some ⟨g, 0, none⟩) := by simpa using hp
  simp [results, h, hp', asAddr, run_loadVar_row w g t ty cs fr d hg hu hd hi]

set_option maxRecDepth 100000 in
set_option maxHeartbeats 8000000 in
theorem Rc.digest_any (no comp puz : Int) (A : Option Addr) (n c : Nat) (grid : List Int) (K : List UInt32) (I : Dg.S) (w : World) (hr : Rd w w.heap.size 1 A n (grid.map Rc.i)) (hn : n ≤ maxLen) (hG : Dg.G w K I) :
    Calls Tryd.prog 12 #[Rc.sv no comp puz A n c] w fun e w' => e = .returned (.tuple #[.agg (Rc.dv K I no comp puz grid).toArray, .int .i64 (Rc.de no comp puz grid)]) ∧ Below w.heap.size w w' := by
  have hl : grid.length = n := by have := hr.1; simpa using this
  have HN := Lib.hid hn
  have HG := Lib.hid hG
  have HR := Lib.hid hr
  obtain ⟨W1, hW1⟩ : ∃ W1, W1 = (w.alloc (.cells #[Rc.i no, Rc.i comp, Rc.i puz, .slice A n c] 27)).alloc (.cells Dg.z32.toArray 31) := ⟨_, rfl⟩
  have HB1 := Lib.hid (show Below w.heap.size w W1 from by rw [hW1]; exact ((Below.refl _ w).alloc (Nat.le_refl _) _).alloc (by simp) _)
  have hX1 : Has W1 w.heap.size 27 [Rc.i no, Rc.i comp, Rc.i puz, .slice A n c] := by rw [hW1]; exact (Has.new w _ _).alloc _
  have hD1 : Has W1 (w.heap.size + 1) 31 Dg.z32 := by
    rw [hW1]
    have h := Has.new (w.alloc (.cells #[Rc.i no, Rc.i comp, Rc.i puz, .slice A n c] 27)) 31 Dg.z32
    rw [World.size_alloc] at h
    exact h
  have HX1 := Lib.hid hX1
  have HD1 := Lib.hid hD1
  have HO := Lib.hid (Rc.odd_any no comp puz A n c grid W1 ((Rd.below hr HB1.out (Nat.le_refl _)).more HB1.out.size) hn)
  have hi31 : (Tryd.prog.info? 31).map (·.size) = some 32 := by kernel_rfl
  have HI0 := Lib.hid (show (Tryd.prog.info? 31).map (·.size) = some Dg.z32.toArray.size from hi31)
  have H10 := Lib.hid (show Dg.z32.toArray.all (·.oneCell') = true from all_oneCell_toArray (by simp [Dg.z32, Value.oneCell']))
  clear hr hn hG hX1 hD1 hi31
  have x0 := HX1.out.cell 0
  have x1 := HX1.out.cell 1
  have x2 := HX1.out.cell 2
  have x3 := HX1.out.cell 3
  simp only [List.getElem?_cons_succ, List.getElem?_cons_zero] at x0 x1 x2 x3
  obtain ⟨D, hD⟩ : ∃ D, (Rc.dv K I no comp puz grid).toArray = D := ⟨_, rfl⟩
  obtain ⟨E, hE⟩ : ∃ E, Rc.de no comp puz grid = E := ⟨_, rfl⟩
  rw [hD, hE]
  have HDD := Lib.hid hD
  have HEE := Lib.hid hE
  clear hD hE
  go_enter Tryd.func12, Tryd.ntmps12
  go_upto_region 1 with fail
  change Code.wp _ _ _ _ ((w.alloc (.cells #[Rc.i no, Rc.i comp, Rc.i puz, .slice A n c] 27)).alloc (.cells Dg.z32.toArray 31))
  rw [← hW1]
  clear hW1
  cases ho : Rc.odd no comp puz grid with
  | true =>
    rw [ho] at HO
    have HDZ := Lib.hid (show D = Dg.z32.toArray from by rw [← HDD.out, Rc.dv, if_pos ho])
    have HE5 := Lib.hid (show E = 510 from by rw [← HEE.out, Rc.de, if_pos ho])
    clear ho
    go_wp2_with fail
    ((with_reducible refine HO.out.mono ?_); rintro e w2 ⟨rfl, hb2⟩)
    have HD2 := Lib.hid (show w2.heap[w.heap.size + 1]? = some (.cells Dg.z32.toArray 31 (0, 0)) from HD1.out.keep hb2)
    have HB2 := Lib.hid (HB1.out.trans (hb2.mono HB1.out.size))
    clear hb2 x0 x1 x2 x3
    rw [← HDZ.out] at HD2 HI0 H10
    go_wp2_with (first
      | (with_reducible refine wpList_load_row rfl 31 (.tmp 2) rfl (w.heap.size + 1) rfl 31 D (0, 0) _ HD2.out Tryd.underlying31 rfl HI0.out ?_)
      | (with_reducible refine wpList_store_row rfl 31 (.tmp 2) (.tmp 13) rfl (w.heap.size + 1) D rfl rfl 31 D HD2.out HI0.out rfl H10.out ?_))
    have HF5 := Lib.hid (setRow_heap w2 (w.heap.size + 1) _ D 31 (0, 0) HD2.out)
    refine bodyPost_ret (results_cell_row2 rfl _ _ (w.heap.size + 1) 31 D (0, 0) _ rfl HF5.out Tryd.underlying31 rfl HI0.out) rfl ?_
    exact ⟨by rw [HE5.out]; rfl, below_setRow HB2.out (by omega) _⟩
  | false =>
    rw [ho] at HO
    have HDZ := Lib.hid (show D = ((Rc.dig K I no comp puz grid).map Dg.b8).toArray from by rw [← HDD.out, Rc.dv, if_neg (by rw [ho]; decide)])
    have HE5 := Lib.hid (show E = 0 from by rw [← HEE.out, Rc.de, if_neg (by rw [ho]; decide)])
    have HOK := Lib.hid (Rc.odd_no ho)
    have HGL := Lib.hid HOK.out.2.2.2.1
    clear ho
    go_wp2_with fail
    ((with_reducible refine HO.out.mono ?_); rintro e w2 ⟨rfl, hb2⟩)
    have HD2 := Lib.hid (HD1.out.keep hb2)
    have HX2 := Lib.hid (HX1.out.keep hb2)
    have HB2 := Lib.hid (HB1.out.trans (hb2.mono HB1.out.size))
    have hz0 : w.heap.size + 1 < w2.heap.size := HD2.out.lt
    clear hb2 x0 x1 x2 x3
    have x0 := HX2.out.cell 0
    have x1 := HX2.out.cell 1
    have x2 := HX2.out.cell 2
    have x3 := HX2.out.cell 3
    simp only [List.getElem?_cons_succ, List.getElem?_cons_zero] at x0 x1 x2 x3
    have hz1 : w.heap.size < w2.heap.size := by omega
    go_wp2_with fail
    obtain ⟨W3, hW3⟩ : ∃ W3, W3 = (w2.alloc (.cells #[.int .i64 3, .int .i64 0, .string ⟨#[]⟩, .slice none 0 0] 62)).alloc (.cells #[Rc.i no, Rc.i comp, Rc.i puz] 3) := ⟨_, rfl⟩
    obtain ⟨gv, hgv⟩ : ∃ gv, gv = w2.heap.size := ⟨_, rfl⟩
    have HV3 := Lib.hid (show Has W3 gv 62 [.int .i64 3, .int .i64 0, .string ⟨#[]⟩, .slice none 0 0] from by rw [hW3, hgv]; exact (Has.new w2 _ _).alloc _)
    have HL3 := Lib.hid (show Has W3 (gv + 1) 3 [Rc.i no, Rc.i comp, Rc.i puz] from by
      rw [hW3, hgv]
      have h := Has.new (w2.alloc (.cells #[.int .i64 3, .int .i64 0, .string ⟨#[]⟩, .slice none 0 0] 62)) 3 [Rc.i no, Rc.i comp, Rc.i puz]
      rw [World.size_alloc] at h
      exact h)
    have HB3 := Lib.hid (show Below gv w2 W3 from by rw [hW3, hgv]; exact ((Below.refl _ w2).alloc (Nat.le_refl _) _).alloc (by simp) _)
    have HZ3 := Lib.hid (show gv + 2 ≤ W3.heap.size from by rw [hW3, hgv]; simp)
    rw [← hW3, ← hgv]
    rw [← hgv] at hz0 hz1
    have HGV := Lib.hid hgv
    clear hW3 hgv x0 x1 x2 x3
    go_loopw [23] (fun i wr => ∃ (k : Nat) (V : Value), k ≤ 3 ∧ i = .int .i64 k ∧ Has wr gv 62 [.int .i64 3, .int .i64 0, .string ⟨#[]⟩, V] ∧ wr.ownsRow (gv + 2) 62 4 V k (Rc.ics ([no, comp, puz].take k)) ∧
      Has wr (gv + 1) 3 [Rc.i no, Rc.i comp, Rc.i puz] ∧ Below gv w2 wr ∧ gv + 2 ≤ wr.heap.size) (fun i _ => 3 - (intOf i).toNat)
    case atStart => exact ⟨0, .slice none 0 0, by omega, rfl, HV3.out, ⟨rfl, .inl ⟨rfl, rfl⟩⟩, HL3.out, HB3.out, HZ3.out⟩
    case round =>
      clear HV3 HL3 HB3 HZ3
      obtain ⟨k, V, hk, rfl, hV, hO, hL, hB, hZ⟩ := hrel
      by_cases hlt : k < 3
      · obtain ⟨x, hx, htk⟩ : ∃ x, wr.cell? ⟨gv + 1, k, none⟩ = some (Rc.i x) ∧ Rc.ics ([no, comp, puz].take (k + 1)) = Rc.ics ([no, comp, puz].take k) ++ Rc.ic x := by
          match k, hlt with
          | 0, _ => exact ⟨no, hL.cell 0, rfl⟩
          | 1, _ => exact ⟨comp, hL.cell 1, rfl⟩
          | 2, _ => exact ⟨puz, hL.cell 2, rfl⟩
        obtain ⟨Av, cv, rfl⟩ := Dg.own_form hO
        have c3 := hV.cell 3
        simp only [List.getElem?_cons_succ, List.getElem?_cons_zero] at c3
        have HTK := Lib.hid htk
        have HV := Lib.hid hV
        have HO := Lib.hid hO
        have HL := Lib.hid hL
        have HB := Lib.hid hB
        have HZ := Lib.hid hZ
        have hzl : gv < wr.heap.size := by omega
        have HOA := Lib.hid (own_below (w' := wr.alloc (.cells (Rc.ic x).toArray 62)) hO ((Below.refl _ _).alloc (Nat.le_refl _) _))
        have HRA := Lib.hid (rd_new wr 62 4 (Rc.ic x) rfl)
        have HSA := Lib.hid (show gv + 2 ≤ (wr.alloc (.cells (Rc.ic x).toArray 62)).heap.size from by rw [World.size_alloc]; omega)
        have H1 := Lib.hid (show ∀ u ∈ Rc.ic x, u.oneCell' = true from by simp [Rc.ic, Value.oneCell'])
        clear hV hO hL hB htk
        have HNE := Lib.hid (show ∀ g, (Value.slice Av k cv).ownBlock = some g → gv + 2 ≤ g from fun g e => own_ge HO.out e)
        go_wp2_with ((with_reducible refine wpList_append_rd rfl (.tmp 28) (.tmp 31) rfl Rc.elV rfl HOA.out rfl HRA.out H1.out (fun e => by cases e) (by unfold maxLen; omega) (by omega) HSA.out ?_); intro v' w5 hG; obtain ⟨hown5, hgr5, hat5⟩ := hG; obtain ⟨A5, c5, rfl⟩ := Dg.own_form hown5; have hV5 := (HV.out.alloc (.cells (Rc.ic x).toArray 62)).grown hgr5 (fun e => by have := HNE.out gv e; omega); have c35 : w5.cell? ⟨gv, 3, none⟩ = some (.slice Av k cv) := hV5.cell 3; have f35 := hV5.frozen 3; have HV5 := Lib.hid hV5; have HOW5 := Lib.hid hown5; have HGR5 := Lib.hid hgr5; clear hV5 hown5 hgr5 hat5)
        have HBA := Lib.hid ((HB.out.alloc (Nat.le_of_lt hzl) (.cells (Rc.ic x).toArray 62)).grown HGR5.out (by rw [World.size_alloc]; omega) (fun g e => by have := HNE.out g e; omega))
        have hz5 : gv + 2 ≤ w5.heap.size := Nat.le_trans HSA.out HGR5.out.size
        have h6 : Has (w5.setCell ⟨gv, 3, none⟩ (.slice A5 (k + 1) c5)) gv 62 [.int .i64 3, .int .i64 0, .string ⟨#[]⟩, .slice A5 (k + 1) c5] := HV5.out.set 3 _
        have o6 := own_far HOW5.out (p := ⟨gv, 3, none⟩) (by show gv < gv + 2; omega) (.slice A5 (k + 1) c5)
        have l6 := ((HL.out.alloc (.cells (Rc.ic x).toArray 62)).grown HGR5.out (fun e => by have := HNE.out (gv + 1) e; omega)).far (p := ⟨gv, 3, none⟩) (by show gv + 1 ≠ gv; omega) (.slice A5 (k + 1) c5)
        exact ⟨⟨k + 1, _, by omega, by go_num, h6, by rw [HTK.out]; exact o6, l6, HBA.out.setCell (p := ⟨gv, 3, none⟩) (Nat.le_refl _) _, by simpa using hz5⟩, by simp [intOf]; omega⟩
      · have hk3 : k = 3 := by omega
        rw [hk3] at hO
        clear hk3
        obtain ⟨Av, cv, rfl⟩ := Dg.own_form hO
        have HV := Lib.hid hV
        have HO3 := Lib.hid (show wr.ownsRow (gv + 2) 62 4 (.slice Av 3 cv) 3 (Rc.ics [no, comp, puz]) from hO)
        have HB := Lib.hid hB
        have HZ := Lib.hid hZ
        have y3 := (hB.cell (p := ⟨w.heap.size, 3, none⟩) hz1).trans (by rw [HX2.out.cell 3]; rfl : w2.cell? ⟨w.heap.size, 3, none⟩ = some (.slice A n c))
        have hzs : w.heap.size < wr.heap.size := by omega
        clear hV hO hL hB
        go_wp2_with fail
        obtain ⟨gg, hgg⟩ : ∃ gg, gg = wr.heap.size := ⟨_, rfl⟩
        obtain ⟨W4, hW4⟩ : ∃ W4, W4 = wr.alloc (.cells #[.int .i64 3, .int .i64 0, .string ⟨#[]⟩, .slice none 0 0] 62) := ⟨_, rfl⟩
        have HV4 := Lib.hid (show Has W4 gg 62 [.int .i64 3, .int .i64 0, .string ⟨#[]⟩, .slice none 0 0] from by rw [hW4, hgg]; exact Has.new wr _ _)
        have HB4 := Lib.hid (show Below gg wr W4 from by rw [hW4, hgg]; exact (Below.refl _ wr).alloc (Nat.le_refl _) _)
        have HZ4 := Lib.hid (show gg + 1 ≤ W4.heap.size from by rw [hW4, hgg]; simp)
        have HGG := Lib.hid hgg
        have hgz : gv + 2 ≤ gg := by rw [hgg]; exact hZ
        have hgzl : gv < gg := by omega
        have hgs : w.heap.size < gg := by omega
        rw [← hW4, ← hgg]
        obtain ⟨wa, hwa⟩ : ∃ wa, wa = wr := ⟨_, rfl⟩
        rw [← hwa] at HV HO3 HB HZ HB4 HGG
        clear hW4 hgg hZ y3 hzs hwa
        have hnm : n ≤ 9223372036854775807 := by have := HN.out; unfold maxLen at this; omega
        go_loopw [39] (fun i wr => ∃ (k : Nat) (V : Value), k ≤ n ∧ i = .int .i64 k ∧ Has wr gg 62 [.int .i64 3, .int .i64 0, .string ⟨#[]⟩, V] ∧ wr.ownsRow (gg + 1) 62 4 V k (Rc.ics (grid.take k)) ∧
          Below gg wa wr ∧ gg + 1 ≤ wr.heap.size) (fun i _ => n - (intOf i).toNat)
        case atStart => exact ⟨0, .slice none 0 0, by omega, rfl, HV4.out, ⟨rfl, .inl ⟨rfl, rfl⟩⟩, HB4.out, HZ4.out⟩
        case round =>
          clear HV4 HB4 HZ4
          obtain ⟨k, V, hk, rfl, hV, hO, hB, hZ⟩ := hrel
          have HBW := Lib.hid (HB2.out.trans (((HB.out.mono (show gv ≤ gv from Nat.le_refl _)).mono (by omega)).trans (hB.mono (by omega))))
          by_cases hlt : k < n
          · obtain ⟨b, off, rfl, hbB, hcell⟩ := HR.out.addr (by omega)
            have hgl := hl
            have htk : Rc.ics (grid.take (k + 1)) = Rc.ics (grid.take k) ++ Rc.ic (grid.getD k 0) := by
              rw [List.take_add_one, List.getElem?_eq_getElem (by omega), Option.toList_some, Rc.ics_snoc]
              simp [List.getElem?_eq_getElem (show k < grid.length by omega)]
            have hx : wr.cell? ⟨b, off + k, none⟩ = some (Rc.i (grid.getD k 0)) := (HBW.out.cell (p := ⟨b, off + k, none⟩) hbB).trans (hcell k _ (by rw [List.getElem?_map, List.getElem?_eq_getElem (by omega)]; simp [List.getElem?_eq_getElem (show k < grid.length by omega)]))
            generalize grid.getD k 0 = x at hx htk
            obtain ⟨Aw, cw, rfl⟩ := Dg.own_form hO
            have c3 := hV.cell 3
            simp only [List.getElem?_cons_succ, List.getElem?_cons_zero] at c3
            have HTK := Lib.hid htk
            have HV2 := Lib.hid hV
            have HO := Lib.hid hO
            have HBr := Lib.hid hB
            have HZr := Lib.hid hZ
            have hzl : gg < wr.heap.size := by omega
            have HOA := Lib.hid (own_below (w' := wr.alloc (.cells (Rc.ic x).toArray 62)) hO ((Below.refl _ _).alloc (Nat.le_refl _) _))
            have HRA := Lib.hid (rd_new wr 62 4 (Rc.ic x) rfl)
            have HSA := Lib.hid (show gg + 1 ≤ (wr.alloc (.cells (Rc.ic x).toArray 62)).heap.size from by rw [World.size_alloc]; omega)
            have H1 := Lib.hid (show ∀ u ∈ Rc.ic x, u.oneCell' = true from by simp [Rc.ic, Value.oneCell'])
            have HNE := Lib.hid (show ∀ g, (Value.slice Aw k cw).ownBlock = some g → gg + 1 ≤ g from fun g e => own_ge HO.out e)
            have hkn : k ≤ 256 := by have := HGL.out; omega
            clear hV hO hB htk hcell hgl
            go_wp2_with ((with_reducible refine wpList_append_rd rfl (.tmp 44) (.tmp 47) rfl Rc.elV rfl HOA.out rfl HRA.out H1.out (fun e => by cases e) (by unfold maxLen; omega) (by omega) HSA.out ?_); intro v' w5 hG; obtain ⟨hown5, hgr5, hat5⟩ := hG; obtain ⟨A5, c5, rfl⟩ := Dg.own_form hown5; have hV5 := (HV2.out.alloc (.cells (Rc.ic x).toArray 62)).grown hgr5 (fun e => by have := HNE.out gg e; omega); have c35 : w5.cell? ⟨gg, 3, none⟩ = some (.slice Aw k cw) := hV5.cell 3; have f35 := hV5.frozen 3; have HV5 := Lib.hid hV5; have HOW5 := Lib.hid hown5; have HGR5 := Lib.hid hgr5; clear hV5 hown5 hgr5 hat5)
            have HBA := Lib.hid ((HBr.out.alloc (Nat.le_of_lt hzl) (.cells (Rc.ic x).toArray 62)).grown HGR5.out (by rw [World.size_alloc]; omega) (fun g e => by have := HNE.out g e; omega))
            have hz5 : gg + 1 ≤ w5.heap.size := Nat.le_trans HSA.out HGR5.out.size
            have h6 : Has (w5.setCell ⟨gg, 3, none⟩ (.slice A5 (k + 1) c5)) gg 62 [.int .i64 3, .int .i64 0, .string ⟨#[]⟩, .slice A5 (k + 1) c5] := HV5.out.set 3 _
            have o6 := own_far HOW5.out (p := ⟨gg, 3, none⟩) (by show gg < gg + 1; omega) (.slice A5 (k + 1) c5)
            exact ⟨⟨k + 1, _, by omega, by go_num, h6, by rw [HTK.out]; exact o6, HBA.out.setCell (p := ⟨gg, 3, none⟩) (Nat.le_refl _) _, by simpa using hz5⟩, by simp [intOf]; omega⟩
          · have hkn : k = n := by omega
            rw [hkn, ← hl, List.take_length, hl] at hO
            obtain ⟨Aw, cw, rfl⟩ := Dg.own_form hO
            have hx6 := Lib.hid hkn
            have c3 := hV.cell 3
            have c0 := hV.cell 0
            have c1 := hV.cell 1
            have c2 := hV.cell 2
            have hV1 := (HV.out.below hB hgzl)
            have d3 := hV1.cell 3
            simp only [List.getElem?_cons_succ, List.getElem?_cons_zero] at c0 c1 c2 c3 d3
            have HVg := Lib.hid hV1
            have HO4 := Lib.hid hO
            have HB5 := Lib.hid hB
            have hzl : gg < wr.heap.size := by omega
            have hzv : gv < wr.heap.size := by omega
            have hO3 : wr.ownsRow (gv + 2) 62 4 (.slice Av 3 cv) 3 (Rc.ics [no, comp, puz]) := own_below HO3.out (by rw [← HGG.out]; exact hB)
            have HLT := Lib.hid (show ∀ g, (Value.slice Av 3 cv).ownBlock = some g → gv + 2 ≤ g ∧ g < gg from fun g e => ⟨own_ge HO3.out e, by rw [HGG.out]; exact (HO3.out.lt g e).2⟩)
            have HGE := Lib.hid (show ∀ g, (Value.slice Aw n cw).ownBlock = some g → gg + 1 ≤ g from fun g e => own_ge HO4.out e)
            have HOA := Lib.hid (own_below (w' := wr.alloc (.cells #[.int .i64 3, .int .i64 0, .string ⟨#[]⟩, .slice Aw n cw] 62)) hO3 ((Below.refl _ _).alloc (Nat.le_refl _) _))
            have HRA := Lib.hid (rd_new wr 62 4 [.int .i64 3, .int .i64 0, .string ⟨#[]⟩, .slice Aw n cw] rfl)
            have HSA := Lib.hid (show gv + 2 ≤ (wr.alloc (.cells #[.int .i64 3, .int .i64 0, .string ⟨#[]⟩, .slice Aw n cw] 62)).heap.size from by rw [World.size_alloc]; omega)
            have H1 := Lib.hid (show ∀ u ∈ [Value.int .i64 3, .int .i64 0, .string ⟨#[]⟩, .slice Aw n cw], u.oneCell' = true from by simp [Value.oneCell'])
            clear hV hO hB hV1 hO3 hkn
            go_wp2_with ((with_reducible refine wpList_append_rd rfl (.tmp 52) (.tmp 54) rfl Rc.elV rfl HOA.out rfl HRA.out H1.out (fun e => by cases e) (by unfold maxLen; omega) (by omega) HSA.out ?_); intro v' w5 hG; obtain ⟨hown5, hgr5, hat5⟩ := hG; obtain ⟨A5, c5, rfl⟩ := Dg.own_form hown5; have hV5 := (HVg.out.alloc (.cells #[.int .i64 3, .int .i64 0, .string ⟨#[]⟩, .slice Aw n cw] 62)).grown hgr5 (fun e => by have := HLT.out gv e; omega); have c35 : w5.cell? ⟨gv, 3, none⟩ = some (.slice Av 3 cv) := hV5.cell 3; have f35 := hV5.frozen 3; have e0 : w5.cell? ⟨gv, 0, none⟩ = some (.int .i64 3) := hV5.cell 0; have e1 : w5.cell? ⟨gv, 1, none⟩ = some (.int .i64 0) := hV5.cell 1; have e2 : w5.cell? ⟨gv, 2, none⟩ = some (.string ⟨#[]⟩) := hV5.cell 2; have HV5 := Lib.hid hV5; have HOW5 := Lib.hid hown5; have HGR5 := Lib.hid hgr5; clear hV5 hown5 hgr5 hat5)
            obtain ⟨w6, hw6⟩ : ∃ w6, w6 = w5.setCell ⟨gv, 3, none⟩ (.slice A5 4 c5) := ⟨_, rfl⟩
            have hO6 : w6.ownsRow (gg + 1) 62 4 (.slice Aw n cw) n (Rc.ics grid) := by
              rw [hw6]
              refine own_far (own_other (own_below HO4.out ((Below.refl _ _).alloc (Nat.le_refl _) _)) HGR5.out (fun g e e2 => ?_)) (p := ⟨gv, 3, none⟩) (by show gv < gg + 1; omega) _
              have h1 := HGE.out g e
              have h2 := HLT.out g e2
              omega
            have hV6 : w6.ownsRow (gv + 2) 62 4 (.slice A5 4 c5) 4 (Rc.ics [no, comp, puz] ++ [.int .i64 3, .int .i64 0, .string ⟨#[]⟩, .slice Aw n cw]) := by
              rw [hw6]
              exact own_far HOW5.out (p := ⟨gv, 3, none⟩) (by show gv < gv + 2; omega) _
            have hC6 := Rc.cell_sub hV6 (Rc.cell_ints hO6 hl (fun x hx => by have := HOK.out.2.2.2.2 x hx; unfold Rc.in64; omega)) (by have := HOK.out.1; unfold Rc.in64; omega) (by have := HOK.out.2.1; unfold Rc.in64; omega) (by have := HOK.out.2.2.1; unfold Rc.in64; omega)
            have hB26 : Below gv w2 w6 := by
              rw [hw6]
              exact ((((HB.out.trans (HB5.out.mono (by omega))).alloc (by omega) _).grown HGR5.out (by rw [World.size_alloc]; omega) (fun g e => by have := HLT.out g e; omega))).setCell (p := ⟨gv, 3, none⟩) (Nat.le_refl _) _
            rw [← hw6]
            clear hw6 hO6 hV6
            have HB6 := Lib.hid (HB2.out.trans (hB26.mono (Nat.le_of_lt hz1)))
            have HD6 := Lib.hid (HD2.out.below hB26 hz0)
            have hsm := Rc.sub_small no comp puz grid (by have := HGL.out; omega)
            have HEN := Lib.hid (by
              have h := Cd.encode_any (Rc.sub no comp puz grid) _ w6 hsm.1 hC6 hsm.2
              unfold Cd.RetE at h
              rw [Rc.sub_chk, show Cd.out (Rc.sub no comp puz grid) = (Rc.sub no comp puz grid).enc from by unfold Cd.out; rw [if_pos (Rc.sub_chk no comp puz grid)]] at h
              exact h)
            have HSM := Lib.hid hsm.2
            have HDG := Lib.hid (show Rc.dig K I no comp puz grid = Dg.tagged K I Rc.tag (Rc.sub no comp puz grid).enc from rfl)
            generalize (Rc.sub no comp puz grid).enc = L at HEN HSM HDG
            clear hC6 hB26 hsm c0 c1 c2 c3 d3 c35 f35 e0 e1 e2
            ((with_reducible refine HEN.out.mono ?_); rintro e w7 ⟨v, rfl, hb7, ho7⟩)
            obtain ⟨A7, c7, rfl⟩ := Dg.own_form ho7
            have HB7 := Lib.hid (HB6.out.trans (hb7.mono HB6.out.size))
            have HD7 := Lib.hid (HD6.out.keep hb7)
            have HTG := Lib.hid (by
              have h := Dg.tagged_any w7 Rc.tag A7 L.length c7 L K I (RdB.of_own ho7) (own_nil ho7) (by have := HSM.out; omega) (by decide) (HG.out.keep HB7.out)
              rw [← HDG.out, ← HDZ.out] at h
              exact h)
            clear hb7 ho7
            go_wp2_with fail
            ((with_reducible refine HTG.out.mono ?_); rintro e w8 ⟨rfl, hb8⟩)
            have HB8 := Lib.hid (HB7.out.trans (hb8.mono HB7.out.size))
            have HD8 := Lib.hid (show w8.heap[w.heap.size + 1]? = some (.cells Dg.z32.toArray 31 (0, 0)) from HD7.out.keep hb8)
            have hdl : (Rc.dig K I no comp puz grid).length = 32 := Dg.sum_len _ _ _
            have hds : D.size = 32 := by rw [HDZ.out]; simp [hdl]
            have hi31 : (Tryd.prog.info? 31).map (·.size) = some D.size := by rw [hds]; kernel_rfl
            have HI8 := Lib.hid hi31
            have HS8 := Lib.hid (show Dg.z32.toArray.size = D.size from by rw [hds]; rfl)
            have H18 := Lib.hid (show D.all (·.oneCell') = true from by rw [HDZ.out]; exact all_oneCell_toArray (one_bytes _))
            clear hb8 hdl hds hi31
            go_wp2_with (first
              | (refine wpList_store_row (o := ⟨none, .store 31 (.tmp 2) (.tmp 66), _, _, _, _⟩) rfl 31 (.tmp 2) (.tmp 66) rfl (w.heap.size + 1) D rfl rfl 31 Dg.z32.toArray HD8.out HI8.out HS8.out H18.out ?_))
            have HF8 := Lib.hid (setRow_heap w8 (w.heap.size + 1) _ D 31 (0, 0) HD8.out)
            refine bodyPost_ret (results_cell_row2 rfl _ _ (w.heap.size + 1) 31 D (0, 0) _ rfl HF8.out Tryd.underlying31 rfl HI8.out) rfl ?_
            exact ⟨by rw [HE5.out]; rfl, below_setRow HB8.out (by omega) _⟩
end Go.Proofs.YtnbbleajbbgmjaaDoor
/- Clocks, submissions and receipts as plain words; how they lie in memory. -/
namespace Go.Proofs.YtnbbleajbbgmjaaDoor
open Go.RowKit
set_option linter.unusedVariables false

structure Rc.Sb where
  (no comp puz : Int) (grid : List Int)
  deriving Inhabited
structure Rc.R where
  (rf no st : Int) (dg : List UInt8)
  deriving Inhabited
def Rc.Sb.odd (s : Rc.Sb) : Bool := Rc.odd s.no s.comp s.puz s.grid
/-- a submission's digest -/
def Rc.Sb.dl (K : List UInt32) (I : Dg.S) (s : Rc.Sb) : List UInt8 := if s.odd = true then List.replicate 32 0 else Rc.dig K I s.no s.comp s.puz s.grid
theorem Rc.Sb.dl_len (K : List UInt32) (I : Dg.S) (s : Rc.Sb) : (s.dl K I).length = 32 := by
  unfold Rc.Sb.dl
  split
  · simp
  · exact Dg.sum_len _ _ _
def Rc.Sb.de (s : Rc.Sb) : Int := Rc.de s.no s.comp s.puz s.grid
theorem Rc.Sb.dv_eq (K : List UInt32) (I : Dg.S) (s : Rc.Sb) : Rc.dv K I s.no s.comp s.puz s.grid = (s.dl K I).map Dg.b8 := by
  unfold Rc.dv Rc.Sb.dl Rc.Sb.odd
  split
  · rw [List.map_replicate]; rfl
  · rfl
theorem Rc.Sb.de_ok {s : Rc.Sb} (h : s.odd = false) : s.de = 0 := by
  unfold Rc.Sb.de Rc.de
  rw [if_neg]
  unfold Rc.Sb.odd at h
  rw [h]
  decide

theorem flatK (k : Nat) : ∀ (xss : List (List Value)), (∀ xs ∈ xss, xs.length = k) → ∀ (i j : Nat), j < k → xss.flatten[i * k + j]? = (xss[i]?).bind (·[j]?)
  | [], _, i, j, _ => by simp
  | xs :: xss, h, 0, j, hj => by
    have hl := h xs (List.mem_cons_self ..)
    rw [List.flatten_cons, Nat.zero_mul, Nat.zero_add, List.getElem?_append_left (by omega)]
    rfl
  | xs :: xss, h, i + 1, j, hj => by
    have hl := h xs (List.mem_cons_self ..)
    rw [List.flatten_cons, List.getElem?_append_right (by rw [hl, Nat.add_mul]; omega), hl, show (i + 1) * k + j - k = i * k + j by rw [Nat.add_mul]; omega, flatK k xss (fun ys hy => h ys (List.mem_cons_of_mem _ hy)) i j hj]
    rfl
/-- the cells of element number i of a slice that reads as elements of k cells -/
theorem rdK {w : World} {B k n : Nat} {A : Option Addr} {xss : List (List Value)} (hk : 0 < k) (hl : xss.length = n) (hx : ∀ xs ∈ xss, xs.length = k) (hr : Rd w B k A n xss.flatten) (i : Nat) (hi : i < n) (xs : List Value) (he : xss[i]? = some xs) :
    ∃ b off, A = some ⟨b, off, none⟩ ∧ b < B ∧ w.rangeAt b (off + i * k) xs := by
  obtain ⟨b, off, e, hb, hc⟩ := hr.2 (by omega)
  refine ⟨b, off, e, hb, fun j v hj => ?_⟩
  have hxs := hx xs (List.mem_of_getElem? he)
  have hjk : j < k := by rw [← hxs]; exact (List.getElem?_eq_some_iff.1 hj).1
  rw [Nat.add_assoc]
  refine hc (i * k + j) v ?_
  rw [flatK k xss hx i j hjk, he]
  exact hj

/-- four cells read as a submission -/
def Rc.SbC (w : World) (B : Nat) (s : Rc.Sb) (cs : List Value) : Prop := ∃ A c, cs = [Rc.i s.no, Rc.i s.comp, Rc.i s.puz, .slice A s.grid.length c] ∧ Rd w B 1 A s.grid.length (s.grid.map Rc.i) ∧ s.grid.length ≤ maxLen
theorem Rc.SbC.keep {w w' : World} {B : Nat} {s : Rc.Sb} {cs : List Value} (h : Rc.SbC w B s cs) (hb : Below B w w') : Rc.SbC w' B s cs := by
  obtain ⟨A, c, e, hr, hm⟩ := h
  exact ⟨A, c, e, hr.below hb (Nat.le_refl _), hm⟩
theorem Rc.SbC.more {w : World} {B B' : Nat} {s : Rc.Sb} {cs : List Value} (h : Rc.SbC w B s cs) (hB : B ≤ B') : Rc.SbC w B' s cs := by
  obtain ⟨A, c, e, hr, hm⟩ := h
  exact ⟨A, c, e, hr.more hB, hm⟩
/-- a slice reads as submissions -/
structure Rc.Subs (w : World) (B : Nat) (A : Option Addr) (n : Nat) (l : List Rc.Sb) : Prop where
  len : l.length = n
  rd : ∃ xss : List (List Value), xss.length = n ∧ (∀ (i : Nat) (s : Rc.Sb), l[i]? = some s → ∃ xs, xss[i]? = some xs ∧ Rc.SbC w B s xs) ∧ Rd w B 4 A n xss.flatten ∧ ∀ xs ∈ xss, xs.length = 4
theorem Rc.Subs.keep {w w' : World} {B : Nat} {A : Option Addr} {n : Nat} {l : List Rc.Sb} (h : Rc.Subs w B A n l) (hb : Below B w w') : Rc.Subs w' B A n l := by
  obtain ⟨hl, xss, h1, h2, h3, h4⟩ := h
  refine ⟨hl, xss, h1, fun i s hs => ?_, h3.below hb (Nat.le_refl _), h4⟩
  obtain ⟨xs, e, hc⟩ := h2 i s hs
  exact ⟨xs, e, hc.keep hb⟩
theorem Rc.Subs.more {w : World} {B B' : Nat} {A : Option Addr} {n : Nat} {l : List Rc.Sb} (h : Rc.Subs w B A n l) (hB : B ≤ B') : Rc.Subs w B' A n l := by
  obtain ⟨hl, xss, h1, h2, h3, h4⟩ := h
  refine ⟨hl, xss, h1, fun i s hs => ?_, h3.more hB, h4⟩
  obtain ⟨xs, e, hc⟩ := h2 i s hs
  exact ⟨xs, e, hc.more hB⟩
theorem Rc.Subs.get {w : World} {B : Nat} {A : Option Addr} {n : Nat} {l : List Rc.Sb} (h : Rc.Subs w B A n l) (i : Nat) (s : Rc.Sb) (hs : l[i]? = some s) :
    ∃ b off Ag cg, A = some ⟨b, off, none⟩ ∧ b < B ∧ w.cell? ⟨b, off + i * 4, none⟩ = some (Rc.i s.no) ∧ w.cell? ⟨b, off + i * 4 + 1, none⟩ = some (Rc.i s.comp) ∧ w.cell? ⟨b, off + i * 4 + 2, none⟩ = some (Rc.i s.puz) ∧ w.cell? ⟨b, off + i * 4 + 3, none⟩ = some (.slice Ag s.grid.length cg) ∧
      Rd w B 1 Ag s.grid.length (s.grid.map Rc.i) ∧ s.grid.length ≤ maxLen := by
  obtain ⟨hl, xss, h1, h2, h3, h4⟩ := h
  obtain ⟨xs, e, Ag, cg, rfl, hr, hm⟩ := h2 i s hs
  have hi : i < n := by rw [← hl]; exact (List.getElem?_eq_some_iff.1 hs).1
  obtain ⟨b, off, e2, hb, hc⟩ := rdK (by omega) h1 h4 h3 i hi _ e
  exact ⟨b, off, Ag, cg, e2, hb, hc 0 _ rfl, hc 1 _ rfl, hc 2 _ rfl, hc 3 _ rfl, hr, hm⟩

/-- a receipt's cells -/
def Rc.R.cells (r : Rc.R) : List Value := Rc.i r.rf :: Rc.i r.no :: Rc.i r.st :: r.dg.map Dg.b8
theorem Rc.R.cells_len {r : Rc.R} (h : r.dg.length = 32) : r.cells.length = 35 := by simp [Rc.R.cells, h]
theorem Rc.R.cells_one (r : Rc.R) : ∀ v ∈ r.cells, v.oneCell' = true := by
  intro v hv
  unfold Rc.R.cells at hv
  simp only [List.mem_cons] at hv
  rcases hv with rfl | rfl | rfl | hv
  · rfl
  · rfl
  · rfl
  · exact one_bytes _ v hv
/-- a slice reads as receipts -/
structure Rc.Rcs (w : World) (B : Nat) (A : Option Addr) (n : Nat) (l : List Rc.R) : Prop where
  len : l.length = n
  dg : ∀ r ∈ l, r.dg.length = 32
  rd : Rd w B 35 A n (l.map Rc.R.cells).flatten
theorem Rc.Rcs.keep {w w' : World} {B : Nat} {A : Option Addr} {n : Nat} {l : List Rc.R} (h : Rc.Rcs w B A n l) (hb : Below B w w') : Rc.Rcs w' B A n l := ⟨h.len, h.dg, h.rd.below hb (Nat.le_refl _)⟩
theorem Rc.Rcs.more {w : World} {B B' : Nat} {A : Option Addr} {n : Nat} {l : List Rc.R} (h : Rc.Rcs w B A n l) (hB : B ≤ B') : Rc.Rcs w B' A n l := ⟨h.len, h.dg, h.rd.more hB⟩
theorem Rc.Rcs.get {w : World} {B : Nat} {A : Option Addr} {n : Nat} {l : List Rc.R} (h : Rc.Rcs w B A n l) (i : Nat) (r : Rc.R) (hs : l[i]? = some r) : r.dg.length = 32 ∧ ∃ b off, A = some ⟨b, off, none⟩ ∧ b < B ∧ w.rangeAt b (off + i * 35) r.cells := by
  have hi : i < n := by rw [← h.len]; exact (List.getElem?_eq_some_iff.1 hs).1
  refine ⟨h.dg r (List.mem_of_getElem? hs), rdK (by omega) (by rw [List.length_map]; exact h.len) (fun xs hx => ?_) h.rd i hi _ (by rw [List.getElem?_map, hs]; rfl)⟩
  obtain ⟨q, hq, rfl⟩ := List.mem_map.1 hx
  exact Rc.R.cells_len (h.dg q hq)

/-- does a receipt stand behind its follower's place? -/
def Rc.late (y x : Rc.R) : Bool := decide (x.no < y.no) || (decide (y.no = x.no) && decide (x.rf ≤ y.rf))
/-- is the receipt with an index not valid? -/
def Rc.badR (K : List UInt32) (I : Dg.S) (nc : Nat) (subs : List Rc.Sb) (l : List Rc.R) (i : Nat) : Bool :=
  match l[i]? with
  | none => true
  | some x => !Rc.inB x.rf nc || (!Rc.inB x.no subs.length || (!Rc.inB x.st 1048577 || ((if i = 0 then false else Rc.late (l.getD (i - 1) default) x) ||
      (match subs[x.no.toNat]? with | none => true | some s => s.odd || !(s.dl K I == x.dg)))))
end Go.Proofs.YtnbbleajbbgmjaaDoor
