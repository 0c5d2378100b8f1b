import Derived.Test.YtnbbleajbbgmjaaDoorMRcW2
/- Contract of evidence.receipt. -/
namespace Go.Proofs.YtnbbleajbbgmjaaDoor
open Go.RowKit
set_option linter.unusedVariables false

/-- a whole struct or array loaded by an operation that is guarded and wanted -/
theorem wpList_load_midG {P : Program} {ops : Array Oper} {rest : List Oper} {op : Oper} {a : Act} {w : World} {Q : Exit → Act → World → Prop} (hw : Region.wanted op (yielded ops a.tmps) = true) (ty : TypeId) (x : Operand) (ho : op.op = .load ty x)
    (b o : Nat) (hx : a.eval x = .pointer (some ⟨b, o, none⟩)) (cs : List Value) (d : TypeDesc) (hc : w.rangeAt b o cs)
    (hu : P.underlying ty = some d) (hd : d.isRow = true) (hi : (P.info? ty).map (·.size) = some cs.length)
    (h : wpList P ops Q rest (a.put op.dst (.agg cs.toArray)) w) : wpList P ops Q (op :: rest) a w :=
  wpList_step fun K hK => by rw [if_pos hw]; exact wp_load_mid ty x ho b o hx cs d hc hu hd hi (hK _ _ h)
def Rc.z35 : List Value := Rc.i 0 :: Rc.i 0 :: Rc.i 0 :: Dg.z32
theorem Rc.info47 : (Tryd.prog.info? 47).map (·.size) = some 35 := by kernel_rfl
theorem Rc.info31 : (Tryd.prog.info? 31).map (·.size) = some 32 := by kernel_rfl
theorem Rc.eqg : Tryd.prog.eqGuardType Tryd.prog.depth 31 = false := by kernel_rfl
theorem Rc.eq31 (xs ys : List UInt8) (hx : xs.length = 32) (hy : ys.length = 32) (w : World) : (Op.equalIn 10000 31 (.agg (xs.map Dg.b8).toArray) (.agg (ys.map Dg.b8).toArray)).run Tryd.prog w = .ok (xs == ys) w :=
  run_equalIn_bytes w 9998 31 5 32 Tryd.underlying31 Tryd.underlying5 (fun w => by kernel_rfl) xs ys hx hy

set_option maxRecDepth 100000 in
set_option maxHeartbeats 8000000 in
theorem Rc.receipt_any (Ac As Al : Option Addr) (nc cc ns cs nl cl : Nat) (subs : List Rc.Sb) (l : List Rc.R) (i : Nat) (K : List UInt32) (I : Dg.S) (w : World) (hS : Rc.Subs w w.heap.size As ns subs) (hL : Rc.Rcs w w.heap.size Al nl l) (hi : i < nl) (hnc : nc ≤ maxLen) (hns : ns ≤ maxLen) (hnl : nl ≤ maxLen) (hG : Dg.G w K I) :
    Calls Tryd.prog 41 #[.agg #[.slice Ac nc cc, .slice As ns cs, .slice Al nl cl], .int .i64 (i : Int)] w fun e w' => e = .returned (.bool (Rc.badR K I nc subs l i)) ∧ Below w.heap.size w w' := by
  have hll := hL.len
  have hx := List.getElem?_eq_getElem (show i < l.length by omega)
  obtain ⟨x, hxe⟩ : ∃ x, l[i] = x := ⟨_, rfl⟩
  rw [hxe] at hx
  obtain ⟨hd32, bl, ol, rfl, hbl, hrx⟩ := hL.get i x hx
  have HBD := Lib.hid (show Rc.badR K I nc subs l i = (!Rc.inB x.rf nc || (!Rc.inB x.no subs.length || (!Rc.inB x.st 1048577 || ((if i = 0 then false else Rc.late (l.getD (i - 1) default) x) ||
      (match subs[x.no.toNat]? with | none => true | some s => s.odd || !(s.dl K I == x.dg)))))) from by unfold Rc.badR; rw [hx]; rfl)
  generalize Rc.badR K I nc subs l i = bad at HBD ⊢
  have HS := Lib.hid hS
  have HL := Lib.hid hL
  have HG := Lib.hid hG
  have HD32 := Lib.hid hd32
  have hsl := hS.len
  rw [hsl] at HBD
  have HRX := Lib.hid hrx
  have hc35 : x.cells.length = 35 := Rc.R.cells_len hd32
  have HI47 := Lib.hid (show (Tryd.prog.info? 47).map (·.size) = some x.cells.length from by rw [hc35]; exact Rc.info47)
  have HI47b := Lib.hid (show (Tryd.prog.info? 47).map (·.size) = some x.cells.toArray.size from by rw [List.size_toArray, hc35]; exact Rc.info47)
  have HZ35 := Lib.hid (show Rc.z35.toArray.size = x.cells.toArray.size from by rw [List.size_toArray, List.size_toArray, hc35]; rfl)
  have H135 := Lib.hid (show x.cells.toArray.all (·.oneCell') = true from all_oneCell_toArray x.cells_one)
  have HNC := Lib.hid hnc
  have HNS := Lib.hid hns
  have HNL := Lib.hid hnl
  unfold maxLen at hnc hns hnl
  clear hS hL hG hd32 hx hxe hrx hc35
  obtain ⟨W1, hW1⟩ : ∃ W1, W1 = w.alloc (.cells #[.slice Ac nc cc, .slice As ns cs, .slice (some ⟨bl, ol, none⟩) nl cl] 70) := ⟨_, rfl⟩
  have HB1 := Lib.hid (show Below w.heap.size w W1 from by rw [hW1]; exact (Below.refl _ w).alloc (Nat.le_refl _) _)
  have HV1 := Lib.hid (show Has W1 w.heap.size 70 [.slice Ac nc cc, .slice As ns cs, .slice (some ⟨bl, ol, none⟩) nl cl] from by rw [hW1]; exact Has.new w _ _)
  have hz1 : W1.heap.size = w.heap.size + 1 := by rw [hW1]; simp
  have HZ1 := Lib.hid hz1
  have v0 := HV1.out.cell 0
  have v1 := HV1.out.cell 1
  have v2 := HV1.out.cell 2
  simp only [List.getElem?_cons_succ, List.getElem?_cons_zero] at v0 v1 v2
  have HRX1 := Lib.hid (show W1.rangeAt bl (ol + i * 35) x.cells from fun j v hj => (HB1.out.cell (p := ⟨bl, ol + i * 35 + j, none⟩) hbl).trans (HRX.out j v hj))
  have HN1 := Lib.hid (show (W1.alloc (.cells Rc.z35.toArray 47)).heap[W1.heap.size]? = some (.cells Rc.z35.toArray 47 (0, 0)) from World.alloc_heap_new _ _)
  clear hz1
  go_enter Tryd.func41, Tryd.ntmps41
  go_upto_region 1 with fail
  rw [← hW1]
  clear hW1
  go_upto_region 2 with (first
    | (with_reducible refine wpList_load_mid rfl 47 (.tmp 12) rfl bl (ol + i * 35) rfl x.cells _ HRX1.out Tryd.underlying47 rfl HI47.out ?_)
    | (refine wpList_store_row (o := ⟨none, .store 47 (.tmp 5) (.tmp 13), _, _, _, _⟩) rfl 47 (.tmp 5) (.tmp 13) rfl W1.heap.size x.cells.toArray rfl rfl 47 Rc.z35.toArray HN1.out HI47b.out HZ35.out H135.out ?_))
  obtain ⟨W2, hW2⟩ : ∃ W2, W2 = (W1.alloc (.cells Rc.z35.toArray 47)).setRow W1.heap.size x.cells.toArray := ⟨_, rfl⟩
  change Code.wp _ _ _ _ ((W1.alloc (.cells Rc.z35.toArray 47)).setRow W1.heap.size x.cells.toArray)
  have HX2 := Lib.hid (show Has W2 W1.heap.size 47 x.cells from by rw [hW2]; exact setRow_heap _ W1.heap.size _ x.cells.toArray 47 (0, 0) HN1.out)
  have hB12 : Below W1.heap.size W1 W2 := by rw [hW2]; exact below_setRow ((Below.refl _ W1).alloc (Nat.le_refl _) _) (Nat.le_refl _) _
  have HV2 := Lib.hid (HV1.out.keep hB12)
  have HB2 := Lib.hid (HB1.out.trans (hB12.mono HB1.out.size))
  rw [← hW2]
  clear hW2 hB12 v0 v1 v2 HRX1 HN1 HI47b HZ35 H135
  obtain ⟨gx, hgx⟩ : ∃ gx, W1.heap.size = gx := ⟨_, rfl⟩
  rw [hgx] at HX2 ⊢
  have hgxw : w.heap.size < gx := by have := HZ1.out; omega
  clear hgx
  have v0 := HV2.out.cell 0
  have v1 := HV2.out.cell 1
  have v2 := HV2.out.cell 2
  have x0 : W2.cell? ⟨gx, 0, none⟩ = some (Rc.i x.rf) := HX2.out.cell 0
  have x1 : W2.cell? ⟨gx, 1, none⟩ = some (Rc.i x.no) := HX2.out.cell 1
  have x2 : W2.cell? ⟨gx, 2, none⟩ = some (Rc.i x.st) := HX2.out.cell 2
  simp only [List.getElem?_cons_succ, List.getElem?_cons_zero] at v0 v1 v2
  have HC1 := Lib.hid (Rc.within_any x.rf nc W2)
  have HC2 := Lib.hid (Rc.within_any x.no ns W2)
  have HC3 := Lib.hid (Rc.within_any x.st 1048577 W2)
  have HI2 := Lib.hid (show Rc.inB x.no ns = true → 0 ≤ x.no ∧ x.no < ns from Rc.inB_yes)
  generalize Rc.inB x.rf nc = b1 at HC1 HBD
  generalize Rc.inB x.no ns = b2 at HC2 HBD HI2
  generalize Rc.inB x.st 1048577 = b3 at HC3 HBD
  cases b1 with
  | false =>
    have HE := Lib.hid (show bad = true from by rw [HBD.out]; rfl)
    go_wp2_with (first | ((with_reducible refine HC1.out.mono ?_); rintro e w9 ⟨rfl, hw9⟩; rw [hw9]; clear hw9) | ((with_reducible refine HC2.out.mono ?_); rintro e w9 ⟨rfl, hw9⟩; rw [hw9]; clear hw9) | ((with_reducible refine HC3.out.mono ?_); rintro e w9 ⟨rfl, hw9⟩; rw [hw9]; clear hw9))
    go_ret
    exact ⟨by rw [HE.out]; rfl, HB2.out⟩
  | true =>
    cases b2 with
    | false =>
      have HE := Lib.hid (show bad = true from by rw [HBD.out]; rfl)
      go_wp2_with (first | ((with_reducible refine HC1.out.mono ?_); rintro e w9 ⟨rfl, hw9⟩; rw [hw9]; clear hw9) | ((with_reducible refine HC2.out.mono ?_); rintro e w9 ⟨rfl, hw9⟩; rw [hw9]; clear hw9) | ((with_reducible refine HC3.out.mono ?_); rintro e w9 ⟨rfl, hw9⟩; rw [hw9]; clear hw9))
      go_ret
      exact ⟨by rw [HE.out]; rfl, HB2.out⟩
    | true =>
      cases b3 with
      | false =>
        have HE := Lib.hid (show bad = true from by rw [HBD.out]; rfl)
        go_wp2_with (first | ((with_reducible refine HC1.out.mono ?_); rintro e w9 ⟨rfl, hw9⟩; rw [hw9]; clear hw9) | ((with_reducible refine HC2.out.mono ?_); rintro e w9 ⟨rfl, hw9⟩; rw [hw9]; clear hw9) | ((with_reducible refine HC3.out.mono ?_); rintro e w9 ⟨rfl, hw9⟩; rw [hw9]; clear hw9))
        go_ret
        exact ⟨by rw [HE.out]; rfl, HB2.out⟩
      | true =>
        by_cases hi0 : i = 0
        · have HBB := Lib.hid (show bad = (match subs[x.no.toNat]? with | none => true | some s => s.odd || !(s.dl K I == x.dg)) from by rw [HBD.out, if_pos hi0]; rfl)
          have hd0 : decide ((0 : Int) < (i : Int)) = false := decide_eq_false (by omega)
          go_upto_region 8 with (first | ((with_reducible refine HC1.out.mono ?_); rintro e w9 ⟨rfl, hw9⟩; rw [hw9]; clear hw9) | ((with_reducible refine HC2.out.mono ?_); rintro e w9 ⟨rfl, hw9⟩; rw [hw9]; clear hw9) | ((with_reducible refine HC3.out.mono ?_); rintro e w9 ⟨rfl, hw9⟩; rw [hw9]; clear hw9))
          clear v0 v1 v2 x0 x1 x2 HC1 HC2 HC3
          obtain ⟨hn0, hn1⟩ := HI2.out (by first | rfl | trivial)
          have hne : x.no = ((x.no.toNat : Nat) : Int) := by omega
          obtain ⟨s, hs⟩ : ∃ s, subs[x.no.toNat]? = some s := ⟨_, List.getElem?_eq_getElem (by omega)⟩
          have HE := Lib.hid (show bad = (s.odd || !(s.dl K I == x.dg)) from by rw [HBB.out, hs])
          obtain ⟨bs, os, Ag, cg, rfl, hbs, s0, s1, s2, s3, hrg, hmg⟩ := (HS.out.keep HB2.out).get x.no.toNat s hs
          have HDI := Lib.hid (Rc.digest_any s.no s.comp s.puz Ag s.grid.length cg s.grid K I W2 (hrg.more HB2.out.size) hmg (HG.out.keep HB2.out))
          rw [Rc.Sb.dv_eq, show Rc.de s.no s.comp s.puz s.grid = s.de from rfl] at HDI
          obtain ⟨D, hD⟩ : ∃ D, ((s.dl K I).map Dg.b8).toArray = D := ⟨_, rfl⟩
          have hEQ := Rc.eq31 (s.dl K I) x.dg (s.dl_len K I) HD32.out
          have hds : D.size = 32 := by rw [← hD]; simp [Rc.Sb.dl_len]
          have h1d : D.all (·.oneCell') = true := by rw [← hD]; exact all_oneCell_toArray (one_bytes _)
          rw [hD] at HDI hEQ
          have HDD := Lib.hid hD
          have HEQ := Lib.hid hEQ
          have HDS := Lib.hid hds
          have H1D := Lib.hid h1d
          have HI31 := Lib.hid (show (Tryd.prog.info? 31).map (·.size) = some D.size from by rw [hds]; exact Rc.info31)
          have HZD := Lib.hid (show Dg.z32.toArray.size = D.size from by rw [hds]; rfl)
          generalize x.no.toNat = nn at hne s0 s1 s2 s3
          have v1 := HV2.out.cell 1
          have x1 : W2.cell? ⟨gx, 1, none⟩ = some (Rc.i x.no) := HX2.out.cell 1
          simp only [List.getElem?_cons_succ, List.getElem?_cons_zero] at v1
          rw [hne] at x1
          have hnn : nn < ns := by omega
          clear hrg hmg hs hD hEQ hds h1d hne hn0 hn1
          go_wp2_with fail
          ((with_reducible refine HDI.out.mono ?_); rintro e w5 ⟨rfl, hb5⟩)
          have HX5 := Lib.hid (HX2.out.keep hb5)
          have HB5 := Lib.hid (HB2.out.trans (hb5.mono HB2.out.size))
          have HN5 := Lib.hid (show (w5.alloc (.cells Dg.z32.toArray 31)).heap[w5.heap.size]? = some (.cells Dg.z32.toArray 31 (0, 0)) from World.alloc_heap_new _ _)
          clear hb5 v1 x1 s0 s1 s2 s3 hbs
          go_upto_region 9 with (first | (refine wpList_store_row (o := ⟨none, .store 31 (.tmp 7) (.tmp 71), _, _, _, _⟩) rfl 31 (.tmp 7) (.tmp 71) rfl w5.heap.size D rfl rfl 31 Dg.z32.toArray HN5.out HI31.out HZD.out H1D.out ?_))
          obtain ⟨W6, hW6⟩ : ∃ W6, W6 = (w5.alloc (.cells Dg.z32.toArray 31)).setRow w5.heap.size D := ⟨_, rfl⟩
          change Code.wp _ _ _ _ ((w5.alloc (.cells Dg.z32.toArray 31)).setRow w5.heap.size D)
          have hD6 : W6.heap[w5.heap.size]? = some (.cells D 31 (0, 0)) := by rw [hW6]; exact setRow_heap _ w5.heap.size _ D 31 (0, 0) HN5.out
          have hB56 : Below w5.heap.size w5 W6 := by rw [hW6]; exact below_setRow ((Below.refl _ w5).alloc (Nat.le_refl _) _) (Nat.le_refl _) _
          have HX6 := Lib.hid (HX5.out.keep hB56)
          have HB6 := Lib.hid (HB5.out.trans (hB56.mono HB5.out.size))
          have HRD := Lib.hid (show W6.rangeAt w5.heap.size 0 D.toList from fun j v hj => by rw [cell_of_row W6 w5.heap.size (0 + j) D 31 (0, 0) hD6, Nat.zero_add]; simpa using hj)
          have HRX6 := Lib.hid (show W6.rangeAt gx 3 (x.dg.map Dg.b8) from fun j v hj => by rw [HX6.out.cell]; unfold Rc.R.cells; rw [show 3 + j = j + 1 + 1 + 1 by omega, List.getElem?_cons_succ, List.getElem?_cons_succ, List.getElem?_cons_succ]; exact hj)
          rw [← hW6]
          clear hW6 hD6 hB56
          cases ho : s.odd with
          | true =>
            have he : s.de = 510 := by unfold Rc.Sb.de Rc.de; rw [if_pos]; exact ho
            have HE2 := Lib.hid (show bad = true from by rw [HE.out, ho]; rfl)
            rw [he]
            clear ho he
            go_wp2_with fail
            go_ret
            exact ⟨by rw [HE2.out]; rfl, HB6.out⟩
          | false =>
            have he : s.de = 0 := Rc.Sb.de_ok ho
            have HE2 := Lib.hid (show bad = !(s.dl K I == x.dg) from by rw [HE.out, ho]; rfl)
            rw [he]
            have hEQ := HEQ.out
            have hEG := Rc.eqg
            have HID1 := Lib.hid (show (Tryd.prog.info? 31).map (·.size) = some D.toList.length from by rw [Array.length_toList]; exact HI31.out)
            have HID2 := Lib.hid (show (Tryd.prog.info? 31).map (·.size) = some (x.dg.map Dg.b8).length from by rw [List.length_map, HD32.out]; exact Rc.info31)
            obtain ⟨X, hX⟩ : ∃ X, (x.dg.map Dg.b8).toArray = X := ⟨_, rfl⟩
            have HXX := Lib.hid hX
            generalize (s.dl K I == x.dg) = q at hEQ HE2
            rw [hX] at hEQ
            clear ho he HEQ hX
            go_wp2_with (first
              | ((refine wpList_load_midG (op := ⟨some 76, _, _, _, _, _⟩) (by rfl) 31 (.tmp 7) rfl w5.heap.size 0 rfl D.toList _ HRD.out Tryd.underlying31 rfl HID1.out ?_); rw [Array.toArray_toList])
              | ((refine wpList_load_midG (op := ⟨some 78, _, _, _, _, _⟩) (by rfl) 31 (.tmp 77) rfl gx 3 rfl (x.dg.map Dg.b8) _ HRX6.out Tryd.underlying31 rfl HID2.out ?_); rw [HXX.out]))
            go_ret
            exact ⟨by rw [HE2.out]; rfl, HB6.out⟩
        · obtain ⟨y, hy⟩ : ∃ y, l[i - 1]? = some y := ⟨_, List.getElem?_eq_getElem (by omega)⟩
          have HBB0 := Lib.hid (show bad = (Rc.late y x || (match subs[x.no.toNat]? with | none => true | some s => s.odd || !(s.dl K I == x.dg))) from by rw [HBD.out, if_neg hi0, List.getD_eq_getElem?_getD, hy]; rfl)
          obtain ⟨hy32, bl', ol', he, hbl', hry⟩ := HL.out.get (i - 1) y hy
          injection he with he
          injection he with he1 he2 _
          subst he1 he2
          have hc35 : y.cells.length = 35 := Rc.R.cells_len hy32
          have HRY := Lib.hid (show W2.rangeAt bl (ol + (i - 1) * 35) y.cells from fun j v hj => (HB2.out.cell (p := ⟨bl, ol + (i - 1) * 35 + j, none⟩) hbl').trans (hry j v hj))
          have HI47y := Lib.hid (show (Tryd.prog.info? 47).map (·.size) = some y.cells.length from by rw [hc35]; exact Rc.info47)
          have HI47z := Lib.hid (show (Tryd.prog.info? 47).map (·.size) = some y.cells.toArray.size from by rw [List.size_toArray, hc35]; exact Rc.info47)
          have HZ35y := Lib.hid (show Rc.z35.toArray.size = y.cells.toArray.size from by rw [List.size_toArray, List.size_toArray, hc35]; rfl)
          have H135y := Lib.hid (show y.cells.toArray.all (·.oneCell') = true from all_oneCell_toArray y.cells_one)
          have HN2 := Lib.hid (show (W2.alloc (.cells Rc.z35.toArray 47)).heap[W2.heap.size]? = some (.cells Rc.z35.toArray 47 (0, 0)) from World.alloc_heap_new _ _)
          have hd0 : decide ((0 : Int) < (i : Int)) = true := decide_eq_true (by omega)
          clear hy hy32 hry hc35 hbl'
          go_upto_region 6 with (first
            | ((with_reducible refine HC1.out.mono ?_); rintro e w9 ⟨rfl, hw9⟩; rw [hw9]; clear hw9) | ((with_reducible refine HC2.out.mono ?_); rintro e w9 ⟨rfl, hw9⟩; rw [hw9]; clear hw9) | ((with_reducible refine HC3.out.mono ?_); rintro e w9 ⟨rfl, hw9⟩; rw [hw9]; clear hw9)
            | (with_reducible refine wpList_load_mid rfl 47 (.tmp 42) rfl bl (ol + (i - 1) * 35) rfl y.cells _ HRY.out Tryd.underlying47 rfl HI47y.out ?_)
            | (refine wpList_store_row (o := ⟨none, .store 47 (.tmp 6) (.tmp 43), _, _, _, _⟩) rfl 47 (.tmp 6) (.tmp 43) rfl W2.heap.size y.cells.toArray rfl rfl 47 Rc.z35.toArray HN2.out HI47z.out HZ35y.out H135y.out ?_))
          obtain ⟨W4, hW4⟩ : ∃ W4, W4 = (W2.alloc (.cells Rc.z35.toArray 47)).setRow W2.heap.size y.cells.toArray := ⟨_, rfl⟩
          change Code.wp _ _ _ _ ((W2.alloc (.cells Rc.z35.toArray 47)).setRow W2.heap.size y.cells.toArray)
          have hY4 : Has W4 W2.heap.size 47 y.cells := by rw [hW4]; exact setRow_heap _ W2.heap.size _ y.cells.toArray 47 (0, 0) HN2.out
          have hB24 : Below W2.heap.size W2 W4 := by rw [hW4]; exact below_setRow ((Below.refl _ W2).alloc (Nat.le_refl _) _) (Nat.le_refl _) _
          have HV4 := Lib.hid (HV2.out.keep hB24)
          have HX4 := Lib.hid (HX2.out.keep hB24)
          have HB4 := Lib.hid (HB2.out.trans (hB24.mono HB2.out.size))
          rw [← hW4]
          have y0 : W4.cell? ⟨W2.heap.size, 0, none⟩ = some (Rc.i y.rf) := hY4.cell 0
          have y1 : W4.cell? ⟨W2.heap.size, 1, none⟩ = some (Rc.i y.no) := hY4.cell 1
          clear hW4 hB24 hY4 v0 v1 v2 x0 x1 x2 HC1 HC2 HC3 HRY HN2 HI47y HI47z HZ35y H135y
          have x0 : W4.cell? ⟨gx, 0, none⟩ = some (Rc.i x.rf) := HX4.out.cell 0
          have x1 : W4.cell? ⟨gx, 1, none⟩ = some (Rc.i x.no) := HX4.out.cell 1
          by_cases h1 : x.no < y.no
          · have HE := Lib.hid (show bad = true from by rw [HBB0.out, Rc.late, decide_eq_true h1]; rfl)
            have hd1 : decide (x.no < y.no) = true := decide_eq_true h1
            go_wp2_with fail
            go_ret
            exact ⟨by rw [HE.out]; rfl, HB4.out⟩
          · have hd1 : decide (x.no < y.no) = false := decide_eq_false h1
            by_cases h2 : y.no = x.no
            · have hd2 : (y.no == x.no) = true := by simpa using h2
              by_cases h3 : x.rf ≤ y.rf
              · have HE := Lib.hid (show bad = true from by rw [HBB0.out, Rc.late, decide_eq_false h1, decide_eq_true h2, decide_eq_true h3]; rfl)
                have hd3 : decide (x.rf ≤ y.rf) = true := decide_eq_true h3
                clear h2
                go_wp2_with fail
                go_ret
                exact ⟨by rw [HE.out]; rfl, HB4.out⟩
              · have hd3 : decide (x.rf ≤ y.rf) = false := decide_eq_false h3
                have HBB := Lib.hid (show bad = (match subs[x.no.toNat]? with | none => true | some s => s.odd || !(s.dl K I == x.dg)) from by rw [HBB0.out, Rc.late, decide_eq_false h1, decide_eq_true h2, decide_eq_false h3]; rfl)
                clear h2
                go_upto_region 8 with fail
                clear x0 x1 y0 y1
                obtain ⟨hn0, hn1⟩ := HI2.out (by first | rfl | trivial)
                have hne : x.no = ((x.no.toNat : Nat) : Int) := by omega
                obtain ⟨s, hs⟩ : ∃ s, subs[x.no.toNat]? = some s := ⟨_, List.getElem?_eq_getElem (by omega)⟩
                have HE := Lib.hid (show bad = (s.odd || !(s.dl K I == x.dg)) from by rw [HBB.out, hs])
                obtain ⟨bs, os, Ag, cg, rfl, hbs, s0, s1, s2, s3, hrg, hmg⟩ := (HS.out.keep HB4.out).get x.no.toNat s hs
                have HDI := Lib.hid (Rc.digest_any s.no s.comp s.puz Ag s.grid.length cg s.grid K I W4 (hrg.more HB4.out.size) hmg (HG.out.keep HB4.out))
                rw [Rc.Sb.dv_eq, show Rc.de s.no s.comp s.puz s.grid = s.de from rfl] at HDI
                obtain ⟨D, hD⟩ : ∃ D, ((s.dl K I).map Dg.b8).toArray = D := ⟨_, rfl⟩
                have hEQ := Rc.eq31 (s.dl K I) x.dg (s.dl_len K I) HD32.out
                have hds : D.size = 32 := by rw [← hD]; simp [Rc.Sb.dl_len]
                have h1d : D.all (·.oneCell') = true := by rw [← hD]; exact all_oneCell_toArray (one_bytes _)
                rw [hD] at HDI hEQ
                have HDD := Lib.hid hD
                have HEQ := Lib.hid hEQ
                have HDS := Lib.hid hds
                have H1D := Lib.hid h1d
                have HI31 := Lib.hid (show (Tryd.prog.info? 31).map (·.size) = some D.size from by rw [hds]; exact Rc.info31)
                have HZD := Lib.hid (show Dg.z32.toArray.size = D.size from by rw [hds]; rfl)
                generalize x.no.toNat = nn at hne s0 s1 s2 s3
                have v1 := HV4.out.cell 1
                have x1 : W4.cell? ⟨gx, 1, none⟩ = some (Rc.i x.no) := HX4.out.cell 1
                simp only [List.getElem?_cons_succ, List.getElem?_cons_zero] at v1
                rw [hne] at x1
                have hnn : nn < ns := by omega
                clear hrg hmg hs hD hEQ hds h1d hne hn0 hn1
                go_wp2_with fail
                ((with_reducible refine HDI.out.mono ?_); rintro e w5 ⟨rfl, hb5⟩)
                have HX5 := Lib.hid (HX4.out.keep hb5)
                have HB5 := Lib.hid (HB4.out.trans (hb5.mono HB4.out.size))
                have HN5 := Lib.hid (show (w5.alloc (.cells Dg.z32.toArray 31)).heap[w5.heap.size]? = some (.cells Dg.z32.toArray 31 (0, 0)) from World.alloc_heap_new _ _)
                clear hb5 v1 x1 s0 s1 s2 s3 hbs
                go_upto_region 9 with (first | (refine wpList_store_row (o := ⟨none, .store 31 (.tmp 7) (.tmp 71), _, _, _, _⟩) rfl 31 (.tmp 7) (.tmp 71) rfl w5.heap.size D rfl rfl 31 Dg.z32.toArray HN5.out HI31.out HZD.out H1D.out ?_))
                obtain ⟨W6, hW6⟩ : ∃ W6, W6 = (w5.alloc (.cells Dg.z32.toArray 31)).setRow w5.heap.size D := ⟨_, rfl⟩
                change Code.wp _ _ _ _ ((w5.alloc (.cells Dg.z32.toArray 31)).setRow w5.heap.size D)
                have hD6 : W6.heap[w5.heap.size]? = some (.cells D 31 (0, 0)) := by rw [hW6]; exact setRow_heap _ w5.heap.size _ D 31 (0, 0) HN5.out
                have hB56 : Below w5.heap.size w5 W6 := by rw [hW6]; exact below_setRow ((Below.refl _ w5).alloc (Nat.le_refl _) _) (Nat.le_refl _) _
                have HX6 := Lib.hid (HX5.out.keep hB56)
                have HB6 := Lib.hid (HB5.out.trans (hB56.mono HB5.out.size))
                have HRD := Lib.hid (show W6.rangeAt w5.heap.size 0 D.toList from fun j v hj => by rw [cell_of_row W6 w5.heap.size (0 + j) D 31 (0, 0) hD6, Nat.zero_add]; simpa using hj)
                have HRX6 := Lib.hid (show W6.rangeAt gx 3 (x.dg.map Dg.b8) from fun j v hj => by rw [HX6.out.cell]; unfold Rc.R.cells; rw [show 3 + j = j + 1 + 1 + 1 by omega, List.getElem?_cons_succ, List.getElem?_cons_succ, List.getElem?_cons_succ]; exact hj)
                rw [← hW6]
                clear hW6 hD6 hB56
                cases ho : s.odd with
                | true =>
                  have he : s.de = 510 := by unfold Rc.Sb.de Rc.de; rw [if_pos]; exact ho
                  have HE2 := Lib.hid (show bad = true from by rw [HE.out, ho]; rfl)
                  rw [he]
                  clear ho he
                  go_wp2_with fail
                  go_ret
                  exact ⟨by rw [HE2.out]; rfl, HB6.out⟩
                | false =>
                  have he : s.de = 0 := Rc.Sb.de_ok ho
                  have HE2 := Lib.hid (show bad = !(s.dl K I == x.dg) from by rw [HE.out, ho]; rfl)
                  rw [he]
                  have hEQ := HEQ.out
                  have hEG := Rc.eqg
                  have HID1 := Lib.hid (show (Tryd.prog.info? 31).map (·.size) = some D.toList.length from by rw [Array.length_toList]; exact HI31.out)
                  have HID2 := Lib.hid (show (Tryd.prog.info? 31).map (·.size) = some (x.dg.map Dg.b8).length from by rw [List.length_map, HD32.out]; exact Rc.info31)
                  obtain ⟨X, hX⟩ : ∃ X, (x.dg.map Dg.b8).toArray = X := ⟨_, rfl⟩
                  have HXX := Lib.hid hX
                  generalize (s.dl K I == x.dg) = q at hEQ HE2
                  rw [hX] at hEQ
                  clear ho he HEQ hX
                  go_wp2_with (first
                    | ((refine wpList_load_midG (op := ⟨some 76, _, _, _, _, _⟩) (by rfl) 31 (.tmp 7) rfl w5.heap.size 0 rfl D.toList _ HRD.out Tryd.underlying31 rfl HID1.out ?_); rw [Array.toArray_toList])
                    | ((refine wpList_load_midG (op := ⟨some 78, _, _, _, _, _⟩) (by rfl) 31 (.tmp 77) rfl gx 3 rfl (x.dg.map Dg.b8) _ HRX6.out Tryd.underlying31 rfl HID2.out ?_); rw [HXX.out]))
                  go_ret
                  exact ⟨by rw [HE2.out]; rfl, HB6.out⟩
            · have hd2 : (y.no == x.no) = false := by simpa using h2
              have HBB := Lib.hid (show bad = (match subs[x.no.toNat]? with | none => true | some s => s.odd || !(s.dl K I == x.dg)) from by rw [HBB0.out, Rc.late, decide_eq_false h1, decide_eq_false h2]; rfl)
              go_upto_region 8 with fail
              clear x0 x1 y0 y1
              obtain ⟨hn0, hn1⟩ := HI2.out (by first | rfl | trivial)
              have hne : x.no = ((x.no.toNat : Nat) : Int) := by omega
              obtain ⟨s, hs⟩ : ∃ s, subs[x.no.toNat]? = some s := ⟨_, List.getElem?_eq_getElem (by omega)⟩
              have HE := Lib.hid (show bad = (s.odd || !(s.dl K I == x.dg)) from by rw [HBB.out, hs])
              obtain ⟨bs, os, Ag, cg, rfl, hbs, s0, s1, s2, s3, hrg, hmg⟩ := (HS.out.keep HB4.out).get x.no.toNat s hs
              have HDI := Lib.hid (Rc.digest_any s.no s.comp s.puz Ag s.grid.length cg s.grid K I W4 (hrg.more HB4.out.size) hmg (HG.out.keep HB4.out))
              rw [Rc.Sb.dv_eq, show Rc.de s.no s.comp s.puz s.grid = s.de from rfl] at HDI
              obtain ⟨D, hD⟩ : ∃ D, ((s.dl K I).map Dg.b8).toArray = D := ⟨_, rfl⟩
              have hEQ := Rc.eq31 (s.dl K I) x.dg (s.dl_len K I) HD32.out
              have hds : D.size = 32 := by rw [← hD]; simp [Rc.Sb.dl_len]
              have h1d : D.all (·.oneCell') = true := by rw [← hD]; exact all_oneCell_toArray (one_bytes _)
              rw [hD] at HDI hEQ
              have HDD := Lib.hid hD
              have HEQ := Lib.hid hEQ
              have HDS := Lib.hid hds
              have H1D := Lib.hid h1d
              have HI31 := Lib.hid (show (Tryd.prog.info? 31).map (·.size) = some D.size from by rw [hds]; exact Rc.info31)
              have HZD := Lib.hid (show Dg.z32.toArray.size = D.size from by rw [hds]; rfl)
              generalize x.no.toNat = nn at hne s0 s1 s2 s3
              have v1 := HV4.out.cell 1
              have x1 : W4.cell? ⟨gx, 1, none⟩ = some (Rc.i x.no) := HX4.out.cell 1
              simp only [List.getElem?_cons_succ, List.getElem?_cons_zero] at v1
              rw [hne] at x1
              have hnn : nn < ns := by omega
              clear hrg hmg hs hD hEQ hds h1d hne hn0 hn1
              go_wp2_with fail
              ((with_reducible refine HDI.out.mono ?_); rintro e w5 ⟨rfl, hb5⟩)
              have HX5 := Lib.hid (HX4.out.keep hb5)
              have HB5 := Lib.hid (HB4.out.trans (hb5.mono HB4.out.size))
              have HN5 := Lib.hid (show (w5.alloc (.cells Dg.z32.toArray 31)).heap[w5.heap.size]? = some (.cells Dg.z32.toArray 31 (0, 0)) from World.alloc_heap_new _ _)
              clear hb5 v1 x1 s0 s1 s2 s3 hbs
              go_upto_region 9 with (first | (refine wpList_store_row (o := ⟨none, .store 31 (.tmp 7) (.tmp 71), _, _, _, _⟩) rfl 31 (.tmp 7) (.tmp 71) rfl w5.heap.size D rfl rfl 31 Dg.z32.toArray HN5.out HI31.out HZD.out H1D.out ?_))
              obtain ⟨W6, hW6⟩ : ∃ W6, W6 = (w5.alloc (.cells Dg.z32.toArray 31)).setRow w5.heap.size D := ⟨_, rfl⟩
              change Code.wp _ _ _ _ ((w5.alloc (.cells Dg.z32.toArray 31)).setRow w5.heap.size D)
              have hD6 : W6.heap[w5.heap.size]? = some (.cells D 31 (0, 0)) := by rw [hW6]; exact setRow_heap _ w5.heap.size _ D 31 (0, 0) HN5.out
              have hB56 : Below w5.heap.size w5 W6 := by rw [hW6]; exact below_setRow ((Below.refl _ w5).alloc (Nat.le_refl _) _) (Nat.le_refl _) _
              have HX6 := Lib.hid (HX5.out.keep hB56)
              have HB6 := Lib.hid (HB5.out.trans (hB56.mono HB5.out.size))
              have HRD := Lib.hid (show W6.rangeAt w5.heap.size 0 D.toList from fun j v hj => by rw [cell_of_row W6 w5.heap.size (0 + j) D 31 (0, 0) hD6, Nat.zero_add]; simpa using hj)
              have HRX6 := Lib.hid (show W6.rangeAt gx 3 (x.dg.map Dg.b8) from fun j v hj => by rw [HX6.out.cell]; unfold Rc.R.cells; rw [show 3 + j = j + 1 + 1 + 1 by omega, List.getElem?_cons_succ, List.getElem?_cons_succ, List.getElem?_cons_succ]; exact hj)
              rw [← hW6]
              clear hW6 hD6 hB56
              cases ho : s.odd with
              | true =>
                have he : s.de = 510 := by unfold Rc.Sb.de Rc.de; rw [if_pos]; exact ho
                have HE2 := Lib.hid (show bad = true from by rw [HE.out, ho]; rfl)
                rw [he]
                clear ho he
                go_wp2_with fail
                go_ret
                exact ⟨by rw [HE2.out]; rfl, HB6.out⟩
              | false =>
                have he : s.de = 0 := Rc.Sb.de_ok ho
                have HE2 := Lib.hid (show bad = !(s.dl K I == x.dg) from by rw [HE.out, ho]; rfl)
                rw [he]
                have hEQ := HEQ.out
                have hEG := Rc.eqg
                have HID1 := Lib.hid (show (Tryd.prog.info? 31).map (·.size) = some D.toList.length from by rw [Array.length_toList]; exact HI31.out)
                have HID2 := Lib.hid (show (Tryd.prog.info? 31).map (·.size) = some (x.dg.map Dg.b8).length from by rw [List.length_map, HD32.out]; exact Rc.info31)
                obtain ⟨X, hX⟩ : ∃ X, (x.dg.map Dg.b8).toArray = X := ⟨_, rfl⟩
                have HXX := Lib.hid hX
                generalize (s.dl K I == x.dg) = q at hEQ HE2
                rw [hX] at hEQ
                clear ho he HEQ hX
                go_wp2_with (first
                  | ((refine wpList_load_midG (op := ⟨some 76, _, _, _, _, _⟩) (by rfl) 31 (.tmp 7) rfl w5.heap.size 0 rfl D.toList _ HRD.out Tryd.underlying31 rfl HID1.out ?_); rw [Array.toArray_toList])
                  | ((refine wpList_load_midG (op := ⟨some 78, _, _, _, _, _⟩) (by rfl) 31 (.tmp 77) rfl gx 3 rfl (x.dg.map Dg.b8) _ HRX6.out Tryd.underlying31 rfl HID2.out ?_); rw [HXX.out]))
                go_ret
                exact ⟨by rw [HE2.out]; rfl, HB6.out⟩
end Go.Proofs.YtnbbleajbbgmjaaDoor
