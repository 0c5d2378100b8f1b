import Derived.Test.YtnbbleajbbgmjaaDoorMRcT1
import Derived.Test.YtnbbleajbbgmjaaDoorMRcR6v
import Derived.Test.YtnbbleajbbgmjaaDoorMRcR1
import Derived.Test.YtnbbleajbbgmjaaDoorMRcS1
/- Plain: the times at which all clocks can show their stamps. -/
namespace Go.Proofs.YtnbbleajbbgmjaaDoor
open Go.RowKit
set_option linter.unusedVariables false

/-- can the clock of a receipt show its stamp at a time? -/
def Rc.shw (c : List Rc.C) (t : Int) (x : Rc.R) : Bool := let q := c.getD x.rf.toNat default; Clk.shB q.s q.er q.d t x.st
theorem Rc.shw_eq {c : List Rc.C} {t : Int} {x : Rc.R} {q : Rc.C} (hq : c[x.rf.toNat]? = some q) : Rc.shw c t x = Clk.shB q.s q.er q.d t x.st := by
  unfold Rc.shw
  rw [List.getD_eq_getElem?_getD, hq]
  rfl
/-- can those of the first k receipts that are a submission's? -/
def Rc.allT (c : List Rc.C) (l : List Rc.R) (no t : Int) : Nat → Bool
  | 0 => true
  | k + 1 => Rc.allT c l no t k && (match l[k]? with | none => true | some x => (!decide (x.no = no)) || Rc.shw c t x)
theorem Rc.allT_no {c : List Rc.C} {l : List Rc.R} {no t : Int} {k : Nat} (h : Rc.allT c l no t k = false) : Rc.allT c l no t (k + 1) = false := by rw [Rc.allT, h]; rfl
theorem Rc.allT_other {c : List Rc.C} {l : List Rc.R} {no t : Int} {k : Nat} {x : Rc.R} (h : Rc.allT c l no t k = true) (hx : l[k]? = some x) (hn : x.no ≠ no) : Rc.allT c l no t (k + 1) = true := by
  rw [Rc.allT, h, hx]
  dsimp only
  rw [decide_eq_false hn]
  rfl
theorem Rc.allT_own {c : List Rc.C} {l : List Rc.R} {no t : Int} {k : Nat} {x : Rc.R} (h : Rc.allT c l no t k = true) (hx : l[k]? = some x) (hn : x.no = no) : Rc.allT c l no t (k + 1) = Rc.shw c t x := by
  rw [Rc.allT, h, hx]
  dsimp only
  rw [decide_eq_true hn]
  cases Rc.shw c t x <;> rfl
theorem Rc.allT_iff {c : List Rc.C} {l : List Rc.R} {no t : Int} (k : Nat) : Rc.allT c l no t k = true ↔ ∀ (j : Nat) (x : Rc.R), j < k → l[j]? = some x → x.no = no → Rc.shw c t x = true := by
  induction k with
  | zero => exact ⟨fun _ j x h => absurd h (by omega), fun _ => rfl⟩
  | succ k ih =>
    rw [Rc.allT, Bool.and_eq_true, ih]
    constructor
    · rintro ⟨h1, h2⟩ j x hj hx hn
      by_cases he : j = k
      · subst he
        rw [hx] at h2
        dsimp only at h2
        rw [decide_eq_true hn] at h2
        exact h2
      · exact h1 j x (by omega) hx hn
    · intro h
      refine ⟨fun j x hj => h j x (by omega), ?_⟩
      cases hx : l[k]? with
      | none => rfl
      | some x =>
        dsimp only
        by_cases hn : x.no = no
        · rw [h k x (by omega) hx hn, Bool.or_true]
        · rw [decide_eq_false hn]; rfl
/-- the range has exactly those times -/
theorem Rc.allT_mm {K : List UInt32} {I : Dg.S} {c : List Rc.C} {subs : List Rc.Sb} {l : List Rc.R} {no t : Int} (h : Rc.chkE K I c subs l = 0) (h0 : 0 ≤ t) (h1 : t ≤ 1048576) :
    Rc.allT c l no t l.length = (decide ((Rc.mm (Rc.ofs c l no)).1 ≤ t) && decide (t ≤ (Rc.mm (Rc.ofs c l no)).2)) := by
  rw [Bool.eq_iff_iff, Rc.allT_iff, Bool.and_eq_true, decide_eq_true_eq, decide_eq_true_eq, Rc.mm_ofs]
  have hs : ∀ x ∈ l, (Rc.shw c t x = true ↔ Rc.spL c x ≤ t ∧ t ≤ Rc.spH c x) := fun x hx => by
    obtain ⟨q, hq, _⟩ := Rc.ok_all h x hx
    rw [Rc.shw_eq hq]
    exact (Rc.sp_times h hx hq).2.2.2.2 t h0 h1
  constructor
  · intro hall
    refine ⟨h0, h1, fun x hx hn => ?_⟩
    obtain ⟨j, hj, he⟩ := List.mem_iff_getElem.1 hx
    exact (hs x hx).1 (hall j x hj (by rw [List.getElem?_eq_getElem hj, he]) hn)
  · rintro ⟨_, _, hall⟩ j x hj hx hn
    exact (hs x (List.mem_of_getElem? hx)).2 (hall x (List.mem_of_getElem? hx) hn)
theorem Rc.mm_bounds {c : List Rc.C} {l : List Rc.R} {no : Int} (h : (Rc.mm (Rc.ofs c l no)).1 ≤ (Rc.mm (Rc.ofs c l no)).2) : 0 ≤ (Rc.mm (Rc.ofs c l no)).1 ∧ (Rc.mm (Rc.ofs c l no)).2 ≤ 1048576 :=
  ⟨((Rc.mm_ofs c l no _).1 ⟨Int.le_refl _, h⟩).1, ((Rc.mm_ofs c l no _).1 ⟨h, Int.le_refl _⟩).2.1⟩
end Go.Proofs.YtnbbleajbbgmjaaDoor
/- ReceiptsExact: the walk. -/
namespace Go.Proofs.YtnbbleajbbgmjaaDoor
open Go.RowKit
set_option linter.unusedVariables false

theorem Rc.info51 : (Tryd.prog.info? 51).map (·.size) = some 3 := by kernel_rfl
/-- the cells that region 18 reads -/
theorem Rc.keepV {W2 : World} {xb bc o : Nat} {v1 v6 v2 v3 v4 v5 : Value} (hb : bc < W2.heap.size) (hx : xb < W2.heap.size)
    (h1 : W2.cell? ⟨xb, 0, none⟩ = some v1) (h6 : W2.cell? ⟨xb, 1, none⟩ = some v6) (h2 : W2.cell? ⟨xb, 2, none⟩ = some v2) (h3 : W2.cell? ⟨bc, o, none⟩ = some v3) (h4 : W2.cell? ⟨bc, o + 1, none⟩ = some v4) (h5 : W2.cell? ⟨bc, o + 2, none⟩ = some v5) (w' : World) (s : Below W2.heap.size W2 w') :
    w'.cell? ⟨xb, 0, none⟩ = some v1 ∧ w'.cell? ⟨xb, 1, none⟩ = some v6 ∧ w'.cell? ⟨xb, 2, none⟩ = some v2 ∧ w'.rangeAt bc o [v3, v4, v5] ∧ Below W2.heap.size W2 w' :=
  ⟨(s.cell hx).trans h1, (s.cell hx).trans h6, (s.cell hx).trans h2, fun j v hj => by
    rcases j with _ | _ | _ | j
    · obtain rfl : v3 = v := by simpa using hj
      exact (s.cell hb).trans h3
    · obtain rfl : v4 = v := by simpa using hj
      exact (s.cell hb).trans h4
    · obtain rfl : v5 = v := by simpa using hj
      exact (s.cell hb).trans h5
    · simp at hj, s⟩
set_option maxRecDepth 100000 in
set_option maxHeartbeats 16000000 in
theorem Rc.exact_law (hsn : ∀ W, Dg.G W Rc.K0 Rc.I0 → Calls Tryd.prog 10 #[] W fun e w' => e = .returned (.bool true) ∧ Below W.heap.size W w')
    (Ac As Al : Option Addr) (nc cc ns cs nl cl : Nat) (c : List Rc.C) (subs : List Rc.Sb) (l : List Rc.R) (no tm : Int) (w : World) (hE : Rc.Ev w w.heap.size Ac As Al nc ns nl c subs l) (hG : Dg.G w Rc.K0 Rc.I0) :
    Calls Tryd.prog 6 #[.slice Ac nc cc, .slice As ns cs, .slice Al nl cl, Rc.i no, Rc.i tm] w fun e w' => e = .returned (.bool true) ∧ Below w.heap.size w w' := by
  have HSN := Lib.hid (fun W (hb : Below w.heap.size w W) => hsn W (hG.keep hb))
  have HFW := Lib.hid (fun W (hb : Below w.heap.size w W) => Rc.rfew_any Ac As Al nc cc ns cs nl cl subs W (hE.s.keep hb |>.more hb.size) hE.mc hE.ms hE.ml)
  have HRC := Lib.hid (fun W (hb : Below w.heap.size w W) => Rc.rcheck_any Ac As Al nc cc ns cs nl cl c subs l W ((hE.keep hb).more hb.size))
  have HWN := Lib.hid (fun W (hb : Below w.heap.size w W) => Rc.when_any Ac As Al nc cc ns cs nl cl c subs l no Rc.K0 Rc.I0 W ((hE.keep hb).more hb.size) (hG.keep hb))
  have HCF := Lib.hid (fun W (hb : Below w.heap.size w W) => Rc.conf_any Ac As Al nc cc ns cs nl cl c subs l no Rc.K0 Rc.I0 W ((hE.keep hb).more hb.size) (hG.keep hb))
  have HEV := Lib.hid hE
  have hll := hE.l.len
  have hcl := hE.c.len
  have hnl := hE.ml
  have hncl := hE.mc
  have hnsl := hE.ms
  unfold maxLen at hnl hncl hnsl
  have hEE : Rc.chkE Rc.K0 Rc.I0 c subs l = 0 ∨ Rc.chkE Rc.K0 Rc.I0 c subs l = 510 := Rc.chk_ok
  generalize hEC : Rc.chkE Rc.K0 Rc.I0 c subs l = E at HRC HWN HCF hEE
  have HEC := Lib.hid hEC
  generalize Rc.few nc ns nl subs = fw at HFW
  clear hE hG hsn hEC
  cases fw with
  | false =>
    go_enter Tryd.func6, Tryd.ntmps6
    go_wp2_with fail
    ((with_reducible refine (HSN.out _ (Below.refl _ _)).mono ?_); rintro e w2 ⟨rfl, hb⟩)
    have HB2 := Lib.hid hb
    clear hb
    go_wp2_with fail
    ((with_reducible refine (HFW.out _ HB2.out).mono ?_); rintro e w3 ⟨rfl, hb⟩)
    have HB3 := Lib.hid (HB2.out.trans (hb.mono HB2.out.size))
    clear hb
    go_wp2_with fail
    go_ret
    exact ⟨rfl, HB3.out⟩
  | true =>
    rcases hEE with rfl | rfl
    · by_cases ha : no < 0
      · have da : decide (no < 0) = true := decide_eq_true ha
        clear ha
        go_enter Tryd.func6, Tryd.ntmps6
        go_wp2_with fail
        ((with_reducible refine (HSN.out _ (Below.refl _ _)).mono ?_); rintro e w2 ⟨rfl, hb⟩)
        have HB2 := Lib.hid hb
        clear hb
        go_wp2_with fail
        ((with_reducible refine (HFW.out _ HB2.out).mono ?_); rintro e w3 ⟨rfl, hb⟩)
        have HB3 := Lib.hid (HB2.out.trans (hb.mono HB2.out.size))
        clear hb
        go_wp2_with fail
        ((with_reducible refine (HRC.out _ HB3.out).mono ?_); rintro e w4 ⟨rfl, hb⟩)
        have HB4 := Lib.hid (HB3.out.trans (hb.mono HB3.out.size))
        clear hb
        go_wp2_with fail
        go_ret
        exact ⟨rfl, HB4.out⟩
      have da : decide (no < 0) = false := decide_eq_false ha
      by_cases hb : (ns : Int) ≤ no
      · have db : decide ((ns : Int) ≤ no) = true := decide_eq_true hb
        clear hb
        go_enter Tryd.func6, Tryd.ntmps6
        go_wp2_with fail
        ((with_reducible refine (HSN.out _ (Below.refl _ _)).mono ?_); rintro e w2 ⟨rfl, hb⟩)
        have HB2 := Lib.hid hb
        clear hb
        go_wp2_with fail
        ((with_reducible refine (HFW.out _ HB2.out).mono ?_); rintro e w3 ⟨rfl, hb⟩)
        have HB3 := Lib.hid (HB2.out.trans (hb.mono HB2.out.size))
        clear hb
        go_wp2_with fail
        ((with_reducible refine (HRC.out _ HB3.out).mono ?_); rintro e w4 ⟨rfl, hb⟩)
        have HB4 := Lib.hid (HB3.out.trans (hb.mono HB3.out.size))
        clear hb
        go_wp2_with fail
        go_ret
        exact ⟨rfl, HB4.out⟩
      have db : decide ((ns : Int) ≤ no) = false := decide_eq_false hb
      go_enter Tryd.func6, Tryd.ntmps6
      go_wp2_with fail
      ((with_reducible refine (HSN.out _ (Below.refl _ _)).mono ?_); rintro e w2 ⟨rfl, hb⟩)
      have HB2 := Lib.hid hb
      clear hb
      go_wp2_with fail
      ((with_reducible refine (HFW.out _ HB2.out).mono ?_); rintro e w3 ⟨rfl, hb⟩)
      have HB3 := Lib.hid (HB2.out.trans (hb.mono HB2.out.size))
      clear hb
      go_wp2_with fail
      ((with_reducible refine (HRC.out _ HB3.out).mono ?_); rintro e w4 ⟨rfl, hb⟩)
      have HB4 := Lib.hid (HB3.out.trans (hb.mono HB3.out.size))
      clear hb
      have HRE := Lib.hid (show Rc.readE 0 ns no = 0 from by rw [Rc.readE, if_pos rfl, Rc.inB_in (by omega) (by omega)]; rfl)
      rw [HRE.out] at HWN
      have HOK := Lib.hid (Rc.ok_all HEC.out)
      clear ha hb
      by_cases hmm : (Rc.mm (Rc.ofs c l no)).1 ≤ (Rc.mm (Rc.ofs c l no)).2
      · have hwv := Rc.when_yes hmm
        have hbd := Rc.mm_bounds hmm
        have HAT := Lib.hid (fun (t : Int) (h0 : 0 ≤ t) (h1 : t ≤ 1048576) => Rc.allT_mm (no := no) HEC.out h0 h1)
        rw [hll] at HAT
        rw [hwv] at HWN
        generalize Rc.mm (Rc.ofs c l no) = m at HWN hmm hbd HAT
        obtain ⟨lo, hi⟩ := m
        dsimp only at HWN hmm hbd HAT
        obtain ⟨hlo, hhi⟩ := hbd
        clear hwv
        go_wp2_with fail
        ((with_reducible refine (HWN.out _ HB4.out).mono ?_); rintro e w5 ⟨rfl, hb⟩)
        have HB5 := Lib.hid (HB4.out.trans (hb.mono HB4.out.size))
        clear hb
        go_upto_region 6 with fail
        obtain ⟨W6, hW6⟩ : ∃ W6, W6 = w5.alloc (.cells #[.int .i64 lo, .int .i64 hi] 38) := ⟨_, rfl⟩
        obtain ⟨g1, hg1⟩ : ∃ g1, w5.heap.size = g1 := ⟨_, rfl⟩
        have HH6 := Lib.hid (show Has W6 g1 38 [.int .i64 lo, .int .i64 hi] from by rw [hW6, ← hg1]; exact Has.new w5 _ _)
        have HB6 := Lib.hid (show Below w.heap.size w W6 from by rw [hW6]; exact HB5.out.alloc HB5.out.size _)
        rw [← hW6, hg1]
        clear hW6 hg1
        obtain ⟨zg, m0, m1⟩ := HH6.out.r2
        have hd0 : decide (lo < 0) = false := decide_eq_false (by omega)
        have hd9 : decide (hi < lo) = false := decide_eq_false (by omega)
        have hd8 : decide (1048576 < hi) = false := decide_eq_false (by omega)
        go_upto_region 11 with fail
        obtain ⟨L, hL⟩ : ∃ L : List Int, L = [lo - 1, lo, hi, hi + 1, tm] := ⟨_, rfl⟩
        have hLl : L.length = 5 := by rw [hL]; rfl
        obtain ⟨W7, hW7⟩ : ∃ W7, W7 = W6.alloc (.cells #[.int .i64 (lo - 1), .int .i64 lo, .int .i64 hi, .int .i64 (hi + 1), .int .i64 tm] 3) := ⟨_, rfl⟩
        obtain ⟨gt, hgt⟩ : ∃ gt, W6.heap.size = gt := ⟨_, rfl⟩
        have hB7 : Below W6.heap.size W6 W7 := by rw [hW7]; exact (Below.refl _ W6).alloc (Nat.le_refl _) _
        have HT7 := Lib.hid (show Has W7 gt 3 (L.map Rc.i) from by rw [hW7, ← hgt, hL]; exact Has.new W6 _ _)
        have HR7 := Lib.hid (HH6.out.keep hB7)
        have HB7 := Lib.hid (HB6.out.trans (hB7.mono HB6.out.size))
        change Code.wp _ _ _ _ (W6.alloc (.cells #[.int .i64 (lo - 1), .int .i64 lo, .int .i64 hi, .int .i64 (hi + 1), .int .i64 tm] 3))
        rw [← hW7, hgt]
        clear hW7 hgt hB7 m0 m1 zg HH6 hL HB6 HB5 HB4
        go_loopw [87] (fun i wr => ∃ k : Nat, k ≤ 5 ∧ i = .int .i64 k ∧ Has wr gt 3 (L.map Rc.i) ∧ Has wr g1 38 [.int .i64 lo, .int .i64 hi] ∧ Below w.heap.size w wr) (fun i _ => 5 - (intOf i).toNat)
        case atStart => exact ⟨0, by omega, rfl, HT7.out, HR7.out, HB7.out⟩
        case round =>
          clear HT7 HR7 HB7
          obtain ⟨k, hk, rfl, ht, hr, hB⟩ := hrel
          have HBO := Lib.hid hB
          have HT := Lib.hid ht
          have HR := Lib.hid hr
          clear ht hr hB
          by_cases hlt : k < 5
          · obtain ⟨u, hu⟩ : ∃ u, L[k]? = some u := ⟨_, List.getElem?_eq_getElem (by omega)⟩
            have t0 : wr.cell? ⟨gt, k, none⟩ = some (Rc.i u) := by rw [HT.out.cell, List.getElem?_map, hu]; rfl
            have zt := HT.out.lt
            clear hu
            by_cases hu0 : u < 0
            · have hd1 : decide (u < 0) = true := decide_eq_true hu0
              go_wp2_with fail
              exact ⟨⟨k + 1, by omega, by go_num, HT.out, HR.out, HBO.out⟩, by simp [intOf]; omega⟩
            have hd1 : decide (u < 0) = false := decide_eq_false hu0
            by_cases hu1 : 1048576 < u
            · have hd2 : decide (1048576 < u) = true := decide_eq_true hu1
              go_wp2_with fail
              exact ⟨⟨k + 1, by omega, by go_num, HT.out, HR.out, HBO.out⟩, by simp [intOf]; omega⟩
            have hd2 : decide (1048576 < u) = false := decide_eq_false hu1
            have HALL := Lib.hid (HAT.out u (by omega) (by omega))
            have HTM := Lib.hid (show Clk.tmB u = true from (Clk.tmB_iff u).2 ⟨by omega, by omega⟩)
            go_wp2_with fail
            generalize hwa : wr = wa at HT HR HBO
            clear hwa t0 zt
            go_loopw [15, 99] (fun a i wr => ∃ j : Nat, j ≤ nl ∧ i = .int .i64 j ∧ a = .bool (Rc.allT c l no u j) ∧ Below wa.heap.size wa wr) (fun _ i _ => nl - (intOf i).toNat)
            case atStart => exact ⟨0, by omega, rfl, rfl, Below.refl _ _⟩
            case round =>
              obtain ⟨j, hj, rfl, rfl, hBj⟩ := hrel
              have HBJ := Lib.hid hBj
              have HB := Lib.hid (HBO.out.trans (hBj.mono HBO.out.size))
              clear hBj
              by_cases hjl : j < nl
              · obtain ⟨x, hx⟩ : ∃ x, l[j]? = some x := ⟨_, List.getElem?_eq_getElem (by omega)⟩
                obtain ⟨hd32, bl, ol, rfl, hbl, hrx⟩ := (HEV.out.l.keep HB.out).get j x hx
                have hbw : bl < wr.heap.size := by have := HB.out.size; omega
                have HRX := Lib.hid hrx
                have hc35 : x.cells.length = 35 := Rc.R.cells_len hd32
                have HI47 := Lib.hid (show (Tryd.prog.info? 47).map (·.size) = some x.cells.length from by rw [hc35]; exact Rc.info47)
                have HI47b := Lib.hid (show (Tryd.prog.info? 47).map (·.size) = some x.cells.toArray.size from by rw [List.size_toArray, hc35]; exact Rc.info47)
                have HZ35 := Lib.hid (show Rc.z35.toArray.size = x.cells.toArray.size from by rw [List.size_toArray, List.size_toArray, hc35]; rfl)
                have H135 := Lib.hid (show x.cells.toArray.all (·.oneCell') = true from all_oneCell_toArray x.cells_one)
                have HN1 := Lib.hid (show (wr.alloc (.cells Rc.z35.toArray 47)).heap[wr.heap.size]? = some (.cells Rc.z35.toArray 47 (0, 0)) from World.alloc_heap_new _ _)
                go_upto_region 18 with (first
                  | (with_reducible refine wpList_load_mid rfl 47 (.tmp 101) rfl bl (ol + j * 35) rfl x.cells _ HRX.out Tryd.underlying47 rfl HI47.out ?_)
                  | (refine wpList_store_row (o := ⟨none, .store 47 (.tmp 17) (.tmp 102), _, _, _, _⟩) rfl 47 (.tmp 17) (.tmp 102) rfl wr.heap.size x.cells.toArray rfl rfl 47 Rc.z35.toArray HN1.out HI47b.out HZ35.out H135.out ?_))
                obtain ⟨W2, hW2⟩ : ∃ W2, W2 = (wr.alloc (.cells Rc.z35.toArray 47)).setRow wr.heap.size x.cells.toArray := ⟨_, rfl⟩
                change Code.wp _ _ _ _ ((wr.alloc (.cells Rc.z35.toArray 47)).setRow wr.heap.size x.cells.toArray)
                obtain ⟨gx, hgx⟩ : ∃ gx, wr.heap.size = gx := ⟨_, rfl⟩
                have HX2m := Lib.hid (show Has W2 gx 47 x.cells from by rw [hW2, ← hgx]; exact setRow_heap _ wr.heap.size _ x.cells.toArray 47 (0, 0) HN1.out)
                have hB12 : Below wr.heap.size wr W2 := by rw [hW2]; exact Rc.alloc_set wr _ _ _ rfl
                have HBx := Lib.hid (HBJ.out.trans (hB12.mono HBJ.out.size))
                rw [← hW2, hgx]
                clear hW2 hB12 HRX HN1 HI47b HZ35 H135 hgx HI47
                obtain ⟨q, hqc, hx0, hx1, hok, htm⟩ := HOK.out x (List.mem_of_getElem? hx)
                obtain ⟨bc, oc, rfl, hbc, q0, q1, q2⟩ := (HEV.out.c.keep (HBO.out.trans (HBx.out.mono HBO.out.size))).get x.rf.toNat q hqc
                obtain ⟨rn, hrn⟩ : ∃ rn : Nat, x.rf.toNat = rn := ⟨_, rfl⟩
                have hrx : x.rf = (rn : Int) := by omega
                rw [hrn] at q0 q1 q2
                have x0 : W2.cell? ⟨gx, 0, none⟩ = some (Rc.i x.rf) := HX2m.out.cell 0
                have x1 : W2.cell? ⟨gx, 1, none⟩ = some (Rc.i x.no) := HX2m.out.cell 1
                have x2 : W2.cell? ⟨gx, 2, none⟩ = some (Rc.i x.st) := HX2m.out.cell 2
                rw [hrx] at x0
                have hzx : gx < W2.heap.size := HX2m.out.lt
                have hzc : bc < W2.heap.size := by have := HBx.out.size; have := HBO.out.size; omega
                have hlr : (rn : Int) < (nc : Int) := by omega
                have KP := Lib.hid (Rc.keepV hzc hzx x0 x1 x2 q0 q1 q2)
                have HRN := Lib.hid (show rn < nc by omega)
                have s2 : Below W2.heap.size W2 W2.drew := (Below.refl _ W2).drew
                have HGX := Lib.hid hx
                have HSW := Lib.hid (Rc.shw_eq (t := u) hqc)
                have HOKQ := Lib.hid (show Clk.okB q.s q.er q.d = true ∧ Clk.tmB x.st = true from ⟨hok, htm⟩)
                clear hqc hrn hrx hx0 hx1 hok htm hx hbl hbc
                cases hal : Rc.allT c l no u j with
                | false =>
                  have HA1 := Lib.hid (Rc.allT_no hal)
                  clear hal
                  refine wp_region_named (fun ops hops => ?_)
                  refine wp_region_noPanic ?_
                  refine wp_region_held_drew (S := (fun w' => w'.cell? ⟨gx, 0, none⟩ = some (Rc.i (rn : Int)) ∧ w'.cell? ⟨gx, 1, none⟩ = some (Rc.i x.no) ∧ w'.cell? ⟨gx, 2, none⟩ = some (Rc.i x.st) ∧ w'.rangeAt bc (oc + rn * 3) [Rc.i q.s, Rc.i q.er, Rc.i q.d] ∧ Below W2.heap.size W2 w')) (by kernel_rfl) (KP.out _ s2) (fun hHeld => ?_)
                  rw [show ops.size = 19 from by rw [hops]; rfl]
                  change wpAnyH _ _ _ _ _ _ _ _ W2.drew
                  have HNS : Region.noSelect ops = true := by rw [hops]; kernel_rfl
                  obtain ⟨o0, h0, d0, p0, g0⟩ := op_at5 hops 0 rfl (d := some 103) (p := .move (.tmp 15)) (g := none) rfl rfl rfl
                  obtain ⟨o1, h1, d1, p1, g1⟩ := op_at5 hops 1 rfl (d := some 104) (p := .move (.tmp 103)) (g := none) rfl rfl rfl
                  obtain ⟨o2, h2, d2, p2, g2⟩ := op_at5 hops 2 rfl (d := some 105) (p := .fieldAddr 47 (.tmp 17) 1) (g := some (1, true)) rfl rfl rfl
                  obtain ⟨o3, h3, d3, p3, g3⟩ := op_at5 hops 3 rfl (d := some 106) (p := .load 3 (.tmp 105)) (g := some (1, true)) rfl rfl rfl
                  obtain ⟨o4, h4, d4, p4, g4⟩ := op_at5 hops 4 rfl (d := some 107) (p := .move (.tmp 3)) (g := some (1, true)) rfl rfl rfl
                  obtain ⟨o5, h5, d5, p5, g5⟩ := op_at5 hops 5 rfl (d := some 108) (p := .binOp .neq 3 (.tmp 106) (.tmp 107) 3) (g := some (1, true)) rfl rfl rfl
                  obtain ⟨o6, h6, d6, p6, g6⟩ := op_at5 hops 6 rfl (d := some 109) (p := .move (.tmp 108)) (g := some (1, true)) rfl rfl rfl
                  obtain ⟨o7, h7, d7, p7, g7⟩ := op_at5 hops 7 rfl (d := some 110) (p := .move (.tmp 0)) (g := some (6, false)) rfl rfl rfl
                  obtain ⟨o8, h8, d8, p8, g8⟩ := op_at5 hops 8 rfl (d := some 111) (p := .fieldAddr 47 (.tmp 17) 0) (g := some (6, false)) rfl rfl rfl
                  obtain ⟨o9, h9, d9, p9, g9⟩ := op_at5 hops 9 rfl (d := some 112) (p := .load 3 (.tmp 111)) (g := some (6, false)) rfl rfl rfl
                  obtain ⟨o10, h10, d10, p10, g10⟩ := op_at5 hops 10 rfl (d := some 113) (p := .indexAddr 22 (.tmp 110) (.tmp 112)) (g := some (6, false)) rfl rfl rfl
                  obtain ⟨o11, h11, d11, p11, g11⟩ := op_at5 hops 11 rfl (d := some 114) (p := .load 51 (.tmp 113)) (g := some (6, false)) rfl rfl rfl
                  obtain ⟨o12, h12, d12, p12, g12⟩ := op_at5 hops 12 rfl (d := some 115) (p := .move (.tmp 14)) (g := some (6, false)) rfl rfl rfl
                  obtain ⟨o13, h13, d13, p13, g13⟩ := op_at5 hops 13 rfl (d := some 116) (p := .fieldAddr 47 (.tmp 17) 2) (g := some (6, false)) rfl rfl rfl
                  obtain ⟨o14, h14, d14, p14, g14⟩ := op_at5 hops 14 rfl (d := some 117) (p := .load 3 (.tmp 116)) (g := some (6, false)) rfl rfl rfl
                  obtain ⟨o15, h15, d15, p15, g15⟩ := op_at5 hops 15 rfl (d := some 118) (p := .call { callee := .value (.func 22), args := #[(.tmp 114), (.tmp 115), (.tmp 117)], argTypes := #[51, 3, 3] }) (g := some (6, false)) rfl rfl rfl
                  obtain ⟨o16, h16, d16, p16, g16⟩ := op_at5 hops 16 rfl (d := some 119) (p := .pick (.tmp 109) (.const (.bool true)) (.tmp 118)) (g := some (1, true)) rfl rfl rfl
                  obtain ⟨o17, h17, d17, p17, g17⟩ := op_at5 hops 17 rfl (d := some 120) (p := .pick (.tmp 104) (.tmp 119) (.const (.bool false))) (g := none) rfl rfl rfl
                  obtain ⟨o18, h18, d18, p18, g18⟩ := op_at5 hops 18 rfl (d := some 15) (p := .assign (.tmp 120)) (g := none) rfl rfl rfl
                  refine wpAnyH_take (i := 0) (v := .bool false) h0 HNS (by rw [hops]; kernel_rfl) (by rw [hops]; kernel_rfl) (fun _ _ _ h => h) (Or.inl ⟨(wanted_none g0), fun w' _ => by unfold execOp; rw [p0]; first | rfl | kernel_rfl⟩) hHeld ?_
                  rw [d0]
                  simp only [Act.put, List.setIfInBounds_toArray, List.set_cons_zero, List.set_cons_succ]
                  refine wpAnyH_take (i := 1) (v := .bool false) h1 HNS (by rw [hops]; kernel_rfl) (by rw [hops]; kernel_rfl) (fun _ _ _ h => h) (Or.inl ⟨(wanted_none g1), fun w' _ => by unfold execOp; rw [p1]; first | rfl | kernel_rfl⟩) hHeld ?_
                  rw [d1]
                  simp only [Act.put, List.setIfInBounds_toArray, List.set_cons_zero, List.set_cons_succ]
                  refine wpAnyH_take (i := 2) (v := undef) h2 HNS (by rw [hops]; kernel_rfl) (by rw [hops]; kernel_rfl) (fun _ _ _ h => h) (Or.inr ⟨(unwanted_some g2 h1 d1 (by rfl)), rfl⟩) hHeld ?_
                  rw [d2]
                  simp only [Act.put, List.setIfInBounds_toArray, List.set_cons_zero, List.set_cons_succ]
                  refine wpAnyH_take (i := 3) (v := undef) h3 HNS (by rw [hops]; kernel_rfl) (by rw [hops]; kernel_rfl) (fun _ _ _ h => h) (Or.inr ⟨(unwanted_some g3 h1 d1 (by rfl)), rfl⟩) hHeld ?_
                  rw [d3]
                  simp only [Act.put, List.setIfInBounds_toArray, List.set_cons_zero, List.set_cons_succ]
                  refine wpAnyH_take (i := 4) (v := undef) h4 HNS (by rw [hops]; kernel_rfl) (by rw [hops]; kernel_rfl) (fun _ _ _ h => h) (Or.inr ⟨(unwanted_some g4 h1 d1 (by rfl)), rfl⟩) hHeld ?_
                  rw [d4]
                  simp only [Act.put, List.setIfInBounds_toArray, List.set_cons_zero, List.set_cons_succ]
                  refine wpAnyH_take (i := 5) (v := undef) h5 HNS (by rw [hops]; kernel_rfl) (by rw [hops]; kernel_rfl) (fun _ _ _ h => h) (Or.inr ⟨(unwanted_some g5 h1 d1 (by rfl)), rfl⟩) hHeld ?_
                  rw [d5]
                  simp only [Act.put, List.setIfInBounds_toArray, List.set_cons_zero, List.set_cons_succ]
                  refine wpAnyH_take (i := 6) (v := undef) h6 HNS (by rw [hops]; kernel_rfl) (by rw [hops]; kernel_rfl) (fun _ _ _ h => h) (Or.inr ⟨(unwanted_some g6 h1 d1 (by rfl)), rfl⟩) hHeld ?_
                  rw [d6]
                  simp only [Act.put, List.setIfInBounds_toArray, List.set_cons_zero, List.set_cons_succ]
                  refine wpAnyH_take (i := 7) (v := undef) h7 HNS (by rw [hops]; kernel_rfl) (by rw [hops]; kernel_rfl) (fun _ _ _ h => h) (Or.inr ⟨(unwanted_undef g7 h6 d6 (by rfl)), rfl⟩) hHeld ?_
                  rw [d7]
                  simp only [Act.put, List.setIfInBounds_toArray, List.set_cons_zero, List.set_cons_succ]
                  refine wpAnyH_take (i := 8) (v := undef) h8 HNS (by rw [hops]; kernel_rfl) (by rw [hops]; kernel_rfl) (fun _ _ _ h => h) (Or.inr ⟨(unwanted_undef g8 h6 d6 (by rfl)), rfl⟩) hHeld ?_
                  rw [d8]
                  simp only [Act.put, List.setIfInBounds_toArray, List.set_cons_zero, List.set_cons_succ]
                  refine wpAnyH_take (i := 9) (v := undef) h9 HNS (by rw [hops]; kernel_rfl) (by rw [hops]; kernel_rfl) (fun _ _ _ h => h) (Or.inr ⟨(unwanted_undef g9 h6 d6 (by rfl)), rfl⟩) hHeld ?_
                  rw [d9]
                  simp only [Act.put, List.setIfInBounds_toArray, List.set_cons_zero, List.set_cons_succ]
                  refine wpAnyH_take (i := 10) (v := undef) h10 HNS (by rw [hops]; kernel_rfl) (by rw [hops]; kernel_rfl) (fun _ _ _ h => h) (Or.inr ⟨(unwanted_undef g10 h6 d6 (by rfl)), rfl⟩) hHeld ?_
                  rw [d10]
                  simp only [Act.put, List.setIfInBounds_toArray, List.set_cons_zero, List.set_cons_succ]
                  refine wpAnyH_take (i := 11) (v := undef) h11 HNS (by rw [hops]; kernel_rfl) (by rw [hops]; kernel_rfl) (fun _ _ _ h => h) (Or.inr ⟨(unwanted_undef g11 h6 d6 (by rfl)), rfl⟩) hHeld ?_
                  rw [d11]
                  simp only [Act.put, List.setIfInBounds_toArray, List.set_cons_zero, List.set_cons_succ]
                  refine wpAnyH_take (i := 12) (v := undef) h12 HNS (by rw [hops]; kernel_rfl) (by rw [hops]; kernel_rfl) (fun _ _ _ h => h) (Or.inr ⟨(unwanted_undef g12 h6 d6 (by rfl)), rfl⟩) hHeld ?_
                  rw [d12]
                  simp only [Act.put, List.setIfInBounds_toArray, List.set_cons_zero, List.set_cons_succ]
                  refine wpAnyH_take (i := 13) (v := undef) h13 HNS (by rw [hops]; kernel_rfl) (by rw [hops]; kernel_rfl) (fun _ _ _ h => h) (Or.inr ⟨(unwanted_undef g13 h6 d6 (by rfl)), rfl⟩) hHeld ?_
                  rw [d13]
                  simp only [Act.put, List.setIfInBounds_toArray, List.set_cons_zero, List.set_cons_succ]
                  refine wpAnyH_take (i := 14) (v := undef) h14 HNS (by rw [hops]; kernel_rfl) (by rw [hops]; kernel_rfl) (fun _ _ _ h => h) (Or.inr ⟨(unwanted_undef g14 h6 d6 (by rfl)), rfl⟩) hHeld ?_
                  rw [d14]
                  simp only [Act.put, List.setIfInBounds_toArray, List.set_cons_zero, List.set_cons_succ]
                  refine wpAnyH_take (i := 15) (v := undef) h15 HNS (by rw [hops]; kernel_rfl) (by rw [hops]; kernel_rfl) (fun _ _ _ h => h) (Or.inr ⟨(unwanted_undef g15 h6 d6 (by rfl)), rfl⟩) hHeld ?_
                  rw [d15]
                  simp only [Act.put, List.setIfInBounds_toArray, List.set_cons_zero, List.set_cons_succ]
                  refine wpAnyH_take (i := 16) (v := undef) h16 HNS (by rw [hops]; kernel_rfl) (by rw [hops]; kernel_rfl) (fun _ _ _ h => h) (Or.inr ⟨(unwanted_some g16 h1 d1 (by rfl)), rfl⟩) hHeld ?_
                  rw [d16]
                  simp only [Act.put, List.setIfInBounds_toArray, List.set_cons_zero, List.set_cons_succ]
                  refine wpAnyH_take (i := 17) (v := .bool false) h17 HNS (by rw [hops]; kernel_rfl) (by rw [hops]; kernel_rfl) (fun _ _ _ h => h) (Or.inl ⟨(wanted_none g17), fun w' _ => by unfold execOp; rw [p17]; first | rfl | kernel_rfl⟩) hHeld ?_
                  rw [d17]
                  simp only [Act.put, List.setIfInBounds_toArray, List.set_cons_zero, List.set_cons_succ]
                  refine wpAnyH_take (i := 18) (v := .bool false) h18 HNS (by rw [hops]; kernel_rfl) (by rw [hops]; kernel_rfl) (fun _ _ _ h => h) (Or.inl ⟨(wanted_none g18), fun w' _ => by unfold execOp; rw [p18]; first | rfl | kernel_rfl⟩) hHeld ?_
                  rw [d18]
                  simp only [Act.put, List.setIfInBounds_toArray, List.set_cons_zero, List.set_cons_succ]
                  refine wpAnyH_done (by rw [hops]; kernel_rfl) (NoPanic.normal ?_) _
                  have HBy := Lib.hid (HBx.out.trans (s2.mono HBx.out.size))
                  clear HNS KP s2 hHeld hops x0 x1 x2 q0 q1 q2 h0 d0 p0 g0 h1 d1 p1 g1 h2 d2 p2 g2 h3 d3 p3 g3 h4 d4 p4 g4 h5 d5 p5 g5 h6 d6 p6 g6 h7 d7 p7 g7 h8 d8 p8 g8 h9 d9 p9 g9 h10 d10 p10 g10 h11 d11 p11 g11 h12 d12 p12 g12 h13 d13 p13 g13 h14 d14 p14 g14 h15 d15 p15 g15 h16 d16 p16 g16 h17 d17 p17 g17 h18 d18 p18 g18
                  go_wp2_with fail
                  exact ⟨⟨j + 1, by omega, by go_num, by rw [HA1.out], HBy.out⟩, by simp [intOf]; omega⟩
                | true =>
                  by_cases hxn : x.no = no
                  · have hq : (x.no != no) = false := by simp [hxn]
                    have HA1 := Lib.hid ((Rc.allT_own hal HGX.out hxn).trans HSW.out)
                    have HSH := Lib.hid (fun W => Clk.rshows_any q.s q.er q.d u x.st W HOKQ.out.1 HTM.out HOKQ.out.2)
                    generalize Clk.shB q.s q.er q.d u x.st = sh at HSH HA1
                    clear hal hxn
                    refine wp_region_named (fun ops hops => ?_)
                    refine wp_region_noPanic ?_
                    refine wp_region_held_drew (S := (fun w' => w'.cell? ⟨gx, 0, none⟩ = some (Rc.i (rn : Int)) ∧ w'.cell? ⟨gx, 1, none⟩ = some (Rc.i x.no) ∧ w'.cell? ⟨gx, 2, none⟩ = some (Rc.i x.st) ∧ w'.rangeAt bc (oc + rn * 3) [Rc.i q.s, Rc.i q.er, Rc.i q.d] ∧ Below W2.heap.size W2 w')) (by kernel_rfl) (KP.out _ s2) (fun hHeld => ?_)
                    rw [show ops.size = 19 from by rw [hops]; rfl]
                    change wpAnyH _ _ _ _ _ _ _ _ W2.drew
                    have HNS : Region.noSelect ops = true := by rw [hops]; kernel_rfl
                    have HESH := Lib.hid (enters_of Tryd.func22 (by kernel_rfl) rfl)
                    obtain ⟨o0, h0, d0, p0, g0⟩ := op_at5 hops 0 rfl (d := some 103) (p := .move (.tmp 15)) (g := none) rfl rfl rfl
                    obtain ⟨o1, h1, d1, p1, g1⟩ := op_at5 hops 1 rfl (d := some 104) (p := .move (.tmp 103)) (g := none) rfl rfl rfl
                    obtain ⟨o2, h2, d2, p2, g2⟩ := op_at5 hops 2 rfl (d := some 105) (p := .fieldAddr 47 (.tmp 17) 1) (g := some (1, true)) rfl rfl rfl
                    obtain ⟨o3, h3, d3, p3, g3⟩ := op_at5 hops 3 rfl (d := some 106) (p := .load 3 (.tmp 105)) (g := some (1, true)) rfl rfl rfl
                    obtain ⟨o4, h4, d4, p4, g4⟩ := op_at5 hops 4 rfl (d := some 107) (p := .move (.tmp 3)) (g := some (1, true)) rfl rfl rfl
                    obtain ⟨o5, h5, d5, p5, g5⟩ := op_at5 hops 5 rfl (d := some 108) (p := .binOp .neq 3 (.tmp 106) (.tmp 107) 3) (g := some (1, true)) rfl rfl rfl
                    obtain ⟨o6, h6, d6, p6, g6⟩ := op_at5 hops 6 rfl (d := some 109) (p := .move (.tmp 108)) (g := some (1, true)) rfl rfl rfl
                    obtain ⟨o7, h7, d7, p7, g7⟩ := op_at5 hops 7 rfl (d := some 110) (p := .move (.tmp 0)) (g := some (6, false)) rfl rfl rfl
                    obtain ⟨o8, h8, d8, p8, g8⟩ := op_at5 hops 8 rfl (d := some 111) (p := .fieldAddr 47 (.tmp 17) 0) (g := some (6, false)) rfl rfl rfl
                    obtain ⟨o9, h9, d9, p9, g9⟩ := op_at5 hops 9 rfl (d := some 112) (p := .load 3 (.tmp 111)) (g := some (6, false)) rfl rfl rfl
                    obtain ⟨o10, h10, d10, p10, g10⟩ := op_at5 hops 10 rfl (d := some 113) (p := .indexAddr 22 (.tmp 110) (.tmp 112)) (g := some (6, false)) rfl rfl rfl
                    obtain ⟨o11, h11, d11, p11, g11⟩ := op_at5 hops 11 rfl (d := some 114) (p := .load 51 (.tmp 113)) (g := some (6, false)) rfl rfl rfl
                    obtain ⟨o12, h12, d12, p12, g12⟩ := op_at5 hops 12 rfl (d := some 115) (p := .move (.tmp 14)) (g := some (6, false)) rfl rfl rfl
                    obtain ⟨o13, h13, d13, p13, g13⟩ := op_at5 hops 13 rfl (d := some 116) (p := .fieldAddr 47 (.tmp 17) 2) (g := some (6, false)) rfl rfl rfl
                    obtain ⟨o14, h14, d14, p14, g14⟩ := op_at5 hops 14 rfl (d := some 117) (p := .load 3 (.tmp 116)) (g := some (6, false)) rfl rfl rfl
                    obtain ⟨o15, h15, d15, p15, g15⟩ := op_at5 hops 15 rfl (d := some 118) (p := .call { callee := .value (.func 22), args := #[(.tmp 114), (.tmp 115), (.tmp 117)], argTypes := #[51, 3, 3] }) (g := some (6, false)) rfl rfl rfl
                    obtain ⟨o16, h16, d16, p16, g16⟩ := op_at5 hops 16 rfl (d := some 119) (p := .pick (.tmp 109) (.const (.bool true)) (.tmp 118)) (g := some (1, true)) rfl rfl rfl
                    obtain ⟨o17, h17, d17, p17, g17⟩ := op_at5 hops 17 rfl (d := some 120) (p := .pick (.tmp 104) (.tmp 119) (.const (.bool false))) (g := none) rfl rfl rfl
                    obtain ⟨o18, h18, d18, p18, g18⟩ := op_at5 hops 18 rfl (d := some 15) (p := .assign (.tmp 120)) (g := none) rfl rfl rfl
                    refine wpAnyH_take (i := 0) (v := .bool true) h0 HNS (by rw [hops]; kernel_rfl) (by rw [hops]; kernel_rfl) (fun _ _ _ h => h) (Or.inl ⟨(wanted_none g0), fun w' _ => by unfold execOp; rw [p0]; first | rfl | kernel_rfl⟩) hHeld ?_
                    rw [d0]
                    simp only [Act.put, List.setIfInBounds_toArray, List.set_cons_zero, List.set_cons_succ]
                    refine wpAnyH_take (i := 1) (v := .bool true) h1 HNS (by rw [hops]; kernel_rfl) (by rw [hops]; kernel_rfl) (fun _ _ _ h => h) (Or.inl ⟨(wanted_none g1), fun w' _ => by unfold execOp; rw [p1]; first | rfl | kernel_rfl⟩) hHeld ?_
                    rw [d1]
                    simp only [Act.put, List.setIfInBounds_toArray, List.set_cons_zero, List.set_cons_succ]
                    refine wpAnyH_take (i := 2) (v := .pointer (some ⟨gx, 1, none⟩)) h2 HNS (by rw [hops]; kernel_rfl) (by rw [hops]; kernel_rfl) (fun _ _ _ h => h) (Or.inl ⟨(wanted_some g2 h1 d1 (by rfl)), fun w' _ => by unfold execOp; rw [p2]; first | rfl | kernel_rfl⟩) hHeld ?_
                    rw [d2]
                    simp only [Act.put, List.setIfInBounds_toArray, List.set_cons_zero, List.set_cons_succ]
                    refine wpAnyH_take (i := 3) (v := Rc.i x.no) h3 HNS (by rw [hops]; kernel_rfl) (by rw [hops]; kernel_rfl) (fun _ _ _ h => h) (Or.inl ⟨(wanted_some g3 h1 d1 (by rfl)), fun w' h => run_op_load_cell 3 _ p3 gx 1 (by rfl) _ h.2.1 _ Tryd.underlying3 rfl⟩) hHeld ?_
                    rw [d3]
                    simp only [Act.put, List.setIfInBounds_toArray, List.set_cons_zero, List.set_cons_succ]
                    refine wpAnyH_take (i := 4) (v := Rc.i no) h4 HNS (by rw [hops]; kernel_rfl) (by rw [hops]; kernel_rfl) (fun _ _ _ h => h) (Or.inl ⟨(wanted_some g4 h1 d1 (by rfl)), fun w' _ => by unfold execOp; rw [p4]; first | rfl | kernel_rfl⟩) hHeld ?_
                    rw [d4]
                    simp only [Act.put, List.setIfInBounds_toArray, List.set_cons_zero, List.set_cons_succ]
                    refine wpAnyH_take (i := 5) (v := .bool false) h5 HNS (by rw [hops]; kernel_rfl) (by rw [hops]; kernel_rfl) (fun _ _ _ h => h) (Or.inl ⟨(wanted_some g5 h1 d1 (by rfl)), fun w' _ => (show _ = Result.ok (.value (.bool (x.no != no))) w' from by unfold execOp; rw [p5]; first | rfl | kernel_rfl).trans (by rw [hq])⟩) hHeld ?_
                    rw [d5]
                    simp only [Act.put, List.setIfInBounds_toArray, List.set_cons_zero, List.set_cons_succ]
                    refine wpAnyH_take (i := 6) (v := .bool false) h6 HNS (by rw [hops]; kernel_rfl) (by rw [hops]; kernel_rfl) (fun _ _ _ h => h) (Or.inl ⟨(wanted_some g6 h1 d1 (by rfl)), fun w' _ => by unfold execOp; rw [p6]; first | rfl | kernel_rfl⟩) hHeld ?_
                    rw [d6]
                    simp only [Act.put, List.setIfInBounds_toArray, List.set_cons_zero, List.set_cons_succ]
                    refine wpAnyH_take (i := 7) (v := .slice (some ⟨bc, oc, none⟩) nc cc) h7 HNS (by rw [hops]; kernel_rfl) (by rw [hops]; kernel_rfl) (fun _ _ _ h => h) (Or.inl ⟨(wanted_some g7 h6 d6 (by rfl)), fun w' _ => by unfold execOp; rw [p7]; first | rfl | kernel_rfl⟩) hHeld ?_
                    rw [d7]
                    simp only [Act.put, List.setIfInBounds_toArray, List.set_cons_zero, List.set_cons_succ]
                    refine wpAnyH_take (i := 8) (v := .pointer (some ⟨gx, 0, none⟩)) h8 HNS (by rw [hops]; kernel_rfl) (by rw [hops]; kernel_rfl) (fun _ _ _ h => h) (Or.inl ⟨(wanted_some g8 h6 d6 (by rfl)), fun w' _ => by unfold execOp; rw [p8]; first | rfl | kernel_rfl⟩) hHeld ?_
                    rw [d8]
                    simp only [Act.put, List.setIfInBounds_toArray, List.set_cons_zero, List.set_cons_succ]
                    refine wpAnyH_take (i := 9) (v := Rc.i (rn : Int)) h9 HNS (by rw [hops]; kernel_rfl) (by rw [hops]; kernel_rfl) (fun _ _ _ h => h) (Or.inl ⟨(wanted_some g9 h6 d6 (by rfl)), fun w' h => run_op_load_cell 3 _ p9 gx 0 (by rfl) _ h.1 _ Tryd.underlying3 rfl⟩) hHeld ?_
                    rw [d9]
                    simp only [Act.put, List.setIfInBounds_toArray, List.set_cons_zero, List.set_cons_succ]
                    refine wpAnyH_take (i := 10) (v := .pointer (some ⟨bc, oc + rn * 3, none⟩)) h10 HNS (by rw [hops]; kernel_rfl) (by rw [hops]; kernel_rfl) (fun _ _ _ h => h) (Or.inl ⟨(wanted_some g10 h6 d6 (by rfl)), fun w' _ => run_op_index_mid 22 _ _ p10 bc oc nc cc rn (by rfl) (by rfl) HRN.out 51 3 Tryd.underlying22 Rc.info51⟩) hHeld ?_
                    rw [d10]
                    simp only [Act.put, List.setIfInBounds_toArray, List.set_cons_zero, List.set_cons_succ]
                    refine wpAnyH_take (i := 11) (v := .agg [Rc.i q.s, Rc.i q.er, Rc.i q.d].toArray) h11 HNS (by rw [hops]; kernel_rfl) (by rw [hops]; kernel_rfl) (fun _ _ _ h => h) (Or.inl ⟨(wanted_some g11 h6 d6 (by rfl)), fun w' h => run_op_load_mid 51 _ p11 bc (oc + rn * 3) (by rfl) [Rc.i q.s, Rc.i q.er, Rc.i q.d] _ h.2.2.2.1 Tryd.underlying51 rfl Rc.info51⟩) hHeld ?_
                    rw [d11]
                    simp only [Act.put, List.setIfInBounds_toArray, List.set_cons_zero, List.set_cons_succ]
                    refine wpAnyH_take (i := 12) (v := Rc.i u) h12 HNS (by rw [hops]; kernel_rfl) (by rw [hops]; kernel_rfl) (fun _ _ _ h => h) (Or.inl ⟨(wanted_some g12 h6 d6 (by rfl)), fun w' _ => by unfold execOp; rw [p12]; first | rfl | kernel_rfl⟩) hHeld ?_
                    rw [d12]
                    simp only [Act.put, List.setIfInBounds_toArray, List.set_cons_zero, List.set_cons_succ]
                    refine wpAnyH_take (i := 13) (v := .pointer (some ⟨gx, 2, none⟩)) h13 HNS (by rw [hops]; kernel_rfl) (by rw [hops]; kernel_rfl) (fun _ _ _ h => h) (Or.inl ⟨(wanted_some g13 h6 d6 (by rfl)), fun w' _ => by unfold execOp; rw [p13]; first | rfl | kernel_rfl⟩) hHeld ?_
                    rw [d13]
                    simp only [Act.put, List.setIfInBounds_toArray, List.set_cons_zero, List.set_cons_succ]
                    refine wpAnyH_take (i := 14) (v := Rc.i x.st) h14 HNS (by rw [hops]; kernel_rfl) (by rw [hops]; kernel_rfl) (fun _ _ _ h => h) (Or.inl ⟨(wanted_some g14 h6 d6 (by rfl)), fun w' h => run_op_load_cell 3 _ p14 gx 2 (by rfl) _ h.2.2.1 _ Tryd.underlying3 rfl⟩) hHeld ?_
                    rw [d14]
                    simp only [Act.put, List.setIfInBounds_toArray, List.set_cons_zero, List.set_cons_succ]
                    refine wpAnyH_ready (rs := [15]) (by rw [hops]; kernel_rfl) (by simp) ?_
                    refine AllReadyH.cons h15 (fun K hK => ?_) AllReadyH.nil
                    rw [if_pos (wanted_some g15 h6 d6 (by rfl))]
                    refine wp_call3 22 _ _ _ _ (.agg [Rc.i q.s, Rc.i q.er, Rc.i q.d].toArray) (Rc.i u) (Rc.i x.st) p15 HESH.out (by rfl) (by rfl) (by rfl) ?_
                    ((refine (HSH.out _).mono ?_); rintro e w9 ⟨rfl, hb⟩)
                    refine ⟨_, rfl, ?_⟩
                    have sB : Below W2.heap.size W2 w9 := s2.trans (hb.mono s2.size)
                    clear hb
                    rw [d15]
                    simp only [Act.put, List.setIfInBounds_toArray, List.set_cons_zero, List.set_cons_succ]
                    refine hK.out _ _ (KP.out _ sB) (fun hHeld => ?_)
                    clear hK K
                    refine wpAnyH_take (i := 16) (v := .bool sh) h16 HNS (by rw [hops]; kernel_rfl) (by rw [hops]; kernel_rfl) (fun _ _ _ h => h) (Or.inl ⟨(wanted_some g16 h1 d1 (by rfl)), fun w' _ => by unfold execOp; rw [p16]; first | rfl | kernel_rfl⟩) hHeld ?_
                    rw [d16]
                    simp only [Act.put, List.setIfInBounds_toArray, List.set_cons_zero, List.set_cons_succ]
                    refine wpAnyH_take (i := 17) (v := .bool sh) h17 HNS (by rw [hops]; kernel_rfl) (by rw [hops]; kernel_rfl) (fun _ _ _ h => h) (Or.inl ⟨(wanted_none g17), fun w' _ => by unfold execOp; rw [p17]; first | rfl | kernel_rfl⟩) hHeld ?_
                    rw [d17]
                    simp only [Act.put, List.setIfInBounds_toArray, List.set_cons_zero, List.set_cons_succ]
                    refine wpAnyH_take (i := 18) (v := .bool sh) h18 HNS (by rw [hops]; kernel_rfl) (by rw [hops]; kernel_rfl) (fun _ _ _ h => h) (Or.inl ⟨(wanted_none g18), fun w' _ => by unfold execOp; rw [p18]; first | rfl | kernel_rfl⟩) hHeld ?_
                    rw [d18]
                    simp only [Act.put, List.setIfInBounds_toArray, List.set_cons_zero, List.set_cons_succ]
                    refine wpAnyH_done (by rw [hops]; kernel_rfl) (NoPanic.normal ?_) _
                    have HBy := Lib.hid (HBx.out.trans (sB.mono HBx.out.size))
                    clear HNS KP s2 sB HESH hHeld hops x0 x1 x2 q0 q1 q2 h0 d0 p0 g0 h1 d1 p1 g1 h2 d2 p2 g2 h3 d3 p3 g3 h4 d4 p4 g4 h5 d5 p5 g5 h6 d6 p6 g6 h7 d7 p7 g7 h8 d8 p8 g8 h9 d9 p9 g9 h10 d10 p10 g10 h11 d11 p11 g11 h12 d12 p12 g12 h13 d13 p13 g13 h14 d14 p14 g14 h15 d15 p15 g15 h16 d16 p16 g16 h17 d17 p17 g17 h18 d18 p18 g18
                    go_wp2_with fail
                    exact ⟨⟨j + 1, by omega, by go_num, by rw [HA1.out], HBy.out⟩, by simp [intOf]; omega⟩
                  · have hq : (x.no != no) = true := by simpa using hxn
                    have HA1 := Lib.hid (Rc.allT_other hal HGX.out hxn)
                    clear hal hxn
                    refine wp_region_named (fun ops hops => ?_)
                    refine wp_region_noPanic ?_
                    refine wp_region_held_drew (S := (fun w' => w'.cell? ⟨gx, 0, none⟩ = some (Rc.i (rn : Int)) ∧ w'.cell? ⟨gx, 1, none⟩ = some (Rc.i x.no) ∧ w'.cell? ⟨gx, 2, none⟩ = some (Rc.i x.st) ∧ w'.rangeAt bc (oc + rn * 3) [Rc.i q.s, Rc.i q.er, Rc.i q.d] ∧ Below W2.heap.size W2 w')) (by kernel_rfl) (KP.out _ s2) (fun hHeld => ?_)
                    rw [show ops.size = 19 from by rw [hops]; rfl]
                    change wpAnyH _ _ _ _ _ _ _ _ W2.drew
                    have HNS : Region.noSelect ops = true := by rw [hops]; kernel_rfl
                    obtain ⟨o0, h0, d0, p0, g0⟩ := op_at5 hops 0 rfl (d := some 103) (p := .move (.tmp 15)) (g := none) rfl rfl rfl
                    obtain ⟨o1, h1, d1, p1, g1⟩ := op_at5 hops 1 rfl (d := some 104) (p := .move (.tmp 103)) (g := none) rfl rfl rfl
                    obtain ⟨o2, h2, d2, p2, g2⟩ := op_at5 hops 2 rfl (d := some 105) (p := .fieldAddr 47 (.tmp 17) 1) (g := some (1, true)) rfl rfl rfl
                    obtain ⟨o3, h3, d3, p3, g3⟩ := op_at5 hops 3 rfl (d := some 106) (p := .load 3 (.tmp 105)) (g := some (1, true)) rfl rfl rfl
                    obtain ⟨o4, h4, d4, p4, g4⟩ := op_at5 hops 4 rfl (d := some 107) (p := .move (.tmp 3)) (g := some (1, true)) rfl rfl rfl
                    obtain ⟨o5, h5, d5, p5, g5⟩ := op_at5 hops 5 rfl (d := some 108) (p := .binOp .neq 3 (.tmp 106) (.tmp 107) 3) (g := some (1, true)) rfl rfl rfl
                    obtain ⟨o6, h6, d6, p6, g6⟩ := op_at5 hops 6 rfl (d := some 109) (p := .move (.tmp 108)) (g := some (1, true)) rfl rfl rfl
                    obtain ⟨o7, h7, d7, p7, g7⟩ := op_at5 hops 7 rfl (d := some 110) (p := .move (.tmp 0)) (g := some (6, false)) rfl rfl rfl
                    obtain ⟨o8, h8, d8, p8, g8⟩ := op_at5 hops 8 rfl (d := some 111) (p := .fieldAddr 47 (.tmp 17) 0) (g := some (6, false)) rfl rfl rfl
                    obtain ⟨o9, h9, d9, p9, g9⟩ := op_at5 hops 9 rfl (d := some 112) (p := .load 3 (.tmp 111)) (g := some (6, false)) rfl rfl rfl
                    obtain ⟨o10, h10, d10, p10, g10⟩ := op_at5 hops 10 rfl (d := some 113) (p := .indexAddr 22 (.tmp 110) (.tmp 112)) (g := some (6, false)) rfl rfl rfl
                    obtain ⟨o11, h11, d11, p11, g11⟩ := op_at5 hops 11 rfl (d := some 114) (p := .load 51 (.tmp 113)) (g := some (6, false)) rfl rfl rfl
                    obtain ⟨o12, h12, d12, p12, g12⟩ := op_at5 hops 12 rfl (d := some 115) (p := .move (.tmp 14)) (g := some (6, false)) rfl rfl rfl
                    obtain ⟨o13, h13, d13, p13, g13⟩ := op_at5 hops 13 rfl (d := some 116) (p := .fieldAddr 47 (.tmp 17) 2) (g := some (6, false)) rfl rfl rfl
                    obtain ⟨o14, h14, d14, p14, g14⟩ := op_at5 hops 14 rfl (d := some 117) (p := .load 3 (.tmp 116)) (g := some (6, false)) rfl rfl rfl
                    obtain ⟨o15, h15, d15, p15, g15⟩ := op_at5 hops 15 rfl (d := some 118) (p := .call { callee := .value (.func 22), args := #[(.tmp 114), (.tmp 115), (.tmp 117)], argTypes := #[51, 3, 3] }) (g := some (6, false)) rfl rfl rfl
                    obtain ⟨o16, h16, d16, p16, g16⟩ := op_at5 hops 16 rfl (d := some 119) (p := .pick (.tmp 109) (.const (.bool true)) (.tmp 118)) (g := some (1, true)) rfl rfl rfl
                    obtain ⟨o17, h17, d17, p17, g17⟩ := op_at5 hops 17 rfl (d := some 120) (p := .pick (.tmp 104) (.tmp 119) (.const (.bool false))) (g := none) rfl rfl rfl
                    obtain ⟨o18, h18, d18, p18, g18⟩ := op_at5 hops 18 rfl (d := some 15) (p := .assign (.tmp 120)) (g := none) rfl rfl rfl
                    refine wpAnyH_take (i := 0) (v := .bool true) h0 HNS (by rw [hops]; kernel_rfl) (by rw [hops]; kernel_rfl) (fun _ _ _ h => h) (Or.inl ⟨(wanted_none g0), fun w' _ => by unfold execOp; rw [p0]; first | rfl | kernel_rfl⟩) hHeld ?_
                    rw [d0]
                    simp only [Act.put, List.setIfInBounds_toArray, List.set_cons_zero, List.set_cons_succ]
                    refine wpAnyH_take (i := 1) (v := .bool true) h1 HNS (by rw [hops]; kernel_rfl) (by rw [hops]; kernel_rfl) (fun _ _ _ h => h) (Or.inl ⟨(wanted_none g1), fun w' _ => by unfold execOp; rw [p1]; first | rfl | kernel_rfl⟩) hHeld ?_
                    rw [d1]
                    simp only [Act.put, List.setIfInBounds_toArray, List.set_cons_zero, List.set_cons_succ]
                    refine wpAnyH_take (i := 2) (v := .pointer (some ⟨gx, 1, none⟩)) h2 HNS (by rw [hops]; kernel_rfl) (by rw [hops]; kernel_rfl) (fun _ _ _ h => h) (Or.inl ⟨(wanted_some g2 h1 d1 (by rfl)), fun w' _ => by unfold execOp; rw [p2]; first | rfl | kernel_rfl⟩) hHeld ?_
                    rw [d2]
                    simp only [Act.put, List.setIfInBounds_toArray, List.set_cons_zero, List.set_cons_succ]
                    refine wpAnyH_take (i := 3) (v := Rc.i x.no) h3 HNS (by rw [hops]; kernel_rfl) (by rw [hops]; kernel_rfl) (fun _ _ _ h => h) (Or.inl ⟨(wanted_some g3 h1 d1 (by rfl)), fun w' h => run_op_load_cell 3 _ p3 gx 1 (by rfl) _ h.2.1 _ Tryd.underlying3 rfl⟩) hHeld ?_
                    rw [d3]
                    simp only [Act.put, List.setIfInBounds_toArray, List.set_cons_zero, List.set_cons_succ]
                    refine wpAnyH_take (i := 4) (v := Rc.i no) h4 HNS (by rw [hops]; kernel_rfl) (by rw [hops]; kernel_rfl) (fun _ _ _ h => h) (Or.inl ⟨(wanted_some g4 h1 d1 (by rfl)), fun w' _ => by unfold execOp; rw [p4]; first | rfl | kernel_rfl⟩) hHeld ?_
                    rw [d4]
                    simp only [Act.put, List.setIfInBounds_toArray, List.set_cons_zero, List.set_cons_succ]
                    refine wpAnyH_take (i := 5) (v := .bool true) h5 HNS (by rw [hops]; kernel_rfl) (by rw [hops]; kernel_rfl) (fun _ _ _ h => h) (Or.inl ⟨(wanted_some g5 h1 d1 (by rfl)), fun w' _ => (show _ = Result.ok (.value (.bool (x.no != no))) w' from by unfold execOp; rw [p5]; first | rfl | kernel_rfl).trans (by rw [hq])⟩) hHeld ?_
                    rw [d5]
                    simp only [Act.put, List.setIfInBounds_toArray, List.set_cons_zero, List.set_cons_succ]
                    refine wpAnyH_take (i := 6) (v := .bool true) h6 HNS (by rw [hops]; kernel_rfl) (by rw [hops]; kernel_rfl) (fun _ _ _ h => h) (Or.inl ⟨(wanted_some g6 h1 d1 (by rfl)), fun w' _ => by unfold execOp; rw [p6]; first | rfl | kernel_rfl⟩) hHeld ?_
                    rw [d6]
                    simp only [Act.put, List.setIfInBounds_toArray, List.set_cons_zero, List.set_cons_succ]
                    refine wpAnyH_take (i := 7) (v := undef) h7 HNS (by rw [hops]; kernel_rfl) (by rw [hops]; kernel_rfl) (fun _ _ _ h => h) (Or.inr ⟨(unwanted_some g7 h6 d6 (by rfl)), rfl⟩) hHeld ?_
                    rw [d7]
                    simp only [Act.put, List.setIfInBounds_toArray, List.set_cons_zero, List.set_cons_succ]
                    refine wpAnyH_take (i := 8) (v := undef) h8 HNS (by rw [hops]; kernel_rfl) (by rw [hops]; kernel_rfl) (fun _ _ _ h => h) (Or.inr ⟨(unwanted_some g8 h6 d6 (by rfl)), rfl⟩) hHeld ?_
                    rw [d8]
                    simp only [Act.put, List.setIfInBounds_toArray, List.set_cons_zero, List.set_cons_succ]
                    refine wpAnyH_take (i := 9) (v := undef) h9 HNS (by rw [hops]; kernel_rfl) (by rw [hops]; kernel_rfl) (fun _ _ _ h => h) (Or.inr ⟨(unwanted_some g9 h6 d6 (by rfl)), rfl⟩) hHeld ?_
                    rw [d9]
                    simp only [Act.put, List.setIfInBounds_toArray, List.set_cons_zero, List.set_cons_succ]
                    refine wpAnyH_take (i := 10) (v := undef) h10 HNS (by rw [hops]; kernel_rfl) (by rw [hops]; kernel_rfl) (fun _ _ _ h => h) (Or.inr ⟨(unwanted_some g10 h6 d6 (by rfl)), rfl⟩) hHeld ?_
                    rw [d10]
                    simp only [Act.put, List.setIfInBounds_toArray, List.set_cons_zero, List.set_cons_succ]
                    refine wpAnyH_take (i := 11) (v := undef) h11 HNS (by rw [hops]; kernel_rfl) (by rw [hops]; kernel_rfl) (fun _ _ _ h => h) (Or.inr ⟨(unwanted_some g11 h6 d6 (by rfl)), rfl⟩) hHeld ?_
                    rw [d11]
                    simp only [Act.put, List.setIfInBounds_toArray, List.set_cons_zero, List.set_cons_succ]
                    refine wpAnyH_take (i := 12) (v := undef) h12 HNS (by rw [hops]; kernel_rfl) (by rw [hops]; kernel_rfl) (fun _ _ _ h => h) (Or.inr ⟨(unwanted_some g12 h6 d6 (by rfl)), rfl⟩) hHeld ?_
                    rw [d12]
                    simp only [Act.put, List.setIfInBounds_toArray, List.set_cons_zero, List.set_cons_succ]
                    refine wpAnyH_take (i := 13) (v := undef) h13 HNS (by rw [hops]; kernel_rfl) (by rw [hops]; kernel_rfl) (fun _ _ _ h => h) (Or.inr ⟨(unwanted_some g13 h6 d6 (by rfl)), rfl⟩) hHeld ?_
                    rw [d13]
                    simp only [Act.put, List.setIfInBounds_toArray, List.set_cons_zero, List.set_cons_succ]
                    refine wpAnyH_take (i := 14) (v := undef) h14 HNS (by rw [hops]; kernel_rfl) (by rw [hops]; kernel_rfl) (fun _ _ _ h => h) (Or.inr ⟨(unwanted_some g14 h6 d6 (by rfl)), rfl⟩) hHeld ?_
                    rw [d14]
                    simp only [Act.put, List.setIfInBounds_toArray, List.set_cons_zero, List.set_cons_succ]
                    refine wpAnyH_take (i := 15) (v := undef) h15 HNS (by rw [hops]; kernel_rfl) (by rw [hops]; kernel_rfl) (fun _ _ _ h => h) (Or.inr ⟨(unwanted_some g15 h6 d6 (by rfl)), rfl⟩) hHeld ?_
                    rw [d15]
                    simp only [Act.put, List.setIfInBounds_toArray, List.set_cons_zero, List.set_cons_succ]
                    refine wpAnyH_take (i := 16) (v := .bool true) h16 HNS (by rw [hops]; kernel_rfl) (by rw [hops]; kernel_rfl) (fun _ _ _ h => h) (Or.inl ⟨(wanted_some g16 h1 d1 (by rfl)), fun w' _ => by unfold execOp; rw [p16]; first | rfl | kernel_rfl⟩) hHeld ?_
                    rw [d16]
                    simp only [Act.put, List.setIfInBounds_toArray, List.set_cons_zero, List.set_cons_succ]
                    refine wpAnyH_take (i := 17) (v := .bool true) h17 HNS (by rw [hops]; kernel_rfl) (by rw [hops]; kernel_rfl) (fun _ _ _ h => h) (Or.inl ⟨(wanted_none g17), fun w' _ => by unfold execOp; rw [p17]; first | rfl | kernel_rfl⟩) hHeld ?_
                    rw [d17]
                    simp only [Act.put, List.setIfInBounds_toArray, List.set_cons_zero, List.set_cons_succ]
                    refine wpAnyH_take (i := 18) (v := .bool true) h18 HNS (by rw [hops]; kernel_rfl) (by rw [hops]; kernel_rfl) (fun _ _ _ h => h) (Or.inl ⟨(wanted_none g18), fun w' _ => by unfold execOp; rw [p18]; first | rfl | kernel_rfl⟩) hHeld ?_
                    rw [d18]
                    simp only [Act.put, List.setIfInBounds_toArray, List.set_cons_zero, List.set_cons_succ]
                    refine wpAnyH_done (by rw [hops]; kernel_rfl) (NoPanic.normal ?_) _
                    have HBy := Lib.hid (HBx.out.trans (s2.mono HBx.out.size))
                    clear HNS KP s2 hHeld hops x0 x1 x2 q0 q1 q2 h0 d0 p0 g0 h1 d1 p1 g1 h2 d2 p2 g2 h3 d3 p3 g3 h4 d4 p4 g4 h5 d5 p5 g5 h6 d6 p6 g6 h7 d7 p7 g7 h8 d8 p8 g8 h9 d9 p9 g9 h10 d10 p10 g10 h11 d11 p11 g11 h12 d12 p12 g12 h13 d13 p13 g13 h14 d14 p14 g14 h15 d15 p15 g15 h16 d16 p16 g16 h17 d17 p17 g17 h18 d18 p18 g18
                    go_wp2_with fail
                    exact ⟨⟨j + 1, by omega, by go_num, by rw [HA1.out], HBy.out⟩, by simp [intOf]; omega⟩
              · obtain rfl : j = nl := by omega
                have hall := HALL.out
                have HTJ := Lib.hid (HT.out.keep HBJ.out)
                have HRJ := Lib.hid (HR.out.keep HBJ.out)
                obtain ⟨zg, m0, m1⟩ := HRJ.out.r2
                generalize Rc.allT c l no u j = al at hall
                by_cases h1 : lo ≤ u
                · have hd3 : decide (lo ≤ u) = true := decide_eq_true h1
                  by_cases h2 : u ≤ hi
                  · have hd4 : decide (u ≤ hi) = true := decide_eq_true h2
                    rw [hd3, hd4] at hall
                    obtain rfl : al = true := hall
                    clear h1 h2
                    go_wp2_with fail
                    exact ⟨⟨k + 1, by omega, by go_num, HTJ.out, HRJ.out, HB.out⟩, by simp [intOf]; omega⟩
                  · have hd4 : decide (u ≤ hi) = false := decide_eq_false h2
                    rw [hd3, hd4] at hall
                    obtain rfl : al = false := hall
                    clear h1 h2
                    go_wp2_with fail
                    exact ⟨⟨k + 1, by omega, by go_num, HTJ.out, HRJ.out, HB.out⟩, by simp [intOf]; omega⟩
                · have hd3 : decide (lo ≤ u) = false := decide_eq_false h1
                  rw [hd3, Bool.false_and] at hall
                  subst hall
                  clear h1
                  go_wp2_with fail
                  exact ⟨⟨k + 1, by omega, by go_num, HTJ.out, HRJ.out, HB.out⟩, by simp [intOf]; omega⟩
          · obtain rfl : k = 5 := by omega
            go_wp2_with fail
            go_ret
            exact ⟨rfl, HBO.out⟩
      · have hwv := Rc.when_no (xs := Rc.ofs c l no) (by omega)
        rw [hwv] at HWN
        clear hwv hmm
        go_wp2_with fail
        ((with_reducible refine (HWN.out _ HB4.out).mono ?_); rintro e w5 ⟨rfl, hb⟩)
        have HB5 := Lib.hid (HB4.out.trans (hb.mono HB4.out.size))
        clear hb
        go_upto_region 6 with fail
        obtain ⟨W6, hW6⟩ : ∃ W6, W6 = w5.alloc (.cells #[.int .i64 0, .int .i64 0] 38) := ⟨_, rfl⟩
        obtain ⟨g1, hg1⟩ : ∃ g1, w5.heap.size = g1 := ⟨_, rfl⟩
        have HH6 := Lib.hid (show Has W6 g1 38 [.int .i64 0, .int .i64 0] from by rw [hW6, ← hg1]; exact Has.new w5 _ _)
        have HB6 := Lib.hid (show Below w.heap.size w W6 from by rw [hW6]; exact HB5.out.alloc HB5.out.size _)
        rw [← hW6, hg1]
        clear hW6 hg1
        obtain ⟨zg, m0, m1⟩ := HH6.out.r2
        go_wp2_with fail
        go_ret
        exact ⟨by first | rfl | simp, HB6.out⟩
    · go_enter Tryd.func6, Tryd.ntmps6
      go_wp2_with fail
      ((with_reducible refine (HSN.out _ (Below.refl _ _)).mono ?_); rintro e w2 ⟨rfl, hb⟩)
      have HB2 := Lib.hid hb
      clear hb
      go_wp2_with fail
      ((with_reducible refine (HFW.out _ HB2.out).mono ?_); rintro e w3 ⟨rfl, hb⟩)
      have HB3 := Lib.hid (HB2.out.trans (hb.mono HB2.out.size))
      clear hb
      go_wp2_with fail
      ((with_reducible refine (HRC.out _ HB3.out).mono ?_); rintro e w4 ⟨rfl, hb⟩)
      have HB4 := Lib.hid (HB3.out.trans (hb.mono HB3.out.size))
      clear hb
      go_wp2_with fail
      go_ret
      exact ⟨rfl, HB4.out⟩
end Go.Proofs.YtnbbleajbbgmjaaDoor
