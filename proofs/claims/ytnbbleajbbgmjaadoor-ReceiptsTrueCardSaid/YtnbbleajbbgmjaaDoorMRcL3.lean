import Derived.Test.YtnbbleajbbgmjaaDoorMRcR6v
import Derived.Test.YtnbbleajbbgmjaaDoorMRcR1
import Derived.Test.YtnbbleajbbgmjaaDoorMRcT1
import Derived.Test.YtnbbleajbbgmjaaDoorMRcS1
/- ReceiptsTrue: the walk. -/
namespace Go.Proofs.YtnbbleajbbgmjaaDoor
open Go.RowKit
set_option linter.unusedVariables false

set_option maxRecDepth 100000 in
set_option maxHeartbeats 16000000 in
theorem Rc.true_law (hsn : ∀ W, Dg.G W Rc.K0 Rc.I0 → Calls Tryd.prog 10 #[] W fun e w' => e = .returned (.bool true) ∧ Below W.heap.size W w')
    (Ac As Al : Option Addr) (nc cc ns cs nl cl : Nat) (c : List Rc.C) (subs : List Rc.Sb) (l : List Rc.R) (no tm : Int) (w : World) (hE : Rc.Ev w w.heap.size Ac As Al nc ns nl c subs l) (hG : Dg.G w Rc.K0 Rc.I0) :
    Calls Tryd.prog 8 #[.slice Ac nc cc, .slice As ns cs, .slice Al nl cl, Rc.i no, Rc.i tm] w fun e w' => e = .returned (.bool true) ∧ Below w.heap.size w w' := by
  have HSN := Lib.hid (fun W (hb : Below w.heap.size w W) => hsn W (hG.keep hb))
  have HFW := Lib.hid (fun W (hb : Below w.heap.size w W) => Rc.rfew_any Ac As Al nc cc ns cs nl cl subs W (hE.s.keep hb |>.more hb.size) hE.mc hE.ms hE.ml)
  have HRC := Lib.hid (fun W (hb : Below w.heap.size w W) => Rc.rcheck_any Ac As Al nc cc ns cs nl cl c subs l W ((hE.keep hb).more hb.size))
  have HWN := Lib.hid (fun W (hb : Below w.heap.size w W) => Rc.when_any Ac As Al nc cc ns cs nl cl c subs l no Rc.K0 Rc.I0 W ((hE.keep hb).more hb.size) (hG.keep hb))
  have HCF := Lib.hid (fun W (hb : Below w.heap.size w W) => Rc.conf_any Ac As Al nc cc ns cs nl cl c subs l no Rc.K0 Rc.I0 W ((hE.keep hb).more hb.size) (hG.keep hb))
  have HEV := Lib.hid hE
  have hll := hE.l.len
  have hcl := hE.c.len
  have hnl := hE.ml
  have hncl := hE.mc
  have hnsl := hE.ms
  unfold maxLen at hnl hncl hnsl
  have hEE : Rc.chkE Rc.K0 Rc.I0 c subs l = 0 ∨ Rc.chkE Rc.K0 Rc.I0 c subs l = 510 := Rc.chk_ok
  generalize hEC : Rc.chkE Rc.K0 Rc.I0 c subs l = E at HRC HWN HCF hEE
  have HEC := Lib.hid hEC
  generalize Rc.few nc ns nl subs = fw at HFW
  clear hE hG hsn hEC
  cases fw with
  | false =>
    go_enter Tryd.func8, Tryd.ntmps8
    go_wp2_with fail
    ((with_reducible refine (HSN.out _ (Below.refl _ _)).mono ?_); rintro e w2 ⟨rfl, hb⟩)
    have HB2 := Lib.hid hb
    clear hb
    go_wp2_with fail
    ((with_reducible refine (HFW.out _ HB2.out).mono ?_); rintro e w3 ⟨rfl, hb⟩)
    have HB3 := Lib.hid (HB2.out.trans (hb.mono HB2.out.size))
    clear hb
    go_wp2_with fail
    go_ret
    exact ⟨rfl, HB3.out⟩
  | true =>
    rcases hEE with rfl | rfl
    · by_cases ha : no < 0
      · have da : decide (no < 0) = true := decide_eq_true ha
        clear ha
        go_enter Tryd.func8, Tryd.ntmps8
        go_wp2_with fail
        ((with_reducible refine (HSN.out _ (Below.refl _ _)).mono ?_); rintro e w2 ⟨rfl, hb⟩)
        have HB2 := Lib.hid hb
        clear hb
        go_wp2_with fail
        ((with_reducible refine (HFW.out _ HB2.out).mono ?_); rintro e w3 ⟨rfl, hb⟩)
        have HB3 := Lib.hid (HB2.out.trans (hb.mono HB2.out.size))
        clear hb
        go_wp2_with fail
        ((with_reducible refine (HRC.out _ HB3.out).mono ?_); rintro e w4 ⟨rfl, hb⟩)
        have HB4 := Lib.hid (HB3.out.trans (hb.mono HB3.out.size))
        clear hb
        go_wp2_with fail
        go_ret
        exact ⟨rfl, HB4.out⟩
      have da : decide (no < 0) = false := decide_eq_false ha
      by_cases hb : (ns : Int) ≤ no
      · have db : decide ((ns : Int) ≤ no) = true := decide_eq_true hb
        clear hb
        go_enter Tryd.func8, Tryd.ntmps8
        go_wp2_with fail
        ((with_reducible refine (HSN.out _ (Below.refl _ _)).mono ?_); rintro e w2 ⟨rfl, hb⟩)
        have HB2 := Lib.hid hb
        clear hb
        go_wp2_with fail
        ((with_reducible refine (HFW.out _ HB2.out).mono ?_); rintro e w3 ⟨rfl, hb⟩)
        have HB3 := Lib.hid (HB2.out.trans (hb.mono HB2.out.size))
        clear hb
        go_wp2_with fail
        ((with_reducible refine (HRC.out _ HB3.out).mono ?_); rintro e w4 ⟨rfl, hb⟩)
        have HB4 := Lib.hid (HB3.out.trans (hb.mono HB3.out.size))
        clear hb
        go_wp2_with fail
        go_ret
        exact ⟨rfl, HB4.out⟩
      have db : decide ((ns : Int) ≤ no) = false := decide_eq_false hb
      by_cases hc : tm < 0
      · have dc : decide (tm < 0) = true := decide_eq_true hc
        clear hc
        go_enter Tryd.func8, Tryd.ntmps8
        go_wp2_with fail
        ((with_reducible refine (HSN.out _ (Below.refl _ _)).mono ?_); rintro e w2 ⟨rfl, hb⟩)
        have HB2 := Lib.hid hb
        clear hb
        go_wp2_with fail
        ((with_reducible refine (HFW.out _ HB2.out).mono ?_); rintro e w3 ⟨rfl, hb⟩)
        have HB3 := Lib.hid (HB2.out.trans (hb.mono HB2.out.size))
        clear hb
        go_wp2_with fail
        ((with_reducible refine (HRC.out _ HB3.out).mono ?_); rintro e w4 ⟨rfl, hb⟩)
        have HB4 := Lib.hid (HB3.out.trans (hb.mono HB3.out.size))
        clear hb
        go_wp2_with fail
        go_ret
        exact ⟨rfl, HB4.out⟩
      have dc : decide (tm < 0) = false := decide_eq_false hc
      by_cases hd : 1048576 < tm
      · have dd : decide (1048576 < tm) = true := decide_eq_true hd
        clear hd
        go_enter Tryd.func8, Tryd.ntmps8
        go_wp2_with fail
        ((with_reducible refine (HSN.out _ (Below.refl _ _)).mono ?_); rintro e w2 ⟨rfl, hb⟩)
        have HB2 := Lib.hid hb
        clear hb
        go_wp2_with fail
        ((with_reducible refine (HFW.out _ HB2.out).mono ?_); rintro e w3 ⟨rfl, hb⟩)
        have HB3 := Lib.hid (HB2.out.trans (hb.mono HB2.out.size))
        clear hb
        go_wp2_with fail
        ((with_reducible refine (HRC.out _ HB3.out).mono ?_); rintro e w4 ⟨rfl, hb⟩)
        have HB4 := Lib.hid (HB3.out.trans (hb.mono HB3.out.size))
        clear hb
        go_wp2_with fail
        go_ret
        exact ⟨rfl, HB4.out⟩
      have dd : decide (1048576 < tm) = false := decide_eq_false hd
      go_enter Tryd.func8, Tryd.ntmps8
      go_wp2_with fail
      ((with_reducible refine (HSN.out _ (Below.refl _ _)).mono ?_); rintro e w2 ⟨rfl, hb⟩)
      have HB2 := Lib.hid hb
      clear hb
      go_wp2_with fail
      ((with_reducible refine (HFW.out _ HB2.out).mono ?_); rintro e w3 ⟨rfl, hb⟩)
      have HB3 := Lib.hid (HB2.out.trans (hb.mono HB2.out.size))
      clear hb
      go_wp2_with fail
      ((with_reducible refine (HRC.out _ HB3.out).mono ?_); rintro e w4 ⟨rfl, hb⟩)
      have HB4 := Lib.hid (HB3.out.trans (hb.mono HB3.out.size))
      clear hb
      have HRE := Lib.hid (show Rc.readE 0 ns no = 0 from by rw [Rc.readE, if_pos rfl, Rc.inB_in (by omega) (by omega)]; rfl)
      rw [HRE.out] at HWN HCF
      have HOK := Lib.hid (Rc.ok_all HEC.out)
      have HSPT := Lib.hid (fun (x : Rc.R) (hx : x ∈ l) (q : Rc.C) (hq : c[x.rf.toNat]? = some q) => Rc.sp_times HEC.out hx hq)
      have ht : Clk.tmB tm = true := (Clk.tmB_iff tm).2 ⟨by omega, by omega⟩
      have HT := Lib.hid ht
      have htr : 0 ≤ tm ∧ tm ≤ 1048576 := ⟨by omega, by omega⟩
      clear ha hb hc hd ht
      go_wp2_with fail
      go_loopw [55] (fun i wr => ∃ k : Nat, k ≤ nl ∧ i = .int .i64 k ∧ (∀ (j : Nat) (x : Rc.R), j < k → l[j]? = some x → x.no = no → Rc.spL c x ≤ tm ∧ tm ≤ Rc.spH c x) ∧ Below w.heap.size w wr) (fun i _ => nl - (intOf i).toNat)
      case atStart => exact ⟨0, by omega, rfl, fun _ _ h => absurd h (by omega), HB4.out⟩
      case round =>
        clear HB4
        obtain ⟨k, hk, rfl, hall, hB⟩ := hrel
        have HB := Lib.hid hB
        have HA := Lib.hid hall
        clear hall hB
        by_cases hlt : k < nl
        · obtain ⟨x, hx⟩ : ∃ x, l[k]? = some x := ⟨_, List.getElem?_eq_getElem (by omega)⟩
          obtain ⟨hd32, bl, ol, rfl, hbl, hrx⟩ := (HEV.out.l.keep HB.out).get k x hx
          have hbw : bl < wr.heap.size := by have := HB.out.size; omega
          have HRX := Lib.hid hrx
          have hc35 : x.cells.length = 35 := Rc.R.cells_len hd32
          have HI47 := Lib.hid (show (Tryd.prog.info? 47).map (·.size) = some x.cells.length from by rw [hc35]; exact Rc.info47)
          have HI47b := Lib.hid (show (Tryd.prog.info? 47).map (·.size) = some x.cells.toArray.size from by rw [List.size_toArray, hc35]; exact Rc.info47)
          have HZ35 := Lib.hid (show Rc.z35.toArray.size = x.cells.toArray.size from by rw [List.size_toArray, List.size_toArray, hc35]; rfl)
          have H135 := Lib.hid (show x.cells.toArray.all (·.oneCell') = true from all_oneCell_toArray x.cells_one)
          have HN1 := Lib.hid (show (wr.alloc (.cells Rc.z35.toArray 47)).heap[wr.heap.size]? = some (.cells Rc.z35.toArray 47 (0, 0)) from World.alloc_heap_new _ _)
          go_upto_region 8 with (first
            | (with_reducible refine wpList_load_mid rfl 47 (.tmp 57) rfl bl (ol + k * 35) rfl x.cells _ HRX.out Tryd.underlying47 rfl HI47.out ?_)
            | (refine wpList_store_row (o := ⟨none, .store 47 (.tmp 12) (.tmp 58), _, _, _, _⟩) rfl 47 (.tmp 12) (.tmp 58) rfl wr.heap.size x.cells.toArray rfl rfl 47 Rc.z35.toArray HN1.out HI47b.out HZ35.out H135.out ?_))
          obtain ⟨W2, hW2⟩ : ∃ W2, W2 = (wr.alloc (.cells Rc.z35.toArray 47)).setRow wr.heap.size x.cells.toArray := ⟨_, rfl⟩
          change Code.wp _ _ _ _ ((wr.alloc (.cells Rc.z35.toArray 47)).setRow wr.heap.size x.cells.toArray)
          obtain ⟨gx, hgx⟩ : ∃ gx, wr.heap.size = gx := ⟨_, rfl⟩
          have HX2m := Lib.hid (show Has W2 gx 47 x.cells from by rw [hW2, ← hgx]; exact setRow_heap _ wr.heap.size _ x.cells.toArray 47 (0, 0) HN1.out)
          have hB12 : Below wr.heap.size wr W2 := by rw [hW2]; exact Rc.alloc_set wr _ _ _ rfl
          have HBx := Lib.hid (HB.out.trans (hB12.mono HB.out.size))
          rw [← hW2, hgx]
          clear hW2 hB12 HRX HN1 HI47b HZ35 H135 hgx HI47
          obtain ⟨q, hqc, hx0, hx1, hok, htm⟩ := HOK.out x (List.mem_of_getElem? hx)
          obtain ⟨bc, oc, rfl, hbc, q0, q1, q2⟩ := (HEV.out.c.keep HBx.out).get x.rf.toNat q hqc
          obtain ⟨rn, hrn⟩ : ∃ rn : Nat, x.rf.toNat = rn := ⟨_, rfl⟩
          have hrx : x.rf = (rn : Int) := by omega
          rw [hrn] at q0 q1 q2
          have x0 : W2.cell? ⟨gx, 0, none⟩ = some (Rc.i x.rf) := HX2m.out.cell 0
          have x1 : W2.cell? ⟨gx, 1, none⟩ = some (Rc.i x.no) := HX2m.out.cell 1
          have x2 : W2.cell? ⟨gx, 2, none⟩ = some (Rc.i x.st) := HX2m.out.cell 2
          rw [hrx] at x0
          have hzx : gx < W2.heap.size := HX2m.out.lt
          have hzc : bc < W2.heap.size := by have := HBx.out.size; omega
          have hlr : (rn : Int) < (nc : Int) := by omega
          have HIT := Lib.hid (HSPT.out x (List.mem_of_getElem? hx) q hqc)
          have HMY := Lib.hid (fun W => Clk.may_any q.s q.er q.d tm x.st W)
          have hme : Clk.mayE q.s q.er q.d tm x.st = 0 := by unfold Clk.mayE; rw [if_pos hok, HT.out, htm]; rfl
          have hmb : Clk.mayB q.s q.er q.d tm x.st = Clk.shB q.s q.er q.d tm x.st := by unfold Clk.mayB; rw [hok, HT.out, htm]; rfl
          rw [hme, hmb] at HMY
          have HSH := Lib.hid (show Clk.shB q.s q.er q.d tm x.st = true ↔ Rc.spL c x ≤ tm ∧ tm ≤ Rc.spH c x from HIT.out.2.2.2.2 tm htr.1 htr.2)
          generalize Clk.shB q.s q.er q.d tm x.st = sh at HMY HSH
          have HX := Lib.hid hx
          have KP := Lib.hid (Rc.keepT hzc hzx x0 x2 q0 q1 q2)
          have s2 : Below W2.heap.size W2 W2.drew := (Below.refl _ W2).drew
          clear hme hmb hqc hrn hrx hx0 hx1 hok htm hx hbl hbc HIT
          go_region_held3 (fun w' => w'.cell? ⟨gx, 0, none⟩ = some (Rc.i (rn : Int)) ∧ w'.cell? ⟨gx, 2, none⟩ = some (Rc.i x.st) ∧ w'.cell? ⟨bc, oc + rn * 3, none⟩ = some (Rc.i q.s) ∧ w'.cell? ⟨bc, oc + rn * 3 + 1, none⟩ = some (Rc.i q.er) ∧ w'.cell? ⟨bc, oc + rn * 3 + 2, none⟩ = some (Rc.i q.d) ∧ Below W2.heap.size W2 w')
            (first
              | exact KP.out _ sB
              | exact KP.out _ s2)
            (first
              | (go_at_call 23
                 (with_reducible refine (HMY.out _).mono ?_)
                 rintro e W4 ⟨rfl, hb4⟩
                 have sB := s2.trans (hb4.mono s2.size)))
          obtain ⟨W5, hW5⟩ : ∃ W5, W5 = W4 := ⟨_, rfl⟩
          have HB5 := Lib.hid (HBx.out.trans (sB.mono HBx.out.size))
          have HX5 := HX2m.out.keep sB
          have y1 : W4.cell? ⟨gx, 1, none⟩ = some (Rc.i x.no) := HX5.cell 1
          clear x0 x1 x2 q0 q1 q2 KP sB s2 HX5 hW5
          by_cases hno : x.no = no
          · have hq : (x.no == no) = true := by simpa using hno
            cases sh with
            | false =>
              clear hno
              go_wp2_with fail
              go_ret
              exact ⟨rfl, HB5.out⟩
            | true =>
              have HA2 := Lib.hid (show ∀ (j : Nat) (x : Rc.R), j < k + 1 → l[j]? = some x → x.no = no → Rc.spL c x ≤ tm ∧ tm ≤ Rc.spH c x from fun j z hj hz hn => by
                by_cases he : j = k
                · subst he
                  obtain rfl : x = z := Option.some.inj (HX.out.symm.trans hz)
                  exact HSH.out.1 rfl
                · exact HA.out j z (by omega) hz hn)
              clear hno
              go_wp2_with fail
              exact ⟨⟨k + 1, by omega, by go_num, HA2.out, HB5.out⟩, by simp [intOf]; omega⟩
          · have hq : (x.no == no) = false := by simpa using hno
            have HA2 := Lib.hid (show ∀ (j : Nat) (x : Rc.R), j < k + 1 → l[j]? = some x → x.no = no → Rc.spL c x ≤ tm ∧ tm ≤ Rc.spH c x from fun j z hj hz hn => by
              by_cases he : j = k
              · subst he
                obtain rfl : x = z := Option.some.inj (HX.out.symm.trans hz)
                exact absurd hn hno
              · exact HA.out j z (by omega) hz hn)
            clear hno
            go_wp2_with fail
            exact ⟨⟨k + 1, by omega, by go_num, HA2.out, HB5.out⟩, by simp [intOf]; omega⟩
        · obtain rfl : k = nl := by omega
          have hal : ∀ x ∈ l, x.no = no → Rc.spL c x ≤ tm ∧ tm ≤ Rc.spH c x := fun x hx hn => by
            obtain ⟨j, hj, he⟩ := List.mem_iff_getElem.1 hx
            exact HA.out j x (by omega) (by rw [List.getElem?_eq_getElem hj, he]) hn
          have hmm := (Rc.mm_ofs c l no tm).2 ⟨htr.1, htr.2, hal⟩
          have hwv := Rc.when_yes (xs := Rc.ofs c l no) (by omega)
          have hcv := Rc.confV_no (Rc.conf_none_of hal)
          rw [hwv] at HWN
          rw [hcv] at HCF
          generalize Rc.mm (Rc.ofs c l no) = m at HWN hmm
          obtain ⟨lo, hi⟩ := m
          dsimp only at HWN hmm
          have hd1 : decide (lo ≤ tm) = true := decide_eq_true hmm.1
          have hd2 : decide (tm ≤ hi) = true := decide_eq_true hmm.2
          clear hal hwv hcv HA
          go_wp2_with fail
          ((with_reducible refine (HWN.out _ HB.out).mono ?_); rintro e w5 ⟨rfl, hb⟩)
          have HB5 := Lib.hid (HB.out.trans (hb.mono HB.out.size))
          clear hb
          go_upto_region 15 with fail
          obtain ⟨W6, hW6⟩ : ∃ W6, W6 = w5.alloc (.cells #[.int .i64 lo, .int .i64 hi] 38) := ⟨_, rfl⟩
          obtain ⟨g1, hg1⟩ : ∃ g1, w5.heap.size = g1 := ⟨_, rfl⟩
          have HH6 := Lib.hid (show Has W6 g1 38 [.int .i64 lo, .int .i64 hi] from by rw [hW6, ← hg1]; exact Has.new w5 _ _)
          have HB6 := Lib.hid (show Below w.heap.size w W6 from by rw [hW6]; exact HB5.out.alloc HB5.out.size _)
          rw [← hW6, hg1]
          clear hW6 hg1
          go_wp2_with fail
          ((with_reducible refine (HCF.out _ HB6.out).mono ?_); rintro e w7 ⟨rfl, hb⟩)
          have HB7 := Lib.hid (HB6.out.trans (hb.mono HB6.out.size))
          obtain ⟨zg, m0, m1⟩ := (HH6.out.keep hb).r2
          clear hb
          go_wp2_with fail
          go_ret
          exact ⟨rfl, HB7.out⟩
    · go_enter Tryd.func8, Tryd.ntmps8
      go_wp2_with fail
      ((with_reducible refine (HSN.out _ (Below.refl _ _)).mono ?_); rintro e w2 ⟨rfl, hb⟩)
      have HB2 := Lib.hid hb
      clear hb
      go_wp2_with fail
      ((with_reducible refine (HFW.out _ HB2.out).mono ?_); rintro e w3 ⟨rfl, hb⟩)
      have HB3 := Lib.hid (HB2.out.trans (hb.mono HB2.out.size))
      clear hb
      go_wp2_with fail
      ((with_reducible refine (HRC.out _ HB3.out).mono ?_); rintro e w4 ⟨rfl, hb⟩)
      have HB4 := Lib.hid (HB3.out.trans (hb.mono HB3.out.size))
      clear hb
      go_wp2_with fail
      go_ret
      exact ⟨rfl, HB4.out⟩
end Go.Proofs.YtnbbleajbbgmjaaDoor
