import Derived.Test.YtnbbleajbbgmjaaDoorMRcR5
import Derived.Test.YtnbbleajbbgmjaaDoorMRcS1
/- ReceiptsSpec: the walk. -/
namespace Go.Proofs.YtnbbleajbbgmjaaDoor
open Go.RowKit
set_option linter.unusedVariables false

set_option maxRecDepth 100000 in
set_option maxHeartbeats 8000000 in
theorem Rc.spec_law (hsn : ∀ W, Dg.G W Rc.K0 Rc.I0 → Calls Tryd.prog 10 #[] W fun e w' => e = .returned (.bool true) ∧ Below W.heap.size W w')
    (Ac As Al : Option Addr) (nc cc ns cs nl cl : Nat) (c : List Rc.C) (subs : List Rc.Sb) (l : List Rc.R) (s : Rc.Sb) (A1 : Option Addr) (c1 : Nat) (w : World) (hE : Rc.Ev w w.heap.size Ac As Al nc ns nl c subs l)
    (hr : Rd w w.heap.size 1 A1 s.grid.length (s.grid.map Rc.i)) (hm : s.grid.length ≤ maxLen) (hG : Dg.G w Rc.K0 Rc.I0) :
    Calls Tryd.prog 3 #[.slice Ac nc cc, .slice As ns cs, .slice Al nl cl, .agg #[Rc.i s.no, Rc.i s.comp, Rc.i s.puz, .slice A1 s.grid.length c1]] w fun e w' => e = .returned (.bool true) ∧ Below w.heap.size w w' := by
  obtain ⟨W1, hW1⟩ : ∃ W1, W1 = w.alloc (.cells #[Rc.i s.no, Rc.i s.comp, Rc.i s.puz, .slice A1 s.grid.length c1] 27) := ⟨_, rfl⟩
  have HB1 := Lib.hid (show Below w.heap.size w W1 from by rw [hW1]; exact (Below.refl _ w).alloc (Nat.le_refl _) _)
  have HV1 := Lib.hid (show Has W1 w.heap.size 27 [Rc.i s.no, Rc.i s.comp, Rc.i s.puz, .slice A1 s.grid.length c1] from by rw [hW1]; exact Has.new w _ _)
  have HSN := Lib.hid (hsn W1 (hG.keep HB1.out))
  have HFW := Lib.hid (fun W (hb : Below w.heap.size w W) => Rc.rfew_any Ac As Al nc cc ns cs nl cl subs W (hE.s.keep hb |>.more hb.size) hE.mc hE.ms hE.ml)
  have HCK := Lib.hid (fun W (hb : Below w.heap.size w W) => Rc.check_any Ac As Al nc cc ns cs nl cl c subs l Rc.K0 Rc.I0 W ((hE.keep hb).more hb.size) (hG.keep hb))
  have HRC := Lib.hid (fun W (hb : Below w.heap.size w W) => Rc.rcheck_any Ac As Al nc cc ns cs nl cl c subs l W ((hE.keep hb).more hb.size))
  have HDI := Lib.hid (fun W (hb : Below w.heap.size w W) => Rc.digest_any s.no s.comp s.puz A1 s.grid.length c1 s.grid Rc.K0 Rc.I0 W ((hr.below hb (Nat.le_refl _)).more hb.size) hm (hG.keep hb))
  have HRD := Lib.hid (fun W (hb : Below w.heap.size w W) => Rc.rdigest_any s.no s.comp s.puz A1 s.grid.length c1 s.grid W ((hr.below hb (Nat.le_refl _)).more hb.size) hm)
  have hm2 := hm
  unfold maxLen at hm2
  rw [Rc.Sb.dv_eq, show Rc.de s.no s.comp s.puz s.grid = s.de from rfl] at HDI HRD
  have hEQ := Rc.eq31 (s.dl Rc.K0 Rc.I0) (s.dl Rc.K0 Rc.I0) (s.dl_len Rc.K0 Rc.I0) (s.dl_len Rc.K0 Rc.I0)
  rw [show (s.dl Rc.K0 Rc.I0 == s.dl Rc.K0 Rc.I0) = true by simp] at hEQ
  obtain ⟨D, hD⟩ : ∃ D, ((s.dl Rc.K0 Rc.I0).map Dg.b8).toArray = D := ⟨_, rfl⟩
  have hds : D.size = 32 := by rw [← hD]; simp [Rc.Sb.dl_len]
  have h1d : D.all (·.oneCell') = true := by rw [← hD]; exact all_oneCell_toArray (one_bytes _)
  rw [hD] at HDI HRD hEQ
  have HEQ := Lib.hid hEQ
  have H1D := Lib.hid h1d
  have HI31 := Lib.hid (show (Tryd.prog.info? 31).map (·.size) = some D.size from by rw [hds]; exact Rc.info31)
  have HZD := Lib.hid (show Dg.z32.toArray.size = D.size from by rw [hds]; rfl)
  have HID1 := Lib.hid (show (Tryd.prog.info? 31).map (·.size) = some D.toList.length from by rw [Array.length_toList]; exact HI31.out)
  generalize Rc.chkE Rc.K0 Rc.I0 c subs l = E at HCK HRC
  generalize s.de = de at HDI HRD
  generalize Rc.few nc ns nl subs = fw at HFW
  clear hD hEQ hds h1d hE hr hm hG hsn
  cases fw with
  | false =>
    go_enter Tryd.func3, Tryd.ntmps3
    go_upto_region 1 with fail
    rw [← hW1]
    clear hW1
    go_wp2_with fail
    ((with_reducible refine HSN.out.mono ?_); rintro e w2 ⟨rfl, hb⟩)
    have HB2 := Lib.hid (HB1.out.trans (hb.mono HB1.out.size))
    clear hb
    go_wp2_with fail
    ((with_reducible refine (HFW.out _ HB2.out).mono ?_); rintro e w3 ⟨rfl, hb⟩)
    have HB3 := Lib.hid (HB2.out.trans (hb.mono HB2.out.size))
    clear hb
    go_wp2_with fail
    go_ret
    exact ⟨rfl, HB3.out⟩
  | true =>
    by_cases hg : 300 < s.grid.length
    · have hd : decide ((300 : Int) < (s.grid.length : Int)) = true := decide_eq_true (by omega)
      clear hg
      go_enter Tryd.func3, Tryd.ntmps3
      go_upto_region 1 with fail
      rw [← hW1]
      clear hW1
      go_wp2_with fail
      ((with_reducible refine HSN.out.mono ?_); rintro e w2 ⟨rfl, hb⟩)
      have HV2 := Lib.hid (HV1.out.keep hb)
      have HB2 := Lib.hid (HB1.out.trans (hb.mono HB1.out.size))
      clear hb
      go_wp2_with fail
      ((with_reducible refine (HFW.out _ HB2.out).mono ?_); rintro e w3 ⟨rfl, hb⟩)
      have HB3 := Lib.hid (HB2.out.trans (hb.mono HB2.out.size))
      have v3 := (HV2.out.keep hb).cell 3
      simp only [List.getElem?_cons_succ, List.getElem?_cons_zero] at v3
      clear hb
      go_wp2_with fail
      go_ret
      exact ⟨rfl, HB3.out⟩
    · have hd : decide ((300 : Int) < (s.grid.length : Int)) = false := decide_eq_false (by omega)
      clear hg
      go_enter Tryd.func3, Tryd.ntmps3
      go_upto_region 1 with fail
      rw [← hW1]
      clear hW1
      go_wp2_with fail
      ((with_reducible refine HSN.out.mono ?_); rintro e w2 ⟨rfl, hb⟩)
      have HV2 := Lib.hid (HV1.out.keep hb)
      have HB2 := Lib.hid (HB1.out.trans (hb.mono HB1.out.size))
      clear hb
      go_wp2_with fail
      ((with_reducible refine (HFW.out _ HB2.out).mono ?_); rintro e w3 ⟨rfl, hb⟩)
      have HB3 := Lib.hid (HB2.out.trans (hb.mono HB2.out.size))
      have HV3 := Lib.hid (HV2.out.keep hb)
      have v0 := HV3.out.cell 0
      have v1 := HV3.out.cell 1
      have v2 := HV3.out.cell 2
      have v3 := HV3.out.cell 3
      simp only [List.getElem?_cons_succ, List.getElem?_cons_zero] at v0 v1 v2 v3
      clear hb
      go_wp2_with fail
      ((with_reducible refine (HDI.out _ HB3.out).mono ?_); rintro e w4 ⟨rfl, hb⟩)
      have HB4 := Lib.hid (HB3.out.trans (hb.mono HB3.out.size))
      have HV4 := Lib.hid (HV3.out.keep hb)
      have HN4 := Lib.hid (show (w4.alloc (.cells Dg.z32.toArray 31)).heap[w4.heap.size]? = some (.cells Dg.z32.toArray 31 (0, 0)) from World.alloc_heap_new _ _)
      clear hb v0 v1 v2 v3
      go_upto_region 6 with (first | (refine wpList_store_row (o := ⟨none, .store 31 (.tmp 9) (.tmp 29), _, _, _, _⟩) rfl 31 (.tmp 9) (.tmp 29) rfl w4.heap.size D rfl rfl 31 Dg.z32.toArray HN4.out HI31.out HZD.out H1D.out ?_))
      obtain ⟨W5, hW5⟩ : ∃ W5, W5 = (w4.alloc (.cells Dg.z32.toArray 31)).setRow w4.heap.size D := ⟨_, rfl⟩
      change Code.wp _ _ _ _ ((w4.alloc (.cells Dg.z32.toArray 31)).setRow w4.heap.size D)
      obtain ⟨g1, hg1⟩ : ∃ g1, w4.heap.size = g1 := ⟨_, rfl⟩
      have HD5 := Lib.hid (show Has W5 g1 31 D.toList from by rw [hW5, ← hg1]; have h := setRow_heap _ w4.heap.size _ D 31 (0, 0) HN4.out; show _ = some (Obj.cells D.toList.toArray _ _); rw [Array.toArray_toList]; exact h)
      have hB45 : Below w4.heap.size w4 W5 := by rw [hW5]; exact Rc.alloc_set w4 _ _ _ rfl
      have HV5 := Lib.hid (HV4.out.keep hB45)
      have HB5 := Lib.hid (HB4.out.trans (hB45.mono HB4.out.size))
      rw [← hW5, hg1]
      have v0 := HV5.out.cell 0
      have v1 := HV5.out.cell 1
      have v2 := HV5.out.cell 2
      have v3 := HV5.out.cell 3
      simp only [List.getElem?_cons_succ, List.getElem?_cons_zero] at v0 v1 v2 v3
      clear hW5 hB45 hg1 HN4
      go_wp2_with fail
      ((with_reducible refine (HRD.out _ HB5.out).mono ?_); rintro e w6 ⟨rfl, hb⟩)
      have HB6 := Lib.hid (HB5.out.trans (hb.mono HB5.out.size))
      have HD6 := Lib.hid (HD5.out.keep hb)
      have HN6 := Lib.hid (show (w6.alloc (.cells Dg.z32.toArray 31)).heap[w6.heap.size]? = some (.cells Dg.z32.toArray 31 (0, 0)) from World.alloc_heap_new _ _)
      clear hb v0 v1 v2 v3
      go_upto_region 7 with (first | (refine wpList_store_row (o := ⟨none, .store 31 (.tmp 11) (.tmp 34), _, _, _, _⟩) rfl 31 (.tmp 11) (.tmp 34) rfl w6.heap.size D rfl rfl 31 Dg.z32.toArray HN6.out HI31.out HZD.out H1D.out ?_))
      obtain ⟨W7, hW7⟩ : ∃ W7, W7 = (w6.alloc (.cells Dg.z32.toArray 31)).setRow w6.heap.size D := ⟨_, rfl⟩
      change Code.wp _ _ _ _ ((w6.alloc (.cells Dg.z32.toArray 31)).setRow w6.heap.size D)
      obtain ⟨g2, hg2⟩ : ∃ g2, w6.heap.size = g2 := ⟨_, rfl⟩
      have HE7 := Lib.hid (show Has W7 g2 31 D.toList from by rw [hW7, ← hg2]; have h := setRow_heap _ w6.heap.size _ D 31 (0, 0) HN6.out; show _ = some (Obj.cells D.toList.toArray _ _); rw [Array.toArray_toList]; exact h)
      have hB67 : Below w6.heap.size w6 W7 := by rw [hW7]; exact Rc.alloc_set w6 _ _ _ rfl
      have HD7 := Lib.hid (HD6.out.keep hB67)
      have HB7 := Lib.hid (HB6.out.trans (hB67.mono HB6.out.size))
      rw [← hW7, hg2]
      clear hW7 hB67 hg2 HN6
      have HR1 := Lib.hid (show W7.rangeAt g1 0 D.toList from fun j v hj => by rw [Nat.zero_add]; exact (HD7.out.cell j).trans hj)
      have HR2 := Lib.hid (show W7.rangeAt g2 0 D.toList from fun j v hj => by rw [Nat.zero_add]; exact (HE7.out.cell j).trans hj)
      have hEQ := HEQ.out
      have hEG := Rc.eqg
      have he1 : (de == de) = true := by simp
      have he2 : (E == E) = true := by simp
      have HC1 := Lib.hid (HCK.out _ HB7.out)
      clear HCK HDI HRD HFW HSN
      go_wp2_with (first
        | ((with_reducible refine wpList_load_mid rfl 31 (.tmp 9) rfl g1 0 rfl D.toList _ HR1.out Tryd.underlying31 rfl HID1.out ?_); rw [Array.toArray_toList])
        | ((with_reducible refine wpList_load_mid rfl 31 (.tmp 11) rfl g2 0 rfl D.toList _ HR2.out Tryd.underlying31 rfl HID1.out ?_); rw [Array.toArray_toList])
        | ((with_reducible refine HC1.out.mono ?_); rintro e w8 ⟨rfl, hb8⟩; have HB8 := Lib.hid (HB7.out.trans (hb8.mono HB7.out.size)); clear hb8)
        | ((with_reducible refine (HRC.out _ HB8.out).mono ?_); rintro e w9 ⟨rfl, hb9⟩; have HB9 := Lib.hid (HB8.out.trans (hb9.mono HB8.out.size)); clear hb9))
      go_ret
      exact ⟨by first | rfl | simp, HB9.out⟩
end Go.Proofs.YtnbbleajbbgmjaaDoor
