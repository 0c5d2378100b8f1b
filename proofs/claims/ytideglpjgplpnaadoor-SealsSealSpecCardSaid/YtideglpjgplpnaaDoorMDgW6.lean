import Derived.Lib.AppendZerosOnto
import Derived.Lib.ConvBytes
import Derived.Deep.Cut
import Derived.Deep.WholeRow
import Derived.Test.YtideglpjgplpnaaDoorMUtil
import Derived.Test.YtideglpjgplpnaaDoorMDgW5
/- Contracts: slices.Grow of nil, slices.Concat of two parts, digest.Tagged. -/
namespace Go.Proofs.YtideglpjgplpnaaDoor
open Go.RowKit
set_option linter.unusedVariables false

theorem Dg.elt : EltOk Tryd.prog 24 5 (.int .u8 0) 1 1 := ⟨Tryd.underlying24, by kernel_rfl, rfl, by omega⟩
theorem Dg.own_form {w : World} {base e size n : Nat} {v : Value} {xs : List Value} (h : w.ownsRow base e size v n xs) : ∃ A c, v = .slice A n c := by
  rcases h.2 with ⟨e, h0⟩ | ⟨g, c, cur, hv, _⟩
  · exact ⟨none, 0, by rw [e, h0]⟩
  · exact ⟨_, c, hv⟩
set_option maxHeartbeats 1000000 in
theorem Dg.grow_any (n : Nat) (h1 : 1 ≤ n) (hn : n ≤ 70368744177664) (w : World) :
    Calls Tryd.prog 65 #[.slice none 0 0, .int .i64 (n : Int)] w fun e w' => ∃ G, e = .returned (.slice (some ⟨w.heap.size, 0, none⟩) 0 G) ∧
      w'.ownsRow w.heap.size 5 1 (.slice (some ⟨w.heap.size, 0, none⟩) 0 G) 0 [] ∧ Below w.heap.size w w' := by
  obtain ⟨i0, hi0, hz0, hz1, hz2⟩ := info_parts Dg.elt.info
  have hrz : ∀ ty, (Builtin.append_ #[24, 3] ty #[.slice none 0 0, .int .i64 (n : Int)]).run Tryd.prog w =
      .ok (.slice (some ⟨w.heap.size, 0, none⟩) n (grownCap w n 0 5)) (w.drew.alloc (.cells (#[] ++ Builtin.zeroCells #[.int .u8 0] n ++ Builtin.zeroCells #[.int .u8 0] (grownCap w n 0 5 - n)) 5)) := fun ty => by
    have h := Lib.run_append_grow_zeros w 24 3 ty 5 i0 (.int .u8 0) .i64 .i64 Tryd.underlying24 Tryd.underlying3 hi0 hz0 none 0 0 [] (run_firstCells_none w.drew i0.size 0 0 0) n (by omega) (by omega) (by omega) (by omega) (by rw [hz2]; omega)
      (growslice_fits (by omega) (by rw [hz2]; omega))
    rw [Nat.zero_add] at h
    exact h
  have hGn : n ≤ grownCap w n 0 5 := grownCap_ge w _ _ _
  have hG63 : grownCap w n 0 5 ≤ maxLen := grownCap_le_maxLen w n 0 5 (by unfold maxLen; omega)
  obtain ⟨G, hG⟩ : ∃ G, G = grownCap w n 0 5 := ⟨_, rfl⟩
  rw [← hG] at hrz hGn hG63
  have HG := Lib.hid hG63
  have hG2 : G ≤ 9223372036854775807 := by unfold maxLen at hG63; omega
  have HN := Lib.hid hGn
  clear hG hG63 hi0 hz0 hz1 hz2
  have h4 : (n : Int) > 0 := by omega
  go_enter Tryd.func65, Tryd.ntmps65
  go_wp2_with (at_builtin; refine Lib.wpList_append_run _ rfl _ _ _ _ rfl _ _ rfl rfl _ _ (hrz _) ?_)
  go_ret
  refine ⟨G, rfl, ⟨rfl, .inr ⟨_, G, _, rfl, Nat.le_refl _, World.alloc_heap_new _ _, Nat.zero_le _, HG.out, ?_, by simp⟩⟩, (Below.refl _ w).drew.alloc (by simp) _⟩
  have := HN.out
  simp [Builtin.zeroCells]
  omega

set_option maxHeartbeats 2000000 in
theorem Dg.concat_any (w : World) (gp : Nat) (A1 A2 : Option Addr) (n1 c1 n2 c2 cp : Nat) (l1 l2 : List UInt8) (h0 : w.cell? ⟨gp, 0, none⟩ = some (.slice A1 n1 c1)) (h1 : w.cell? ⟨gp, 1, none⟩ = some (.slice A2 n2 c2)) (hcp : 2 ≤ cp)
    (hr1 : RdB w A1 n1 l1) (hr2 : RdB w A2 n2 l2) (hq1 : A1 = none → c1 = 0) (hq2 : A2 = none → c2 = 0) (hn : 1 ≤ n1) (hb : n1 + n2 ≤ 70368744177664) :
    Calls Tryd.prog 36 #[.slice (some ⟨gp, 0, none⟩) 2 cp] w fun e w' => ∃ v, e = .returned v ∧ w'.ownsRow w.heap.size 5 1 v (n1 + n2) ((l1 ++ l2).map Dg.b8) ∧ Below w.heap.size w w' := by
  have HR1 := Lib.hid hr1
  have HR2 := Lib.hid hr2
  have HQ1 := Lib.hid hq1
  have HQ2 := Lib.hid hq2
  have HL1 := Lib.hid hr1.len
  have HL2 := Lib.hid hr2.len
  have HGR := Lib.hid (Dg.grow_any (n1 + n2) (by omega) hb)
  have zg : gp < w.heap.size := World.block_lt_of_cell? w _ h0
  clear hr1 hr2 hq1 hq2
  go_enter Tryd.func36, Tryd.ntmps36
  go_wp2_with fail
  go_loop [3, 11] (fun z i => (i = .int .i64 0 ∧ z = .int .i64 0) ∨ (i = .int .i64 1 ∧ z = .int .i64 (n1 : Int)) ∨ (i = .int .i64 2 ∧ z = .int .i64 ((n1 : Int) + (n2 : Int)))) (fun _ i => 2 - (intOf i).toNat)
  case atStart => exact .inl ⟨rfl, rfl⟩
  case round =>
    rcases hrel with ⟨rfl, rfl⟩ | ⟨rfl, rfl⟩ | ⟨rfl, rfl⟩
    · go_wp2_with fail
      exact ⟨.inr (.inl ⟨rfl, rfl⟩), by simp [intOf]⟩
    · go_wp2_with fail
      exact ⟨.inr (.inr ⟨rfl, rfl⟩), by simp [intOf]⟩
    · go_wp2_with fail
      have hcast : (n1 : Int) + (n2 : Int) = ((n1 + n2 : Nat) : Int) := by omega
      rw [hcast]
      ((with_reducible refine (HGR.out w).mono ?_); rintro e w1 ⟨G, rfl, hown, hbw⟩)
      have h0' := (hbw.cell (p := ⟨gp, 0, none⟩) zg).trans h0
      have h1' := (hbw.cell (p := ⟨gp, 1, none⟩) zg).trans h1
      have HOW := Lib.hid hown
      have HBW := Lib.hid hbw
      clear hown hbw hcast
      go_wp2_with fail
      go_loopw [6, 27] (fun v i wr => ∃ k : Nat, k ≤ 2 ∧ i = .int .i64 k ∧ wr.ownsRow w.heap.size 5 1 v (if k = 0 then 0 else if k = 1 then n1 else n1 + n2) ((if k = 0 then [] else if k = 1 then l1 else l1 ++ l2).map Dg.b8) ∧ Below w.heap.size w wr) (fun _ i _ => 2 - (intOf i).toNat)
      case atStart => exact ⟨0, by omega, rfl, HOW.out, HBW.out⟩
      case round =>
        clear HOW HBW h0' h1'
        obtain ⟨k, hk, rfl, hO, hB⟩ := hrel
        have h0' := (hB.cell (p := ⟨gp, 0, none⟩) zg).trans h0
        have h1' := (hB.cell (p := ⟨gp, 1, none⟩) zg).trans h1
        have HB := Lib.hid hB
        obtain rfl | rfl | rfl : k = 0 ∨ k = 1 ∨ k = 2 := by omega
        · have HO := Lib.hid (show wr.ownsRow w.heap.size 5 1 _ 0 [] from hO)
          have HRD := Lib.hid (show Rd wr wr.heap.size 1 A1 n1 (l1.map Dg.b8) from HR1.out.keep hB)
          have HSZ := Lib.hid hB.size
          clear hO hB
          obtain ⟨B, cB, rfl⟩ := Dg.own_form HO.out
          go_wp2_with ((with_reducible refine wpList_append_rd rfl (.tmp 31) (.tmp 32) rfl Dg.elt rfl HO.out rfl HRD.out (one_bytes l1) HQ1.out (by unfold maxLen; omega) (by omega) HSZ.out ?_); intro v' w2 hG; obtain ⟨hown2, hgr2, hat2⟩ := hG)
          refine ⟨⟨1, by omega, rfl, ?_, HB.out.grown hgr2 HSZ.out (fun g e => own_ge HO.out e)⟩, by simp [intOf]⟩
          have h := hown2
          rw [Nat.zero_add, List.nil_append] at h
          exact h
        · have HO := Lib.hid (show wr.ownsRow w.heap.size 5 1 _ n1 (l1.map Dg.b8) from hO)
          have HRD := Lib.hid (show Rd wr wr.heap.size 1 A2 n2 (l2.map Dg.b8) from HR2.out.keep hB)
          have HSZ := Lib.hid hB.size
          clear hO hB
          obtain ⟨B, cB, rfl⟩ := Dg.own_form HO.out
          go_wp2_with ((with_reducible refine wpList_append_rd rfl (.tmp 31) (.tmp 32) rfl Dg.elt rfl HO.out rfl HRD.out (one_bytes l2) HQ2.out (by unfold maxLen; omega) (by omega) HSZ.out ?_); intro v' w2 hG; obtain ⟨hown2, hgr2, hat2⟩ := hG)
          refine ⟨⟨2, by omega, rfl, ?_, HB.out.grown hgr2 HSZ.out (fun g e => own_ge HO.out e)⟩, by simp [intOf]⟩
          have h := hown2
          rw [← List.map_append] at h
          exact h
        · have HO := Lib.hid (show wr.ownsRow w.heap.size 5 1 _ (n1 + n2) ((l1 ++ l2).map Dg.b8) from hO)
          clear hO hB
          go_wp2_with fail
          go_ret
          exact ⟨_, rfl, HO.out, HB.out⟩

/-- a string as a slice of bytes -/
theorem Dg.conv (l : List UInt8) (hl : l.length ≤ 1000000) (W : World) : ∃ A c W', (convert 9 24 (.string ⟨l.toArray⟩)).run Tryd.prog W = .ok (.slice A l.length c) W' ∧ RdB W' A l.length l ∧ l.length ≤ c ∧ c ≤ maxLen ∧ (A = none → c = 0) ∧ Below W.heap.size W W' := by
  have hs : (⟨l.toArray⟩ : ByteArray).size = l.length := by simp [ByteArray.size]
  refine ⟨_, _, _, (Lib.run_convert_string_bytes W 9 24 5 ⟨l.toArray⟩ Tryd.underlying9 Tryd.underlying24 Tryd.underlying5).trans (by rw [hs]), ?_, ?_, ?_, (fun e => by cases e), ?_⟩
  · refine ⟨by simp, fun _ => ⟨_, 0, rfl, by rw [Lib.bytesWorld_size]; omega, fun j u hu => ?_⟩⟩
    rw [List.getElem?_map] at hu
    obtain ⟨a, ha, rfl⟩ := Option.map_eq_some_iff.1 hu
    have hj : j < l.length := (List.getElem?_eq_some_iff.1 ha).1
    rw [Nat.zero_add, Lib.bytesWorld_cell _ _ _ _ (by rw [hs]; exact hj)]
    simp [ha]
  · exact grownCap_ge W _ _ _
  · exact grownCap_le_maxLen W _ _ _ (by unfold maxLen; omega)
  · exact ⟨rfl, rfl, rfl, by rw [Lib.bytesWorld_size]; omega, fun k hk => Lib.bytesWorld_at_old W _ _ k hk⟩
/-- a digest's cells -/
theorem Dg.d_facts (K : List UInt32) (I : Dg.S) (l : List UInt8) : ((Dg.sum K I l).map Dg.b8).toArray.size = 32 ∧ ((Dg.sum K I l).map Dg.b8).toArray.all (·.oneCell') = true ∧
    (Tryd.prog.info? 23).map (·.size) = some ((Dg.sum K I l).map Dg.b8).toArray.size := by
  have h : ((Dg.sum K I l).map Dg.b8).toArray.size = 32 := by simp [Dg.sum_len]
  refine ⟨h, all_oneCell_toArray (one_bytes _), ?_⟩
  rw [h]
  kernel_rfl

set_option maxRecDepth 100000 in
set_option maxHeartbeats 2000000 in
/-- what package digest's Tagged leaves -/
theorem Dg.tagged_any (w : World) (tag : List UInt8) (A : Option Addr) (n c : Nat) (l : List UInt8) (K : List UInt32) (I : Dg.S) (hr : RdB w A n l) (hq : A = none → c = 0) (hn : n ≤ 1099511627776) (ht : tag.length ≤ 1000) (hG : Dg.G w K I) :
    Calls Tryd.prog 15 #[.string ⟨tag.toArray⟩, .slice A n c] w fun e w' => e = .returned (.agg ((Dg.tagged K I tag l).map Dg.b8).toArray) ∧ Below w.heap.size w w' := by
  have HR := Lib.hid hr
  have HQ := Lib.hid hq
  have HG := Lib.hid hG
  obtain ⟨hsz1, h1c1, hi1⟩ := Dg.d_facts K I tag
  obtain ⟨hsz2, h1c2, hi2⟩ := Dg.d_facts K I (Dg.sum K I tag ++ l)
  have HT1 := Lib.hid (Dg.sum_len K I tag)
  have HF := Lib.hid (show Dg.tagged K I tag l = Dg.sum K I (Dg.sum K I tag ++ l) from rfl)
  obtain ⟨d1, hd1⟩ : ∃ d1, Dg.sum K I tag = d1 := ⟨_, rfl⟩
  rw [hd1] at hsz1 h1c1 hi1 hsz2 h1c2 hi2 HT1 HF
  have HD1 := Lib.hid hd1
  obtain ⟨d2, hd2⟩ : ∃ d2, Dg.sum K I (d1 ++ l) = d2 := ⟨_, rfl⟩
  rw [hd2] at hsz2 h1c2 hi2 HF
  have HD2 := Lib.hid hd2
  obtain ⟨D1, hDD1⟩ : ∃ D, (d1.map Dg.b8).toArray = D := ⟨_, rfl⟩
  rw [hDD1] at hsz1 h1c1 hi1
  obtain ⟨D2, hDD2⟩ : ∃ D, (d2.map Dg.b8).toArray = D := ⟨_, rfl⟩
  rw [hDD2] at hsz2 h1c2 hi2
  have HDD1 := Lib.hid hDD1
  have HDD2 := Lib.hid hDD2
  have HS1 := Lib.hid hsz1
  have H11 := Lib.hid h1c1
  have HI1 := Lib.hid hi1
  have HS2b := Lib.hid hsz2
  have H12 := Lib.hid h1c2
  have HI2 := Lib.hid hi2
  rw [HF.out, hDD2]
  clear hr hq hG hd1 hd2 hDD1 hDD2 hsz1 h1c1 hi1 hsz2 h1c2 hi2
  go_enter Tryd.func15, Tryd.ntmps15
  go_upto_region 1 with fail
  obtain ⟨W0, hW0⟩ : ∃ W0, W0 = w.alloc (.cells Dg.z32.toArray 23) := ⟨_, rfl⟩
  have HB0 := Lib.hid (show Below w.heap.size w W0 from by rw [hW0]; exact (Below.refl _ w).alloc (Nat.le_refl _) _)
  have HZ0 := Lib.hid (show Has W0 w.heap.size 23 Dg.z32 from by rw [hW0]; exact Has.new _ _ _)
  change Code.wp _ _ _ _ (w.alloc (.cells Dg.z32.toArray 23))
  rw [← hW0]
  clear hW0
  obtain ⟨At, ct, W1, hcv, hrt, htc, hcm, hqt, hb1⟩ := Dg.conv tag (by omega) W0
  have HCV := Lib.hid hcv
  have HB1 := Lib.hid (HB0.out.trans (hb1.mono HB0.out.size))
  have HZ1 := Lib.hid (HZ0.out.keep hb1)
  have HS := Lib.hid (by have h := Dg.sum_any W1 At tag.length ct tag K I hrt htc hcm hqt (by omega) (HG.out.keep HB1.out); rw [HD1.out, HDD1.out] at h; exact h)
  clear hrt htc hcm hqt hb1
  go_wp2_with fail
  ((with_reducible refine HS.out.mono ?_); rintro e w2 ⟨rfl, hb2⟩)
  have HB2 := Lib.hid (HB1.out.trans (hb2.mono HB1.out.size))
  have HZ2 := Lib.hid (HZ1.out.keep hb2)
  clear hb2 hcv HCV
  have HN2 := Lib.hid (show (w2.alloc (.cells Dg.z32.toArray 23)).heap[w2.heap.size]? = some (.cells Dg.z32.toArray 23 (0, 0)) from World.alloc_heap_new _ _)
  go_wp2_with (first
    | (refine wpList_store_row (o := ⟨none, .store 23 (.tmp 5) (.tmp 8), _, _, _, _⟩) rfl 23 (.tmp 5) (.tmp 8) rfl w2.heap.size D1 rfl rfl 23 Dg.z32.toArray HN2.out HI1.out HS1.out.symm H11.out ?_))
  obtain ⟨w3, hw3⟩ : ∃ w3, w3 = ((w2.alloc (.cells Dg.z32.toArray 23)).setRow w2.heap.size D1).alloc (.cells #[.slice (some ⟨w2.heap.size, 0, none⟩) 32 32, .slice A n c] 24) := ⟨_, rfl⟩
  change Calls _ _ _ (((w2.alloc (.cells Dg.z32.toArray 23)).setRow w2.heap.size D1).alloc (.cells #[.slice (some ⟨w2.heap.size, 0, none⟩) 32 32, .slice A n c] 24)) _
  have hD3 : Has w3 w2.heap.size 23 (d1.map Dg.b8) := by
    rw [hw3]
    have h : Has ((w2.alloc (.cells Dg.z32.toArray 23)).setRow w2.heap.size D1) w2.heap.size 23 (d1.map Dg.b8) := by
      show _ = _
      rw [setRow_heap _ w2.heap.size _ D1 23 (0, 0) HN2.out, HDD1.out]
    exact h.alloc _
  have hP3 : Has w3 (w2.heap.size + 1) 24 [.slice (some ⟨w2.heap.size, 0, none⟩) 32 32, .slice A n c] := by
    rw [hw3]
    have h := Has.new ((w2.alloc (.cells Dg.z32.toArray 23)).setRow w2.heap.size D1) 24 [.slice (some ⟨w2.heap.size, 0, none⟩) 32 32, .slice A n c]
    rw [size_setRow, World.size_alloc] at h
    exact h
  have hB3 : Below w2.heap.size w2 w3 := by
    rw [hw3]
    exact (below_setRow ((Below.refl _ w2).alloc (Nat.le_refl _) _) (Nat.le_refl _) _).alloc (by simp) _
  rw [← hw3]
  clear hw3
  have HB3 := Lib.hid (HB2.out.trans (hB3.mono HB2.out.size))
  have HZ3 := Lib.hid (HZ2.out.keep hB3)
  have hrd1 : RdB w3 (some ⟨w2.heap.size, 0, none⟩) 32 d1 := by
    have h := Dg.rdb_of hD3 0 32 (by rw [HT1.out]; omega)
    rw [List.drop_zero, List.take_of_length_le (by rw [HT1.out]; omega)] at h
    exact h
  have HCC := Lib.hid (Dg.concat_any w3 (w2.heap.size + 1) (some ⟨w2.heap.size, 0, none⟩) A 32 32 n c 2 d1 l (hP3.cell 0) (hP3.cell 1) (Nat.le_refl _) hrd1 (HR.out.keep HB3.out) (fun e => by cases e) HQ.out (by omega) (by omega))
  clear hD3 hP3 hB3 hrd1
  ((with_reducible refine HCC.out.mono ?_); rintro e w4 ⟨v, rfl, hown, hb4⟩)
  obtain ⟨A4, c4, rfl⟩ := Dg.own_form hown
  have HB4 := Lib.hid (HB3.out.trans (hb4.mono HB3.out.size))
  have HZ4 := Lib.hid (HZ3.out.keep hb4)
  have hcap : 32 + n ≤ c4 ∧ c4 ≤ maxLen := by
    rcases hown.2 with ⟨e, h0⟩ | ⟨g, cap, cur, hv, _, _, h1, h2, _⟩
    · omega
    · injection hv with _ _ e3
      rw [e3]
      exact ⟨h1, h2⟩
  have HS2 := Lib.hid (by have h := Dg.sum_any w4 A4 (32 + n) c4 (d1 ++ l) K I (RdB.of_own hown) hcap.1 hcap.2 (own_nil hown) (by omega) (HG.out.keep HB4.out); rw [HD2.out, HDD2.out] at h; exact h)
  clear hown hb4 hcap
  go_wp2_with fail
  ((with_reducible refine HS2.out.mono ?_); rintro e w5 ⟨rfl, hb5⟩)
  have HB5 := Lib.hid (HB4.out.trans (hb5.mono HB4.out.size))
  have HZ5 := Lib.hid (show w5.heap[w.heap.size]? = some (.cells Dg.z32.toArray 23 (0, 0)) from HZ4.out.keep hb5)
  clear hb5
  go_wp2_with (first
    | (refine wpList_store_row (o := ⟨none, .store 23 (.tmp 4) (.tmp 13), _, _, _, _⟩) rfl 23 (.tmp 4) (.tmp 13) rfl w.heap.size D2 rfl rfl 23 Dg.z32.toArray HZ5.out HI2.out HS2b.out.symm H12.out ?_))
  have HF5 := Lib.hid (setRow_heap w5 w.heap.size _ D2 23 (0, 0) HZ5.out)
  refine bodyPost_ret (results_cell_row rfl _ _ w.heap.size 23 D2 (0, 0) _ rfl HF5.out Tryd.underlying23 rfl HI2.out) rfl ?_
  exact ⟨rfl, below_setRow HB5.out (Nat.le_refl _) _⟩
end Go.Proofs.YtideglpjgplpnaaDoor
