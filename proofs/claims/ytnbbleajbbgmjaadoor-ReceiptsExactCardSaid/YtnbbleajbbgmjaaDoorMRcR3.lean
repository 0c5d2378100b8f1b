import Derived.Test.YtnbbleajbbgmjaaDoorMRcR1
import Derived.Test.YtnbbleajbbgmjaaDoorMCdW7o
/- Contract of the reference's receipts: Digest. -/
namespace Go.Proofs.YtnbbleajbbgmjaaDoor
open Go.RowKit
set_option linter.unusedVariables false

set_option maxRecDepth 100000 in
set_option maxHeartbeats 8000000 in
theorem Rc.rdigest_any (no comp puz : Int) (A : Option Addr) (n c : Nat) (grid : List Int) (w : World) (hr : Rd w w.heap.size 1 A n (grid.map Rc.i)) (hn : n ≤ maxLen) :
    Calls Tryd.prog 13 #[Rc.sv no comp puz A n c] w fun e w' => e = .returned (.tuple #[.agg (Rc.dv Rc.K0 Rc.I0 no comp puz grid).toArray, .int .i64 (Rc.de no comp puz grid)]) ∧ Below w.heap.size w w' := by
  have hl : grid.length = n := by have := hr.1; simpa using this
  have HN := Lib.hid hn
  have HR := Lib.hid hr
  obtain ⟨W1, hW1⟩ : ∃ W1, W1 = (w.alloc (.cells #[Rc.i no, Rc.i comp, Rc.i puz, .slice A n c] 27)).alloc (.cells Dg.z32.toArray 31) := ⟨_, rfl⟩
  have HB1 := Lib.hid (show Below w.heap.size w W1 from by rw [hW1]; exact ((Below.refl _ w).alloc (Nat.le_refl _) _).alloc (by simp) _)
  have hX1 : Has W1 w.heap.size 27 [Rc.i no, Rc.i comp, Rc.i puz, .slice A n c] := by rw [hW1]; exact (Has.new w _ _).alloc _
  have hD1 : Has W1 (w.heap.size + 1) 31 Dg.z32 := by
    rw [hW1]
    have h := Has.new (w.alloc (.cells #[Rc.i no, Rc.i comp, Rc.i puz, .slice A n c] 27)) 31 Dg.z32
    rw [World.size_alloc] at h
    exact h
  have HX1 := Lib.hid hX1
  have HD1 := Lib.hid hD1
  have HO := Lib.hid (Rc.rvalid_any no comp puz A n c grid W1 ((Rd.below hr HB1.out (Nat.le_refl _)).more HB1.out.size) hn)
  have hi31 : (Tryd.prog.info? 31).map (·.size) = some 32 := by kernel_rfl
  have HI0 := Lib.hid (show (Tryd.prog.info? 31).map (·.size) = some Dg.z32.toArray.size from hi31)
  have H10 := Lib.hid (show Dg.z32.toArray.all (·.oneCell') = true from all_oneCell_toArray (by simp [Dg.z32, Value.oneCell']))
  clear hr hn hX1 hD1 hi31
  have x0 := HX1.out.cell 0
  have x1 := HX1.out.cell 1
  have x2 := HX1.out.cell 2
  have x3 := HX1.out.cell 3
  simp only [List.getElem?_cons_succ, List.getElem?_cons_zero] at x0 x1 x2 x3
  obtain ⟨D, hD⟩ : ∃ D, (Rc.dv Rc.K0 Rc.I0 no comp puz grid).toArray = D := ⟨_, rfl⟩
  obtain ⟨E, hE⟩ : ∃ E, Rc.de no comp puz grid = E := ⟨_, rfl⟩
  rw [hD, hE]
  have HDD := Lib.hid hD
  have HEE := Lib.hid hE
  clear hD hE
  go_enter Tryd.func13, Tryd.ntmps13
  go_upto_region 1 with fail
  change Code.wp _ _ _ _ ((w.alloc (.cells #[Rc.i no, Rc.i comp, Rc.i puz, .slice A n c] 27)).alloc (.cells Dg.z32.toArray 31))
  rw [← hW1]
  clear hW1
  cases ho : Rc.odd no comp puz grid with
  | true =>
    rw [ho, show (!true) = false from rfl] at HO
    have HDZ := Lib.hid (show D = Dg.z32.toArray from by rw [← HDD.out, Rc.dv, if_pos ho])
    have HE5 := Lib.hid (show E = 510 from by rw [← HEE.out, Rc.de, if_pos ho])
    clear ho
    go_wp2_with fail
    ((with_reducible refine HO.out.mono ?_); rintro e w2 ⟨rfl, hb2⟩)
    have HD2 := Lib.hid (show w2.heap[w.heap.size + 1]? = some (.cells Dg.z32.toArray 31 (0, 0)) from HD1.out.keep hb2)
    have HB2 := Lib.hid (HB1.out.trans (hb2.mono HB1.out.size))
    clear hb2 x0 x1 x2 x3
    go_wp2_with (first
      | (refine wpList_buildR rfl 31 _ rfl [] rfl _ _ (Dg.run_z32 _) ?_)
      | (refine wpList_store_row (o := ⟨none, .store 31 (.tmp 2) (.tmp 11), _, _, _, _⟩) rfl 31 (.tmp 2) (.tmp 11) rfl (w.heap.size + 1) Dg.z32.toArray rfl rfl 31 Dg.z32.toArray HD2.out HI0.out rfl H10.out ?_))
    have HF5 := Lib.hid (setRow_heap w2 (w.heap.size + 1) _ Dg.z32.toArray 31 (0, 0) HD2.out)
    refine bodyPost_ret (results_cell_row2 rfl _ _ (w.heap.size + 1) 31 Dg.z32.toArray (0, 0) _ rfl HF5.out Tryd.underlying31 rfl HI0.out) rfl ?_
    exact ⟨by rw [HE5.out, HDZ.out]; rfl, below_setRow HB2.out (by omega) _⟩
  | false =>
    rw [ho, show (!false) = true from rfl] at HO
    have HDZ := Lib.hid (show D = ((Rc.dig Rc.K0 Rc.I0 no comp puz grid).map Dg.b8).toArray from by rw [← HDD.out, Rc.dv, if_neg (by rw [ho]; decide)])
    have HE5 := Lib.hid (show E = 0 from by rw [← HEE.out, Rc.de, if_neg (by rw [ho]; decide)])
    have HOK := Lib.hid (Rc.odd_no ho)
    have HGL := Lib.hid HOK.out.2.2.2.1
    clear ho
    go_wp2_with fail
    ((with_reducible refine HO.out.mono ?_); rintro e w2 ⟨rfl, hb2⟩)
    have HD2 := Lib.hid (HD1.out.keep hb2)
    have HX2 := Lib.hid (HX1.out.keep hb2)
    have HB2 := Lib.hid (HB1.out.trans (hb2.mono HB1.out.size))
    have hz0 : w.heap.size + 1 < w2.heap.size := HD2.out.lt
    clear hb2 x0 x1 x2 x3
    have x0 := HX2.out.cell 0
    have x1 := HX2.out.cell 1
    have x2 := HX2.out.cell 2
    have x3 := HX2.out.cell 3
    simp only [List.getElem?_cons_succ, List.getElem?_cons_zero] at x0 x1 x2 x3
    have hz1 : w.heap.size < w2.heap.size := by omega
    go_upto_region 4 with fail
    obtain ⟨gg, hgg⟩ : ∃ gg, gg = w2.heap.size := ⟨_, rfl⟩
    obtain ⟨W4, hW4⟩ : ∃ W4, W4 = w2.alloc (.cells #[.int .i64 3, .int .i64 0, .string ⟨#[]⟩, .slice none 0 0] 62) := ⟨_, rfl⟩
    have HV4 := Lib.hid (show Has W4 gg 62 [.int .i64 3, .int .i64 0, .string ⟨#[]⟩, .slice none 0 0] from by rw [hW4, hgg]; exact Has.new w2 _ _)
    have HB4 := Lib.hid (show Below gg w2 W4 from by rw [hW4, hgg]; exact (Below.refl _ w2).alloc (Nat.le_refl _) _)
    have HZ4 := Lib.hid (show gg + 1 ≤ W4.heap.size from by rw [hW4, hgg]; simp)
    rw [← hW4, ← hgg]
    rw [← hgg] at hz0 hz1
    have HGG := Lib.hid hgg
    clear hW4 hgg x0 x1 x2 x3
    have hnm : n ≤ 9223372036854775807 := by have := HN.out; unfold maxLen at this; omega
    have HEI := Lib.hid (enters_of Tryd.func30 (by kernel_rfl) rfl)
    go_wp2_with fail
    go_loopw [5] (fun i wr => ∃ (k : Nat) (V : Value), k ≤ n ∧ i = .int .i64 k ∧ Has wr gg 62 [.int .i64 3, .int .i64 0, .string ⟨#[]⟩, V] ∧ wr.ownsRow (gg + 1) 62 4 V k (Rc.ics (grid.take k)) ∧
      Below gg w2 wr ∧ gg + 1 ≤ wr.heap.size) (fun i _ => n - (intOf i).toNat)
    case atStart => exact ⟨0, .slice none 0 0, by omega, rfl, HV4.out, ⟨rfl, .inl ⟨rfl, rfl⟩⟩, HB4.out, HZ4.out⟩
    case round =>
      clear HV4 HB4 HZ4
      obtain ⟨k, V, hk, rfl, hV, hO, hB, hZ⟩ := hrel
      have HBW := Lib.hid (HB2.out.trans (hB.mono (by omega)))
      have hXr := HX2.out.below hB hz1
      have x3 := hXr.cell 3
      simp only [List.getElem?_cons_succ, List.getElem?_cons_zero] at x3
      by_cases hlt : k < n
      · obtain ⟨b, off, rfl, hbB, hcell⟩ := HR.out.addr (by omega)
        have hgl := hl
        have htk : Rc.ics (grid.take (k + 1)) = Rc.ics (grid.take k) ++ Rc.ic (grid.getD k 0) := by
          rw [List.take_add_one, List.getElem?_eq_getElem (by omega), Option.toList_some, Rc.ics_snoc]
          simp [List.getElem?_eq_getElem (show k < grid.length by omega)]
        have hx : wr.cell? ⟨b, off + k, none⟩ = some (Rc.i (grid.getD k 0)) := (HBW.out.cell (p := ⟨b, off + k, none⟩) hbB).trans (hcell k _ (by rw [List.getElem?_map, List.getElem?_eq_getElem (by omega)]; simp [List.getElem?_eq_getElem (show k < grid.length by omega)]))
        generalize grid.getD k 0 = x at hx htk
        obtain ⟨Aw, cw, rfl⟩ := Dg.own_form hO
        have c3 := hV.cell 3
        simp only [List.getElem?_cons_succ, List.getElem?_cons_zero] at c3
        have HTK := Lib.hid htk
        have HV2 := Lib.hid hV
        have HOr := Lib.hid hO
        have HBr := Lib.hid hB
        have HZr := Lib.hid hZ
        have hzl : gg < wr.heap.size := by omega
        have hkn : k ≤ 256 := by have := HGL.out; omega
        have HNE := Lib.hid (show ∀ g, (Value.slice Aw k cw).ownBlock = some g → gg + 1 ≤ g from fun g e => own_ge HOr.out e)
        have HCI := Lib.hid (Cd.rint_any x wr.drew)
        have H1 := Lib.hid (show ∀ u ∈ Rc.ic x, u.oneCell' = true from by simp [Rc.ic, Value.oneCell'])
        have HFA := Lib.hid (show ∀ w5, Below wr.drew.heap.size wr.drew w5 → Below wr.heap.size wr w5 ∧ gg < w5.heap.size ∧ w5.cell? ⟨gg, 3, none⟩ = some (.slice Aw k cw) ∧ (w5.alloc (.cells (Rc.ic x).toArray 62)).ownsRow (gg + 1) 62 4 (.slice Aw k cw) k (Rc.ics (grid.take k)) ∧
            gg + 1 ≤ (w5.alloc (.cells (Rc.ic x).toArray 62)).heap.size from fun w5 hb => by
          have hb' : Below wr.heap.size wr w5 := (Below.refl _ _).drew.trans hb
          have h1 := HV2.out.keep hb'
          refine ⟨hb', h1.lt, h1.cell 3, own_below HOr.out (hb'.alloc hb'.size _), ?_⟩
          have := HZr.out
          have := hb'.size
          rw [World.size_alloc]
          omega)
        clear hV hO hB htk hcell hgl hXr
        go_wp2_with fail
        go_region_law (first
          | (refine step_callR1 _ 30 (.tmp 26) _ (Rc.i x) (by rfl) (by rfl) HEI.out (by rfl) HCI.out (fun e w' h => ⟨_, h.1⟩) ?_; rintro v5 w5 ⟨hv5, hb5⟩; injection hv5 with hv5; subst hv5; obtain ⟨hbW, hz5, c35, ho5, hs5⟩ := HFA.out w5 hb5; have HBW5 := Lib.hid hbW; have HO5 := Lib.hid ho5; have HS5 := Lib.hid hs5; clear hb5 hbW ho5 hs5)
          | (refine step_append_rd (by rfl) (.tmp 21) (.tmp 28) (by rfl) Rc.elV (by rfl) HO5.out (by rfl) (rd_new w5 62 4 (Rc.ic x) rfl) H1.out (fun e => by cases e) (by unfold maxLen; omega) (by omega) HS5.out ?_; intro v6 w6 hG6; obtain ⟨A6, c6, rfl⟩ := Dg.own_form hG6.own; have hV6 := ((HV2.out.keep HBW5.out).alloc (.cells (Rc.ic x).toArray 62)).grown hG6.grown (fun e => by have := HNE.out gg e; omega); have c36 : w6.cell? ⟨gg, 3, none⟩ = some (.slice Aw k cw) := hV6.cell 3; have f36 := hV6.frozen 3; have HV6 := Lib.hid hV6; have HG6 := Lib.hid hG6; clear hV6 hG6))
        all_goals (
          have HBA := Lib.hid (((HBr.out.trans (HBW5.out.mono (Nat.le_of_lt hzl))).alloc (Nat.le_of_lt hz5) (.cells (Rc.ic x).toArray 62)).grown HG6.out.grown (by have := HS5.out; omega) (fun g e => by have := HNE.out g e; omega))
          have hz6 : gg + 1 ≤ w6.heap.size := Nat.le_trans HS5.out HG6.out.grown.size
          have h6 : Has (w6.setCell ⟨gg, 3, none⟩ (.slice A6 (k + 1) c6)) gg 62 [.int .i64 3, .int .i64 0, .string ⟨#[]⟩, .slice A6 (k + 1) c6] := HV6.out.set 3 _
          have o6 := own_far HG6.out.own (p := ⟨gg, 3, none⟩) (by show gg < gg + 1; omega) (.slice A6 (k + 1) c6)
          go_wp2_with fail
          exact ⟨⟨k + 1, _, by omega, by go_num, h6, by rw [HTK.out]; exact o6, HBA.out.setCell (p := ⟨gg, 3, none⟩) (Nat.le_refl _) _, by simpa using hz6⟩, by simp [intOf]; omega⟩)
      · have hkn : k = n := by omega
        rw [hkn, ← hl, List.take_length, hl] at hO
        obtain ⟨Aw, cw, rfl⟩ := Dg.own_form hO
        have x0 := hXr.cell 0
        have x1 := hXr.cell 1
        have x2 := hXr.cell 2
        have c0 := hV.cell 0
        have c1 := hV.cell 1
        have c2 := hV.cell 2
        have c3 := hV.cell 3
        simp only [List.getElem?_cons_succ, List.getElem?_cons_zero] at x0 x1 x2 c0 c1 c2 c3
        have HOr := Lib.hid hO
        have HZr := Lib.hid hZ
        have hzl : gg < wr.heap.size := by omega
        have hws : w.heap.size < wr.heap.size := by omega
        have HD6 := Lib.hid (HD2.out.below hB hz0)
        have hsm := Rc.sub_small no comp puz grid (by have := HGL.out; omega)
        have HEN := Lib.hid (show ∀ W0 W' : World, Below wr.heap.size wr W0 → Below (W0.alloc (.cells #[.int .i64 1, .int .i64 no, .string ⟨#[]⟩, .slice none 0 0, .int .i64 1, .int .i64 comp, .string ⟨#[]⟩, .slice none 0 0, .int .i64 1, .int .i64 puz, .string ⟨#[]⟩, .slice none 0 0, .int .i64 3, .int .i64 0, .string ⟨#[]⟩, .slice Aw n cw] 62)).heap.size (W0.alloc (.cells #[.int .i64 1, .int .i64 no, .string ⟨#[]⟩, .slice none 0 0, .int .i64 1, .int .i64 comp, .string ⟨#[]⟩, .slice none 0 0, .int .i64 1, .int .i64 puz, .string ⟨#[]⟩, .slice none 0 0, .int .i64 3, .int .i64 0, .string ⟨#[]⟩, .slice Aw n cw] 62)) W' →
            Calls Tryd.prog 31 #[.agg #[.int .i64 3, .int .i64 0, .string ⟨#[]⟩, .slice (some ⟨W0.heap.size, 0, none⟩) 4 4]] W' fun e w'' => ∃ v, e = .returned (.tuple #[v, .int .i64 0]) ∧ Below W'.heap.size W' w'' ∧ w''.ownsRow W'.heap.size 5 1 v (Rc.sub no comp puz grid).enc.length ((Rc.sub no comp puz grid).enc.map fun a => Value.int .u8 (a.toNat : Int)) from fun W0 W' hb0 hb1 => by
          have hV6 : W'.ownsRow W0.heap.size 62 4 (.slice (some ⟨W0.heap.size, 0, none⟩) 4 4) 4 (Rc.ics [no, comp, puz] ++ [.int .i64 3, .int .i64 0, .string ⟨#[]⟩, .slice Aw n cw]) := own_below (World.ownsRow_lit (base := W0.heap.size) (e := 62) (size := 4) W0 (Rc.ics [no, comp, puz] ++ ([.int .i64 3, .int .i64 0, .string ⟨#[]⟩, .slice Aw n cw] : List Value)).toArray 4 (Nat.le_refl _) (by decide) rfl) hb1
          have hO6 : W'.ownsRow (gg + 1) 62 4 (.slice Aw n cw) n (Rc.ics grid) := own_below (own_below HOr.out (hb0.alloc hb0.size _)) hb1
          have hC6 := Rc.cell_sub hV6 (Rc.cell_ints hO6 hl (fun x hx => by have := HOK.out.2.2.2.2 x hx; unfold Rc.in64; omega)) (by have := HOK.out.1; unfold Rc.in64; omega) (by have := HOK.out.2.1; unfold Rc.in64; omega) (by have := HOK.out.2.2.1; unfold Rc.in64; omega)
          have h := Cd.rencode2_any (Rc.sub no comp puz grid) _ W' hsm.1 hC6 hsm.2
          unfold Cd.RetE at h
          rw [Rc.sub_chk, show Cd.out (Rc.sub no comp puz grid) = (Rc.sub no comp puz grid).enc from by unfold Cd.out; rw [if_pos (Rc.sub_chk no comp puz grid)]] at h
          exact h)
        have HSM := Lib.hid hsm.2
        have HDG := Lib.hid (show Rc.dig Rc.K0 Rc.I0 no comp puz grid = Dg.tagged Rc.K0 Rc.I0 Rc.tag (Rc.sub no comp puz grid).enc from rfl)
        have HLD := Lib.hid (show (Rc.dig Rc.K0 Rc.I0 no comp puz grid).length = 32 from Dg.sum_len _ _ _)
        generalize Rc.dig Rc.K0 Rc.I0 no comp puz grid = G at HDG HLD HDZ
        generalize (Rc.sub no comp puz grid).enc = L at HEN HSM HDG
        have hbW : Below wr.heap.size wr wr.drew := (Below.refl _ _).drew
        have HKP := Lib.hid (show ∀ W', Below wr.heap.size wr W' → (W'.cell? ⟨w.heap.size, 0, none⟩ = some (Rc.i no) ∧ W'.cell? ⟨w.heap.size, 1, none⟩ = some (Rc.i comp) ∧ W'.cell? ⟨w.heap.size, 2, none⟩ = some (Rc.i puz) ∧ W'.cell? ⟨gg, 0, none⟩ = some (.int .i64 3) ∧ W'.cell? ⟨gg, 1, none⟩ = some (.int .i64 0) ∧ W'.cell? ⟨gg, 2, none⟩ = some (.string ⟨#[]⟩) ∧ W'.cell? ⟨gg, 3, none⟩ = some (.slice Aw n cw)) from fun W' h =>
          ⟨(h.cell (p := ⟨w.heap.size, 0, none⟩) hws).trans x0, (h.cell (p := ⟨w.heap.size, 1, none⟩) hws).trans x1, (h.cell (p := ⟨w.heap.size, 2, none⟩) hws).trans x2, (h.cell (p := ⟨gg, 0, none⟩) hzl).trans c0, (h.cell (p := ⟨gg, 1, none⟩) hzl).trans c1, (h.cell (p := ⟨gg, 2, none⟩) hzl).trans c2, (h.cell (p := ⟨gg, 3, none⟩) hzl).trans c3⟩)
        clear hV hO hsm hkn
        go_upto_region 8 with fail
        go_region_held3 (fun W' => W'.cell? ⟨w.heap.size, 0, none⟩ = some (Rc.i no) ∧ W'.cell? ⟨w.heap.size, 1, none⟩ = some (Rc.i comp) ∧ W'.cell? ⟨w.heap.size, 2, none⟩ = some (Rc.i puz) ∧ W'.cell? ⟨gg, 0, none⟩ = some (.int .i64 3) ∧ W'.cell? ⟨gg, 1, none⟩ = some (.int .i64 0) ∧ W'.cell? ⟨gg, 2, none⟩ = some (.string ⟨#[]⟩) ∧ W'.cell? ⟨gg, 3, none⟩ = some (.slice Aw n cw))
          (first
            | exact HKP.out _ hbW8
            | exact HKP.out _ hbW7
            | exact HKP.out _ hbW6
            | exact HKP.out _ hbW
            | exact HKP.out _ (hbW.alloc hbW.size _))
          (first
            | (go_at_call 30; (with_reducible refine (Cd.rint_any no _).mono ?_); rintro e w5 ⟨rfl, hb5⟩; have hbW := hbW.trans (hb5.mono hbW.size))
            | (go_at_call 30; (with_reducible refine (Cd.rint_any comp _).mono ?_); rintro e w5 ⟨rfl, hb5⟩; have hbW := hbW.trans (hb5.mono hbW.size))
            | (go_at_call 30; (with_reducible refine (Cd.rint_any puz _).mono ?_); rintro e w5 ⟨rfl, hb5⟩; have hbW := hbW.trans (hb5.mono hbW.size))
            | (go_at_call 32; (with_reducible refine (Cd.rlist_any _ 4 4 _).mono ?_); rintro e w6 ⟨rfl, hb6⟩; have hbW6 := (hbW.alloc hbW.size _).trans (hb6.mono (hbW.alloc hbW.size _).size))
            | (go_at_call 31; refine (HEN.out _ _ hbW hb6).mono ?_; rintro e w7 ⟨v, rfl, hb7, ho7⟩; have hbW7 := hbW6.trans (hb7.mono hbW6.size)))
        all_goals (
          have HB7 := Lib.hid (HBW.out.trans (hbW7.mono HBW.out.size))
          have HD7 := Lib.hid (HD6.out.keep hbW7)
          obtain ⟨A7, c7, rfl⟩ := Dg.own_form ho7
          have HTG := Lib.hid (by
            have h := Dg.rtag_any w7 Rc.tag A7 L.length c7 L (RdB.of_own ho7) (own_nil ho7) (by have := HSM.out; omega) (by decide)
            rw [← HDG.out, ← HDZ.out] at h
            exact h)
          clear hb5 hb6 hb7 ho7 hbW hbW6 hbW7 x0 x1 x2 x3 c0 c1 c2 c3
          go_wp2_with fail
          ((with_reducible refine HTG.out.mono ?_); rintro e w8 ⟨rfl, hb8⟩)
          have HB8 := Lib.hid (HB7.out.trans (hb8.mono HB7.out.size))
          have HD8 := Lib.hid (show w8.heap[w.heap.size + 1]? = some (.cells Dg.z32.toArray 31 (0, 0)) from HD7.out.keep hb8)
          have hds : D.size = 32 := by rw [HDZ.out]; simp [HLD.out]
          have hi31 : (Tryd.prog.info? 31).map (·.size) = some D.size := by rw [hds]; kernel_rfl
          have HI8 := Lib.hid hi31
          have HS8 := Lib.hid (show Dg.z32.toArray.size = D.size from by rw [hds]; rfl)
          have H18 := Lib.hid (show D.all (·.oneCell') = true from by rw [HDZ.out]; exact all_oneCell_toArray (one_bytes _))
          clear hb8 hds hi31
          go_wp2_with (first
            | (refine wpList_store_row (o := ⟨none, .store 31 (.tmp 2) (.tmp 48), _, _, _, _⟩) rfl 31 (.tmp 2) (.tmp 48) rfl (w.heap.size + 1) D rfl rfl 31 Dg.z32.toArray HD8.out HI8.out HS8.out H18.out ?_))
          have HF8 := Lib.hid (setRow_heap w8 (w.heap.size + 1) _ D 31 (0, 0) HD8.out)
          refine bodyPost_ret (results_cell_row2 rfl _ _ (w.heap.size + 1) 31 D (0, 0) _ rfl HF8.out Tryd.underlying31 rfl HI8.out) rfl ?_
          exact ⟨by rw [HE5.out]; rfl, below_setRow HB8.out (by omega) _⟩)
end Go.Proofs.YtnbbleajbbgmjaaDoor
/- Contracts of the reference's receipts: after. -/
namespace Go.Proofs.YtnbbleajbbgmjaaDoor
open Go.RowKit
set_option linter.unusedVariables false

theorem Rc.late_not (y x : Rc.R) : (!Rc.late y x) = (decide (y.no < x.no) || (decide (y.no = x.no) && decide (y.rf < x.rf))) := by
  unfold Rc.late
  by_cases h1 : x.no < y.no
  · rw [decide_eq_true h1, decide_eq_false (show ¬ y.no < x.no by omega), decide_eq_false (show ¬ y.no = x.no by omega)]; rfl
  · by_cases h2 : y.no = x.no
    · rw [decide_eq_false h1, decide_eq_true h2, decide_eq_false (show ¬ y.no < x.no by omega)]
      by_cases h3 : x.rf ≤ y.rf
      · rw [decide_eq_true h3, decide_eq_false (show ¬ y.rf < x.rf by omega)]; rfl
      · rw [decide_eq_false h3, decide_eq_true (show y.rf < x.rf by omega)]; rfl
    · rw [decide_eq_false h1, decide_eq_false h2, decide_eq_true (show y.no < x.no by omega)]; rfl
set_option maxHeartbeats 2000000 in
theorem Rc.rafter_any (y x : Rc.R) (w : World) (hy : y.dg.length = 32) (hx : x.dg.length = 32) :
    Calls Tryd.prog 43 #[.agg y.cells.toArray, .agg x.cells.toArray] w fun e w' => e = .returned (.bool (!Rc.late y x)) ∧ Below w.heap.size w w' := by
  obtain ⟨W2, hW2⟩ : ∃ W2, W2 = (w.alloc (.cells y.cells.toArray 47)).alloc (.cells x.cells.toArray 47) := ⟨_, rfl⟩
  have HB := Lib.hid (show Below w.heap.size w W2 from by rw [hW2]; exact below_two w _ _)
  have hY : Has W2 w.heap.size 47 y.cells := by rw [hW2]; exact (Has.new w _ _).alloc _
  have hX : Has W2 (w.heap.size + 1) 47 x.cells := by
    rw [hW2]
    have h := Has.new (w.alloc (.cells y.cells.toArray 47)) 47 x.cells
    rw [World.size_alloc] at h
    exact h
  have y0 : W2.cell? ⟨w.heap.size, 0, none⟩ = some (Rc.i y.rf) := hY.cell 0
  have y1 : W2.cell? ⟨w.heap.size, 1, none⟩ = some (Rc.i y.no) := hY.cell 1
  have x0 : W2.cell? ⟨w.heap.size + 1, 0, none⟩ = some (Rc.i x.rf) := hX.cell 0
  have x1 : W2.cell? ⟨w.heap.size + 1, 1, none⟩ = some (Rc.i x.no) := hX.cell 1
  have HQ := Lib.hid (Rc.late_not y x)
  generalize (!Rc.late y x) = q at HQ ⊢
  clear hX hY
  go_enter Tryd.func43, Tryd.ntmps43
  go_upto_region 1 with fail
  change Code.wp _ _ _ _ ((w.alloc (.cells y.cells.toArray 47)).alloc (.cells x.cells.toArray 47))
  rw [← hW2]
  clear hW2
  by_cases h1 : y.no < x.no
  · have HE := Lib.hid (show q = true from by rw [HQ.out, decide_eq_true h1]; rfl)
    have hd1 : decide (y.no < x.no) = true := decide_eq_true h1
    go_wp2_with fail
    go_ret
    exact ⟨by rw [HE.out]; rfl, HB.out⟩
  · have hd1 : decide (y.no < x.no) = false := decide_eq_false h1
    by_cases h2 : y.no = x.no
    · have hd2 : (y.no == x.no) = true := by simpa using h2
      have HE := Lib.hid (show q = decide (y.rf < x.rf) from by rw [HQ.out, decide_eq_false h1, decide_eq_true h2]; rfl)
      clear h2
      go_wp2_with fail
      go_ret
      exact ⟨by rw [HE.out]; rfl, HB.out⟩
    · have hd2 : (y.no == x.no) = false := by simpa using h2
      have HE := Lib.hid (show q = false from by rw [HQ.out, decide_eq_false h1, decide_eq_false h2]; rfl)
      go_wp2_with fail
      go_ret
      exact ⟨by rw [HE.out]; rfl, HB.out⟩
end Go.Proofs.YtnbbleajbbgmjaaDoor
