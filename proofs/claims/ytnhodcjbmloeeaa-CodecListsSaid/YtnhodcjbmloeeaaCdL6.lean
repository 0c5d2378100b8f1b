/- The law CodecLists returns true. -/
import Derived.Test.YtnhodcjbmloeeaaCdL6a
namespace Go.Proofs.Ytnhodcjbmloeeaa
open Go.RowKit Go.Shelf
set_option linter.unusedVariables false

set_option maxRecDepth 100000 in
set_option maxHeartbeats 8000000 in
theorem Cd.law6 (A : Option Addr) (c : Nat) (l : List Cd.T) (xss : List (List Value)) (w : World) (hv : Cd.Vals w A c l xss) :
    Calls Try.prog 8 #[.slice A l.length c] w fun e w' => e = .returned (.bool true) ∧ Below w.heap.size w w' := by
  have HV := Lib.hid hv
  have hm : l.length ≤ 9223372036854775807 := by have h1 := hv.le; have h2 := hv.mx; unfold maxLen at h2; omega
  clear hv
  go_enter Try.func8, Try.ntmps8
  go_wp2_with fail
  ((with_reducible refine (Cd.sane_any _).mono ?_); rintro e w1 ⟨rfl, hb1⟩)
  have V1 := Lib.hid (HV.out.keep hb1)
  have HB1 := Lib.hid hb1
  clear hb1
  have HF := Lib.hid (Cd.fews_any A c l xss w1 V1.out)
  go_wp2_with fail
  ((with_reducible refine HF.out.mono ?_); rintro e w2 ⟨v, rfl, hq, hb2⟩)
  have V2 := Lib.hid (V1.out.keep hb2)
  have HB2 := Lib.hid (HB1.out.trans (hb2.mono HB1.out.size))
  have HQ := Lib.hid hq
  clear hb2 hq
  cases v with
  | false =>
    go_wp2_with fail
    go_ret
    exact ⟨rfl, HB2.out⟩
  | true =>
  by_cases hbig : 20 < l.length
  · have hd : decide ((20 : Int) < (l.length : Int)) = true := decide_eq_true (by omega)
    go_wp2_with fail
    go_ret
    exact ⟨rfl, HB2.out⟩
  have hd : decide ((20 : Int) < (l.length : Int)) = false := decide_eq_false (by omega)
  have hl20 : l.length ≤ 20 := by omega
  have HQ2 := Lib.hid (HQ.out rfl)
  have HSM := Lib.hid (Cd.small_list hl20 HQ2.out)
  have HEN := Lib.hid (show ∀ w', Cd.Vals w' A c l xss → Calls Try.prog 12 #[.agg #[.int .i64 3, .int .i64 0, .string ⟨#[]⟩, .slice A l.length c]] w' (Cd.RetE w' (.mk 3 0 [] l)) from fun w' h => Cd.encode_any (.mk 3 0 [] l) _ w' HSM.out.1 h.list HSM.out.2.1)
  clear hbig
  go_wp2_with fail
  clear hd
  have HT0 := Lib.hid (show Cd.Tw w2 w2 (.slice none 0 0) (.slice none 0 0) [] 0 from ⟨Below.refl _ _, World.ownsRow_nil _ _ _ _, World.ownsRow_nil _ _ _ _, fun g e => by cases e⟩)
  go_loopw [3, 4, 5, 31] (fun v3 v4 s i wr => ∃ j : Nat, j ≤ l.length ∧ i = .int .i64 j ∧ (∀ x ∈ l.take j, Cd.chkE x = 0) ∧ s = .int .i64 ((Cd.T.encs (l.take j)).length : Nat) ∧ Cd.Tw w2 wr v3 v4 (Cd.T.encs (l.take j)) j) (fun _ _ _ i _ => l.length - (intOf i).toNat)
  case atStart => exact ⟨0, by omega, rfl, by simp, by simp [Cd.T.encs], by simpa [Cd.T.encs] using HT0.out⟩
  case round =>
    obtain ⟨j, hj, rfl, hall, rfl, hT⟩ := hrel
    have HAL := Lib.hid hall
    have HT := Lib.hid hT
    have Vr := Lib.hid (V2.out.keep hT.below)
    clear hall hT
    by_cases hlt : j < l.length
    · have hvr := Vr.out
      obtain ⟨b, off, Av, cv, rfl, hbw, hcv, e0, e1, e2, e3⟩ := Cd.cellB4 hvr.xlen hvr.cells hvr.rd j hlt
      have hmem : l[j]! ∈ l := by rw [getElem!_pos l j hlt]; exact List.getElem_mem _
      have HXS := Lib.hid (HQ2.out _ hmem)
      have HBD := Lib.hid (fun h : Cd.chkE l[j]! ≠ 0 => Cd.chk_bad hmem h)
      have HTK := Lib.hid (show l.take (j + 1) = l.take j ++ [l[j]!] by rw [List.take_succ_eq_append_getElem hlt, getElem!_pos l j hlt])
      have HEL := Lib.hid (show (Cd.T.encs (l.take j)).length + (l[j]!).enc.length ≤ 840000 by have h1 := Cd.T.encs_take l j hlt; have h2 := HSM.out.2.2; omega)
      have HES := Lib.hid (show Cd.T.encs (l.take (j + 1)) = Cd.T.encs (l.take j) ++ (l[j]!).enc by rw [HTK.out, Cd.T.encs_snoc])
      have HC := Lib.hid hcv
      clear hcv hmem hvr
      generalize l[j]! = x at HXS HBD HTK HEL HES HC e0 e1 e2 e3
      go_upto_region 11 with fail
      obtain ⟨w3, hw3⟩ : ∃ w3, w3 = wr.alloc (.cells #[.int .i64 x.k, .int .i64 x.n, .string ⟨x.s.toArray⟩, .slice Av x.l.length cv] 24) := ⟨_, rfl⟩
      have X3 := Lib.hid (show Cd.Bx w3 wr.heap.size x Av cv by rw [hw3]; exact Cd.Bx.new HC.out)
      have HBA := Lib.hid (show Below wr.heap.size wr w3 by rw [hw3]; exact (Below.refl _ _).alloc (Nat.le_refl _) _)
      try rw [← hw3]
      clear hw3 e0 e1 e2 e3
      obtain ⟨z0, c0, c1, c2, c3⟩ := X3.out.facts
      have HE := Lib.hid (Cd.encode_any x _ w3 (by have := HXS.out.1; omega) X3.out.cell (by have := HXS.out.2; omega))
      go_wp2_with fail
      ((with_reducible refine HE.out.mono ?_); rintro e w4 ⟨v4, rfl, hb4, ho4⟩)
      obtain ⟨A4, d4, rfl⟩ := own_slice ho4
      have HO4 := Lib.hid (RdB.of_own ho4)
      have HN4 := Lib.hid (own_nil ho4)
      have X4 := Lib.hid (X3.out.keep hb4)
      have HB4 := Lib.hid (HBA.out.trans (hb4.mono HBA.out.size))
      clear hb4 ho4 z0 c0 c1 c2 c3
      obtain ⟨z0, c0, c1, c2, c3⟩ := X4.out.facts
      have HE := Lib.hid (Cd.size_any x _ w4 (by have := HXS.out.1; omega) X4.out.cell (by have := HXS.out.2; omega))
      go_wp2_with fail
      ((with_reducible refine HE.out.mono ?_); rintro e w5 ⟨rfl, hb5⟩)
      have HO5 := Lib.hid (HO4.out.keep hb5)
      have HB5 := Lib.hid (HB4.out.trans (hb5.mono HB4.out.size))
      clear hb5 z0 c0 c1 c2 c3
      have hkk : (Cd.chkE x != Cd.chkE x) = false := by simp
      have hoo : (((Cd.out x).length : Int) != ((Cd.out x).length : Int)) = false := by simp
      by_cases hkx : Cd.chkE x = 0
      · have hox : Cd.out x = x.enc := by unfold Cd.out; rw [if_pos hkx]
        have HKX := Lib.hid hkx
        rw [hox] at HO5 hoo ⊢
        rw [hkx]
        have hel := HEL.out
        have HT5 := Lib.hid (HT.out.keep HB5.out)
        have hz5 : w2.heap.size ≤ w5.heap.size := HT5.out.below.size
        clear hkk hkx hox
        go_wp2_with (at_builtin; refine wpList_append_rd rfl _ _ rfl el27 rfl HT5.out.o3 rfl HO5.out (one_bytes _) HN4.out (by simp only [maxLen]; omega) (by omega) hz5 ?_; intro v6 w6 hG6)
        have HT6 := Lib.hid (HT5.out.grow3 hG6)
        clear hG6
        ((with_reducible refine (Cd.rint_any 0 _).mono ?_); rintro e w7 ⟨rfl, hb7⟩)
        have HT7 := Lib.hid (HT6.out.keep hb7)
        clear hb7
        have HT8 := Lib.hid (HT7.out.keep ((Below.refl _ _).alloc (Nat.le_refl _) (.cells #[.int .i64 1, .int .i64 0, .string ⟨#[]⟩, .slice none 0 0] 24)))
        have HR8 := Lib.hid (rd_new w7 24 4 [.int .i64 1, .int .i64 0, .string ⟨#[]⟩, .slice none 0 0] rfl)
        have hz8 : w2.heap.size ≤ (w7.alloc (.cells #[.int .i64 1, .int .i64 0, .string ⟨#[]⟩, .slice none 0 0] 24)).heap.size := HT8.out.below.size
        have H1C := Lib.hid (show ∀ u ∈ [Value.int .i64 1, .int .i64 0, .string ⟨#[]⟩, .slice none 0 0], u.oneCell' = true by simp [Value.oneCell'])
        go_wp2_with (at_builtin; refine wpList_append_rd rfl _ _ rfl elV rfl HT8.out.o4 rfl HR8.out H1C.out (fun h => by (cases h)) (by simp only [maxLen]; omega) (by omega) hz8 ?_; intro v9 w9 hG9)
        have HT9 := Lib.hid (HT8.out.grow4 hG9)
        have HA2 := Lib.hid (show ∀ y ∈ l.take (j + 1), Cd.chkE y = 0 by
          intro y hy
          rw [HTK.out] at hy
          rcases List.mem_append.1 hy with hy | hy
          · exact HAL.out y hy
          · rw [List.mem_singleton.1 hy]; exact HKX.out)
        have HSS := Lib.hid (show (((Cd.T.encs (l.take (j + 1))).length : Nat) : Int) = ((Cd.T.encs (l.take j)).length : Int) + (x.enc.length : Int) by rw [HES.out, List.length_append]; omega)
        clear hG9
        go_wp2_with fail
        exact ⟨⟨j + 1, by omega, by go_num, HA2.out, by rw [HSS.out], by rw [HES.out]; exact HT9.out⟩, by simp [intOf]; omega⟩
      · have hne : (Cd.chkE x != 0) = true := by simpa using hkx
        have heq : (Cd.chkE x == 0) = false := by simpa using hkx
        have HNE := Lib.hid (HBD.out hkx)
        have HT5 := Lib.hid (HT.out.keep HB5.out)
        have V5 := Lib.hid (V2.out.keep HT5.out.below)
        clear hkx
        go_wp2_with fail
        ((with_reducible refine (Cd.rlist_any _ l.length c _).mono ?_); rintro e w6 ⟨rfl, hb6⟩)
        have V6 := Lib.hid (V5.out.keep hb6)
        have HB6 := Lib.hid (HT5.out.keep hb6)
        clear hb6
        go_wp2_with fail
        have HE6 := Lib.hid (HEN.out w6 V6.out)
        ((with_reducible refine HE6.out.mono ?_); rintro e w7 ⟨v7, rfl, hb7, ho7⟩)
        have HB7 := Lib.hid (HB6.out.keep hb7)
        have hne2 : (Cd.chkE (.mk 3 0 [] l) != 0) = true := by have := HNE.out; simpa using this
        obtain ⟨A7, d7, rfl⟩ := own_slice ho7
        clear hb7 ho7
        go_wp2_with fail
        go_ret
        exact ⟨rfl, HB2.out.trans (HB7.out.below.mono HB2.out.size)⟩
    · obtain rfl : j = l.length := by omega
      have HALL := Lib.hid (show ∀ x ∈ l, Cd.chkE x = 0 by have h := HAL.out; rw [List.take_length] at h; exact h)
      rw [List.take_length] at HT ⊢
      have hL := HSM.out.2.2
      obtain ⟨A3, d3, rfl⟩ := own_slice HT.out.o3
      obtain ⟨A4, d4, rfl⟩ := own_slice HT.out.o4
      go_wp2_with fail
      ((with_reducible refine (Cd.rlist_any _ l.length c _).mono ?_); rintro e w6 ⟨rfl, hb6⟩)
      have V6 := Lib.hid (Vr.out.keep hb6)
      have HT6 := Lib.hid (HT.out.keep hb6)
      clear hb6
      go_wp2_with fail
      have HE6 := Lib.hid (HEN.out w6 V6.out)
      ((with_reducible refine HE6.out.mono ?_); rintro e w7 ⟨v7, rfl, hb7, ho7⟩)
      obtain ⟨A7, d7, rfl⟩ := own_slice ho7
      have HO7 := Lib.hid (RdB.of_own ho7)
      have HC7 := Lib.hid (own_caps ho7)
      have HT7 := Lib.hid (HT6.out.keep hb7)
      clear hb7 ho7
      rcases Cd.chk_good HALL.out with hk | hk
      · have HK := Lib.hid hk
        have HOU := Lib.hid (show Cd.out (.mk 3 0 [] l) = 3 :: (Cd.num l.length ++ Cd.T.encs l) by unfold Cd.out; rw [if_pos hk, Cd.enc_3 rfl]; rfl)
        rw [hk]
        clear hk
        go_wp2_with fail
        ((with_reducible refine (Cd.rlist_any _ l.length d4 _).mono ?_); rintro e w8 ⟨rfl, hb8⟩)
        have HO8 := Lib.hid (HO7.out.keep hb8)
        have HT8 := Lib.hid (HT7.out.keep hb8)
        clear hb8
        have HZ := Lib.hid (Cd.zero_list l.length)
        have HSZ := Lib.hid (show Calls Try.prog 14 #[.agg #[.int .i64 3, .int .i64 0, .string ⟨#[]⟩, .slice A4 l.length d4]] w8 (fun e w' => e = .returned (.tuple #[.int .i64 ((1 + (Cd.num l.length).length + 2 * l.length : Nat) : Int), .int .i64 0]) ∧ Below w8.heap.size w8 w') by
          have h1 := (Cd.zs_vals HT8.out.o4).list
          rw [List.length_replicate] at h1
          have h2 := Cd.size_any (.mk 3 0 [] (List.replicate l.length (.mk 1 0 [] []))) _ w8 HZ.out.2.2 h1 (by
            have h3 := HZ.out.2.1
            have h4 := Cd.num_len l.length
            unfold Cd.out at h3
            rw [if_pos HZ.out.1] at h3
            omega)
          rw [HZ.out.1, HZ.out.2.1] at h2
          exact h2)
        go_wp2_with fail
        ((with_reducible refine HSZ.out.mono ?_); rintro e w9 ⟨rfl, hb9⟩)
        have HO9 := Lib.hid (HO8.out.keep hb9)
        have HT9 := Lib.hid (HT8.out.keep hb9)
        clear hb9
        have HN1 := Lib.hid (Cd.num_pos l.length)
        have HN2 := Lib.hid (Cd.num_len l.length)
        have HLEN := Lib.hid (show (Cd.out (.mk 3 0 [] l)).length = 1 + (Cd.num l.length).length + (Cd.T.encs l).length by rw [HOU.out]; simp; omega)
        have HDR := Lib.hid (show (Cd.out (.mk 3 0 [] l)).drop (1 + (Cd.num l.length).length) = Cd.T.encs l by rw [HOU.out, Nat.add_comm, List.drop_succ_cons, List.drop_left])
        have RW := Lib.hid (RdB.of_own HT9.out.o3)
        have HX := Lib.hid (HB2.out.trans (HT9.out.below.mono HB2.out.size))
        have HC3 := Lib.hid (own_caps HT9.out.o3)
        clear HO7 HO8 HT HT6 HT7 HT8 HT9 HSZ HE6 HEN HOU HSM HT0 HAL
        generalize Cd.out (.mk 3 0 [] l) = O at *
        generalize Cd.T.encs l = E at *
        generalize (Cd.num l.length).length = N at *
        obtain ⟨n7, hn7⟩ : ∃ n7, O.length = n7 := ⟨_, rfl⟩
        obtain ⟨L, hLL⟩ : ∃ L, E.length = L := ⟨_, rfl⟩
        obtain ⟨k, hk⟩ : ∃ k, 1 + N = k := ⟨_, rfl⟩
        obtain ⟨m9, hm9⟩ : ∃ m9, 1 + N + 2 * l.length = m9 := ⟨_, rfl⟩
        obtain ⟨q, hq⟩ : ∃ q, 2 * l.length = q := ⟨_, rfl⟩
        have hb1 := HN1.out
        have hb2 := HN2.out
        have hb3 := HLEN.out
        have hb4 := HC7.out
        have hb5 := HC3.out
        unfold maxLen at hb4 hb5
        have hA : ∃ A8, (if d7 = k then A7 else A7.map fun x => x.add k) = A8 ∧ RdB w9 A8 (n7 - k) E := by
          refine ⟨_, rfl, ?_⟩
          by_cases hdk : d7 = k
          · rw [if_pos hdk]
            have hE : E = [] := List.length_eq_zero_iff.1 (by omega)
            subst hE
            rw [show n7 - k = 0 by simp at hLL; omega]
            exact RdB.none_
          · rw [if_neg hdk]
            have h := Cd.rd_drop HO9.out k (by omega)
            rw [List.length_drop, hn7, ← hk, HDR.out, hk] at h
            exact h
        obtain ⟨A8, hA8, hR8⟩ := hA
        have HR8 := Lib.hid hR8
        rw [hn7, hLL, hm9]
        have hx1 : IntKind.i64.wrap (2 * (l.length : Int)) = (q : Int) := (IntWalk.i64_in _ (by omega)).trans (by omega)
        have hx2 : IntKind.i64.wrap ((m9 : Int) - (q : Int)) = (k : Int) := (IntWalk.i64_in _ (by omega)).trans (by omega)
        have hx3 : IntKind.i64.wrap ((k : Int) + (L : Int)) = (n7 : Int) := (IntWalk.i64_in _ (by omega)).trans (by omega)
        have hx4 : (n7 : Int) - (L : Int) = (k : Int) := by omega
        have hx5 : decide ((2 : Int) ≤ (k : Int)) = true := decide_eq_true (by omega)
        have hx6 : (0 : Int) ≤ (k : Int) := by omega
        have hx7 : (k : Int) ≤ (n7 : Int) := by omega
        have hx8 : n7 ≤ 9223372036854775807 := by omega
        have hx9 : L ≤ 9223372036854775807 := by omega
        have R3 := Lib.hid (show RdB w9.drew A3 L E by have h := RW.out; rw [hLL] at h; exact h.drew)
        have R8 := Lib.hid (show RdB w9.drew A8 (n7 - k) E from hR8.drew)
        have y3 : (convert 27 9 (.slice A3 L d3)).run Try.prog w9.drew = .ok (.string ⟨E.toArray⟩) w9.drew := R3.out.str (P := Try.prog) Try.underlying27 Try.underlying5 Try.underlying9 d3
        have y8 : (convert 27 9 (.slice A8 (n7 - k) (d7 - k))).run Try.prog w9.drew = .ok (.string ⟨E.toArray⟩) w9.drew := R8.out.str (P := Try.prog) Try.underlying27 Try.underlying5 Try.underlying9 (d7 - k)
        clear hR8 hb1 hb2 hb3 hb4 hb5 hn7 hLL hk hm9 hq
        go_wp2_with fail
        go_region_held3 (fun w' => (convert 27 9 (.slice A3 L d3)).run Try.prog w' = .ok (.string ⟨E.toArray⟩) w' ∧ (convert 27 9 (.slice A8 (n7 - k) (d7 - k))).run Try.prog w' = .ok (.string ⟨E.toArray⟩) w')
          (first | exact ⟨y3, y8⟩)
          (first | fail)
        all_goals (
          go_wp2_with fail
          go_ret
          exact ⟨rfl, HX.out.drew⟩)
      · rw [hk]
        clear hk
        go_wp2_with fail
        go_ret
        exact ⟨rfl, HB2.out.trans (HT7.out.below.mono HB2.out.size)⟩
end Go.Proofs.Ytnhodcjbmloeeaa
