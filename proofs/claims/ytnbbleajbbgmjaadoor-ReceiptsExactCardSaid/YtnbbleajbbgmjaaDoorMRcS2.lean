import Derived.Test.YtnbbleajbbgmjaaDoorMRcS1
/- law51.sane returns true. -/
namespace Go.Proofs.YtnbbleajbbgmjaaDoor
open Go.RowKit
set_option linter.unusedVariables false

/-- what sane knows of a world behind its first three regions -/
structure Rc.SA (w W : World) (b2 : Nat) (dc : List Value) : Prop where
  st : St w W [(b2, 31, dc), (w.heap.size + 1, 27, [.int .i64 0, .int .i64 0, .int .i64 0, .slice (some ⟨w.heap.size, 0, none⟩) 2 2]), (w.heap.size, 3, [.int .i64 1, .int .i64 0])]

def Rc.mid9 (w W : World) (b2 b4 b6 b7 b12 b14 : Nat) (dc : List Value) : Exit → Act → World → Prop := fun e a' W' => e = .normal ∧ ∃ (b16 : Nat) (b71 : Nat), a' = { tmps := #[.bool false, .slice (some ⟨w.heap.size + 1, 0, none⟩) 1 1, .pointer (some ⟨b2, 0, none⟩), .int .i64 0, .pointer (some ⟨b4, 0, none⟩), .int .i64 510, .slice (some ⟨b6, 0, none⟩) 2 2, .slice (some ⟨b7, 0, none⟩) 2 2, .int .i64 0, .int .i64 1, .bool true, .int .i64 0, .pointer (some ⟨b12, 0, none⟩), .int .i64 511, .pointer (some ⟨b14, 0, none⟩), .int .i64 0, .pointer (some ⟨b16, 0, none⟩), .int .i64 0, undef, undef, undef, .slice (some ⟨w.heap.size, 0, none⟩) 2 2, .agg #[.int .i64 0, .int .i64 0, .int .i64 0, .slice (some ⟨w.heap.size, 0, none⟩) 2 2], .slice (some ⟨w.heap.size + 1, 0, none⟩) 1 1, .tuple #[.agg dc.toArray, .int .i64 0], .slice (some ⟨w.heap.size + 1, 0, none⟩) 1 1, .pointer (some ⟨w.heap.size + 1, 0, none⟩), .agg #[.int .i64 0, .int .i64 0, .int .i64 0, .slice (some ⟨w.heap.size, 0, none⟩) 2 2], .tuple #[.agg dc.toArray, .int .i64 0], .agg dc.toArray, .int .i64 0, .tuple #[.agg Dg.z32.toArray, .int .i64 510], .agg #[.int .i64 32, .int .i64 0, .int .i64 0, .slice none 0 0], .tuple #[.agg Dg.z32.toArray, .int .i64 510], .agg Dg.z32.toArray, .int .i64 510, .agg #[.int .i64 0, .int .i64 0, .int .i64 0], .agg #[.int .i64 0, .int .i64 2, .int .i64 0], .slice (some ⟨b6, 0, none⟩) 2 2, .agg dc.toArray, .agg (Rc.rw 0 10 dc).toArray, .agg dc.toArray, .agg (Rc.rw 1 13 dc).toArray, .slice (some ⟨b7, 0, none⟩) 2 2, .tuple #[.int .i64 0, .int .i64 1, .bool true, .int .i64 0], .slice (some ⟨b6, 0, none⟩) 2 2, .slice (some ⟨w.heap.size + 1, 0, none⟩) 1 1, .slice (some ⟨b7, 0, none⟩) 2 2, .tuple #[.int .i64 0, .int .i64 1, .bool true, .int .i64 0], .int .i64 0, .int .i64 1, .bool true, .int .i64 0, .tuple #[.agg #[.int .i64 0, .int .i64 0], .int .i64 511], .slice (some ⟨b6, 0, none⟩) 2 2, .slice (some ⟨w.heap.size + 1, 0, none⟩) 1 1, .slice (some ⟨b7, 0, none⟩) 2 2, .tuple #[.agg #[.int .i64 0, .int .i64 0], .int .i64 511], .agg #[.int .i64 0, .int .i64 0], .int .i64 511, .tuple #[.agg #[.int .i64 0, .int .i64 1048576], .int .i64 0], .slice (some ⟨w.heap.size + 1, 0, none⟩) 1 1, .tuple #[.agg #[.int .i64 0, .int .i64 1048576], .int .i64 0], .agg #[.int .i64 0, .int .i64 1048576], .int .i64 0, .tuple #[.agg #[.int .i64 0, .int .i64 3], .int .i64 0], .slice (some ⟨b6, 0, none⟩) 2 2, .slice (some ⟨b6, 3, none⟩) 1 1, .slice (some ⟨w.heap.size + 1, 0, none⟩) 1 1, .agg dc.toArray, .agg (Rc.rw 0 1 dc).toArray, .slice (some ⟨b71, 0, none⟩) 1 1, .tuple #[.agg #[.int .i64 0, .int .i64 3], .int .i64 0], .agg #[.int .i64 0, .int .i64 3], .int .i64 0, undef, undef, undef, undef, undef, undef, undef, undef, undef, undef, undef, undef, undef, undef, undef, undef, undef, undef, undef, undef, undef, undef, undef, undef, undef, undef, undef, undef, undef, undef, undef, undef, undef, undef, undef, undef, undef, undef, undef, undef, undef, undef, undef, undef, undef, undef, undef, undef, undef, undef, undef, undef, undef, undef, undef, undef, undef, undef, undef, undef, undef, undef, undef, undef, undef, undef, undef, undef, undef, undef, undef, undef, undef, undef, undef, undef, undef, undef, undef, undef, undef, undef], defers := [] } ∧ Has W' b16 38 [.int .i64 0, .int .i64 3] ∧ Below W.heap.size W W'
set_option linter.unusedSimpArgs false
set_option maxRecDepth 100000 in
set_option maxHeartbeats 8000000 in
theorem Rc.sane_any (K : List UInt32) (I : Dg.S) (w : World) (hG : Dg.G w K I) : Calls Tryd.prog 10 #[] w fun e w' => e = .returned (.bool true) ∧ Below w.heap.size w w' := by
  have HG := Lib.hid hG
  obtain ⟨D, hDe⟩ : ∃ D, D = Rc.one.dl K I := ⟨_, rfl⟩
  have hD32 : D.length = 32 := by rw [hDe]; exact Rc.Sb.dl_len _ _ _
  obtain ⟨dc, hdc⟩ : ∃ dc, dc = D.map Dg.b8 := ⟨_, rfl⟩
  have hdl : dc.length = 32 := by rw [hdc, List.length_map]; exact hD32
  have H1D := Lib.hid (show dc.toArray.all (·.oneCell') = true from all_oneCell_toArray (by rw [hdc]; exact one_bytes D))
  have HI31 := Lib.hid (show (Tryd.prog.info? 31).map (·.size) = some dc.toArray.size from by rw [List.size_toArray, hdl]; exact Rc.info31)
  have HZD := Lib.hid (show Dg.z32.toArray.size = dc.toArray.size from by rw [List.size_toArray, List.size_toArray, hdl]; rfl)
  have HI31z := Lib.hid (show (Tryd.prog.info? 31).map (·.size) = some Dg.z32.toArray.size from Rc.info31)
  have H1Z := Lib.hid (show Dg.z32.toArray.all (·.oneCell') = true from by kernel_rfl)
  have HD := Lib.hid (fun (W : World) (g : Nat) (hg : Has W g 3 [.int .i64 1, .int .i64 0]) (hG : Dg.G W K I) => by
    have h := Rc.digest_any 0 0 0 (some ⟨g, 0, none⟩) 2 2 [1, 0] K I W ⟨rfl, fun _ => ⟨g, 0, rfl, hg.lt, fun j u hu => by rw [Nat.zero_add, hg.cell j]; exact hu⟩⟩ (by decide) hG
    rw [show Rc.dv K I 0 0 0 [1, 0] = dc from by rw [hdc, hDe]; exact Rc.Sb.dv_eq K I Rc.one, show Rc.de 0 0 0 [1, 0] = 0 from by decide] at h
    exact h)
  have HD2 := Lib.hid (fun (W : World) (hG : Dg.G W K I) => by
    have h := Rc.digest_any 32 0 0 none 0 0 [] K I W Rd.none_ (by decide) hG
    rw [show Rc.dv K I 32 0 0 [] = Dg.z32 from by rw [Rc.dv, if_pos (by decide)], show Rc.de 32 0 0 [] = 510 from by decide] at h
    exact h)
  have HDE := Lib.hid hDe
  have HDC := Lib.hid hdc
  have HDL := Lib.hid hdl
  clear hDe hD32 hdc hdl hG
  go_enter Tryd.func10, Tryd.ntmps10
  go_wp2_with fail
  have S0 := ((St.start w).new 3 [.int .i64 1, .int .i64 0]).new 27 [.int .i64 0, .int .i64 0, .int .i64 0, .slice (some ⟨w.heap.size, 0, none⟩) 2 2]
  simp only [World.size_alloc] at S0
  ((with_reducible refine (HD.out _ w.heap.size (S0.nth 1 rfl) (HG.out.keep S0.below)).mono ?_); rintro e w1 ⟨rfl, hb⟩)
  have HS1 := Lib.hid (S0.keep hb)
  have HN1 := Lib.hid (show (w1.alloc (.cells Dg.z32.toArray 31)).heap[w1.heap.size]? = some (.cells Dg.z32.toArray 31 (0, 0)) from World.alloc_heap_new _ _)
  clear hb S0
  go_upto_region 3 with (first
    | ((refine wpList_store_row (o := ⟨none, .store 31 (.tmp 2) (.tmp 29), _, _, _, _⟩) rfl 31 (.tmp 2) (.tmp 29) rfl w1.heap.size dc.toArray rfl rfl 31 Dg.z32.toArray HN1.out HI31.out HZD.out H1D.out ?_)))
  obtain ⟨W2, hW2⟩ : ∃ W2, W2 = (w1.alloc (.cells Dg.z32.toArray 31)).setRow w1.heap.size dc.toArray := ⟨_, rfl⟩
  change Code.wp _ _ _ _ ((w1.alloc (.cells Dg.z32.toArray 31)).setRow w1.heap.size dc.toArray)
  have hX2 : Has W2 w1.heap.size 31 dc := by rw [hW2]; exact setRow_heap _ w1.heap.size _ dc.toArray 31 (0, 0) HN1.out
  have hB2 : Below w1.heap.size w1 W2 := by rw [hW2]; exact below_setRow ((Below.refl _ w1).alloc (Nat.le_refl _) _) (Nat.le_refl _) _
  obtain ⟨b2, hb2⟩ : ∃ b2, b2 = w1.heap.size := ⟨_, rfl⟩
  rw [← hW2, ← hb2]
  have HSA := Lib.hid (show Rc.SA w W2 b2 dc from ⟨⟨(HS1.out.keep hB2).below, fun x hx => by
    rcases List.mem_cons.1 hx with rfl | hx
    · rw [hb2]; exact hX2
    · exact (HS1.out.keep hB2).has x hx⟩⟩)
  have hwb : w.heap.size + 1 < b2 := by rw [hb2]; exact (HS1.out.nth 0 rfl).lt
  have hbW : b2 < W2.heap.size := (HSA.out.st.nth 0 rfl).lt
  clear hW2 hb2 hX2 hB2 HS1 HN1 HD
  have HX2 := Lib.hid (HSA.out.st.nth 0 rfl)
  go_wp2_with fail
  ((with_reducible refine (HD2.out _ (HG.out.keep HSA.out.st.below)).mono ?_); rintro e w3 ⟨rfl, hb⟩)
  have HSB := Lib.hid (HSA.out.st.keep hb)
  have HN3 := Lib.hid (show (w3.alloc (.cells Dg.z32.toArray 31)).heap[w3.heap.size]? = some (.cells Dg.z32.toArray 31 (0, 0)) from World.alloc_heap_new _ _)
  clear hb HSA HX2 hbW HD2
  go_upto_region 4 with (first
    | ((refine wpList_store_row (o := ⟨none, .store 31 (.tmp 4) (.tmp 34), _, _, _, _⟩) rfl 31 (.tmp 4) (.tmp 34) rfl w3.heap.size Dg.z32.toArray rfl rfl 31 Dg.z32.toArray HN3.out HI31z.out rfl H1Z.out ?_)))
  obtain ⟨W4, hW4⟩ : ∃ W4, W4 = (w3.alloc (.cells Dg.z32.toArray 31)).setRow w3.heap.size Dg.z32.toArray := ⟨_, rfl⟩
  change Code.wp _ _ _ _ ((w3.alloc (.cells Dg.z32.toArray 31)).setRow w3.heap.size Dg.z32.toArray)
  have hB4 : Below w3.heap.size w3 W4 := by rw [hW4]; exact below_setRow ((Below.refl _ w3).alloc (Nat.le_refl _) _) (Nat.le_refl _) _
  have HS4 := Lib.hid (HSB.out.keep hB4)
  obtain ⟨b4, hb4⟩ : ∃ b4, b4 = w3.heap.size := ⟨_, rfl⟩
  rw [← hW4, ← hb4]
  clear hW4 hb4 hB4 HSB HN3
  go_upto_region 5 with fail
  have S5 := HS4.out.new 51 [.int .i64 0, .int .i64 0, .int .i64 0, .int .i64 0, .int .i64 2, .int .i64 0]
  obtain ⟨b6, hb6⟩ : ∃ b6, b6 = W4.heap.size := ⟨_, rfl⟩
  obtain ⟨W5, hW5⟩ : ∃ W5, W5 = W4.alloc (.cells #[.int .i64 0, .int .i64 0, .int .i64 0, .int .i64 0, .int .i64 2, .int .i64 0] 51) := ⟨_, rfl⟩
  change St w (W4.alloc (.cells #[.int .i64 0, .int .i64 0, .int .i64 0, .int .i64 0, .int .i64 2, .int .i64 0] 51)) _ at S5
  rw [← hW5, ← hb6] at S5 ⊢
  have HS5 := Lib.hid S5
  have HX5 := Lib.hid (S5.nth 1 rfl)
  clear hW5 hb6 S5 HS4
  go_upto_region 6 with (first
    | ((refine wpList_load_row rfl 31 (.tmp 2) rfl b2 rfl 31 dc.toArray (0, 0) _ HX5.out Tryd.underlying31 rfl HI31.out ?_))
    | ((refine wpList_buildR rfl 47 _ rfl [(0, .int .i64 0), (2, .int .i64 10), (3, .agg dc.toArray)] rfl _ _ (Rc.bld 0 10 dc HDL.out _) ?_))
    | ((refine wpList_buildR rfl 47 _ rfl [(0, .int .i64 1), (2, .int .i64 13), (3, .agg dc.toArray)] rfl _ _ (Rc.bld 1 13 dc HDL.out _) ?_))
    | ((refine wpList_buildSliceR rfl 24 2 _ rfl [(0, .agg (Rc.rw 0 10 dc).toArray), (1, .agg (Rc.rw 1 13 dc).toArray)] rfl _ _ (Rc.bs2 0 10 1 13 dc HDL.out _) ?_)))
  have S6 := HS5.out.new 47 (Rc.rw 0 10 dc ++ Rc.rw 1 13 dc)
  obtain ⟨b7, hb7⟩ : ∃ b7, b7 = W5.heap.size := ⟨_, rfl⟩
  obtain ⟨W6, hW6⟩ : ∃ W6, W6 = W5.alloc (.cells (Rc.rw 0 10 dc ++ Rc.rw 1 13 dc).toArray 47) := ⟨_, rfl⟩
  rw [← hW6, ← hb7] at S6 ⊢
  have HS6 := Lib.hid S6
  clear hW6 hb7 S6 HS5 HX5
  have HDL2 := Lib.hid (show D.length = 32 from by have h := HDL.out; rw [HDC.out, List.length_map] at h; exact h)
  -- the evidence in any world behind this one
  have HE2 := Lib.hid (fun (W : World) (h : Below W6.heap.size W6 W) => by
    have S := HS6.out.keep h
    exact (⟨Rc.clks_two (S.nth 1 rfl), Rc.subs_one (S.nth 3 rfl) (S.nth 4 rfl), Rc.rcs_two (S.nth 0 rfl) HDC.out HDL2.out, by decide, by decide, by decide⟩ : Rc.Ev W W.heap.size (some ⟨b6, 0, none⟩) (some ⟨w.heap.size + 1, 0, none⟩) (some ⟨b7, 0, none⟩) 2 1 2 Rc.two [Rc.one] [⟨0, 0, 10, D⟩, ⟨1, 0, 13, D⟩]))
  have HEN := Lib.hid (fun (W : World) (h : Below W6.heap.size W6 W) => by
    have S := HS6.out.keep h
    exact (⟨Rc.clks_nil, Rc.subs_one (S.nth 3 rfl) (S.nth 4 rfl), Rc.rcs_nil, by decide, by decide, by decide⟩ : Rc.Ev W W.heap.size none (some ⟨w.heap.size + 1, 0, none⟩) none 0 1 0 [] [Rc.one] []))
  have HC1 := Lib.hid (fun (W : World) (h : Below W6.heap.size W6 W) => by
    have h := Rc.conf_any _ _ _ 2 2 1 1 2 2 _ _ _ 0 K I W (HE2.out W h) (HG.out.keep (HS6.out.keep h).below)
    rw [Rc.conf_two K I D HDE.out] at h
    exact h)
  have HC2 := Lib.hid (fun (W : World) (h : Below W6.heap.size W6 W) => by
    have h := Rc.when_any _ _ _ 2 2 1 1 2 2 _ _ _ 0 K I W (HE2.out W h) (HG.out.keep (HS6.out.keep h).below)
    rw [Rc.when_two K I D HDE.out] at h
    exact h)
  have HC3 := Lib.hid (fun (W : World) (h : Below W6.heap.size W6 W) => by
    have h := Rc.when_any _ _ _ 0 0 1 1 0 0 _ _ _ 0 K I W (HEN.out W h) (HG.out.keep (HS6.out.keep h).below)
    rw [Rc.when_nil K I] at h
    exact h)
  have HC5 := Lib.hid (fun (W : World) (h : Below W6.heap.size W6 W) => by
    have h := Rc.when_any _ _ _ 0 0 1 1 0 0 _ _ _ 1 K I W (HEN.out W h) (HG.out.keep (HS6.out.keep h).below)
    rw [Rc.when_nil1 K I] at h
    exact h)
  go_wp2_with fail
  ((with_reducible refine (HC1.out _ (Below.refl _ _)).mono ?_); rintro e w7 ⟨rfl, hb⟩)
  have HB7 := Lib.hid hb
  clear hb HC1
  go_wp2_with fail
  ((with_reducible refine (HC2.out _ HB7.out).mono ?_); rintro e w8 ⟨rfl, hb⟩)
  have HB8 := Lib.hid (HB7.out.trans (hb.mono HB7.out.size))
  clear hb HC2 HB7
  go_upto_region 8 with fail
  have S9 := (HS6.out.keep HB8.out).new 38 [.int .i64 0, .int .i64 0]
  obtain ⟨b12, hb12⟩ : ∃ b12, b12 = w8.heap.size := ⟨_, rfl⟩
  obtain ⟨W9, hW9⟩ : ∃ W9, W9 = w8.alloc (.cells [.int .i64 0, .int .i64 0].toArray 38) := ⟨_, rfl⟩
  have hB9 : Below W6.heap.size W6 W9 := by rw [hW9]; exact HB8.out.alloc HB8.out.size _
  change Code.wp _ _ _ _ (w8.alloc (.cells [.int .i64 0, .int .i64 0].toArray 38))
  rw [← hW9, ← hb12]
  have HB9 := Lib.hid hB9
  clear hW9 hb12 S9 hB9 HB8
  go_wp2_with fail
  ((with_reducible refine (HC3.out _ HB9.out).mono ?_); rintro e w10 ⟨rfl, hb⟩)
  have HB10 := Lib.hid (HB9.out.trans (hb.mono HB9.out.size))
  clear hb HC3 HB9
  go_upto_region 9 with fail
  have S11 := (HS6.out.keep HB10.out).new 38 [.int .i64 0, .int .i64 1048576]
  obtain ⟨b14, hb14⟩ : ∃ b14, b14 = w10.heap.size := ⟨_, rfl⟩
  obtain ⟨W, hW⟩ : ∃ W, W = w10.alloc (.cells [.int .i64 0, .int .i64 1048576].toArray 38) := ⟨_, rfl⟩
  have hB11 : Below W6.heap.size W6 W := by rw [hW]; exact HB10.out.alloc HB10.out.size _
  change Code.wp _ _ _ _ (w10.alloc (.cells [.int .i64 0, .int .i64 1048576].toArray 38))
  rw [← hW, ← hb14] at S11 ⊢
  have HS := Lib.hid S11
  have HB := Lib.hid hB11
  clear hW hb14 S11 hB11 HB10
  have HC4 := Lib.hid (fun (W' : World) (b : Nat) (h : Below W6.heap.size W6 W') (hb : Has W' b 47 (Rc.rw 0 1 dc)) => by
    have S := HS6.out.keep h
    have hE : Rc.Ev W' W'.heap.size (some ⟨b6, 3, none⟩) (some ⟨w.heap.size + 1, 0, none⟩) (some ⟨b, 0, none⟩) 1 1 1 Rc.lone [Rc.one] [⟨0, 0, 1, D⟩] := ⟨Rc.clks_lone (S.nth 1 rfl), Rc.subs_one (S.nth 3 rfl) (S.nth 4 rfl), Rc.rcs_one hb HDC.out HDL2.out, by decide, by decide, by decide⟩
    have h := Rc.when_any _ _ _ 1 1 1 1 1 1 _ _ _ 0 K I W' hE (HG.out.keep S.below)
    rw [Rc.when_lone K I D HDE.out] at h
    exact h)
  refine Code.wp_mono (Q := Rc.mid9 w W b2 b4 b6 b7 b12 b14 dc) ?tail ?region
  case region =>
    have s0 : Below W.heap.size W W.drew := (Below.refl _ W).drew
    have r0 := Below.refl W.heap.size W
    have HQ1 := Lib.hid (show Below W.heap.size W (W.alloc (.cells (Rc.rw 0 1 dc).toArray 47)).drew from (r0.alloc r0.size _).drew)
    have HQ2 := Lib.hid (show Below W.heap.size W ((W.alloc (.cells (Rc.rw 0 1 dc).toArray 47)).alloc (.cells #[.int .i64 0, .int .i64 0] 38)).drew from ((r0.alloc r0.size _).alloc (by simp) _).drew)
    have HQ3 := Lib.hid (show Below W.heap.size W (W.alloc (.cells #[.int .i64 0, .int .i64 0] 38)).drew from (r0.alloc r0.size _).drew)
    have HQ4 := Lib.hid (show Below W.heap.size W ((W.alloc (.cells #[.int .i64 0, .int .i64 0] 38)).alloc (.cells (Rc.rw 0 1 dc).toArray 47)).drew from ((r0.alloc r0.size _).alloc (by simp) _).drew)
    have HH1 := Lib.hid (show Has (W.alloc (.cells (Rc.rw 0 1 dc).toArray 47)).drew W.heap.size 47 (Rc.rw 0 1 dc) from (Has.new W _ _).drew)
    have HH2 := Lib.hid (show Has ((W.alloc (.cells (Rc.rw 0 1 dc).toArray 47)).alloc (.cells #[.int .i64 0, .int .i64 0] 38)).drew W.heap.size 47 (Rc.rw 0 1 dc) from ((Has.new W _ _).alloc _).drew)
    have HH4 := Lib.hid (show Has ((W.alloc (.cells #[.int .i64 0, .int .i64 0] 38)).alloc (.cells (Rc.rw 0 1 dc).toArray 47)).drew (W.heap.size + 1) 47 (Rc.rw 0 1 dc) from by
      have h := Has.new (W.alloc (.cells #[.int .i64 0, .int .i64 0] 38)) 47 (Rc.rw 0 1 dc)
      rw [World.size_alloc] at h
      exact h.drew)
    have HR2 := Lib.hid (show Has ((W.alloc (.cells (Rc.rw 0 1 dc).toArray 47)).alloc (.cells #[.int .i64 0, .int .i64 0] 38)).drew (W.heap.size + 1) 38 [.int .i64 0, .int .i64 0] from by
      have h := Has.new (W.alloc (.cells (Rc.rw 0 1 dc).toArray 47)) 38 [.int .i64 0, .int .i64 0]
      rw [World.size_alloc] at h
      exact h.drew)
    have HR4 := Lib.hid (show Has ((W.alloc (.cells #[.int .i64 0, .int .i64 0] 38)).alloc (.cells (Rc.rw 0 1 dc).toArray 47)).drew W.heap.size 38 [.int .i64 0, .int .i64 0] from ((Has.new W 38 [.int .i64 0, .int .i64 0]).alloc _).drew)
    have HX0 := Lib.hid (show Has W.drew b2 31 dc from (HS.out.nth 3 rfl).drew)
    refine wp_region_held_drew (S := fun w' => Has w' b2 31 dc ∧ Below W.heap.size W w') (by kernel_rfl) ⟨(HS.out.nth 3 rfl).drew, s0⟩ (fun hHeld => ?_)
    change wpAnyH _ _ _ _ _ _ _ _ W.drew
    refine wpAnyH_take (i := 0) (v := .slice (some ⟨b6, 0, none⟩) 2 2) rfl (by kernel_rfl) (by kernel_rfl) (by kernel_rfl) (fun c a w h => by cases h.1) (Or.inl ⟨by rfl, fun w' _ => by go_simp⟩) hHeld ?_
    simp only [Act.put, List.setIfInBounds_toArray, List.set_cons_zero, List.set_cons_succ]
    refine wpAnyH_take (i := 1) (v := .slice (some ⟨b6, 3, none⟩) 1 1) rfl (by kernel_rfl) (by kernel_rfl) (by kernel_rfl) (fun c a w h => by cases h.1) (Or.inl ⟨by rfl, fun w' _ => by go_simp⟩) hHeld ?_
    simp only [Act.put, List.setIfInBounds_toArray, List.set_cons_zero, List.set_cons_succ]
    refine wpAnyH_take (i := 2) (v := .slice (some ⟨w.heap.size + 1, 0, none⟩) 1 1) rfl (by kernel_rfl) (by kernel_rfl) (by kernel_rfl) (fun c a w h => by cases h.1) (Or.inl ⟨by rfl, fun w' _ => by go_simp⟩) hHeld ?_
    simp only [Act.put, List.setIfInBounds_toArray, List.set_cons_zero, List.set_cons_succ]
    refine wpAnyH_take (i := 3) (v := .agg dc.toArray) rfl (by kernel_rfl) (by kernel_rfl) (by kernel_rfl) (fun c a w h => by cases h.1) (Or.inl ⟨by rfl, fun w' h => run_op_load_row 31 (.tmp 2) (by rfl) b2 (by rfl) 31 dc.toArray (0, 0) _ h.1 Tryd.underlying31 (by rfl) HI31.out⟩) hHeld ?_
    simp only [Act.put, List.setIfInBounds_toArray, List.set_cons_zero, List.set_cons_succ]
    refine wpAnyH_take (i := 4) (v := .agg (Rc.rw 0 1 dc).toArray) rfl (by kernel_rfl) (by kernel_rfl) (by kernel_rfl) (fun c a w h => by cases h.1) (Or.inl ⟨by rfl, fun w' _ => run_op_buildR 47 _ (by rfl) [(2, .int .i64 1), (3, .agg dc.toArray)] (by rfl) _ _ (Rc.bld0 1 dc HDL.out w')⟩) hHeld ?_
    simp only [Act.put, List.setIfInBounds_toArray, List.set_cons_zero, List.set_cons_succ]
    refine wpAnyH_ready (rs := [5, 10]) (by kernel_rfl) (by simp) ?_
    have hb2W : b2 < W.heap.size := HX0.out.lt
    refine AllReadyH.cons rfl (fun K hK => ?_) (AllReadyH.cons rfl (fun K hK => ?_) AllReadyH.nil)
    · refine step_run (by rfl) (run_op_buildSliceR 24 1 _ (by rfl) [(0, .agg (Rc.rw 0 1 dc).toArray)] (by rfl) _ _ (Rc.bs1 0 1 dc HDL.out _)) ?_
      refine hK.out _ _ ⟨HX0.out.alloc _, HQ1.out⟩ (fun hHeld => ?_)
      clear hK K
      try simp only [Act.put, List.setIfInBounds_toArray, List.set_cons_zero, List.set_cons_succ]
      refine wpAnyH_ready (rs := [6, 10]) (by kernel_rfl) (by simp) ?_
      refine AllReadyH.cons rfl (fun K hK => ?_) (AllReadyH.cons rfl (fun K hK => ?_) AllReadyH.nil)
      · go_simp
        go_at_call 16
        ((with_reducible refine (HC4.out _ _ (HB.out.trans (HQ1.out.mono HB.out.size)) HH1.out).mono ?_); rintro e w12 ⟨rfl, hb⟩)
        have s12 := HQ1.out.trans (hb.mono HQ1.out.size)
        have x12 := ((HS.out.nth 3 rfl).keep s12)
        refine hK.out _ _ ⟨x12, s12⟩ (fun hHeld => ?_)
        clear hK K
        try simp only [Act.put, List.setIfInBounds_toArray, List.set_cons_zero, List.set_cons_succ]
        refine wpAnyH_take (i := 7) (v := .tuple #[.agg #[.int .i64 0, .int .i64 3], .int .i64 0]) rfl (by kernel_rfl) (by kernel_rfl) (by kernel_rfl) (fun c a w h => by cases h.1) (Or.inl ⟨by rfl, fun w' _ => by go_simp⟩) hHeld ?_
        try simp only [Act.put, List.setIfInBounds_toArray, List.set_cons_zero, List.set_cons_succ]
        refine wpAnyH_take (i := 8) (v := .agg #[.int .i64 0, .int .i64 3]) rfl (by kernel_rfl) (by kernel_rfl) (by kernel_rfl) (fun c a w h => by cases h.1) (Or.inl ⟨by rfl, fun w' _ => by go_simp⟩) hHeld ?_
        try simp only [Act.put, List.setIfInBounds_toArray, List.set_cons_zero, List.set_cons_succ]
        refine wpAnyH_take (i := 9) (v := .int .i64 0) rfl (by kernel_rfl) (by kernel_rfl) (by kernel_rfl) (fun c a w h => by cases h.1) (Or.inl ⟨by rfl, fun w' _ => by go_simp⟩) hHeld ?_
        try simp only [Act.put, List.setIfInBounds_toArray, List.set_cons_zero, List.set_cons_succ]
        refine wpAnyH_ready (rs := [10]) (by kernel_rfl) (by simp) ?_
        refine AllReadyH.cons rfl (fun K hK => ?_) AllReadyH.nil
        go_simp
        refine hK.out _ _ ⟨x12.alloc _, Rc.new2 s12⟩ (fun hHeld => ?_)
        clear hK K
        try simp only [Act.put, List.setIfInBounds_toArray, List.set_cons_zero, List.set_cons_succ]
        refine wpAnyH_ready (rs := [11]) (by kernel_rfl) (by simp) ?_
        refine AllReadyH.cons rfl (fun K hK => ?_) AllReadyH.nil
        go_simp
        refine hK.out _ _ ⟨x12.alloc _, Rc.new2 s12⟩ (fun hHeld => ?_)
        clear hK K
        try simp only [Act.put, List.setIfInBounds_toArray, List.set_cons_zero, List.set_cons_succ]
        refine wpAnyH_ready (rs := [12]) (by kernel_rfl) (by simp) ?_
        refine AllReadyH.cons rfl (fun K hK => ?_) AllReadyH.nil
        go_simp
        refine hK.out _ _ ⟨hHeld.1, hHeld.2⟩ (fun hHeld => ?_)
        clear hK K
        try simp only [Act.put, List.setIfInBounds_toArray, List.set_cons_zero, List.set_cons_succ]
        refine wpAnyH_done (by kernel_rfl) ?_ _
        refine ⟨rfl, _, _, rfl, ?_, ?_⟩
        · exact Has.new _ _ _
        · exact Rc.new2 s12
      · go_simp
        refine hK.out _ _ ⟨(HX0.out.alloc _).alloc _, HQ2.out⟩ (fun hHeld => ?_)
        clear hK K
        try simp only [Act.put, List.setIfInBounds_toArray, List.set_cons_zero, List.set_cons_succ]
        refine wpAnyH_ready (rs := [6]) (by kernel_rfl) (by simp) ?_
        refine AllReadyH.cons rfl (fun K hK => ?_) AllReadyH.nil
        go_simp
        go_at_call 16
        ((with_reducible refine (HC4.out _ _ (HB.out.trans (HQ2.out.mono HB.out.size)) HH2.out).mono ?_); rintro e w12 ⟨rfl, hb⟩)
        have s12 := HQ2.out.trans (hb.mono HQ2.out.size)
        have x12 := ((HS.out.nth 3 rfl).keep s12)
        have k16 := HR2.out.keep hb
        obtain ⟨q0, q1, q2⟩ := k16.r2
        have q3 := k16.frozen 0
        have q4 := k16.frozen 1
        refine hK.out _ _ ⟨x12, s12⟩ (fun hHeld => ?_)
        clear hK K
        try simp only [Act.put, List.setIfInBounds_toArray, List.set_cons_zero, List.set_cons_succ]
        refine wpAnyH_take (i := 7) (v := .tuple #[.agg #[.int .i64 0, .int .i64 3], .int .i64 0]) rfl (by kernel_rfl) (by kernel_rfl) (by kernel_rfl) (fun c a w h => by cases h.1) (Or.inl ⟨by rfl, fun w' _ => by go_simp⟩) hHeld ?_
        try simp only [Act.put, List.setIfInBounds_toArray, List.set_cons_zero, List.set_cons_succ]
        refine wpAnyH_take (i := 8) (v := .agg #[.int .i64 0, .int .i64 3]) rfl (by kernel_rfl) (by kernel_rfl) (by kernel_rfl) (fun c a w h => by cases h.1) (Or.inl ⟨by rfl, fun w' _ => by go_simp⟩) hHeld ?_
        try simp only [Act.put, List.setIfInBounds_toArray, List.set_cons_zero, List.set_cons_succ]
        refine wpAnyH_take (i := 9) (v := .int .i64 0) rfl (by kernel_rfl) (by kernel_rfl) (by kernel_rfl) (fun c a w h => by cases h.1) (Or.inl ⟨by rfl, fun w' _ => by go_simp⟩) hHeld ?_
        try simp only [Act.put, List.setIfInBounds_toArray, List.set_cons_zero, List.set_cons_succ]
        refine wpAnyH_ready (rs := [11]) (by kernel_rfl) (by simp) ?_
        refine AllReadyH.cons rfl (fun K hK => ?_) AllReadyH.nil
        go_simp
        refine hK.out _ _ ⟨(x12.far (p := ⟨W.heap.size + 1, 0, none⟩) (by show b2 ≠ W.heap.size + 1; omega) _).far (p := ⟨W.heap.size + 1, 1, none⟩) (by show b2 ≠ W.heap.size + 1; omega) _, Rc.set2C s12⟩ (fun hHeld => ?_)
        clear hK K
        try simp only [Act.put, List.setIfInBounds_toArray, List.set_cons_zero, List.set_cons_succ]
        refine wpAnyH_ready (rs := [12]) (by kernel_rfl) (by simp) ?_
        refine AllReadyH.cons rfl (fun K hK => ?_) AllReadyH.nil
        go_simp
        refine hK.out _ _ ⟨hHeld.1, hHeld.2⟩ (fun hHeld => ?_)
        clear hK K
        try simp only [Act.put, List.setIfInBounds_toArray, List.set_cons_zero, List.set_cons_succ]
        refine wpAnyH_done (by kernel_rfl) ?_ _
        refine ⟨rfl, _, _, rfl, ?_, ?_⟩
        · exact (k16.set 0 _).set 1 _
        · exact Rc.set2C s12
    · go_simp
      refine hK.out _ _ ⟨HX0.out.alloc _, HQ3.out⟩ (fun hHeld => ?_)
      clear hK K
      try simp only [Act.put, List.setIfInBounds_toArray, List.set_cons_zero, List.set_cons_succ]
      refine wpAnyH_ready (rs := [5]) (by kernel_rfl) (by simp) ?_
      refine AllReadyH.cons rfl (fun K hK => ?_) AllReadyH.nil
      refine step_run (by rfl) (run_op_buildSliceR 24 1 _ (by rfl) [(0, .agg (Rc.rw 0 1 dc).toArray)] (by rfl) _ _ (Rc.bs1 0 1 dc HDL.out _)) ?_
      refine hK.out _ _ ⟨(HX0.out.alloc _).alloc _, HQ4.out⟩ (fun hHeld => ?_)
      clear hK K
      try simp only [Act.put, List.setIfInBounds_toArray, List.set_cons_zero, List.set_cons_succ]
      refine wpAnyH_ready (rs := [6]) (by kernel_rfl) (by simp) ?_
      refine AllReadyH.cons rfl (fun K hK => ?_) AllReadyH.nil
      go_simp
      go_at_call 16
      ((with_reducible refine (HC4.out _ _ (HB.out.trans (HQ4.out.mono HB.out.size)) HH4.out).mono ?_); rintro e w12 ⟨rfl, hb⟩)
      have s12 := HQ4.out.trans (hb.mono HQ4.out.size)
      have x12 := ((HS.out.nth 3 rfl).keep s12)
      have k16 := HR4.out.keep hb
      obtain ⟨q0, q1, q2⟩ := k16.r2
      have q3 := k16.frozen 0
      have q4 := k16.frozen 1
      refine hK.out _ _ ⟨x12, s12⟩ (fun hHeld => ?_)
      clear hK K
      try simp only [Act.put, List.setIfInBounds_toArray, List.set_cons_zero, List.set_cons_succ]
      refine wpAnyH_take (i := 7) (v := .tuple #[.agg #[.int .i64 0, .int .i64 3], .int .i64 0]) rfl (by kernel_rfl) (by kernel_rfl) (by kernel_rfl) (fun c a w h => by cases h.1) (Or.inl ⟨by rfl, fun w' _ => by go_simp⟩) hHeld ?_
      try simp only [Act.put, List.setIfInBounds_toArray, List.set_cons_zero, List.set_cons_succ]
      refine wpAnyH_take (i := 8) (v := .agg #[.int .i64 0, .int .i64 3]) rfl (by kernel_rfl) (by kernel_rfl) (by kernel_rfl) (fun c a w h => by cases h.1) (Or.inl ⟨by rfl, fun w' _ => by go_simp⟩) hHeld ?_
      try simp only [Act.put, List.setIfInBounds_toArray, List.set_cons_zero, List.set_cons_succ]
      refine wpAnyH_take (i := 9) (v := .int .i64 0) rfl (by kernel_rfl) (by kernel_rfl) (by kernel_rfl) (fun c a w h => by cases h.1) (Or.inl ⟨by rfl, fun w' _ => by go_simp⟩) hHeld ?_
      try simp only [Act.put, List.setIfInBounds_toArray, List.set_cons_zero, List.set_cons_succ]
      refine wpAnyH_ready (rs := [11]) (by kernel_rfl) (by simp) ?_
      refine AllReadyH.cons rfl (fun K hK => ?_) AllReadyH.nil
      go_simp
      refine hK.out _ _ ⟨(x12.far (p := ⟨W.heap.size, 0, none⟩) (by show b2 ≠ W.heap.size; omega) _).far (p := ⟨W.heap.size, 1, none⟩) (by show b2 ≠ W.heap.size; omega) _, Rc.set2 s12⟩ (fun hHeld => ?_)
      clear hK K
      try simp only [Act.put, List.setIfInBounds_toArray, List.set_cons_zero, List.set_cons_succ]
      refine wpAnyH_ready (rs := [12]) (by kernel_rfl) (by simp) ?_
      refine AllReadyH.cons rfl (fun K hK => ?_) AllReadyH.nil
      go_simp
      refine hK.out _ _ ⟨hHeld.1, hHeld.2⟩ (fun hHeld => ?_)
      clear hK K
      try simp only [Act.put, List.setIfInBounds_toArray, List.set_cons_zero, List.set_cons_succ]
      refine wpAnyH_done (by kernel_rfl) ?_ _
      refine ⟨rfl, _, _, rfl, ?_, ?_⟩
      · exact (k16.set 0 _).set 1 _
      · exact Rc.set2 s12
  case tail =>
    rintro e a' W' ⟨rfl, b16, b71, rfl, h16, hBW⟩
    have HSx := Lib.hid (HS.out.keep hBW)
    have HBx := Lib.hid (HB.out.trans (hBW.mono HB.out.size))
    have H16 := Lib.hid h16
    clear HS HB HC4 h16 hBW
    go_wp2_with fail
    ((with_reducible refine (HC5.out _ HBx.out).mono ?_); rintro e w13 ⟨rfl, hb⟩)
    have HBy := Lib.hid (HBx.out.trans (hb.mono HBx.out.size))
    have HSy := Lib.hid (HSx.out.keep hb)
    have H16y := Lib.hid (H16.out.keep hb)
    clear hb HC5 HBx HSx H16
    go_upto_region 12 with fail
    obtain ⟨W12, hW12⟩ : ∃ W12, W12 = w13.alloc (.cells #[.int .i64 0, .int .i64 0] 38) := ⟨_, rfl⟩
    have hB13 : Below w13.heap.size w13 W12 := by rw [hW12]; exact (Below.refl _ _).alloc (Nat.le_refl _) _
    have HS12 := Lib.hid (HSy.out.keep hB13)
    have H16z := Lib.hid (H16y.out.keep hB13)
    have HB12 := Lib.hid (HBy.out.trans (hB13.mono HBy.out.size))
    obtain ⟨b18, hb18⟩ : ∃ b18, b18 = w13.heap.size := ⟨_, rfl⟩
    rw [← hW12, ← hb18]
    clear hW12 hb18 hB13 HSy H16y HBy
    have HK1 := Lib.hid (fun (W' : World) (h : Below W6.heap.size W6 W') => by
      have S := HS6.out.keep h
      have h := Rc.check_any none none none 0 0 0 0 0 0 [] [] [] K I W' ⟨Rc.clks_nil, Rc.subs_nil, Rc.rcs_nil, by decide, by decide, by decide⟩ (HG.out.keep S.below)
      rw [Rc.chk_nil0 K I] at h
      exact h)
    have HK2 := Lib.hid (fun (W' : World) (b : Nat) (h : Below W6.heap.size W6 W') (hb : Has W' b 47 (Rc.rw 0 10 dc ++ Rc.rw 0 10 dc)) => by
      have S := HS6.out.keep h
      have h := Rc.check_any (some ⟨b6, 0, none⟩) (some ⟨w.heap.size + 1, 0, none⟩) (some ⟨b, 0, none⟩) 2 2 1 1 2 2 Rc.two [Rc.one] [⟨0, 0, 10, D⟩, ⟨0, 0, 10, D⟩] K I W' ⟨Rc.clks_two (S.nth 1 rfl), Rc.subs_one (S.nth 3 rfl) (S.nth 4 rfl), Rc.rcs_two hb HDC.out HDL2.out, by decide, by decide, by decide⟩ (HG.out.keep S.below)
      rw [Rc.chk_twice K I] at h
      exact h)
    have KP := Lib.hid (fun (w' : World) (h : Below W12.heap.size W12 w') => (⟨fun j v hj => by rw [Nat.zero_add]; exact (((HS12.out.nth 0 rfl).keep h).cell j).trans hj, fun j v hj => by rw [Nat.zero_add]; exact ((H16z.out.keep h).cell j).trans hj, fun j v hj => by
      rw [Nat.zero_add]
      exact (((HS12.out.nth 1 rfl).keep h).cell j).trans (by rw [List.getElem?_append_left (List.getElem?_eq_some_iff.1 hj).1]; exact hj), h⟩ : w'.rangeAt b14 0 [.int .i64 0, .int .i64 1048576] ∧ w'.rangeAt b16 0 [.int .i64 0, .int .i64 3] ∧ w'.rangeAt b7 0 (Rc.rw 0 10 dc) ∧ Below W12.heap.size W12 w'))
    have hi47 : (Tryd.prog.info? 47).map (·.size) = some (Rc.rw 0 10 dc).length := by
      have h : (Rc.rw 0 10 dc).length = 35 := by simp [Rc.rw, HDL.out]
      rw [h]; exact Rc.info47
    have s0 : Below W12.heap.size W12 W12.drew := (Below.refl _ W12).drew
    have HECK := Lib.hid (enters_of Tryd.func14 (by kernel_rfl) rfl)
    refine wp_region_named (fun ops hops => ?_)
    refine wp_region_noPanic ?_
    refine wp_region_held_drew (S := (fun w' => w'.rangeAt b14 0 [.int .i64 0, .int .i64 1048576] ∧ w'.rangeAt b16 0 [.int .i64 0, .int .i64 3] ∧ w'.rangeAt b7 0 (Rc.rw 0 10 dc) ∧ Below W12.heap.size W12 w')) (by kernel_rfl) (KP.out _ s0) (fun hHeld => ?_)
    rw [show ops.size = 40 from by rw [hops]; rfl]
    change wpAnyH _ _ _ _ _ _ _ _ W12.drew
    have HNS : Region.noSelect ops = true := by rw [hops]; kernel_rfl
    obtain ⟨o0, h0, d0, p0, g0⟩ := op_at5 hops 0 rfl (d := some 106) (p := .move (.tmp 20)) (g := none) rfl rfl rfl
    obtain ⟨o1, h1, d1, p1, g1⟩ := op_at5 hops 1 rfl (d := some 107) (p := .move (.tmp 106)) (g := none) rfl rfl rfl
    obtain ⟨o2, h2, d2, p2, g2⟩ := op_at5 hops 2 rfl (d := some 108) (p := .move (.tmp 10)) (g := some (1, true)) rfl rfl rfl
    obtain ⟨o3, h3, d3, p3, g3⟩ := op_at5 hops 3 rfl (d := some 109) (p := .pick (.tmp 107) (.tmp 108) (.const (.bool false))) (g := none) rfl rfl rfl
    obtain ⟨o4, h4, d4, p4, g4⟩ := op_at5 hops 4 rfl (d := some 110) (p := .move (.tmp 109)) (g := none) rfl rfl rfl
    obtain ⟨o5, h5, d5, p5, g5⟩ := op_at5 hops 5 rfl (d := some 111) (p := .move (.tmp 8)) (g := some (4, true)) rfl rfl rfl
    obtain ⟨o6, h6, d6, p6, g6⟩ := op_at5 hops 6 rfl (d := some 112) (p := .binOp .eql 3 (.tmp 111) (.const (.int .i64 0)) 3) (g := some (4, true)) rfl rfl rfl
    obtain ⟨o7, h7, d7, p7, g7⟩ := op_at5 hops 7 rfl (d := some 113) (p := .pick (.tmp 110) (.tmp 112) (.const (.bool false))) (g := none) rfl rfl rfl
    obtain ⟨o8, h8, d8, p8, g8⟩ := op_at5 hops 8 rfl (d := some 114) (p := .move (.tmp 113)) (g := none) rfl rfl rfl
    obtain ⟨o9, h9, d9, p9, g9⟩ := op_at5 hops 9 rfl (d := some 115) (p := .move (.tmp 9)) (g := some (8, true)) rfl rfl rfl
    obtain ⟨o10, h10, d10, p10, g10⟩ := op_at5 hops 10 rfl (d := some 116) (p := .binOp .eql 3 (.tmp 115) (.const (.int .i64 1)) 3) (g := some (8, true)) rfl rfl rfl
    obtain ⟨o11, h11, d11, p11, g11⟩ := op_at5 hops 11 rfl (d := some 117) (p := .pick (.tmp 114) (.tmp 116) (.const (.bool false))) (g := none) rfl rfl rfl
    obtain ⟨o12, h12, d12, p12, g12⟩ := op_at5 hops 12 rfl (d := some 118) (p := .move (.tmp 117)) (g := none) rfl rfl rfl
    obtain ⟨o13, h13, d13, p13, g13⟩ := op_at5 hops 13 rfl (d := some 119) (p := .load 38 (.tmp 14)) (g := some (12, true)) rfl rfl rfl
    obtain ⟨o14, h14, d14, p14, g14⟩ := op_at5 hops 14 rfl (d := some 120) (p := .build 38 #[(1, (.const (.int .i64 1048576)))]) (g := some (12, true)) rfl rfl rfl
    obtain ⟨o15, h15, d15, p15, g15⟩ := op_at5 hops 15 rfl (d := some 121) (p := .binOp .eql 38 (.tmp 119) (.tmp 120) 38) (g := some (12, true)) rfl rfl rfl
    obtain ⟨o16, h16, d16, p16, g16⟩ := op_at5 hops 16 rfl (d := some 122) (p := .pick (.tmp 118) (.tmp 121) (.const (.bool false))) (g := none) rfl rfl rfl
    obtain ⟨o17, h17, d17, p17, g17⟩ := op_at5 hops 17 rfl (d := some 123) (p := .move (.tmp 122)) (g := none) rfl rfl rfl
    obtain ⟨o18, h18, d18, p18, g18⟩ := op_at5 hops 18 rfl (d := some 124) (p := .load 38 (.tmp 16)) (g := some (17, true)) rfl rfl rfl
    obtain ⟨o19, h19, d19, p19, g19⟩ := op_at5 hops 19 rfl (d := some 125) (p := .build 38 #[(1, (.const (.int .i64 3)))]) (g := some (17, true)) rfl rfl rfl
    obtain ⟨o20, h20, d20, p20, g20⟩ := op_at5 hops 20 rfl (d := some 126) (p := .binOp .eql 38 (.tmp 124) (.tmp 125) 38) (g := some (17, true)) rfl rfl rfl
    obtain ⟨o21, h21, d21, p21, g21⟩ := op_at5 hops 21 rfl (d := some 127) (p := .pick (.tmp 123) (.tmp 126) (.const (.bool false))) (g := none) rfl rfl rfl
    obtain ⟨o22, h22, d22, p22, g22⟩ := op_at5 hops 22 rfl (d := some 128) (p := .move (.tmp 127)) (g := none) rfl rfl rfl
    obtain ⟨o23, h23, d23, p23, g23⟩ := op_at5 hops 23 rfl (d := some 129) (p := .call { callee := .value (.func 14), args := #[(.const (.slice none 0 0)), (.const (.slice none 0 0)), (.const (.slice none 0 0))], argTypes := #[22, 23, 24] }) (g := some (22, true)) rfl rfl rfl
    obtain ⟨o24, h24, d24, p24, g24⟩ := op_at5 hops 24 rfl (d := some 130) (p := .binOp .eql 32 (.tmp 129) (.const (.int .i64 0)) 32) (g := some (22, true)) rfl rfl rfl
    obtain ⟨o25, h25, d25, p25, g25⟩ := op_at5 hops 25 rfl (d := some 131) (p := .pick (.tmp 128) (.tmp 130) (.const (.bool false))) (g := none) rfl rfl rfl
    obtain ⟨o26, h26, d26, p26, g26⟩ := op_at5 hops 26 rfl (d := some 132) (p := .move (.tmp 131)) (g := none) rfl rfl rfl
    obtain ⟨o27, h27, d27, p27, g27⟩ := op_at5 hops 27 rfl (d := some 133) (p := .move (.tmp 6)) (g := some (26, true)) rfl rfl rfl
    obtain ⟨o28, h28, d28, p28, g28⟩ := op_at5 hops 28 rfl (d := some 134) (p := .move (.tmp 1)) (g := some (26, true)) rfl rfl rfl
    obtain ⟨o29, h29, d29, p29, g29⟩ := op_at5 hops 29 rfl (d := some 135) (p := .move (.tmp 7)) (g := some (26, true)) rfl rfl rfl
    obtain ⟨o30, h30, d30, p30, g30⟩ := op_at5 hops 30 rfl (d := some 136) (p := .indexAddr 24 (.tmp 135) (.const (.int .i64 0))) (g := some (26, true)) rfl rfl rfl
    obtain ⟨o31, h31, d31, p31, g31⟩ := op_at5 hops 31 rfl (d := some 137) (p := .load 47 (.tmp 136)) (g := some (26, true)) rfl rfl rfl
    obtain ⟨o32, h32, d32, p32, g32⟩ := op_at5 hops 32 rfl (d := some 138) (p := .move (.tmp 7)) (g := some (26, true)) rfl rfl rfl
    obtain ⟨o33, h33, d33, p33, g33⟩ := op_at5 hops 33 rfl (d := some 139) (p := .indexAddr 24 (.tmp 138) (.const (.int .i64 0))) (g := some (26, true)) rfl rfl rfl
    obtain ⟨o34, h34, d34, p34, g34⟩ := op_at5 hops 34 rfl (d := some 140) (p := .load 47 (.tmp 139)) (g := some (26, true)) rfl rfl rfl
    obtain ⟨o35, h35, d35, p35, g35⟩ := op_at5 hops 35 rfl (d := some 141) (p := .buildSlice 24 2 #[(0, (.tmp 137)), (1, (.tmp 140))]) (g := some (26, true)) rfl rfl rfl
    obtain ⟨o36, h36, d36, p36, g36⟩ := op_at5 hops 36 rfl (d := some 142) (p := .call { callee := .value (.func 14), args := #[(.tmp 133), (.tmp 134), (.tmp 141)], argTypes := #[22, 23, 24] }) (g := some (26, true)) rfl rfl rfl
    obtain ⟨o37, h37, d37, p37, g37⟩ := op_at5 hops 37 rfl (d := some 143) (p := .binOp .eql 32 (.tmp 142) (.const (.int .i64 510)) 32) (g := some (26, true)) rfl rfl rfl
    obtain ⟨o38, h38, d38, p38, g38⟩ := op_at5 hops 38 rfl (d := some 144) (p := .pick (.tmp 132) (.tmp 143) (.const (.bool false))) (g := none) rfl rfl rfl
    obtain ⟨o39, h39, d39, p39, g39⟩ := op_at5 hops 39 rfl (d := some 20) (p := .assign (.tmp 144)) (g := none) rfl rfl rfl
    refine wpAnyH_take (i := 0) (v := .bool true) h0 HNS (by rw [hops]; kernel_rfl) (by rw [hops]; kernel_rfl) (fun _ _ _ h => h) (Or.inl ⟨(wanted_none g0), fun w' _ => by unfold execOp; rw [p0]; first | rfl | kernel_rfl⟩) hHeld ?_
    rw [d0]
    simp only [Act.put, List.setIfInBounds_toArray, List.set_cons_zero, List.set_cons_succ]
    refine wpAnyH_take (i := 1) (v := .bool true) h1 HNS (by rw [hops]; kernel_rfl) (by rw [hops]; kernel_rfl) (fun _ _ _ h => h) (Or.inl ⟨(wanted_none g1), fun w' _ => by unfold execOp; rw [p1]; first | rfl | kernel_rfl⟩) hHeld ?_
    rw [d1]
    simp only [Act.put, List.setIfInBounds_toArray, List.set_cons_zero, List.set_cons_succ]
    refine wpAnyH_take (i := 2) (v := .bool true) h2 HNS (by rw [hops]; kernel_rfl) (by rw [hops]; kernel_rfl) (fun _ _ _ h => h) (Or.inl ⟨(wanted_some g2 h1 d1 (by rfl)), fun w' _ => by unfold execOp; rw [p2]; first | rfl | kernel_rfl⟩) hHeld ?_
    rw [d2]
    simp only [Act.put, List.setIfInBounds_toArray, List.set_cons_zero, List.set_cons_succ]
    refine wpAnyH_take (i := 3) (v := .bool true) h3 HNS (by rw [hops]; kernel_rfl) (by rw [hops]; kernel_rfl) (fun _ _ _ h => h) (Or.inl ⟨(wanted_none g3), fun w' _ => by unfold execOp; rw [p3]; first | rfl | kernel_rfl⟩) hHeld ?_
    rw [d3]
    simp only [Act.put, List.setIfInBounds_toArray, List.set_cons_zero, List.set_cons_succ]
    refine wpAnyH_take (i := 4) (v := .bool true) h4 HNS (by rw [hops]; kernel_rfl) (by rw [hops]; kernel_rfl) (fun _ _ _ h => h) (Or.inl ⟨(wanted_none g4), fun w' _ => by unfold execOp; rw [p4]; first | rfl | kernel_rfl⟩) hHeld ?_
    rw [d4]
    simp only [Act.put, List.setIfInBounds_toArray, List.set_cons_zero, List.set_cons_succ]
    refine wpAnyH_take (i := 5) (v := .int .i64 0) h5 HNS (by rw [hops]; kernel_rfl) (by rw [hops]; kernel_rfl) (fun _ _ _ h => h) (Or.inl ⟨(wanted_some g5 h4 d4 (by rfl)), fun w' _ => by unfold execOp; rw [p5]; first | rfl | kernel_rfl⟩) hHeld ?_
    rw [d5]
    simp only [Act.put, List.setIfInBounds_toArray, List.set_cons_zero, List.set_cons_succ]
    refine wpAnyH_take (i := 6) (v := .bool true) h6 HNS (by rw [hops]; kernel_rfl) (by rw [hops]; kernel_rfl) (fun _ _ _ h => h) (Or.inl ⟨(wanted_some g6 h4 d4 (by rfl)), fun w' _ => by unfold execOp; rw [p6]; first | rfl | kernel_rfl⟩) hHeld ?_
    rw [d6]
    simp only [Act.put, List.setIfInBounds_toArray, List.set_cons_zero, List.set_cons_succ]
    refine wpAnyH_take (i := 7) (v := .bool true) h7 HNS (by rw [hops]; kernel_rfl) (by rw [hops]; kernel_rfl) (fun _ _ _ h => h) (Or.inl ⟨(wanted_none g7), fun w' _ => by unfold execOp; rw [p7]; first | rfl | kernel_rfl⟩) hHeld ?_
    rw [d7]
    simp only [Act.put, List.setIfInBounds_toArray, List.set_cons_zero, List.set_cons_succ]
    refine wpAnyH_take (i := 8) (v := .bool true) h8 HNS (by rw [hops]; kernel_rfl) (by rw [hops]; kernel_rfl) (fun _ _ _ h => h) (Or.inl ⟨(wanted_none g8), fun w' _ => by unfold execOp; rw [p8]; first | rfl | kernel_rfl⟩) hHeld ?_
    rw [d8]
    simp only [Act.put, List.setIfInBounds_toArray, List.set_cons_zero, List.set_cons_succ]
    refine wpAnyH_take (i := 9) (v := .int .i64 1) h9 HNS (by rw [hops]; kernel_rfl) (by rw [hops]; kernel_rfl) (fun _ _ _ h => h) (Or.inl ⟨(wanted_some g9 h8 d8 (by rfl)), fun w' _ => by unfold execOp; rw [p9]; first | rfl | kernel_rfl⟩) hHeld ?_
    rw [d9]
    simp only [Act.put, List.setIfInBounds_toArray, List.set_cons_zero, List.set_cons_succ]
    refine wpAnyH_take (i := 10) (v := .bool true) h10 HNS (by rw [hops]; kernel_rfl) (by rw [hops]; kernel_rfl) (fun _ _ _ h => h) (Or.inl ⟨(wanted_some g10 h8 d8 (by rfl)), fun w' _ => by unfold execOp; rw [p10]; first | rfl | kernel_rfl⟩) hHeld ?_
    rw [d10]
    simp only [Act.put, List.setIfInBounds_toArray, List.set_cons_zero, List.set_cons_succ]
    refine wpAnyH_take (i := 11) (v := .bool true) h11 HNS (by rw [hops]; kernel_rfl) (by rw [hops]; kernel_rfl) (fun _ _ _ h => h) (Or.inl ⟨(wanted_none g11), fun w' _ => by unfold execOp; rw [p11]; first | rfl | kernel_rfl⟩) hHeld ?_
    rw [d11]
    simp only [Act.put, List.setIfInBounds_toArray, List.set_cons_zero, List.set_cons_succ]
    refine wpAnyH_take (i := 12) (v := .bool true) h12 HNS (by rw [hops]; kernel_rfl) (by rw [hops]; kernel_rfl) (fun _ _ _ h => h) (Or.inl ⟨(wanted_none g12), fun w' _ => by unfold execOp; rw [p12]; first | rfl | kernel_rfl⟩) hHeld ?_
    rw [d12]
    simp only [Act.put, List.setIfInBounds_toArray, List.set_cons_zero, List.set_cons_succ]
    refine wpAnyH_take (i := 13) (v := .agg #[.int .i64 0, .int .i64 1048576]) h13 HNS (by rw [hops]; kernel_rfl) (by rw [hops]; kernel_rfl) (fun _ _ _ h => h) (Or.inl ⟨(wanted_some g13 h12 d12 (by rfl)), fun w' h => run_op_load_mid 38 _ p13 b14 0 (by rfl) [.int .i64 0, .int .i64 1048576] _ h.1 Tryd.underlying38 rfl Rc.info38⟩) hHeld ?_
    rw [d13]
    simp only [Act.put, List.setIfInBounds_toArray, List.set_cons_zero, List.set_cons_succ]
    refine wpAnyH_take (i := 14) (v := .agg #[.int .i64 0, .int .i64 1048576]) h14 HNS (by rw [hops]; kernel_rfl) (by rw [hops]; kernel_rfl) (fun _ _ _ h => h) (Or.inl ⟨(wanted_some g14 h12 d12 (by rfl)), fun w' _ => by unfold execOp; rw [p14]; first | rfl | kernel_rfl⟩) hHeld ?_
    rw [d14]
    simp only [Act.put, List.setIfInBounds_toArray, List.set_cons_zero, List.set_cons_succ]
    refine wpAnyH_take (i := 15) (v := .bool true) h15 HNS (by rw [hops]; kernel_rfl) (by rw [hops]; kernel_rfl) (fun _ _ _ h => h) (Or.inl ⟨(wanted_some g15 h12 d12 (by rfl)), fun w' _ => by unfold execOp; rw [p15]; first | rfl | kernel_rfl⟩) hHeld ?_
    rw [d15]
    simp only [Act.put, List.setIfInBounds_toArray, List.set_cons_zero, List.set_cons_succ]
    refine wpAnyH_take (i := 16) (v := .bool true) h16 HNS (by rw [hops]; kernel_rfl) (by rw [hops]; kernel_rfl) (fun _ _ _ h => h) (Or.inl ⟨(wanted_none g16), fun w' _ => by unfold execOp; rw [p16]; first | rfl | kernel_rfl⟩) hHeld ?_
    rw [d16]
    simp only [Act.put, List.setIfInBounds_toArray, List.set_cons_zero, List.set_cons_succ]
    refine wpAnyH_take (i := 17) (v := .bool true) h17 HNS (by rw [hops]; kernel_rfl) (by rw [hops]; kernel_rfl) (fun _ _ _ h => h) (Or.inl ⟨(wanted_none g17), fun w' _ => by unfold execOp; rw [p17]; first | rfl | kernel_rfl⟩) hHeld ?_
    rw [d17]
    simp only [Act.put, List.setIfInBounds_toArray, List.set_cons_zero, List.set_cons_succ]
    refine wpAnyH_take (i := 18) (v := .agg #[.int .i64 0, .int .i64 3]) h18 HNS (by rw [hops]; kernel_rfl) (by rw [hops]; kernel_rfl) (fun _ _ _ h => h) (Or.inl ⟨(wanted_some g18 h17 d17 (by rfl)), fun w' h => run_op_load_mid 38 _ p18 b16 0 (by rfl) [.int .i64 0, .int .i64 3] _ h.2.1 Tryd.underlying38 rfl Rc.info38⟩) hHeld ?_
    rw [d18]
    simp only [Act.put, List.setIfInBounds_toArray, List.set_cons_zero, List.set_cons_succ]
    refine wpAnyH_take (i := 19) (v := .agg #[.int .i64 0, .int .i64 3]) h19 HNS (by rw [hops]; kernel_rfl) (by rw [hops]; kernel_rfl) (fun _ _ _ h => h) (Or.inl ⟨(wanted_some g19 h17 d17 (by rfl)), fun w' _ => by unfold execOp; rw [p19]; first | rfl | kernel_rfl⟩) hHeld ?_
    rw [d19]
    simp only [Act.put, List.setIfInBounds_toArray, List.set_cons_zero, List.set_cons_succ]
    refine wpAnyH_take (i := 20) (v := .bool true) h20 HNS (by rw [hops]; kernel_rfl) (by rw [hops]; kernel_rfl) (fun _ _ _ h => h) (Or.inl ⟨(wanted_some g20 h17 d17 (by rfl)), fun w' _ => by unfold execOp; rw [p20]; first | rfl | kernel_rfl⟩) hHeld ?_
    rw [d20]
    simp only [Act.put, List.setIfInBounds_toArray, List.set_cons_zero, List.set_cons_succ]
    refine wpAnyH_take (i := 21) (v := .bool true) h21 HNS (by rw [hops]; kernel_rfl) (by rw [hops]; kernel_rfl) (fun _ _ _ h => h) (Or.inl ⟨(wanted_none g21), fun w' _ => by unfold execOp; rw [p21]; first | rfl | kernel_rfl⟩) hHeld ?_
    rw [d21]
    simp only [Act.put, List.setIfInBounds_toArray, List.set_cons_zero, List.set_cons_succ]
    refine wpAnyH_take (i := 22) (v := .bool true) h22 HNS (by rw [hops]; kernel_rfl) (by rw [hops]; kernel_rfl) (fun _ _ _ h => h) (Or.inl ⟨(wanted_none g22), fun w' _ => by unfold execOp; rw [p22]; first | rfl | kernel_rfl⟩) hHeld ?_
    rw [d22]
    simp only [Act.put, List.setIfInBounds_toArray, List.set_cons_zero, List.set_cons_succ]
    refine wpAnyH_ready (rs := [23]) (by rw [hops]; kernel_rfl) (by simp) ?_
    refine AllReadyH.cons h23 (fun K hK => ?_) AllReadyH.nil
    rw [if_pos (wanted_some g23 h22 d22 (by rfl))]
    refine wp_call3 14 _ _ _ _ (.slice none 0 0) (.slice none 0 0) (.slice none 0 0) p23 HECK.out (by rfl) (by rfl) (by rfl) ?_
    ((refine (HK1.out _ (HB12.out.trans (s0.mono HB12.out.size))).mono ?_); rintro e w14 ⟨rfl, hb⟩)
    refine ⟨_, rfl, ?_⟩
    have s14 : Below W12.heap.size W12 w14 := (s0).trans (hb.mono (s0).size)
    clear hb
    rw [d23]
    simp only [Act.put, List.setIfInBounds_toArray, List.set_cons_zero, List.set_cons_succ]
    refine hK.out _ _ (KP.out _ s14) (fun hHeld => ?_)
    clear hK K
    refine wpAnyH_take (i := 24) (v := .bool true) h24 HNS (by rw [hops]; kernel_rfl) (by rw [hops]; kernel_rfl) (fun _ _ _ h => h) (Or.inl ⟨(wanted_some g24 h22 d22 (by rfl)), fun w' _ => by unfold execOp; rw [p24]; first | rfl | kernel_rfl⟩) hHeld ?_
    rw [d24]
    simp only [Act.put, List.setIfInBounds_toArray, List.set_cons_zero, List.set_cons_succ]
    refine wpAnyH_take (i := 25) (v := .bool true) h25 HNS (by rw [hops]; kernel_rfl) (by rw [hops]; kernel_rfl) (fun _ _ _ h => h) (Or.inl ⟨(wanted_none g25), fun w' _ => by unfold execOp; rw [p25]; first | rfl | kernel_rfl⟩) hHeld ?_
    rw [d25]
    simp only [Act.put, List.setIfInBounds_toArray, List.set_cons_zero, List.set_cons_succ]
    refine wpAnyH_take (i := 26) (v := .bool true) h26 HNS (by rw [hops]; kernel_rfl) (by rw [hops]; kernel_rfl) (fun _ _ _ h => h) (Or.inl ⟨(wanted_none g26), fun w' _ => by unfold execOp; rw [p26]; first | rfl | kernel_rfl⟩) hHeld ?_
    rw [d26]
    simp only [Act.put, List.setIfInBounds_toArray, List.set_cons_zero, List.set_cons_succ]
    refine wpAnyH_take (i := 27) (v := .slice (some ⟨b6, 0, none⟩) 2 2) h27 HNS (by rw [hops]; kernel_rfl) (by rw [hops]; kernel_rfl) (fun _ _ _ h => h) (Or.inl ⟨(wanted_some g27 h26 d26 (by rfl)), fun w' _ => by unfold execOp; rw [p27]; first | rfl | kernel_rfl⟩) hHeld ?_
    rw [d27]
    simp only [Act.put, List.setIfInBounds_toArray, List.set_cons_zero, List.set_cons_succ]
    refine wpAnyH_take (i := 28) (v := .slice (some ⟨w.heap.size + 1, 0, none⟩) 1 1) h28 HNS (by rw [hops]; kernel_rfl) (by rw [hops]; kernel_rfl) (fun _ _ _ h => h) (Or.inl ⟨(wanted_some g28 h26 d26 (by rfl)), fun w' _ => by unfold execOp; rw [p28]; first | rfl | kernel_rfl⟩) hHeld ?_
    rw [d28]
    simp only [Act.put, List.setIfInBounds_toArray, List.set_cons_zero, List.set_cons_succ]
    refine wpAnyH_take (i := 29) (v := .slice (some ⟨b7, 0, none⟩) 2 2) h29 HNS (by rw [hops]; kernel_rfl) (by rw [hops]; kernel_rfl) (fun _ _ _ h => h) (Or.inl ⟨(wanted_some g29 h26 d26 (by rfl)), fun w' _ => by unfold execOp; rw [p29]; first | rfl | kernel_rfl⟩) hHeld ?_
    rw [d29]
    simp only [Act.put, List.setIfInBounds_toArray, List.set_cons_zero, List.set_cons_succ]
    refine wpAnyH_take (i := 30) (v := .pointer (some ⟨b7, 0, none⟩)) h30 HNS (by rw [hops]; kernel_rfl) (by rw [hops]; kernel_rfl) (fun _ _ _ h => h) (Or.inl ⟨(wanted_some g30 h26 d26 (by rfl)), fun w' _ => by unfold execOp; rw [p30]; first | rfl | kernel_rfl⟩) hHeld ?_
    rw [d30]
    simp only [Act.put, List.setIfInBounds_toArray, List.set_cons_zero, List.set_cons_succ]
    refine wpAnyH_take (i := 31) (v := .agg (Rc.rw 0 10 dc).toArray) h31 HNS (by rw [hops]; kernel_rfl) (by rw [hops]; kernel_rfl) (fun _ _ _ h => h) (Or.inl ⟨(wanted_some g31 h26 d26 (by rfl)), fun w' h => run_op_load_mid 47 _ p31 b7 0 (by rfl) (Rc.rw 0 10 dc) _ h.2.2.1 Tryd.underlying47 rfl hi47⟩) hHeld ?_
    rw [d31]
    simp only [Act.put, List.setIfInBounds_toArray, List.set_cons_zero, List.set_cons_succ]
    refine wpAnyH_take (i := 32) (v := .slice (some ⟨b7, 0, none⟩) 2 2) h32 HNS (by rw [hops]; kernel_rfl) (by rw [hops]; kernel_rfl) (fun _ _ _ h => h) (Or.inl ⟨(wanted_some g32 h26 d26 (by rfl)), fun w' _ => by unfold execOp; rw [p32]; first | rfl | kernel_rfl⟩) hHeld ?_
    rw [d32]
    simp only [Act.put, List.setIfInBounds_toArray, List.set_cons_zero, List.set_cons_succ]
    refine wpAnyH_take (i := 33) (v := .pointer (some ⟨b7, 0, none⟩)) h33 HNS (by rw [hops]; kernel_rfl) (by rw [hops]; kernel_rfl) (fun _ _ _ h => h) (Or.inl ⟨(wanted_some g33 h26 d26 (by rfl)), fun w' _ => by unfold execOp; rw [p33]; first | rfl | kernel_rfl⟩) hHeld ?_
    rw [d33]
    simp only [Act.put, List.setIfInBounds_toArray, List.set_cons_zero, List.set_cons_succ]
    refine wpAnyH_take (i := 34) (v := .agg (Rc.rw 0 10 dc).toArray) h34 HNS (by rw [hops]; kernel_rfl) (by rw [hops]; kernel_rfl) (fun _ _ _ h => h) (Or.inl ⟨(wanted_some g34 h26 d26 (by rfl)), fun w' h => run_op_load_mid 47 _ p34 b7 0 (by rfl) (Rc.rw 0 10 dc) _ h.2.2.1 Tryd.underlying47 rfl hi47⟩) hHeld ?_
    rw [d34]
    simp only [Act.put, List.setIfInBounds_toArray, List.set_cons_zero, List.set_cons_succ]
    refine wpAnyH_ready (rs := [35]) (by rw [hops]; kernel_rfl) (by simp) ?_
    refine AllReadyH.cons h35 (fun K hK => ?_) AllReadyH.nil
    rw [if_pos (wanted_some g35 h26 d26 (by rfl))]
    refine wp_runG (run_op_buildSliceR 24 2 _ p35 [(0, .agg (Rc.rw 0 10 dc).toArray), (1, .agg (Rc.rw 0 10 dc).toArray)] (by rfl) _ _ (Rc.bs2 0 10 0 10 dc HDL.out _)) ?_
    have s15 := Rc.new2 (o := (.cells (Rc.rw 0 10 dc ++ Rc.rw 0 10 dc).toArray 47)) s14
    have h15 := Has.new w14 47 (Rc.rw 0 10 dc ++ Rc.rw 0 10 dc)
    rw [d35]
    simp only [Act.put, List.setIfInBounds_toArray, List.set_cons_zero, List.set_cons_succ]
    refine hK.out _ _ (KP.out _ s15) (fun hHeld => ?_)
    clear hK K
    refine wpAnyH_ready (rs := [36]) (by rw [hops]; kernel_rfl) (by simp) ?_
    refine AllReadyH.cons h36 (fun K hK => ?_) AllReadyH.nil
    rw [if_pos (wanted_some g36 h26 d26 (by rfl))]
    refine wp_call3 14 _ _ _ _ (.slice (some ⟨b6, 0, none⟩) 2 2) (.slice (some ⟨w.heap.size + 1, 0, none⟩) 1 1) (.slice (some ⟨w14.heap.size, 0, none⟩) 2 2) p36 HECK.out (by rfl) (by rfl) (by rfl) ?_
    ((refine (HK2.out _ _ (HB12.out.trans (s15.mono HB12.out.size)) h15).mono ?_); rintro e w16 ⟨rfl, hb⟩)
    refine ⟨_, rfl, ?_⟩
    have s16 : Below W12.heap.size W12 w16 := (s15).trans (hb.mono (s15).size)
    clear hb
    rw [d36]
    simp only [Act.put, List.setIfInBounds_toArray, List.set_cons_zero, List.set_cons_succ]
    refine hK.out _ _ (KP.out _ s16) (fun hHeld => ?_)
    clear hK K
    refine wpAnyH_take (i := 37) (v := .bool true) h37 HNS (by rw [hops]; kernel_rfl) (by rw [hops]; kernel_rfl) (fun _ _ _ h => h) (Or.inl ⟨(wanted_some g37 h26 d26 (by rfl)), fun w' _ => by unfold execOp; rw [p37]; first | rfl | kernel_rfl⟩) hHeld ?_
    rw [d37]
    simp only [Act.put, List.setIfInBounds_toArray, List.set_cons_zero, List.set_cons_succ]
    refine wpAnyH_take (i := 38) (v := .bool true) h38 HNS (by rw [hops]; kernel_rfl) (by rw [hops]; kernel_rfl) (fun _ _ _ h => h) (Or.inl ⟨(wanted_none g38), fun w' _ => by unfold execOp; rw [p38]; first | rfl | kernel_rfl⟩) hHeld ?_
    rw [d38]
    simp only [Act.put, List.setIfInBounds_toArray, List.set_cons_zero, List.set_cons_succ]
    refine wpAnyH_ready (rs := [39]) (by rw [hops]; kernel_rfl) (by simp) ?_
    refine AllReadyH.cons h39 (fun K hK => ?_) AllReadyH.nil
    rw [if_pos (wanted_none g39)]
    refine wp_runG (v := .bool true) (w' := w16) (by unfold execOp; rw [p39]; first | rfl | kernel_rfl) ?_
    rw [d39]
    simp only [Act.put, List.setIfInBounds_toArray, List.set_cons_zero, List.set_cons_succ]
    refine hK.out _ _ (KP.out _ s16) (fun hHeld => ?_)
    clear hK K
    refine wpAnyH_done (by rw [hops]; kernel_rfl) (NoPanic.normal ?_) _
    have HBF := Lib.hid (HS6.out.below.trans ((HB12.out.trans (s16.mono HB12.out.size)).mono HS6.out.below.size))
    clear s14 s15 s16 h15 s0 hHeld hi47 hops
    clear HNS h0 d0 p0 g0 h1 d1 p1 g1 h2 d2 p2 g2 h3 d3 p3 g3 h4 d4 p4 g4 h5 d5 p5 g5 h6 d6 p6 g6 h7 d7 p7 g7 h8 d8 p8 g8 h9 d9 p9 g9 h10 d10 p10 g10 h11 d11 p11 g11 h12 d12 p12 g12 h13 d13 p13 g13 h14 d14 p14 g14 h15 d15 p15 g15 h16 d16 p16 g16 h17 d17 p17 g17 h18 d18 p18 g18 h19 d19 p19 g19 h20 d20 p20 g20 h21 d21 p21 g21 h22 d22 p22 g22 h23 d23 p23 g23 h24 d24 p24 g24 h25 d25 p25 g25 h26 d26 p26 g26 h27 d27 p27 g27 h28 d28 p28 g28 h29 d29 p29 g29 h30 d30 p30 g30 h31 d31 p31 g31 h32 d32 p32 g32 h33 d33 p33 g33 h34 d34 p34 g34 h35 d35 p35 g35 h36 d36 p36 g36 h37 d37 p37 g37 h38 d38 p38 g38 h39 d39 p39 g39
    have HP1 := Lib.hid (fun W => Rc.Before_any 3 5 6 6 W)
    rw [show decide ((5 : Int) < 6) = true from rfl] at HP1
    have HP2 := Lib.hid (fun W => Rc.Before_any 3 5 5 9 W)
    rw [show decide ((5 : Int) < 5) = false from rfl] at HP2
    go_wp2_with fail
    ((with_reducible refine (HP1.out _).mono ?_); rintro e w17 ⟨rfl, hb⟩)
    have HBG := Lib.hid (HBF.out.trans (hb.mono HBF.out.size))
    clear hb HBF
    go_wp2_with fail
    ((with_reducible refine (HP2.out _).mono ?_); rintro e w18 ⟨rfl, hb⟩)
    have HBH := Lib.hid (HBG.out.trans (hb.mono HBG.out.size))
    clear hb HBG
    go_wp2_with fail
    go_ret
    exact ⟨rfl, HBH.out⟩
end Go.Proofs.YtnbbleajbbgmjaaDoor
