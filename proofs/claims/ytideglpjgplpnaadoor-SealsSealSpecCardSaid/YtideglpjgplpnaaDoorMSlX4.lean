import Derived.Test.YtideglpjgplpnaaDoorMSlX1
import Derived.Test.YtideglpjgplpnaaDoorMSlW4
import Derived.Test.YtideglpjgplpnaaDoorMShR3
/- Contract of the reference's Seal where it refuses. -/
namespace Go.Proofs.YtideglpjgplpnaaDoor
open Go.RowKit Go.Shelf
set_option linter.unusedVariables false
set_option linter.unusedSimpArgs false

set_option maxRecDepth 100000 in
set_option maxHeartbeats 8000000 in
theorem Sl.rseal_arg (Ab Ak Ac : Option Addr) (nb cb nk ck nc cc : Nat) (th mn : Int) (w : World) (hnb : nb ≤ maxLen) (hnk : nk ≤ maxLen) (h : nb < 1 ∨ 64 < nb ∨ nk ≠ nb) :
    Calls Tryd.prog 18 #[.slice Ab nb cb, .slice Ak nk ck, .int .i64 th, .int .i64 mn, .slice Ac nc cc] w (Sl.RetNo w 1) := by
  unfold maxLen at hnb hnk
  have HIW := Lib.hid (show (Tryd.prog.info? 27).map (·.size) = some Sl.z36.toArray.size from Sl.infoW)
  have H1 := Lib.hid (show Sl.z36.toArray.all (·.oneCell') = true from by kernel_rfl)
  obtain ⟨W1, hW1⟩ : ∃ W1, W1 = w.alloc (.cells Sl.z36.toArray 27) := ⟨_, rfl⟩
  have HB1 := Lib.hid (show Below w.heap.size w W1 from by rw [hW1]; exact (Below.refl _ w).alloc (Nat.le_refl _) _)
  have HS1 := Lib.hid (show Has W1 w.heap.size 27 Sl.z36 from by rw [hW1]; exact Has.new w _ _)
  have HS1r := Lib.hid (show W1.heap[w.heap.size]? = some (.cells Sl.z36.toArray 27 (0, 0)) from HS1.out)
  have key : ∀ b : Bool, b = true → b = true := fun _ h => h
  go_enter Tryd.func18, Tryd.ntmps18
  go_upto_region 1 with fail
  change Code.wp _ _ _ _ (w.alloc (.cells Sl.z36.toArray 27))
  rw [← hW1]
  clear hW1
  by_cases h1 : nb < 1
  · clear h
    go_wp2_with (first
      | (refine wpList_buildR (o := ⟨some 32, _, _, _, _, _⟩) rfl 27 _ rfl [] rfl (.agg Sl.z36.toArray) _ (Sl.bld0 _) ?_)
      | (refine wpList_store_row (o := ⟨none, .store 27 (.tmp 10) (.tmp 32), _, _, _, _⟩) rfl 27 (.tmp 10) (.tmp 32) rfl w.heap.size Sl.z36.toArray rfl rfl 27 Sl.z36.toArray HS1r.out HIW.out rfl H1.out ?_))
    refine bodyPost_ret (results_cell_row3 rfl _ _ w.heap.size 27 Sl.z36.toArray (0, 0) _ rfl (Sl.store36 HS1.out rfl) Tryd.underlying27 rfl HIW.out) rfl ?_
    exact ⟨rfl, below_setRow HB1.out (Nat.le_refl _) _⟩
  · by_cases h2 : 64 < nb
    · clear h
      go_wp2_with (first
        | (refine wpList_buildR (o := ⟨some 32, _, _, _, _, _⟩) rfl 27 _ rfl [] rfl (.agg Sl.z36.toArray) _ (Sl.bld0 _) ?_)
        | (refine wpList_store_row (o := ⟨none, .store 27 (.tmp 10) (.tmp 32), _, _, _, _⟩) rfl 27 (.tmp 10) (.tmp 32) rfl w.heap.size Sl.z36.toArray rfl rfl 27 Sl.z36.toArray HS1r.out HIW.out rfl H1.out ?_))
      refine bodyPost_ret (results_cell_row3 rfl _ _ w.heap.size 27 Sl.z36.toArray (0, 0) _ rfl (Sl.store36 HS1.out rfl) Tryd.underlying27 rfl HIW.out) rfl ?_
      exact ⟨rfl, below_setRow HB1.out (Nat.le_refl _) _⟩
    · have q1 : ((nk : Int) != (nb : Int)) = true := by
        have h3 : nk ≠ nb := by omega
        simpa using fun e : (nk : Int) = (nb : Int) => h3 (by omega)
      clear h
      go_wp2_with (first
        | (refine wpList_buildR (o := ⟨some 32, _, _, _, _, _⟩) rfl 27 _ rfl [] rfl (.agg Sl.z36.toArray) _ (Sl.bld0 _) ?_)
        | (refine wpList_store_row (o := ⟨none, .store 27 (.tmp 10) (.tmp 32), _, _, _, _⟩) rfl 27 (.tmp 10) (.tmp 32) rfl w.heap.size Sl.z36.toArray rfl rfl 27 Sl.z36.toArray HS1r.out HIW.out rfl H1.out ?_))
      refine bodyPost_ret (results_cell_row3 rfl _ _ w.heap.size 27 Sl.z36.toArray (0, 0) _ rfl (Sl.store36 HS1.out rfl) Tryd.underlying27 rfl HIW.out) rfl ?_
      exact ⟨rfl, below_setRow HB1.out (Nat.le_refl _) _⟩
set_option maxRecDepth 100000 in
set_option maxHeartbeats 8000000 in
theorem Sl.rseal_spl (Ab Ak Ac : Option Addr) (n cb ck nc cc : Nat) (th mn : Int) (w : World) (hn1 : 1 ≤ n) (hn64 : n ≤ 64) (hnc : nc ≤ maxLen) (hth : -9223372036854775808 ≤ th ∧ th ≤ 9223372036854775807) (h : Shr.spE n 0 th mn nc ≠ 0) :
    Calls Tryd.prog 18 #[.slice Ab n cb, .slice Ak n ck, .int .i64 th, .int .i64 mn, .slice Ac nc cc] w (Sl.RetNo w (Shr.spE n 0 th mn nc)) := by
  have HIW := Lib.hid (show (Tryd.prog.info? 27).map (·.size) = some Sl.z36.toArray.size from Sl.infoW)
  have H1 := Lib.hid (show Sl.z36.toArray.all (·.oneCell') = true from by kernel_rfl)
  have HC := Lib.hid (fun (W : World) => Shr.rsplit_no Ak Ac n ck nc cc 0 th mn W (by unfold maxLen; omega) hnc hth h)
  obtain ⟨z, hz⟩ : ∃ z, Shr.spE n 0 th mn nc = z := ⟨_, rfl⟩
  rw [hz] at HC h ⊢
  have q2 : (z != 0) = true := by simpa using h
  have q1 : ((n : Int) != (n : Int)) = false := by simp
  obtain ⟨W1, hW1⟩ : ∃ W1, W1 = w.alloc (.cells Sl.z36.toArray 27) := ⟨_, rfl⟩
  have HB1 := Lib.hid (show Below w.heap.size w W1 from by rw [hW1]; exact (Below.refl _ w).alloc (Nat.le_refl _) _)
  have HS1 := Lib.hid (show Has W1 w.heap.size 27 Sl.z36 from by rw [hW1]; exact Has.new w _ _)
  clear hnc hth h hz
  go_enter Tryd.func18, Tryd.ntmps18
  go_upto_region 1 with fail
  change Code.wp _ _ _ _ (w.alloc (.cells Sl.z36.toArray 27))
  rw [← hW1]
  clear hW1
  go_wp2_with fail
  ((with_reducible refine (HC.out W1).mono ?_); rintro e w2 ⟨rfl, hb2⟩)
  have HB2 := Lib.hid (HB1.out.trans (hb2.mono HB1.out.size))
  have HS2 := Lib.hid (HS1.out.keep hb2)
  have HS2r := Lib.hid (show w2.heap[w.heap.size]? = some (.cells Sl.z36.toArray 27 (0, 0)) from HS2.out)
  clear hb2 q1
  go_wp2_with (first
    | (refine wpList_buildR (o := ⟨some 43, _, _, _, _, _⟩) rfl 27 _ rfl [] rfl (.agg Sl.z36.toArray) _ (Sl.bld0 _) ?_)
    | (refine wpList_store_row (o := ⟨none, .store 27 (.tmp 10) (.tmp 43), _, _, _, _⟩) rfl 27 (.tmp 10) (.tmp 43) rfl w.heap.size Sl.z36.toArray rfl rfl 27 Sl.z36.toArray HS2r.out HIW.out rfl H1.out ?_))
  refine bodyPost_ret (results_cell_row3 rfl _ _ w.heap.size 27 Sl.z36.toArray (0, 0) _ rfl (Sl.store36 HS2.out rfl) Tryd.underlying27 rfl HIW.out) rfl ?_
  exact ⟨rfl, below_setRow HB2.out (Nat.le_refl _) _⟩
theorem Sl.rseal_no (Ab Ak Ac : Option Addr) (nb cb nk ck nc cc : Nat) (th mn : Int) (w : World) (hnb : nb ≤ maxLen) (hnk : nk ≤ maxLen) (hnc : nc ≤ maxLen) (hth : -9223372036854775808 ≤ th ∧ th ≤ 9223372036854775807) (h : Sl.selE nb nk th mn nc ≠ 0) :
    Calls Tryd.prog 18 #[.slice Ab nb cb, .slice Ak nk ck, .int .i64 th, .int .i64 mn, .slice Ac nc cc] w (Sl.RetNo w (Sl.selE nb nk th mn nc)) := by
  by_cases h1 : nb < 1 ∨ 64 < nb ∨ nk ≠ nb
  · rw [show Sl.selE nb nk th mn nc = 1 from by unfold Sl.selE; rw [if_pos h1]]
    exact Sl.rseal_arg Ab Ak Ac nb cb nk ck nc cc th mn w hnb hnk h1
  · have he : Sl.selE nb nk th mn nc = Shr.spE nk 0 th mn nc := by unfold Sl.selE; rw [if_neg h1]
    rw [he] at h ⊢
    have hk : nk = nb := by omega
    subst hk
    exact Sl.rseal_spl Ab Ak Ac nk cb ck nc cc th mn w (by omega) (by omega) hnc hth h
end Go.Proofs.YtideglpjgplpnaaDoor
