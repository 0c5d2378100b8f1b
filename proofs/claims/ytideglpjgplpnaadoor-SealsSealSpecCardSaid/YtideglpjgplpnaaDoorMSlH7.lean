import Derived.Test.YtideglpjgplpnaaDoorMFrame
import Derived.Test.YtideglpjgplpnaaDoorMSlOpen
import Derived.Test.YtideglpjgplpnaaDoorTie
import Derived.Test.YtideglpjgplpnaaDoorCards
import Derived.SevenTiedAt
import Derived.LaidMore
import Derived.LaidSub
import Derived.Test.YtideglpjgplpnaaDoorMSlL7
/- SealsSealSpec: for every sealed body, all bodies, keys, numbers and coins the law returns true, and its arguments read afterwards as before. Condition: the two package variables of the digest hold what the row lists; the card ties that to the program. -/

namespace Go.Proofs.YtideglpjgplpnaaDoor
open Go.ChangeShapes Go.WideShapes Go.ChangeAt Go.RowKit Go.Joins
set_option linter.unusedVariables false

set_option maxRecDepth 100000 in
theorem Lw.lifted_SealsSealSpec (os : Os) (started : os.Started) (H : Type) (enc : TypeId × Value → H) :
    ReturnsInHanded {} Tryd.checked os 5 .any (fun w args => (Rows.sealsSealSpecSpec.pre enc Tryd.prog Tryd.f5 [] false w args ∧ laidMetH Tryd.prog Sl.laidL w) ∧ sizedMet enc Tryd.prog Tryd.f5 (OpenSpec.ofChange Rows.sealsSealSpecSpec) false w args) (Rows.sealsSealSpecSpec.post enc Tryd.prog Tryd.f5 false true false false) := by
  refine returnsInHanded_of_change_and (C := Tryd.checked) (X := fun w _ => laidMetH Tryd.prog Sl.laidL w) (fun _ _ _ hh h => h.of_heap hh) own started (by kernel_rfl) Tryd.func5
    (ChangeSpec.witness_shaped (enc := enc) (C := Tryd.checked) (os := os) (X := fun w _ => laidMetH Tryd.prog Sl.laidL w) false (World.doorLaid Tryd.prog 400 os) #[.agg #[.int .u8 0, .int .u8 0, .int .u8 0, .int .u8 0, .int .u8 0, .int .u8 0, .int .u8 0, .int .u8 0, .int .u8 0, .int .u8 0, .int .u8 0, .int .u8 0, .int .u8 0, .int .u8 0, .int .u8 0, .int .u8 0, .int .u8 0, .int .u8 0, .int .u8 0, .int .u8 0, .int .u8 0, .int .u8 0, .int .u8 0, .int .u8 0, .int .u8 0, .int .u8 0, .int .u8 0, .int .u8 0, .int .u8 0, .int .u8 0, .int .u8 0, .int .u8 0, .slice none 0 0, .int .i64 0, .int .i64 0, .slice none 0 0], .slice none 0 0, .slice none 0 0, .int .i64 0, .int .i64 0, .slice none 0 0] 8 rfl (World.shaped_of_RefB (by kernel_rfl) (by kernel_rfl)) (by kernel_rfl) (by kernel_rfl) (by kernel_rfl) (Sl.door_met os _)) ?_
  intro W base args ds gs before hval0 hW _ _ hL _
  have hGl := Sl.of_laid hL
  have hval : ∀ (j : Nat) t v, Tryd.f5.params[j]? = some t → args[j]? = some v → Value.okWide Tryd.prog W .any base t v := hval0
  have hW' := hW
  obtain ⟨p, q, hA0, hV, rfl, hfz, hnd⟩ := hW
  have hA : DataW.TrodAll enc Tryd.prog W 0 (fun _ => true) true Tryd.f5.params.toList args.toList ds p := hA0
  rw [Tryd.params5] at hA hval
  have hA1 := hA
  obtain ⟨v0, vs0, d0, ds0, p0, q0, hargs, rfl, rfl, h0, r0⟩ := trodAll_cons hA
  obtain ⟨v1, vs1, d1, ds1, p1, q1, rfl, rfl, rfl, h1, r1⟩ := trodAll_cons r0
  obtain ⟨v2, vs2, d2, ds2, p2, q2, rfl, rfl, rfl, h2, r2⟩ := trodAll_cons r1
  obtain ⟨v3, vs3, d3, ds3, p3, q3, rfl, rfl, rfl, h3, r3⟩ := trodAll_cons r2
  obtain ⟨v4, vs4, d4, ds4, p4, q4, rfl, rfl, rfl, h4, r4⟩ := trodAll_cons r3
  obtain ⟨v5, vs5, d5, ds5, p5, q5, rfl, rfl, rfl, h5, r5⟩ := trodAll_cons r4
  obtain ⟨rfl, rfl, rfl⟩ := trodAll_nil r5
  obtain rfl : args = #[v0, v1, v2, v3, v4, v5] := by cases args; simp_all
  obtain ⟨rfl, rfl⟩ := trodVars_none hV
  obtain ⟨s, Ad, cd, Am, cA, rfl, hs1, hs2, hs3⟩ := Sl.open_sealed (hval 0 _ v0 rfl rfl) h0
  obtain ⟨A_body, n_body, c_body, z_body, rfl, hnc_body, hcm_body, hzl_body, hrd_body, hwz_body⟩ := open_rd_ints Tryd.underlying24 Tryd.underlying5 (show Tryd.prog.cellsOf 5 = 1 by kernel_rfl) (hval 1 _ v1 rfl rfl) h1
  obtain ⟨body, hr_body⟩ := bytes_of hwz_body hrd_body
  have hn_body := Nat.le_trans hnc_body hcm_body
  have hq_body : A_body = none → c_body = 0 := fun e => by subst e; exact open_nil Tryd.underlying24 Tryd.underlying5 (show Tryd.prog.cellsOf 5 = 1 by kernel_rfl) h1
  obtain ⟨A_key, n_key, c_key, z_key, rfl, hnc_key, hcm_key, hzl_key, hrd_key, hwz_key⟩ := open_rd_ints Tryd.underlying24 Tryd.underlying5 (show Tryd.prog.cellsOf 5 = 1 by kernel_rfl) (hval 2 _ v2 rfl rfl) h2
  obtain ⟨key, hr_key⟩ := bytes_of hwz_key hrd_key
  have hn_key := Nat.le_trans hnc_key hcm_key
  have hq_key : A_key = none → c_key = 0 := fun e => by subst e; exact open_nil Tryd.underlying24 Tryd.underlying5 (show Tryd.prog.cellsOf 5 = 1 by kernel_rfl) h2
  obtain ⟨th, rfl, _, _, wf_th⟩ := open_int Tryd.underlying3 (hval 3 _ v3 rfl rfl) h3
  obtain ⟨mn, rfl, _, _, wf_mn⟩ := open_int Tryd.underlying3 (hval 4 _ v4 rfl rfl) h4
  obtain ⟨A_coins, n_coins, c_coins, z_coins, rfl, hnc_coins, hcm_coins, hzl_coins, hrd_coins, hwz_coins⟩ := open_rd_ints Tryd.underlying24 Tryd.underlying5 (show Tryd.prog.cellsOf 5 = 1 by kernel_rfl) (hval 5 _ v5 rfl rfl) h5
  obtain ⟨coins, hr_coins⟩ := bytes_of hwz_coins hrd_coins
  have hn_coins := Nat.le_trans hnc_coins hcm_coins
  have hq_coins : A_coins = none → c_coins = 0 := fun e => by subst e; exact open_nil Tryd.underlying24 Tryd.underlying5 (show Tryd.prog.cellsOf 5 = 1 by kernel_rfl) h5
  refine (Sl.sealspec_law s Ad cd Am cA A_body n_body c_body body A_key n_key c_key key th mn A_coins n_coins c_coins coins W hs1 hr_body hr_key hr_coins hn_body hn_key hq_body hnc_coins hcm_coins hq_coins (bounds_i64 wf_th) hGl).mono fun e W' ⟨he, bel⟩ => ?_
  subst he
  exact ⟨_, rfl, _, _, _, [], _, [], hW', trodAll_mk1 (shut_bool Tryd.underlying4 _), trodAll_below laidOut bel _ _ _ _ (by kernel_rfl) hA1 (fun x hx => hW'.lt x (List.mem_append_left _ hx)), rfl, bel.frame _, fun h => by cases h⟩

theorem Lw.over_SealsSealSpec : Rows.sealsSealSpecRow.holds Tryd.pinned (OpenSpec.ofChange Rows.sealsSealSpecSpec) :=
  OpenClaim.holds_of_wide 5 Tryd.f5 rfl rfl rfl rfl rfl rfl rfl ⟨rfl, rfl, rfl, rfl, rfl⟩ rfl rfl rfl rfl rfl (by kernel_rfl) Tryd.func5 (by kernel_rfl)
    (of_decide_eq_true (by kernel_rfl)) (by unfold Func.isWrapper; first | (rw [if_pos (by decide +kernel)]; kernel_rfl) | (rw [if_neg (by decide +kernel)]; exact ⟨rfl, rfl⟩))
    (fun os started H enc _ => Lw.lifted_SealsSealSpec os started H enc)

theorem sealsSealSpec_holds : Rows.SealsSealSpecSaid := Lw.over_SealsSealSpec
/-- the tied card -/
theorem sealsSealSpecCard_holds : Rows.SealsSealSpecCardSaid :=
  Claim7.holds_tied_plain_at .later [] [.data, .data] true (true, "8a9b17fc106351cbd9482b3eda6e5246b8731898c8dbe89a4646dcb806b5c5ec") false
    sealsSealSpec_holds (fun _ h => by cases h) (by kernel_rfl) (fun _ h => by cases h) sealsSealSpec_row_tie rfl ⟨rfl, rfl⟩ (by kernel_rfl) rfl
    (fun f fn hf hfn => by
      obtain rfl : f = 5 := Option.some.inj ((show Tryd.prog.funcNamed Rows.sealsSealSpecRow.func = some 5 by kernel_rfl).symm.trans hf) |>.symm
      obtain rfl : fn = Tryd.f5 := (Option.some.inj (Tryd.func5.symm.trans hfn)).symm
      exact ⟨by kernel_rfl, fun j t ht => by
        rw [Tryd.params5] at ht
        have hm : t ∈ [27, 24, 3, 24] := by simpa using Array.mem_of_getElem? ht
        have hall : ([27, 24, 3, 24].all fun u => !Tryd.prog.wantsStandIn u) = true := by kernel_rfl
        exact (show Tryd.prog.wantsStandIn t = false by simpa using List.all_eq_true.1 hall t hm)⟩)
    (by kernel_rfl)
#print axioms sealsSealSpecCard_holds
end Go.Proofs.YtideglpjgplpnaaDoor
