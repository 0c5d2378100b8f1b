import Derived.Test.YtideglpjgplpnaaDoorMFrame
import Derived.Test.YtideglpjgplpnaaDoorMSlOpen
import Derived.Test.YtideglpjgplpnaaDoorTie
import Derived.Test.YtideglpjgplpnaaDoorCards
import Derived.SevenTiedAt
import Derived.LaidMore
import Derived.LaidSub
import Derived.Test.YtideglpjgplpnaaDoorMSlL5
/- SealsOpenSpec: for every sealed body and all shares the law returns true, and its arguments read afterwards as before. Condition: the two package variables of the digest hold what the row lists; the card ties that to the program. -/

namespace Go.Proofs.YtideglpjgplpnaaDoor
open Go.ChangeShapes Go.WideShapes Go.ChangeAt Go.RowKit Go.Joins
set_option linter.unusedVariables false

set_option maxRecDepth 100000 in
theorem Lw.lifted_SealsOpenSpec (os : Os) (started : os.Started) (H : Type) (enc : TypeId × Value → H) :
    ReturnsInHanded {} Tryd.checked os 6 .any (fun w args => (Rows.sealsOpenSpecSpec.pre enc Tryd.prog Tryd.f6 [] false w args ∧ laidMetH Tryd.prog Sl.laidL w) ∧ sizedMet enc Tryd.prog Tryd.f6 (OpenSpec.ofChange Rows.sealsOpenSpecSpec) false w args) (Rows.sealsOpenSpecSpec.post enc Tryd.prog Tryd.f6 false true false false) := by
  refine returnsInHanded_of_change_and (C := Tryd.checked) (X := fun w _ => laidMetH Tryd.prog Sl.laidL w) (fun _ _ _ hh h => h.of_heap hh) own started (by kernel_rfl) Tryd.func6
    (ChangeSpec.witness_shaped (enc := enc) (C := Tryd.checked) (os := os) (X := fun w _ => laidMetH Tryd.prog Sl.laidL w) false (World.doorLaid Tryd.prog 400 os) #[.agg #[.int .u8 0, .int .u8 0, .int .u8 0, .int .u8 0, .int .u8 0, .int .u8 0, .int .u8 0, .int .u8 0, .int .u8 0, .int .u8 0, .int .u8 0, .int .u8 0, .int .u8 0, .int .u8 0, .int .u8 0, .int .u8 0, .int .u8 0, .int .u8 0, .int .u8 0, .int .u8 0, .int .u8 0, .int .u8 0, .int .u8 0, .int .u8 0, .int .u8 0, .int .u8 0, .int .u8 0, .int .u8 0, .int .u8 0, .int .u8 0, .int .u8 0, .int .u8 0, .slice none 0 0, .int .i64 0, .int .i64 0, .slice none 0 0], .slice none 0 0] 8 rfl (World.shaped_of_RefB (by kernel_rfl) (by kernel_rfl)) (by kernel_rfl) (by kernel_rfl) (by kernel_rfl) (Sl.door_met os _)) ?_
  intro W base args ds gs before hval0 hW _ _ hL _
  have hGl := Sl.of_laid hL
  have hval : ∀ (j : Nat) t v, Tryd.f6.params[j]? = some t → args[j]? = some v → Value.okWide Tryd.prog W .any base t v := hval0
  have hW' := hW
  obtain ⟨p, q, hA0, hV, rfl, hfz, hnd⟩ := hW
  have hA : DataW.TrodAll enc Tryd.prog W 0 (fun _ => true) true Tryd.f6.params.toList args.toList ds p := hA0
  rw [Tryd.params6] at hA hval
  have hA1 := hA
  obtain ⟨v0, vs0, d0, ds0, p0, q0, hargs, rfl, rfl, h0, r0⟩ := trodAll_cons hA
  obtain ⟨v1, vs1, d1, ds1, p1, q1, rfl, rfl, rfl, h1, r1⟩ := trodAll_cons r0
  obtain ⟨rfl, rfl, rfl⟩ := trodAll_nil r1
  obtain rfl : args = #[v0, v1] := by cases args; simp_all
  obtain ⟨rfl, rfl⟩ := trodVars_none hV
  obtain ⟨s, Ad, cd, Am, cA, rfl, hs1, hs2, hs3⟩ := Sl.open_sealed (hval 0 _ v0 rfl rfl) h0
  obtain ⟨Al, nl, cl, ql, rfl, hl1, hl2, hLl, hwf⟩ := open_shares (hval 1 _ v1 rfl rfl) h1
  have hln : Al = none → cl = 0 := fun e => by subst e; exact Sl.open_none Tryd.underlying28 (show Tryd.prog.cellsOf 43 = 5 by kernel_rfl) (by decide) h1
  refine (Sl.openspec_law s Ad cd Am cA Al nl cl ql W ⟨hs1, hLl, Sl.rg_wf hwf, hl1, hl2, hln, hGl⟩).mono fun e W' ⟨he, bel⟩ => ?_
  subst he
  exact ⟨_, rfl, _, _, _, [], _, [], hW', trodAll_mk1 (shut_bool Tryd.underlying4 _), trodAll_below laidOut bel _ _ _ _ (by kernel_rfl) hA1 (fun x hx => hW'.lt x (List.mem_append_left _ hx)), rfl, bel.frame _, fun h => by cases h⟩

theorem Lw.over_SealsOpenSpec : Rows.sealsOpenSpecRow.holds Tryd.pinned (OpenSpec.ofChange Rows.sealsOpenSpecSpec) :=
  OpenClaim.holds_of_wide 6 Tryd.f6 rfl rfl rfl rfl rfl rfl rfl ⟨rfl, rfl, rfl, rfl, rfl⟩ rfl rfl rfl rfl rfl (by kernel_rfl) Tryd.func6 (by kernel_rfl)
    (of_decide_eq_true (by kernel_rfl)) (by unfold Func.isWrapper; first | (rw [if_pos (by decide +kernel)]; kernel_rfl) | (rw [if_neg (by decide +kernel)]; exact ⟨rfl, rfl⟩))
    (fun os started H enc _ => Lw.lifted_SealsOpenSpec os started H enc)

theorem sealsOpenSpec_holds : Rows.SealsOpenSpecSaid := Lw.over_SealsOpenSpec
/-- the tied card -/
theorem sealsOpenSpecCard_holds : Rows.SealsOpenSpecCardSaid :=
  Claim7.holds_tied_plain_at .later [] [.data, .data] true (true, "8a9b17fc106351cbd9482b3eda6e5246b8731898c8dbe89a4646dcb806b5c5ec") false
    sealsOpenSpec_holds (fun _ h => by cases h) (by kernel_rfl) (fun _ h => by cases h) sealsOpenSpec_row_tie rfl ⟨rfl, rfl⟩ (by kernel_rfl) rfl
    (fun f fn hf hfn => by
      obtain rfl : f = 6 := Option.some.inj ((show Tryd.prog.funcNamed Rows.sealsOpenSpecRow.func = some 6 by kernel_rfl).symm.trans hf) |>.symm
      obtain rfl : fn = Tryd.f6 := (Option.some.inj (Tryd.func6.symm.trans hfn)).symm
      exact ⟨by kernel_rfl, fun j t ht => by
        rw [Tryd.params6] at ht
        have hm : t ∈ [27, 28] := by simpa using Array.mem_of_getElem? ht
        have hall : ([27, 28].all fun u => !Tryd.prog.wantsStandIn u) = true := by kernel_rfl
        exact (show Tryd.prog.wantsStandIn t = false by simpa using List.all_eq_true.1 hall t hm)⟩)
    (by kernel_rfl)
#print axioms sealsOpenSpecCard_holds
end Go.Proofs.YtideglpjgplpnaaDoor
