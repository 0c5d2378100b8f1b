/- CodecDecodeSpec: for all bytes the law returns true, and its argument reads afterwards as before. No condition. -/
import Derived.Test.YtnhodcjbmloeeaaFrame
import Derived.Test.YtnhodcjbmloeeaaOpenB
import Derived.Test.YtnhodcjbmloeeaaCdL2
namespace Go.Proofs.Ytnhodcjbmloeeaa
open Go.ChangeShapes Go.WideShapes Go.ChangeAt Go.RowKit Go.Joins
set_option linter.unusedVariables false

set_option maxRecDepth 100000 in
theorem Cd.lifted_CodecDecodeSpec (os : Os) (started : os.Started) (H : Type) (enc : TypeId × Value → H) :
    ReturnsInHanded {} Try.checked os 4 .any (Rows.codecDecodeSpecSpec.pre6 enc Try.prog Try.f4 Rows.codecDecodeSpecRow.domain false) (Rows.codecDecodeSpecSpec.post enc Try.prog Try.f4 false true false false) := by
  refine returnsInHanded_of_change (C := Try.checked) own started (by kernel_rfl) Try.func4
    (ChangeSpec.witness6 (enc := enc) (C := Try.checked) false ⟨#[], #[.slice none 0 0], []⟩ 8 (by kernel_rfl) (by kernel_rfl) (by kernel_rfl) (by kernel_rfl)) ?_
  intro W base args ds gs before hval0 hW hcnd _
  have hval : ∀ (j : Nat) t v, Try.f4.params[j]? = some t → args[j]? = some v → Value.okWide Try.prog W .any base t v := hval0
  have hW' := hW
  obtain ⟨p, q, hA0, hV, rfl, hfz, hnd⟩ := hW
  have hA : DataW.TrodAll enc Try.prog W 0 (fun _ => true) true Try.f4.params.toList args.toList ds p := hA0
  rw [Try.params4] at hA hval
  have hA1 := hA
  obtain ⟨v0, vs0, d0, ds0, p0, q0, hargs, rfl, rfl, h0, r0⟩ := trodAll_cons hA
  obtain ⟨rfl, rfl, rfl⟩ := trodAll_nil r0
  obtain rfl : args = #[v0] := by cases args; simp_all
  obtain ⟨rfl, rfl⟩ := trodVars_none hV
  obtain ⟨A_raw, n_raw, c_raw, z_raw, rfl, hnc_raw, hcm_raw, hzl_raw, hrd_raw, hwz_raw⟩ := open_rd_ints Try.underlying27 Try.underlying5 (show Try.prog.cellsOf 5 = 1 by kernel_rfl) (hval 0 _ v0 rfl rfl) h0
  obtain ⟨raw, hr_raw⟩ := bytes_of hwz_raw hrd_raw
  have hn_raw := Nat.le_trans hnc_raw hcm_raw
  refine (Cd.law2 A_raw n_raw c_raw raw W hr_raw hnc_raw hcm_raw).mono fun e W' ⟨he, bel⟩ => ?_
  subst he
  exact ⟨_, rfl, _, _, _, [], _, [], hW', trodAll_mk1 (shut_bool Try.underlying4 _), trodAll_below laidOut bel _ _ _ _ (by kernel_rfl) hA1 (fun x hx => hW'.lt x (List.mem_append_left _ hx)), rfl, bel.frame _, fun h => by cases h⟩

theorem Cd.over_CodecDecodeSpec : Rows.codecDecodeSpecRow.holds Try.pinned (OpenSpec.ofChange Rows.codecDecodeSpecSpec) :=
  OpenClaim.holds_of_wide 4 Try.f4 rfl rfl rfl rfl rfl rfl rfl ⟨rfl, rfl, rfl, rfl, rfl⟩ rfl rfl rfl rfl rfl (by kernel_rfl) Try.func4 (by kernel_rfl)
    (of_decide_eq_true (by kernel_rfl)) (by unfold Func.isWrapper; first | (rw [if_pos (by decide +kernel)]; kernel_rfl) | (rw [if_neg (by decide +kernel)]; exact ⟨rfl, rfl⟩))
    (fun os started H enc _ => Cd.lifted_CodecDecodeSpec os started H enc)

theorem codecDecodeSpec_holds : Rows.CodecDecodeSpecSaid := Cd.over_CodecDecodeSpec
#print axioms codecDecodeSpec_holds
end Go.Proofs.Ytnhodcjbmloeeaa
