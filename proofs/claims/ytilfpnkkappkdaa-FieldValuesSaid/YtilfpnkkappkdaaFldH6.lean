/- FieldValues: for all lists of bytes and all bytes the law returns true, and its arguments read afterwards as before. No condition. -/
import Derived.Test.YtilfpnkkappkdaaFrame
import Derived.Test.YtilfpnkkappkdaaOpenB
import Derived.Test.YtilfpnkkappkdaaFldL6
namespace Go.Proofs.Ytilfpnkkappkdaa
open Go.ChangeShapes Go.WideShapes Go.ChangeAt Go.RowKit Go.Joins
set_option linter.unusedVariables false

set_option maxRecDepth 100000 in
theorem Fld.lifted_FieldValues (os : Os) (started : os.Started) (H : Type) (enc : TypeId × Value → H) :
    ReturnsInHanded {} Try.checked os 7 .any (Rows.fieldValuesSpec.pre6 enc Try.prog Try.f7 Rows.fieldValuesRow.domain false) (Rows.fieldValuesSpec.post enc Try.prog Try.f7 false true false false) := by
  refine returnsInHanded_of_change (C := Try.checked) own started (by kernel_rfl) Try.func7
    (ChangeSpec.witness6 (enc := enc) (C := Try.checked) false ⟨#[], #[.slice none 0 0, .slice none 0 0, .int .u8 0], []⟩ 8 (by kernel_rfl) (by kernel_rfl) (by kernel_rfl) (by kernel_rfl)) ?_
  intro W base args ds gs before hval0 hW hcnd _
  have hval : ∀ (j : Nat) t v, Try.f7.params[j]? = some t → args[j]? = some v → Value.okWide Try.prog W .any base t v := hval0
  have hW' := hW
  obtain ⟨p, q, hA0, hV, rfl, hfz, hnd⟩ := hW
  have hA : DataW.TrodAll enc Try.prog W 0 (fun _ => true) true Try.f7.params.toList args.toList ds p := hA0
  rw [Try.params7] at hA hval
  have hA1 := hA
  obtain ⟨v0, vs0, d0, ds0, p0, q0, hargs, rfl, rfl, h0, r0⟩ := trodAll_cons hA
  obtain ⟨v1, vs1, d1, ds1, p1, q1, rfl, rfl, rfl, h1, r1⟩ := trodAll_cons r0
  obtain ⟨v2, vs2, d2, ds2, p2, q2, rfl, rfl, rfl, h2, r2⟩ := trodAll_cons r1
  obtain ⟨rfl, rfl, rfl⟩ := trodAll_nil r2
  obtain rfl : args = #[v0, v1, v2] := by cases args; simp_all
  obtain ⟨rfl, rfl⟩ := trodVars_none hV
  obtain ⟨A_l, n_l, c_l, z_l, rfl, hnc_l, hcm_l, hzl_l, hrd_l, hwz_l⟩ := open_rd_ints Try.underlying30 Try.underlying5 (show Try.prog.cellsOf 5 = 1 by kernel_rfl) (hval 0 _ v0 rfl rfl) h0
  obtain ⟨l, hr_l⟩ := bytes_of hwz_l hrd_l
  have hn_l := Nat.le_trans hnc_l hcm_l
  obtain ⟨A_xs, n_xs, c_xs, z_xs, rfl, hnc_xs, hcm_xs, hzl_xs, hrd_xs, hwz_xs⟩ := open_rd_ints Try.underlying30 Try.underlying5 (show Try.prog.cellsOf 5 = 1 by kernel_rfl) (hval 1 _ v1 rfl rfl) h1
  obtain ⟨xs, hr_xs⟩ := bytes_of hwz_xs hrd_xs
  have hn_xs := Nat.le_trans hnc_xs hcm_xs
  obtain ⟨i_a, rfl, _, _, wf_a⟩ := open_int Try.underlying5 (hval 2 _ v2 rfl rfl) h2
  obtain ⟨a, rfl⟩ := byte_of (bounds_u8 wf_a)
  refine (Fld.law6 A_l A_xs n_l c_l n_xs c_xs l xs a W hr_l hr_xs hn_l hn_xs).mono fun e W' ⟨he, bel⟩ => ?_
  subst he
  exact ⟨_, rfl, _, _, _, [], _, [], hW', trodAll_mk1 (shut_bool Try.underlying4 _), trodAll_below laidOut bel _ _ _ _ (by kernel_rfl) hA1 (fun x hx => hW'.lt x (List.mem_append_left _ hx)), rfl, bel.frame _, fun h => by cases h⟩

theorem Fld.over_FieldValues : Rows.fieldValuesRow.holds Try.pinned (OpenSpec.ofChange Rows.fieldValuesSpec) :=
  OpenClaim.holds_of_wide 7 Try.f7 rfl rfl rfl rfl rfl rfl rfl ⟨rfl, rfl, rfl, rfl, rfl⟩ rfl rfl rfl rfl rfl (by kernel_rfl) Try.func7 (by kernel_rfl)
    (of_decide_eq_true (by kernel_rfl)) (by unfold Func.isWrapper; first | (rw [if_pos (by decide +kernel)]; kernel_rfl) | (rw [if_neg (by decide +kernel)]; exact ⟨rfl, rfl⟩))
    (fun os started H enc _ => Fld.lifted_FieldValues os started H enc)

theorem fieldValues_holds : Rows.FieldValuesSaid := Fld.over_FieldValues
#print axioms fieldValues_holds
end Go.Proofs.Ytilfpnkkappkdaa
