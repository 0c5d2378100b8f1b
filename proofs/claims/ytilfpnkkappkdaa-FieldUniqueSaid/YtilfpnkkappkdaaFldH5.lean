/- FieldUnique: for all lists of bytes and all bytes the law returns true, and its arguments read afterwards as before. No condition. -/
import Derived.Test.YtilfpnkkappkdaaFrame
import Derived.Test.YtilfpnkkappkdaaOpenB
import Derived.Test.YtilfpnkkappkdaaFldL5
namespace Go.Proofs.Ytilfpnkkappkdaa
open Go.ChangeShapes Go.WideShapes Go.ChangeAt Go.RowKit Go.Joins
set_option linter.unusedVariables false

set_option maxRecDepth 100000 in
theorem Fld.lifted_FieldUnique (os : Os) (started : os.Started) (H : Type) (enc : TypeId × Value → H) :
    ReturnsInHanded {} Try.checked os 6 .any (Rows.fieldUniqueSpec.pre6 enc Try.prog Try.f6 Rows.fieldUniqueRow.domain false) (Rows.fieldUniqueSpec.post enc Try.prog Try.f6 false true false false) := by
  refine returnsInHanded_of_change (C := Try.checked) own started (by kernel_rfl) Try.func6
    (ChangeSpec.witness6 (enc := enc) (C := Try.checked) false ⟨#[], #[.slice none 0 0, .slice none 0 0, .slice none 0 0, .int .u8 0], []⟩ 8 (by kernel_rfl) (by kernel_rfl) (by kernel_rfl) (by kernel_rfl)) ?_
  intro W base args ds gs before hval0 hW hcnd _
  have hval : ∀ (j : Nat) t v, Try.f6.params[j]? = some t → args[j]? = some v → Value.okWide Try.prog W .any base t v := hval0
  have hW' := hW
  obtain ⟨p, q, hA0, hV, rfl, hfz, hnd⟩ := hW
  have hA : DataW.TrodAll enc Try.prog W 0 (fun _ => true) true Try.f6.params.toList args.toList ds p := hA0
  rw [Try.params6] at hA hval
  have hA1 := hA
  obtain ⟨v0, vs0, d0, ds0, p0, q0, hargs, rfl, rfl, h0, r0⟩ := trodAll_cons hA
  obtain ⟨v1, vs1, d1, ds1, p1, q1, rfl, rfl, rfl, h1, r1⟩ := trodAll_cons r0
  obtain ⟨v2, vs2, d2, ds2, p2, q2, rfl, rfl, rfl, h2, r2⟩ := trodAll_cons r1
  obtain ⟨v3, vs3, d3, ds3, p3, q3, rfl, rfl, rfl, h3, r3⟩ := trodAll_cons r2
  obtain ⟨rfl, rfl, rfl⟩ := trodAll_nil r3
  obtain rfl : args = #[v0, v1, v2, v3] := by cases args; simp_all
  obtain ⟨rfl, rfl⟩ := trodVars_none hV
  obtain ⟨A_xs, n_xs, c_xs, z_xs, rfl, hnc_xs, hcm_xs, hzl_xs, hrd_xs, hwz_xs⟩ := open_rd_ints Try.underlying30 Try.underlying5 (show Try.prog.cellsOf 5 = 1 by kernel_rfl) (hval 0 _ v0 rfl rfl) h0
  obtain ⟨xs, hr_xs⟩ := bytes_of hwz_xs hrd_xs
  have hn_xs := Nat.le_trans hnc_xs hcm_xs
  obtain ⟨A_ys, n_ys, c_ys, z_ys, rfl, hnc_ys, hcm_ys, hzl_ys, hrd_ys, hwz_ys⟩ := open_rd_ints Try.underlying30 Try.underlying5 (show Try.prog.cellsOf 5 = 1 by kernel_rfl) (hval 1 _ v1 rfl rfl) h1
  obtain ⟨ys, hr_ys⟩ := bytes_of hwz_ys hrd_ys
  have hn_ys := Nat.le_trans hnc_ys hcm_ys
  obtain ⟨A_o, n_o, c_o, z_o, rfl, hnc_o, hcm_o, hzl_o, hrd_o, hwz_o⟩ := open_rd_ints Try.underlying30 Try.underlying5 (show Try.prog.cellsOf 5 = 1 by kernel_rfl) (hval 2 _ v2 rfl rfl) h2
  obtain ⟨o, hr_o⟩ := bytes_of hwz_o hrd_o
  have hn_o := Nat.le_trans hnc_o hcm_o
  obtain ⟨i_a, rfl, _, _, wf_a⟩ := open_int Try.underlying5 (hval 3 _ v3 rfl rfl) h3
  obtain ⟨a, rfl⟩ := byte_of (bounds_u8 wf_a)
  refine (Fld.law5 A_xs A_ys A_o n_xs c_xs n_ys c_ys n_o c_o xs ys o a W hr_xs hr_ys hr_o hn_xs hn_ys hn_o).mono fun e W' ⟨he, bel⟩ => ?_
  subst he
  exact ⟨_, rfl, _, _, _, [], _, [], hW', trodAll_mk1 (shut_bool Try.underlying4 _), trodAll_below laidOut bel _ _ _ _ (by kernel_rfl) hA1 (fun x hx => hW'.lt x (List.mem_append_left _ hx)), rfl, bel.frame _, fun h => by cases h⟩

theorem Fld.over_FieldUnique : Rows.fieldUniqueRow.holds Try.pinned (OpenSpec.ofChange Rows.fieldUniqueSpec) :=
  OpenClaim.holds_of_wide 6 Try.f6 rfl rfl rfl rfl rfl rfl rfl ⟨rfl, rfl, rfl, rfl, rfl⟩ rfl rfl rfl rfl rfl (by kernel_rfl) Try.func6 (by kernel_rfl)
    (of_decide_eq_true (by kernel_rfl)) (by unfold Func.isWrapper; first | (rw [if_pos (by decide +kernel)]; kernel_rfl) | (rw [if_neg (by decide +kernel)]; exact ⟨rfl, rfl⟩))
    (fun os started H enc _ => Fld.lifted_FieldUnique os started H enc)

theorem fieldUnique_holds : Rows.FieldUniqueSaid := Fld.over_FieldUnique
#print axioms fieldUnique_holds
end Go.Proofs.Ytilfpnkkappkdaa
