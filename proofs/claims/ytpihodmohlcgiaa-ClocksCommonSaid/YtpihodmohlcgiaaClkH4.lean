/- ClocksCommon: for all clocks, stamps and times the law returns true, and its arguments read afterwards as before. No condition. -/
import Derived.Test.YtpihodmohlcgiaaFrame
import Derived.Test.YtpihodmohlcgiaaOpen
import Derived.Test.YtpihodmohlcgiaaClkL4b
namespace Go.Proofs.Ytpihodmohlcgiaa
open Go.ChangeShapes Go.WideShapes Go.ChangeAt Go.RowKit Go.Joins
set_option linter.unusedVariables false

set_option maxRecDepth 100000 in
theorem Clk.lifted_ClocksCommon (os : Os) (started : os.Started) (H : Type) (enc : TypeId × Value → H) :
    ReturnsInHanded {} Try.checked os 6 .any (Rows.clocksCommonSpec.pre6 enc Try.prog Try.f6 Rows.clocksCommonRow.domain false) (Rows.clocksCommonSpec.post enc Try.prog Try.f6 false true false false) := by
  refine returnsInHanded_of_change (C := Try.checked) own started (by kernel_rfl) Try.func6
    (ChangeSpec.witness6 (enc := enc) (C := Try.checked) false ⟨#[], #[.slice none 0 0, .slice none 0 0, .int .i64 0], []⟩ 8 (by kernel_rfl) (by kernel_rfl) (by kernel_rfl) (by kernel_rfl)) ?_
  intro W base args ds gs before hval0 hW hcnd _
  have hval : ∀ (j : Nat) t v, Try.f6.params[j]? = some t → args[j]? = some v → Value.okWide Try.prog W .any base t v := hval0
  have hW' := hW
  obtain ⟨p, q, hA0, hV, rfl, hfz, hnd⟩ := hW
  have hA : DataW.TrodAll enc Try.prog W 0 (fun _ => true) true Try.f6.params.toList args.toList ds p := hA0
  rw [Try.params6] at hA hval
  have hA1 := hA
  obtain ⟨v0, vs0, d0, ds0, p0, q0, hargs, rfl, rfl, h0, r0⟩ := trodAll_cons hA
  obtain ⟨v1, vs1, d1, ds1, p1, q1, rfl, rfl, rfl, h1, r1⟩ := trodAll_cons r0
  obtain ⟨v2, vs2, d2, ds2, p2, q2, rfl, rfl, rfl, h2, r2⟩ := trodAll_cons r1
  obtain ⟨rfl, rfl, rfl⟩ := trodAll_nil r2
  obtain rfl : args = #[v0, v1, v2] := by cases args; simp_all
  obtain ⟨rfl, rfl⟩ := trodVars_none hV
  obtain ⟨A, n, c, xss, rfl, hnc, hcm, hxl, hrd, hxs⟩ := open_rd_slice Try.underlying38 (show Try.prog.cellsOf 23 = 3 by kernel_rfl) (by decide) (hval 0 _ v0 rfl rfl) h0
  obtain ⟨cs, hcl, hcs⟩ := Clk.cells3_of xss (fun xs hx => by obtain ⟨hl, m, y, hy⟩ := hxs xs hx; obtain ⟨a, b, c, h, _⟩ := open_int3 Try.underlying23 (by kernel_rfl) hl rfl rfl rfl Try.underlying3 hy; exact ⟨a, b, c, h⟩)
  rw [hcs] at hrd
  obtain ⟨A2, n2, c2, zs, rfl, hnc2, hcm2, hzl, hrd2, hwz⟩ := open_rd_ints Try.underlying39 Try.underlying3 (show Try.prog.cellsOf 3 = 1 by kernel_rfl) (hval 1 _ v1 rfl rfl) h1
  obtain ⟨t, rfl, _, _, wf_t⟩ := open_int Try.underlying3 (hval 2 _ v2 rfl rfl) h2
  refine (Clk.law4 A A2 n c n2 c2 cs zs t W hrd hrd2 (hcl.trans hxl) hzl (Nat.le_trans hnc hcm) (Nat.le_trans hnc2 hcm2)).mono fun e W' ⟨he, bel⟩ => ?_
  subst he
  exact ⟨_, rfl, _, _, _, [], _, [], hW', trodAll_mk1 (shut_bool Try.underlying4 _), trodAll_below laidOut bel _ _ _ _ (by kernel_rfl) hA1 (fun x hx => hW'.lt x (List.mem_append_left _ hx)), rfl, bel.frame _, fun h => by cases h⟩

theorem Clk.over_ClocksCommon : Rows.clocksCommonRow.holds Try.pinned (OpenSpec.ofChange Rows.clocksCommonSpec) :=
  OpenClaim.holds_of_wide 6 Try.f6 rfl rfl rfl rfl rfl rfl rfl ⟨rfl, rfl, rfl, rfl, rfl⟩ rfl rfl rfl rfl rfl (by kernel_rfl) Try.func6 (by kernel_rfl)
    (of_decide_eq_true (by kernel_rfl)) (by unfold Func.isWrapper; first | (rw [if_pos (by decide +kernel)]; kernel_rfl) | (rw [if_neg (by decide +kernel)]; exact ⟨rfl, rfl⟩))
    (fun os started H enc _ => Clk.lifted_ClocksCommon os started H enc)

theorem clocksCommon_holds : Rows.ClocksCommonSaid := Clk.over_ClocksCommon
#print axioms clocksCommon_holds
end Go.Proofs.Ytpihodmohlcgiaa
