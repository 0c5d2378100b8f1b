/- ClocksMeet: for all ranges and times the law returns true, and its arguments read afterwards as before. No condition. -/
import Derived.Test.YtpihodmohlcgiaaFrame
import Derived.Test.YtpihodmohlcgiaaClkL7
namespace Go.Proofs.Ytpihodmohlcgiaa
open Go.ChangeShapes Go.WideShapes Go.ChangeAt Go.RowKit Go.Joins
set_option linter.unusedVariables false

set_option maxRecDepth 100000 in
theorem Clk.lifted_ClocksMeet (os : Os) (started : os.Started) (H : Type) (enc : TypeId × Value → H) :
    ReturnsInHanded {} Try.checked os 9 .any (Rows.clocksMeetSpec.pre6 enc Try.prog Try.f9 Rows.clocksMeetRow.domain false) (Rows.clocksMeetSpec.post enc Try.prog Try.f9 false true false false) := by
  refine returnsInHanded_of_change (C := Try.checked) own started (by kernel_rfl) Try.func9
    (ChangeSpec.witness6 (enc := enc) (C := Try.checked) false ⟨#[], #[.agg #[.int .i64 0, .int .i64 0], .agg #[.int .i64 0, .int .i64 0], .int .i64 0], []⟩ 8 (by kernel_rfl) (by kernel_rfl) (by kernel_rfl) (by kernel_rfl)) ?_
  intro W base args ds gs before hval0 hW hcnd _
  have hval : ∀ (j : Nat) t v, Try.f9.params[j]? = some t → args[j]? = some v → Value.okWide Try.prog W .any base t v := hval0
  have hW' := hW
  obtain ⟨p, q, hA0, hV, rfl, hfz, hnd⟩ := hW
  have hA : DataW.TrodAll enc Try.prog W 0 (fun _ => true) true Try.f9.params.toList args.toList ds p := hA0
  rw [Try.params9] at hA hval
  have hA1 := hA
  obtain ⟨v0, vs0, d0, ds0, p0, q0, hargs, rfl, rfl, h0, r0⟩ := trodAll_cons hA
  obtain ⟨v1, vs1, d1, ds1, p1, q1, rfl, rfl, rfl, h1, r1⟩ := trodAll_cons r0
  obtain ⟨v2, vs2, d2, ds2, p2, q2, rfl, rfl, rfl, h2, r2⟩ := trodAll_cons r1
  obtain ⟨rfl, rfl, rfl⟩ := trodAll_nil r2
  obtain rfl : args = #[v0, v1, v2] := by cases args; simp_all
  obtain ⟨rfl, rfl⟩ := trodVars_none hV
  obtain ⟨c0_0, c0_1, y0_0, y0_1, m0, rfl, _, _, g0_0, g0_1⟩ := open_agg2 Try.underlying31 (by kernel_rfl) (show Try.prog.cellsOf 31 = 2 by kernel_rfl) (hval 0 _ v0 rfl rfl) h0
  obtain ⟨a, e0_0, _, wf_a⟩ := DataW.trod_int Try.underlying3 g0_0
  obtain ⟨b, e0_1, _, wf_b⟩ := DataW.trod_int Try.underlying3 g0_1
  simp only [List.cons.injEq, and_true] at e0_0 e0_1
  subst e0_0 e0_1
  obtain ⟨c1_0, c1_1, y1_0, y1_1, m1, rfl, _, _, g1_0, g1_1⟩ := open_agg2 Try.underlying31 (by kernel_rfl) (show Try.prog.cellsOf 31 = 2 by kernel_rfl) (hval 1 _ v1 rfl rfl) h1
  obtain ⟨c, e1_0, _, wf_c⟩ := DataW.trod_int Try.underlying3 g1_0
  obtain ⟨f, e1_1, _, wf_f⟩ := DataW.trod_int Try.underlying3 g1_1
  simp only [List.cons.injEq, and_true] at e1_0 e1_1
  subst e1_0 e1_1
  obtain ⟨t, rfl, _, _, wf_t⟩ := open_int Try.underlying3 (hval 2 _ v2 rfl rfl) h2
  refine (Clk.law7 a b c f t W).mono fun e W' ⟨he, bel⟩ => ?_
  subst he
  exact ⟨_, rfl, _, _, _, [], _, [], hW', trodAll_mk1 (shut_bool Try.underlying4 _), trodAll_below laidOut bel _ _ _ _ (by kernel_rfl) hA1 (fun x hx => hW'.lt x (List.mem_append_left _ hx)), rfl, bel.frame _, fun h => by cases h⟩

theorem Clk.over_ClocksMeet : Rows.clocksMeetRow.holds Try.pinned (OpenSpec.ofChange Rows.clocksMeetSpec) :=
  OpenClaim.holds_of_wide 9 Try.f9 rfl rfl rfl rfl rfl rfl rfl ⟨rfl, rfl, rfl, rfl, rfl⟩ rfl rfl rfl rfl rfl (by kernel_rfl) Try.func9 (by kernel_rfl)
    (of_decide_eq_true (by kernel_rfl)) (by unfold Func.isWrapper; first | (rw [if_pos (by decide +kernel)]; kernel_rfl) | (rw [if_neg (by decide +kernel)]; exact ⟨rfl, rfl⟩))
    (fun os started H enc _ => Clk.lifted_ClocksMeet os started H enc)

theorem clocksMeet_holds : Rows.ClocksMeetSaid := Clk.over_ClocksMeet
#print axioms clocksMeet_holds
end Go.Proofs.Ytpihodmohlcgiaa
