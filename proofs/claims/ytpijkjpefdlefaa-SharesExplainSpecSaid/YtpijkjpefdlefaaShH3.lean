/- SharesExplainSpec: for all shares, secrets and coins the law returns true, and its arguments read afterwards as before. No condition. -/
import Derived.Test.YtpijkjpefdlefaaFrame
import Derived.Test.YtpijkjpefdlefaaShOpen
import Derived.Test.YtpijkjpefdlefaaShL3
namespace Go.Proofs.Ytpijkjpefdlefaa
open Go.ChangeShapes Go.WideShapes Go.ChangeAt Go.RowKit Go.Joins
set_option linter.unusedVariables false

set_option maxRecDepth 100000 in
theorem Shr.lifted_SharesExplainSpec (os : Os) (started : os.Started) (H : Type) (enc : TypeId × Value → H) :
    ReturnsInHanded {} Try.checked os 5 .any (Rows.sharesExplainSpecSpec.pre6 enc Try.prog Try.f5 Rows.sharesExplainSpecRow.domain false) (Rows.sharesExplainSpecSpec.post enc Try.prog Try.f5 false true false false) := by
  refine returnsInHanded_of_change (C := Try.checked) own started (by kernel_rfl) Try.func5
    (ChangeSpec.witness6 (enc := enc) (C := Try.checked) false ⟨#[], #[.slice none 0 0, .slice none 0 0, .slice none 0 0], []⟩ 8 (by kernel_rfl) (by kernel_rfl) (by kernel_rfl) (by kernel_rfl)) ?_
  intro W base args ds gs before hval0 hW hcnd _
  have hval : ∀ (j : Nat) t v, Try.f5.params[j]? = some t → args[j]? = some v → Value.okWide Try.prog W .any base t v := hval0
  have hW' := hW
  obtain ⟨p, q, hA0, hV, rfl, hfz, hnd⟩ := hW
  have hA : DataW.TrodAll enc Try.prog W 0 (fun _ => true) true Try.f5.params.toList args.toList ds p := hA0
  rw [Try.params5] at hA hval
  have hA1 := hA
  obtain ⟨v0, vs0, d0, ds0, p0, q0, hargs, rfl, rfl, h0, r0⟩ := trodAll_cons hA
  obtain ⟨v1, vs1, d1, ds1, p1, q1, rfl, rfl, rfl, h1, r1⟩ := trodAll_cons r0
  obtain ⟨v2, vs2, d2, ds2, p2, q2, rfl, rfl, rfl, h2, r2⟩ := trodAll_cons r1
  obtain ⟨rfl, rfl, rfl⟩ := trodAll_nil r2
  obtain rfl : args = #[v0, v1, v2] := by cases args; simp_all
  obtain ⟨rfl, rfl⟩ := trodVars_none hV
  obtain ⟨A_xs, n_xs, c_xs, xs, rfl, hnc_xs, hcm_xs, hr_xs, wf_xs⟩ := open_shares (hval 0 _ v0 rfl rfl) h0
  obtain ⟨A_sec, n_sec, c_sec, z_sec, rfl, hnc_sec, hcm_sec, hzl_sec, hrd_sec, hwz_sec⟩ := open_rd_ints Try.underlying23 Try.underlying5 (show Try.prog.cellsOf 5 = 1 by kernel_rfl) (hval 1 _ v1 rfl rfl) h1
  obtain ⟨sec, hr_sec⟩ := bytes_of hwz_sec hrd_sec
  have hn_sec := Nat.le_trans hnc_sec hcm_sec
  have hq_sec : A_sec = none → c_sec = 0 := fun e => by subst e; exact open_nil Try.underlying23 Try.underlying5 (show Try.prog.cellsOf 5 = 1 by kernel_rfl) h1
  obtain ⟨A_co, n_co, c_co, z_co, rfl, hnc_co, hcm_co, hzl_co, hrd_co, hwz_co⟩ := open_rd_ints Try.underlying23 Try.underlying5 (show Try.prog.cellsOf 5 = 1 by kernel_rfl) (hval 2 _ v2 rfl rfl) h2
  obtain ⟨co, hr_co⟩ := bytes_of hwz_co hrd_co
  have hn_co := Nat.le_trans hnc_co hcm_co
  have hq_co : A_co = none → c_co = 0 := fun e => by subst e; exact open_nil Try.underlying23 Try.underlying5 (show Try.prog.cellsOf 5 = 1 by kernel_rfl) h2
  refine (Shr.law3 A_xs A_sec A_co n_xs c_xs n_sec c_sec n_co c_co xs sec co W hr_xs (Nat.le_trans hnc_xs hcm_xs) hr_sec hn_sec hr_co hnc_co hcm_co hq_co).mono fun e W' ⟨he, bel⟩ => ?_
  subst he
  exact ⟨_, rfl, _, _, _, [], _, [], hW', trodAll_mk1 (shut_bool Try.underlying4 _), trodAll_below laidOut bel _ _ _ _ (by kernel_rfl) hA1 (fun x hx => hW'.lt x (List.mem_append_left _ hx)), rfl, bel.frame _, fun h => by cases h⟩

theorem Shr.over_SharesExplainSpec : Rows.sharesExplainSpecRow.holds Try.pinned (OpenSpec.ofChange Rows.sharesExplainSpecSpec) :=
  OpenClaim.holds_of_wide 5 Try.f5 rfl rfl rfl rfl rfl rfl rfl ⟨rfl, rfl, rfl, rfl, rfl⟩ rfl rfl rfl rfl rfl (by kernel_rfl) Try.func5 (by kernel_rfl)
    (of_decide_eq_true (by kernel_rfl)) (by unfold Func.isWrapper; first | (rw [if_pos (by decide +kernel)]; kernel_rfl) | (rw [if_neg (by decide +kernel)]; exact ⟨rfl, rfl⟩))
    (fun os started H enc _ => Shr.lifted_SharesExplainSpec os started H enc)

theorem sharesExplainSpec_holds : Rows.SharesExplainSpecSaid := Shr.over_SharesExplainSpec
#print axioms sharesExplainSpec_holds
end Go.Proofs.Ytpijkjpefdlefaa
