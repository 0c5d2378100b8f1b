/- SharesRefresh: for all secrets, numbers, coins and masks the law returns true, and its arguments read afterwards as before. No condition. -/
import Derived.Test.YtpijkjpefdlefaaFrame
import Derived.Test.YtpijkjpefdlefaaOpenB
import Derived.Test.YtpijkjpefdlefaaShL5b
namespace Go.Proofs.Ytpijkjpefdlefaa
open Go.ChangeShapes Go.WideShapes Go.ChangeAt Go.RowKit Go.Joins
set_option linter.unusedVariables false

set_option maxRecDepth 100000 in
theorem Shr.lifted_SharesRefresh (os : Os) (started : os.Started) (H : Type) (enc : TypeId × Value → H) :
    ReturnsInHanded {} Try.checked os 7 .any (Rows.sharesRefreshSpec.pre6 enc Try.prog Try.f7 Rows.sharesRefreshRow.domain false) (Rows.sharesRefreshSpec.post enc Try.prog Try.f7 false true false false) := by
  refine returnsInHanded_of_change (C := Try.checked) own started (by kernel_rfl) Try.func7
    (ChangeSpec.witness6 (enc := enc) (C := Try.checked) false ⟨#[], #[.slice none 0 0, .slice none 0 0, .int .i64 0, .int .i64 0, .slice none 0 0, .slice none 0 0, .int .u8 0, .int .u8 0], []⟩ 8 (by kernel_rfl) (by kernel_rfl) (by kernel_rfl) (by kernel_rfl)) ?_
  intro W base args ds gs before hval0 hW hcnd _
  have hval : ∀ (j : Nat) t v, Try.f7.params[j]? = some t → args[j]? = some v → Value.okWide Try.prog W .any base t v := hval0
  have hW' := hW
  obtain ⟨p, q, hA0, hV, rfl, hfz, hnd⟩ := hW
  have hA : DataW.TrodAll enc Try.prog W 0 (fun _ => true) true Try.f7.params.toList args.toList ds p := hA0
  rw [Try.params7] at hA hval
  have hA1 := hA
  obtain ⟨v0, vs0, d0, ds0, p0, q0, hargs, rfl, rfl, h0, r0⟩ := trodAll_cons hA
  obtain ⟨v1, vs1, d1, ds1, p1, q1, rfl, rfl, rfl, h1, r1⟩ := trodAll_cons r0
  obtain ⟨v2, vs2, d2, ds2, p2, q2, rfl, rfl, rfl, h2, r2⟩ := trodAll_cons r1
  obtain ⟨v3, vs3, d3, ds3, p3, q3, rfl, rfl, rfl, h3, r3⟩ := trodAll_cons r2
  obtain ⟨v4, vs4, d4, ds4, p4, q4, rfl, rfl, rfl, h4, r4⟩ := trodAll_cons r3
  obtain ⟨v5, vs5, d5, ds5, p5, q5, rfl, rfl, rfl, h5, r5⟩ := trodAll_cons r4
  obtain ⟨v6, vs6, d6, ds6, p6, q6, rfl, rfl, rfl, h6, r6⟩ := trodAll_cons r5
  obtain ⟨v7, vs7, d7, ds7, p7, q7, rfl, rfl, rfl, h7, r7⟩ := trodAll_cons r6
  obtain ⟨rfl, rfl, rfl⟩ := trodAll_nil r7
  obtain rfl : args = #[v0, v1, v2, v3, v4, v5, v6, v7] := by cases args; simp_all
  obtain ⟨rfl, rfl⟩ := trodVars_none hV
  obtain ⟨A_sec, n_sec, c_sec, z_sec, rfl, hnc_sec, hcm_sec, hzl_sec, hrd_sec, hwz_sec⟩ := open_rd_ints Try.underlying23 Try.underlying5 (show Try.prog.cellsOf 5 = 1 by kernel_rfl) (hval 0 _ v0 rfl rfl) h0
  obtain ⟨sec, hr_sec⟩ := bytes_of hwz_sec hrd_sec
  have hn_sec := Nat.le_trans hnc_sec hcm_sec
  have hq_sec : A_sec = none → c_sec = 0 := fun e => by subst e; exact open_nil Try.underlying23 Try.underlying5 (show Try.prog.cellsOf 5 = 1 by kernel_rfl) h0
  obtain ⟨A_oth, n_oth, c_oth, z_oth, rfl, hnc_oth, hcm_oth, hzl_oth, hrd_oth, hwz_oth⟩ := open_rd_ints Try.underlying23 Try.underlying5 (show Try.prog.cellsOf 5 = 1 by kernel_rfl) (hval 1 _ v1 rfl rfl) h1
  obtain ⟨oth, hr_oth⟩ := bytes_of hwz_oth hrd_oth
  have hn_oth := Nat.le_trans hnc_oth hcm_oth
  have hq_oth : A_oth = none → c_oth = 0 := fun e => by subst e; exact open_nil Try.underlying23 Try.underlying5 (show Try.prog.cellsOf 5 = 1 by kernel_rfl) h1
  obtain ⟨th, rfl, _, _, wf_th⟩ := open_int Try.underlying3 (hval 2 _ v2 rfl rfl) h2
  obtain ⟨mn, rfl, _, _, wf_mn⟩ := open_int Try.underlying3 (hval 3 _ v3 rfl rfl) h3
  obtain ⟨A_co, n_co, c_co, z_co, rfl, hnc_co, hcm_co, hzl_co, hrd_co, hwz_co⟩ := open_rd_ints Try.underlying23 Try.underlying5 (show Try.prog.cellsOf 5 = 1 by kernel_rfl) (hval 4 _ v4 rfl rfl) h4
  obtain ⟨co, hr_co⟩ := bytes_of hwz_co hrd_co
  have hn_co := Nat.le_trans hnc_co hcm_co
  have hq_co : A_co = none → c_co = 0 := fun e => by subst e; exact open_nil Try.underlying23 Try.underlying5 (show Try.prog.cellsOf 5 = 1 by kernel_rfl) h4
  obtain ⟨A_more, n_more, c_more, more, rfl, hnc_more, hcm_more, hr_more⟩ := open_byteslices (hval 5 _ v5 rfl rfl) h5
  obtain ⟨i_a, rfl, _, _, wf_a⟩ := open_int Try.underlying5 (hval 6 _ v6 rfl rfl) h6
  obtain ⟨a, rfl⟩ := byte_of (bounds_u8 wf_a)
  obtain ⟨i_b, rfl, _, _, wf_b⟩ := open_int Try.underlying5 (hval 7 _ v7 rfl rfl) h7
  obtain ⟨b, rfl⟩ := byte_of (bounds_u8 wf_b)
  refine (Shr.law5 A_sec A_oth A_co A_more n_sec c_sec n_oth c_oth n_co c_co n_more c_more th mn sec oth co more a b W hr_sec hr_oth hr_co hn_sec hn_oth hnc_co hcm_co hq_co hr_more (Nat.le_trans hnc_more hcm_more) (bounds_i64 wf_th)).mono fun e W' ⟨he, bel⟩ => ?_
  subst he
  exact ⟨_, rfl, _, _, _, [], _, [], hW', trodAll_mk1 (shut_bool Try.underlying4 _), trodAll_below laidOut bel _ _ _ _ (by kernel_rfl) hA1 (fun x hx => hW'.lt x (List.mem_append_left _ hx)), rfl, bel.frame _, fun h => by cases h⟩

theorem Shr.over_SharesRefresh : Rows.sharesRefreshRow.holds Try.pinned (OpenSpec.ofChange Rows.sharesRefreshSpec) :=
  OpenClaim.holds_of_wide 7 Try.f7 rfl rfl rfl rfl rfl rfl rfl ⟨rfl, rfl, rfl, rfl, rfl⟩ rfl rfl rfl rfl rfl (by kernel_rfl) Try.func7 (by kernel_rfl)
    (of_decide_eq_true (by kernel_rfl)) (by unfold Func.isWrapper; first | (rw [if_pos (by decide +kernel)]; kernel_rfl) | (rw [if_neg (by decide +kernel)]; exact ⟨rfl, rfl⟩))
    (fun os started H enc _ => Shr.lifted_SharesRefresh os started H enc)

theorem sharesRefresh_holds : Rows.SharesRefreshSaid := Shr.over_SharesRefresh
#print axioms sharesRefresh_holds
end Go.Proofs.Ytpijkjpefdlefaa
