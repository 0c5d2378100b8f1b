/- SharesSum: for all secrets, numbers and coins the law returns true, and its arguments read afterwards as before. No condition. -/
import Derived.Test.YtpijkjpefdlefaaFrame
import Derived.Test.YtpijkjpefdlefaaOpenB
import Derived.Test.YtpijkjpefdlefaaShL7c
namespace Go.Proofs.Ytpijkjpefdlefaa
open Go.ChangeShapes Go.WideShapes Go.ChangeAt Go.RowKit Go.Joins
set_option linter.unusedVariables false

set_option maxRecDepth 100000 in
theorem Shr.lifted_SharesSum (os : Os) (started : os.Started) (H : Type) (enc : TypeId × Value → H) :
    ReturnsInHanded {} Try.checked os 9 .any (Rows.sharesSumSpec.pre6 enc Try.prog Try.f9 Rows.sharesSumRow.domain false) (Rows.sharesSumSpec.post enc Try.prog Try.f9 false true false false) := by
  refine returnsInHanded_of_change (C := Try.checked) own started (by kernel_rfl) Try.func9
    (ChangeSpec.witness6 (enc := enc) (C := Try.checked) false ⟨#[], #[.slice none 0 0, .slice none 0 0, .int .i64 0, .int .i64 0, .slice none 0 0, .slice none 0 0], []⟩ 8 (by kernel_rfl) (by kernel_rfl) (by kernel_rfl) (by kernel_rfl)) ?_
  intro W base args ds gs before hval0 hW hcnd _
  have hval : ∀ (j : Nat) t v, Try.f9.params[j]? = some t → args[j]? = some v → Value.okWide Try.prog W .any base t v := hval0
  have hW' := hW
  obtain ⟨p, q, hA0, hV, rfl, hfz, hnd⟩ := hW
  have hA : DataW.TrodAll enc Try.prog W 0 (fun _ => true) true Try.f9.params.toList args.toList ds p := hA0
  rw [Try.params9] at hA hval
  have hA1 := hA
  obtain ⟨v0, vs0, d0, ds0, p0, q0, hargs, rfl, rfl, h0, r0⟩ := trodAll_cons hA
  obtain ⟨v1, vs1, d1, ds1, p1, q1, rfl, rfl, rfl, h1, r1⟩ := trodAll_cons r0
  obtain ⟨v2, vs2, d2, ds2, p2, q2, rfl, rfl, rfl, h2, r2⟩ := trodAll_cons r1
  obtain ⟨v3, vs3, d3, ds3, p3, q3, rfl, rfl, rfl, h3, r3⟩ := trodAll_cons r2
  obtain ⟨v4, vs4, d4, ds4, p4, q4, rfl, rfl, rfl, h4, r4⟩ := trodAll_cons r3
  obtain ⟨v5, vs5, d5, ds5, p5, q5, rfl, rfl, rfl, h5, r5⟩ := trodAll_cons r4
  obtain ⟨rfl, rfl, rfl⟩ := trodAll_nil r5
  obtain rfl : args = #[v0, v1, v2, v3, v4, v5] := by cases args; simp_all
  obtain ⟨rfl, rfl⟩ := trodVars_none hV
  obtain ⟨A_sa, n_sa, c_sa, z_sa, rfl, hnc_sa, hcm_sa, hzl_sa, hrd_sa, hwz_sa⟩ := open_rd_ints Try.underlying23 Try.underlying5 (show Try.prog.cellsOf 5 = 1 by kernel_rfl) (hval 0 _ v0 rfl rfl) h0
  obtain ⟨sa, hr_sa⟩ := bytes_of hwz_sa hrd_sa
  have hn_sa := Nat.le_trans hnc_sa hcm_sa
  have hq_sa : A_sa = none → c_sa = 0 := fun e => by subst e; exact open_nil Try.underlying23 Try.underlying5 (show Try.prog.cellsOf 5 = 1 by kernel_rfl) h0
  obtain ⟨A_sb, n_sb, c_sb, z_sb, rfl, hnc_sb, hcm_sb, hzl_sb, hrd_sb, hwz_sb⟩ := open_rd_ints Try.underlying23 Try.underlying5 (show Try.prog.cellsOf 5 = 1 by kernel_rfl) (hval 1 _ v1 rfl rfl) h1
  obtain ⟨sb, hr_sb⟩ := bytes_of hwz_sb hrd_sb
  have hn_sb := Nat.le_trans hnc_sb hcm_sb
  have hq_sb : A_sb = none → c_sb = 0 := fun e => by subst e; exact open_nil Try.underlying23 Try.underlying5 (show Try.prog.cellsOf 5 = 1 by kernel_rfl) h1
  obtain ⟨th, rfl, _, _, wf_th⟩ := open_int Try.underlying3 (hval 2 _ v2 rfl rfl) h2
  obtain ⟨mn, rfl, _, _, wf_mn⟩ := open_int Try.underlying3 (hval 3 _ v3 rfl rfl) h3
  obtain ⟨A_p, n_p, c_p, z_p, rfl, hnc_p, hcm_p, hzl_p, hrd_p, hwz_p⟩ := open_rd_ints Try.underlying23 Try.underlying5 (show Try.prog.cellsOf 5 = 1 by kernel_rfl) (hval 4 _ v4 rfl rfl) h4
  obtain ⟨p, hr_p⟩ := bytes_of hwz_p hrd_p
  have hn_p := Nat.le_trans hnc_p hcm_p
  have hq_p : A_p = none → c_p = 0 := fun e => by subst e; exact open_nil Try.underlying23 Try.underlying5 (show Try.prog.cellsOf 5 = 1 by kernel_rfl) h4
  obtain ⟨A_q, n_q, c_q, z_q, rfl, hnc_q, hcm_q, hzl_q, hrd_q, hwz_q⟩ := open_rd_ints Try.underlying23 Try.underlying5 (show Try.prog.cellsOf 5 = 1 by kernel_rfl) (hval 5 _ v5 rfl rfl) h5
  obtain ⟨q, hr_q⟩ := bytes_of hwz_q hrd_q
  have hn_q := Nat.le_trans hnc_q hcm_q
  have hq_q : A_q = none → c_q = 0 := fun e => by subst e; exact open_nil Try.underlying23 Try.underlying5 (show Try.prog.cellsOf 5 = 1 by kernel_rfl) h5
  refine (Shr.law7 A_sa A_sb A_p A_q n_sa c_sa n_sb c_sb n_p c_p n_q c_q th mn sa sb p q W hr_sa hr_sb hr_p hr_q hn_sa hn_sb hnc_p hcm_p hq_p hnc_q hcm_q hq_q (bounds_i64 wf_th)).mono fun e W' ⟨he, bel⟩ => ?_
  subst he
  exact ⟨_, rfl, _, _, _, [], _, [], hW', trodAll_mk1 (shut_bool Try.underlying4 _), trodAll_below laidOut bel _ _ _ _ (by kernel_rfl) hA1 (fun x hx => hW'.lt x (List.mem_append_left _ hx)), rfl, bel.frame _, fun h => by cases h⟩

theorem Shr.over_SharesSum : Rows.sharesSumRow.holds Try.pinned (OpenSpec.ofChange Rows.sharesSumSpec) :=
  OpenClaim.holds_of_wide 9 Try.f9 rfl rfl rfl rfl rfl rfl rfl ⟨rfl, rfl, rfl, rfl, rfl⟩ rfl rfl rfl rfl rfl (by kernel_rfl) Try.func9 (by kernel_rfl)
    (of_decide_eq_true (by kernel_rfl)) (by unfold Func.isWrapper; first | (rw [if_pos (by decide +kernel)]; kernel_rfl) | (rw [if_neg (by decide +kernel)]; exact ⟨rfl, rfl⟩))
    (fun os started H enc _ => Shr.lifted_SharesSum os started H enc)

theorem sharesSum_holds : Rows.SharesSumSaid := Shr.over_SharesSum
#print axioms sharesSum_holds
end Go.Proofs.Ytpijkjpefdlefaa
