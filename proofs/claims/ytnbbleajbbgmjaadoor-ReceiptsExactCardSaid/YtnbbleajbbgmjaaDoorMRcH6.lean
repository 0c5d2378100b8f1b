import Derived.Test.YtnbbleajbbgmjaaDoorMFrame
import Derived.Test.YtnbbleajbbgmjaaDoorMRcC0
import Derived.Test.YtnbbleajbbgmjaaDoorTie
import Derived.Test.YtnbbleajbbgmjaaDoorCards
import Derived.SevenTiedAt
import Derived.LaidMore
import Derived.LaidSub
import Derived.Test.YtnbbleajbbgmjaaDoorMRcOpen
import Derived.Test.YtnbbleajbbgmjaaDoorMRcT4
import Derived.Test.YtnbbleajbbgmjaaDoorMRcS2
/- ReceiptsExact: for all clocks, submissions and receipts, every number and time the law returns true, and its arguments read afterwards as before. Condition: the two package variables of the digest hold what the row lists; the card ties that to the program. -/
namespace Go.Proofs.YtnbbleajbbgmjaaDoor
open Go.ChangeShapes Go.WideShapes Go.ChangeAt Go.RowKit Go.Joins
set_option linter.unusedVariables false

set_option maxRecDepth 100000 in
theorem Lw.lifted_ReceiptsExact (os : Os) (started : os.Started) (H : Type) (enc : TypeId × Value → H) :
    ReturnsInHanded {} Tryd.checked os 6 .any (fun w args => (Rows.receiptsExactSpec.pre enc Tryd.prog Tryd.f6 [] false w args ∧ laidMetH Tryd.prog Rc.laidL w) ∧ sizedMet enc Tryd.prog Tryd.f6 (OpenSpec.ofChange Rows.receiptsExactSpec) false w args) (Rows.receiptsExactSpec.post enc Tryd.prog Tryd.f6 false true false false) := by
  refine returnsInHanded_of_change_and (C := Tryd.checked) (X := fun w _ => laidMetH Tryd.prog Rc.laidL w) (fun _ _ _ hh h => h.of_heap hh) own started (by kernel_rfl) Tryd.func6
    (ChangeSpec.witness_shaped (enc := enc) (C := Tryd.checked) (os := os) (X := fun w _ => laidMetH Tryd.prog Rc.laidL w) false (World.doorLaid Tryd.prog 400 os) #[.slice none 0 0, .slice none 0 0, .slice none 0 0, .int .i64 0, .int .i64 0] 8 rfl (World.shaped_of_RefB (by kernel_rfl) (by kernel_rfl)) (by kernel_rfl) (by kernel_rfl) (by kernel_rfl) (Rc.door_met os _)) ?_
  intro W base args ds gs before hval0 hW _ _ hL _
  have hGl := Rc.of_laid hL
  have hval : ∀ (j : Nat) t v, Tryd.f6.params[j]? = some t → args[j]? = some v → Value.okWide Tryd.prog W .any base t v := hval0
  have hW' := hW
  obtain ⟨p, q, hA0, hV, rfl, hfz, hnd⟩ := hW
  have hA : DataW.TrodAll enc Tryd.prog W 0 (fun _ => true) true Tryd.f6.params.toList args.toList ds p := hA0
  rw [Tryd.params6] at hA hval
  have hA1 := hA
  obtain ⟨v0, vs0, d0, ds0, p0, q0, hargs, rfl, rfl, h0, r0⟩ := trodAll_cons hA
  obtain ⟨v1, vs1, d1, ds1, p1, q1, rfl, rfl, rfl, h1, r1⟩ := trodAll_cons r0
  obtain ⟨v2, vs2, d2, ds2, p2, q2, rfl, rfl, rfl, h2, r2⟩ := trodAll_cons r1
  obtain ⟨v3, vs3, d3, ds3, p3, q3, rfl, rfl, rfl, h3, r3⟩ := trodAll_cons r2
  obtain ⟨v4, vs4, d4, ds4, p4, q4, rfl, rfl, rfl, h4, r4⟩ := trodAll_cons r3
  obtain ⟨rfl, rfl, rfl⟩ := trodAll_nil r4
  obtain rfl : args = #[v0, v1, v2, v3, v4] := by cases args; simp_all
  obtain ⟨rfl, rfl⟩ := trodVars_none hV
  obtain ⟨Ac, nc, cc, qc, rfl, hc1, hc2, hCc⟩ := open_clocks (hval 0 _ v0 rfl rfl) h0
  obtain ⟨As, ns, cs, qs, rfl, hs1, hs2, hSs⟩ := open_subs (hval 1 _ v1 rfl rfl) h1
  obtain ⟨Al, nl, cl, ql, rfl, hl1, hl2, hLl⟩ := open_receipts (hval 2 _ v2 rfl rfl) h2
  obtain ⟨no, rfl, _, _, wf_no⟩ := open_int Tryd.underlying3 (hval 3 _ v3 rfl rfl) h3
  obtain ⟨tm, rfl, _, _, wf_tm⟩ := open_int Tryd.underlying3 (hval 4 _ v4 rfl rfl) h4
  refine (Rc.exact_law (fun W h => Rc.sane_any Rc.K0 Rc.I0 W h) Ac As Al nc cc ns cs nl cl qc qs ql no tm W ⟨hCc, hSs, hLl, Nat.le_trans hc1 hc2, Nat.le_trans hs1 hs2, Nat.le_trans hl1 hl2⟩ hGl).mono fun e W' ⟨he, bel⟩ => ?_
  subst he
  exact ⟨_, rfl, _, _, _, [], _, [], hW', trodAll_mk1 (shut_bool Tryd.underlying4 _), trodAll_below laidOut bel _ _ _ _ (by kernel_rfl) hA1 (fun x hx => hW'.lt x (List.mem_append_left _ hx)), rfl, bel.frame _, fun h => by cases h⟩

theorem Lw.over_ReceiptsExact : Rows.receiptsExactRow.holds Tryd.pinned (OpenSpec.ofChange Rows.receiptsExactSpec) :=
  OpenClaim.holds_of_wide 6 Tryd.f6 rfl rfl rfl rfl rfl rfl rfl ⟨rfl, rfl, rfl, rfl, rfl⟩ rfl rfl rfl rfl rfl (by kernel_rfl) Tryd.func6 (by kernel_rfl)
    (of_decide_eq_true (by kernel_rfl)) (by unfold Func.isWrapper; first | (rw [if_pos (by decide +kernel)]; kernel_rfl) | (rw [if_neg (by decide +kernel)]; exact ⟨rfl, rfl⟩))
    (fun os started H enc _ => Lw.lifted_ReceiptsExact os started H enc)

theorem receiptsExact_holds : Rows.ReceiptsExactSaid := Lw.over_ReceiptsExact
/-- the tied card -/
theorem receiptsExactCard_holds : Rows.ReceiptsExactCardSaid :=
  Claim7.holds_tied_plain_at .later [] [.data, .data] true (true, "3fdf66ca98cde12d98591ac195fcb72aad7074728f9db73e9ecfd257adb09a1d") false
    receiptsExact_holds (fun _ h => by cases h) (by kernel_rfl) (fun _ h => by cases h) receiptsExact_row_tie rfl ⟨rfl, rfl⟩ (by kernel_rfl) rfl
    (fun f fn hf hfn => by
      obtain rfl : f = 6 := Option.some.inj ((show Tryd.prog.funcNamed Rows.receiptsExactRow.func = some 6 by kernel_rfl).symm.trans hf) |>.symm
      obtain rfl : fn = Tryd.f6 := (Option.some.inj (Tryd.func6.symm.trans hfn)).symm
      exact ⟨by kernel_rfl, fun j t ht => by
        rw [Tryd.params6] at ht
        have hm : t ∈ [22, 23, 24, 3] := by simpa using Array.mem_of_getElem? ht
        have hall : ([22, 23, 24, 3].all fun u => !Tryd.prog.wantsStandIn u) = true := by kernel_rfl
        exact (show Tryd.prog.wantsStandIn t = false by simpa using List.all_eq_true.1 hall t hm)⟩)
    (by kernel_rfl)
#print axioms receiptsExactCard_holds
end Go.Proofs.YtnbbleajbbgmjaaDoor
