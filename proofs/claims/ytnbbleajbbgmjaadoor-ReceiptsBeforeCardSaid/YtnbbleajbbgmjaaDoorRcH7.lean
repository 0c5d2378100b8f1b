/- ReceiptsBefore: for all ranges and times the law returns true, and its arguments read afterwards as before. Condition: the two package variables of the digest hold what the row lists; the card ties that to the program. -/
import Derived.Test.YtnbbleajbbgmjaaDoorFrame
import Derived.Test.YtnbbleajbbgmjaaDoorRcC0
import Derived.Test.YtnbbleajbbgmjaaDoorTie
import Derived.Test.YtnbbleajbbgmjaaDoorCards
import Derived.SevenTiedAt
import Derived.LaidMore
import Derived.LaidSub
import Derived.Test.YtnbbleajbbgmjaaDoorRcB
import Derived.Test.YtnbbleajbbgmjaaDoorRcS2
namespace Go.Proofs.YtnbbleajbbgmjaaDoor
open Go.ChangeShapes Go.WideShapes Go.ChangeAt Go.RowKit Go.Joins
set_option linter.unusedVariables false

set_option maxRecDepth 100000 in
theorem Lw.lifted_ReceiptsBefore (os : Os) (started : os.Started) (H : Type) (enc : TypeId × Value → H) :
    ReturnsInHanded {} Tryd.checked os 7 .any (fun w args => (Rows.receiptsBeforeSpec.pre enc Tryd.prog Tryd.f7 [] false w args ∧ laidMetH Tryd.prog Rc.laidL w) ∧ sizedMet enc Tryd.prog Tryd.f7 (OpenSpec.ofChange Rows.receiptsBeforeSpec) false w args) (Rows.receiptsBeforeSpec.post enc Tryd.prog Tryd.f7 false true false false) := by
  refine returnsInHanded_of_change_and (C := Tryd.checked) (X := fun w _ => laidMetH Tryd.prog Rc.laidL w) (fun _ _ _ hh h => h.of_heap hh) own started (by kernel_rfl) Tryd.func7
    (ChangeSpec.witness_shaped (enc := enc) (C := Tryd.checked) (os := os) (X := fun w _ => laidMetH Tryd.prog Rc.laidL w) false (World.doorLaid Tryd.prog 400 os) #[.agg #[.int .i64 0, .int .i64 0], .agg #[.int .i64 0, .int .i64 0], .agg #[.int .i64 0, .int .i64 0], .int .i64 0, .int .i64 0] 8 rfl (World.shaped_of_RefB (by kernel_rfl) (by kernel_rfl)) (by kernel_rfl) (by kernel_rfl) (by kernel_rfl) (Rc.door_met os _)) ?_
  intro W base args ds gs before hval0 hW _ _ hL _
  have hGl := Rc.of_laid hL
  have hval : ∀ (j : Nat) t v, Tryd.f7.params[j]? = some t → args[j]? = some v → Value.okWide Tryd.prog W .any base t v := hval0
  have hW' := hW
  obtain ⟨p, q, hA0, hV, rfl, hfz, hnd⟩ := hW
  have hA : DataW.TrodAll enc Tryd.prog W 0 (fun _ => true) true Tryd.f7.params.toList args.toList ds p := hA0
  rw [Tryd.params7] at hA hval
  have hA1 := hA
  obtain ⟨v0, vs0, d0, ds0, p0, q0, hargs, rfl, rfl, h0, r0⟩ := trodAll_cons hA
  obtain ⟨v1, vs1, d1, ds1, p1, q1, rfl, rfl, rfl, h1, r1⟩ := trodAll_cons r0
  obtain ⟨v2, vs2, d2, ds2, p2, q2, rfl, rfl, rfl, h2, r2⟩ := trodAll_cons r1
  obtain ⟨v3, vs3, d3, ds3, p3, q3, rfl, rfl, rfl, h3, r3⟩ := trodAll_cons r2
  obtain ⟨v4, vs4, d4, ds4, p4, q4, rfl, rfl, rfl, h4, r4⟩ := trodAll_cons r3
  obtain ⟨rfl, rfl, rfl⟩ := trodAll_nil r4
  obtain rfl : args = #[v0, v1, v2, v3, v4] := by cases args; simp_all
  obtain ⟨rfl, rfl⟩ := trodVars_none hV
  obtain ⟨c0_0, c0_1, y0_0, y0_1, m0, rfl, _, _, g0_0, g0_1⟩ := open_agg2 Tryd.underlying38 (by kernel_rfl) (show Tryd.prog.cellsOf 38 = 2 by kernel_rfl) (hval 0 _ v0 rfl rfl) h0
  obtain ⟨a0, e0_0, _, wf_a0⟩ := DataW.trod_int Tryd.underlying3 g0_0
  obtain ⟨a1, e0_1, _, wf_a1⟩ := DataW.trod_int Tryd.underlying3 g0_1
  simp only [List.cons.injEq, and_true] at e0_0 e0_1
  subst e0_0 e0_1
  obtain ⟨c1_0, c1_1, y1_0, y1_1, m1, rfl, _, _, g1_0, g1_1⟩ := open_agg2 Tryd.underlying38 (by kernel_rfl) (show Tryd.prog.cellsOf 38 = 2 by kernel_rfl) (hval 1 _ v1 rfl rfl) h1
  obtain ⟨b0, e1_0, _, wf_b0⟩ := DataW.trod_int Tryd.underlying3 g1_0
  obtain ⟨b1, e1_1, _, wf_b1⟩ := DataW.trod_int Tryd.underlying3 g1_1
  simp only [List.cons.injEq, and_true] at e1_0 e1_1
  subst e1_0 e1_1
  obtain ⟨c2_0, c2_1, y2_0, y2_1, m2, rfl, _, _, g2_0, g2_1⟩ := open_agg2 Tryd.underlying38 (by kernel_rfl) (show Tryd.prog.cellsOf 38 = 2 by kernel_rfl) (hval 2 _ v2 rfl rfl) h2
  obtain ⟨c0, e2_0, _, wf_c0⟩ := DataW.trod_int Tryd.underlying3 g2_0
  obtain ⟨c1, e2_1, _, wf_c1⟩ := DataW.trod_int Tryd.underlying3 g2_1
  simp only [List.cons.injEq, and_true] at e2_0 e2_1
  subst e2_0 e2_1
  obtain ⟨s, rfl, _, _, wf_s⟩ := open_int Tryd.underlying3 (hval 3 _ v3 rfl rfl) h3
  obtain ⟨t, rfl, _, _, wf_t⟩ := open_int Tryd.underlying3 (hval 4 _ v4 rfl rfl) h4
  refine (Rc.before_law Rc.K0 Rc.I0 (fun W h => Rc.sane_any Rc.K0 Rc.I0 W h) a0 a1 b0 b1 c0 c1 s t W hGl).mono fun e W' ⟨he, bel⟩ => ?_
  subst he
  exact ⟨_, rfl, _, _, _, [], _, [], hW', trodAll_mk1 (shut_bool Tryd.underlying4 _), trodAll_below laidOut bel _ _ _ _ (by kernel_rfl) hA1 (fun x hx => hW'.lt x (List.mem_append_left _ hx)), rfl, bel.frame _, fun h => by cases h⟩

theorem Lw.over_ReceiptsBefore : Rows.receiptsBeforeRow.holds Tryd.pinned (OpenSpec.ofChange Rows.receiptsBeforeSpec) :=
  OpenClaim.holds_of_wide 7 Tryd.f7 rfl rfl rfl rfl rfl rfl rfl ⟨rfl, rfl, rfl, rfl, rfl⟩ rfl rfl rfl rfl rfl (by kernel_rfl) Tryd.func7 (by kernel_rfl)
    (of_decide_eq_true (by kernel_rfl)) (by unfold Func.isWrapper; first | (rw [if_pos (by decide +kernel)]; kernel_rfl) | (rw [if_neg (by decide +kernel)]; exact ⟨rfl, rfl⟩))
    (fun os started H enc _ => Lw.lifted_ReceiptsBefore os started H enc)

theorem receiptsBefore_holds : Rows.ReceiptsBeforeSaid := Lw.over_ReceiptsBefore
/-- the tied card -/
theorem receiptsBeforeCard_holds : Rows.ReceiptsBeforeCardSaid :=
  Claim7.holds_tied_plain_at .later [] [.data, .data] true (true, "3fdf66ca98cde12d98591ac195fcb72aad7074728f9db73e9ecfd257adb09a1d") false
    receiptsBefore_holds (fun _ h => by cases h) (by kernel_rfl) (fun _ h => by cases h) receiptsBefore_row_tie rfl ⟨rfl, rfl⟩ (by kernel_rfl) rfl
    (fun f fn hf hfn => by
      obtain rfl : f = 7 := Option.some.inj ((show Tryd.prog.funcNamed Rows.receiptsBeforeRow.func = some 7 by kernel_rfl).symm.trans hf) |>.symm
      obtain rfl : fn = Tryd.f7 := (Option.some.inj (Tryd.func7.symm.trans hfn)).symm
      exact ⟨by kernel_rfl, fun j t ht => by
        rw [Tryd.params7] at ht
        have hm : t ∈ [38, 3] := by simpa using Array.mem_of_getElem? ht
        have hall : ([38, 3].all fun u => !Tryd.prog.wantsStandIn u) = true := by kernel_rfl
        exact (show Tryd.prog.wantsStandIn t = false by simpa using List.all_eq_true.1 hall t hm)⟩)
    (by kernel_rfl)
#print axioms receiptsBeforeCard_holds
end Go.Proofs.YtnbbleajbbgmjaaDoor
