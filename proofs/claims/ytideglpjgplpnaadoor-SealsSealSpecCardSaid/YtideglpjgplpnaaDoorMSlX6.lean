import Derived.Test.YtideglpjgplpnaaDoorMSlX1
import Derived.Test.YtideglpjgplpnaaDoorMSlSP
/- Contract of the reference's Same, of equal sealed bodies. -/
namespace Go.Proofs.YtideglpjgplpnaaDoor
open Go.RowKit Go.Shelf
set_option linter.unusedVariables false
set_option linter.unusedSimpArgs false

theorem Sl.wpList_run {P : Program} {ops : Array Oper} {rest : List Oper} {o : Oper} {a : Act} {w w' : World} {v : Value} {Q : Exit → Act → World → Prop} (hg : o.guard = none) (hr : (execOp a.eval o).run P w = .ok (.value v) w') (h : wpList P ops Q rest (a.put o.dst v) w') : wpList P ops Q (o :: rest) a w :=
  wpList_plain hg fun _ hK => wp_runG hr (hK _ _ h)
set_option maxRecDepth 100000 in
set_option maxHeartbeats 4000000 in
theorem Sl.same_ref (s : Sl.W) (Ad : Option Addr) (cd : Nat) (Am : Option Addr) (cA : Nat) (Bd : Option Addr) (cb : Nat) (Bm : Option Addr) (cB : Nat) (w : World) (ha : Sl.Ok s w Ad cd Am cA) (hb : Sl.Ok s w Bd cb Bm cB) :
    Calls Tryd.prog 19 #[.agg (Sl.row s Ad cd Am cA).toArray, .agg (Sl.row s Bd cb Bm cB).toArray] w fun e w' => e = .returned (.bool true) ∧ Below w.heap.size w w' := by
  have ra := Sl.row_at ha.cl Ad cd Am cA
  have rb := Sl.row_at hb.cl Bd cb Bm cB
  have HA := Lib.hid ha
  have HB := Lib.hid hb
  have hd32 := ha.cl
  obtain ⟨W1, hW1⟩ : ∃ W1, W1 = (w.alloc (.cells (Sl.row s Ad cd Am cA).toArray 27)).alloc (.cells (Sl.row s Bd cb Bm cB).toArray 27) := ⟨_, rfl⟩
  have HB1 := Lib.hid (show Below w.heap.size w W1 from by rw [hW1]; exact below_of2 _ _ _)
  have HS1 := Lib.hid (show Has W1 w.heap.size 27 (Sl.row s Ad cd Am cA) from by rw [hW1]; exact (Has.new w _ _).alloc _)
  have HS2 := Lib.hid (show Has W1 (w.heap.size + 1) 27 (Sl.row s Bd cb Bm cB) from by rw [hW1]; exact Has.second w _ _ _)
  obtain ⟨T1, hT1⟩ : ∃ T, Sl.row s Ad cd Am cA = T := ⟨_, rfl⟩
  obtain ⟨T2, hT2⟩ : ∃ T, Sl.row s Bd cb Bm cB = T := ⟨_, rfl⟩
  have HM1 := Lib.hid (show W1.rangeAt w.heap.size 0 (s.cm.map Dg.b8) from Sl.rowAtH HS1.out)
  have HM2 := Lib.hid (show W1.rangeAt (w.heap.size + 1) 0 (s.cm.map Dg.b8) from Sl.rowAtH HS2.out)
  rw [hT1] at HS1 hW1 ra ⊢
  rw [hT2] at HS2 hW1 rb ⊢
  have x1 := (HS1.out.cell 32).trans ra.1
  have x2 := (HS1.out.cell 33).trans ra.2.1
  have x3 := (HS1.out.cell 34).trans ra.2.2.1
  have x4 := (HS1.out.cell 35).trans ra.2.2.2
  have y1 := (HS2.out.cell 32).trans rb.1
  have y2 := (HS2.out.cell 33).trans rb.2.1
  have y3 := (HS2.out.cell 34).trans rb.2.2.1
  have y4 := (HS2.out.cell 35).trans rb.2.2.2
  have k1 := RdB.str (P := Tryd.prog) (HA.out.rd.keep HB1.out) Tryd.underlying24 Tryd.underlying5 Tryd.underlying9 cd
  have k2 := RdB.str (P := Tryd.prog) (HB.out.rd.keep HB1.out) Tryd.underlying24 Tryd.underlying5 Tryd.underlying9 cb
  have HDI := Lib.hid (show (Tryd.prog.info? 23).map (·.size) = some (s.cm.map Dg.b8).length from Sl.infoDm _ hd32)
  have HD32 := Lib.hid hd32
  have HSM := Lib.hid (Sl.same02 Am Bm s.ms.length cA cB s.ms W1 ⟨(HA.out.keep HB1.out).rm, HA.out.ml, rfl⟩ ⟨(HB.out.keep HB1.out).rm, HB.out.ml, rfl⟩ ha.mm)
  clear ra rb hT1 hT2 ha hb hd32
  go_enter Tryd.func19, Tryd.ntmps19
  go_upto_region 1 with fail
  change Code.wp _ _ _ _ ((w.alloc (.cells T1.toArray 27)).alloc (.cells T2.toArray 27))
  rw [← hW1]
  obtain ⟨gA, hgA⟩ : ∃ g, w.heap.size = g := ⟨_, rfl⟩
  obtain ⟨gB, hgB⟩ : ∃ g, gA + 1 = g := ⟨_, rfl⟩
  rw [hgA] at x1 x2 x3 x4 y1 y2 y3 y4 HM1 HM2 ⊢
  rw [hgB] at y1 y2 y3 y4 HM2 ⊢
  clear hW1 hgA hgB
  go_wp2_with (first
    | (refine wpList_load_mid (op := ⟨some 6, _, _, _, _, _⟩) rfl 23 (.tmp 5) rfl gA 0 rfl (s.cm.map Dg.b8) _ HM1.out Tryd.underlying23 rfl HDI.out ?_)
    | (refine wpList_load_mid (op := ⟨some 8, _, _, _, _, _⟩) rfl 23 (.tmp 7) rfl gB 0 rfl (s.cm.map Dg.b8) _ HM2.out Tryd.underlying23 rfl HDI.out ?_)
    | (refine Sl.wpList_run (o := ⟨some 9, _, _, _, _, _⟩) rfl (Sl.run_op_eql_agg 23 23 (.tmp 6) (.tmp 8) rfl (s.cm.map Dg.b8).toArray (s.cm.map Dg.b8).toArray (.bool true) rfl rfl (by kernel_rfl) (Sl.eqlD s.cm HD32.out W1)) ?_))
  ((with_reducible refine HSM.out.mono ?_); rintro e w2 ⟨rfl, hb2⟩)
  have HB2 := Lib.hid (HB1.out.trans (hb2.mono HB1.out.size))
  clear k1 k2 hb2 HSM
  go_wp2_with fail
  go_ret
  exact ⟨rfl, HB2.out⟩
end Go.Proofs.YtideglpjgplpnaaDoor
