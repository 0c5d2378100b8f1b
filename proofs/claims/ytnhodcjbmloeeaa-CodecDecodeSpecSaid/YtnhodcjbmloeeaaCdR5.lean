/- Contracts of the reference's Encode, Size. -/
import Derived.Test.YtnhodcjbmloeeaaCdR4
namespace Go.Proofs.Ytnhodcjbmloeeaa
open Go.RowKit Go.Shelf
set_option linter.unusedVariables false

set_option maxHeartbeats 2000000 in
theorem Cd.rencode2_any (t : Cd.T) (cs : List Value) (w : World) (hh : t.hgt ≤ 1000000) (hc : Cd.CellB w w.heap.size t cs) (hlen : t.enc.length ≤ 90000000) :
    Calls Try.prog 13 #[.agg cs.toArray] w (Cd.RetE w t) := by
  obtain ⟨Av, cv, rfl⟩ := hc.spell
  have HC := Lib.hid hc
  have HCH := Lib.hid (fun w h => Cd.rcheck_any t [.int .i64 t.k, .int .i64 t.n, .string ⟨t.s.toArray⟩, .slice Av t.l.length cv] w hh h)
  have HEN := Lib.hid (fun w hf h => Cd.rencode_any 1000000 t [.int .i64 t.k, .int .i64 t.n, .string ⟨t.s.toArray⟩, .slice Av t.l.length cv] w hh (Nat.le_refl _) hf h hlen)
  clear hc hh hlen
  go_enter Try.func13, Try.ntmps13
  go_wp2_with fail
  obtain ⟨w0, hw0⟩ : ∃ w0, w0 = w.alloc (.cells #[.int .i64 t.k, .int .i64 t.n, .string ⟨t.s.toArray⟩, .slice Av t.l.length cv] 24) := ⟨_, rfl⟩
  have HB0 := Lib.hid (show Below w.heap.size w w0 by rw [hw0]; exact (Below.refl _ _).alloc (Nat.le_refl _) _)
  have HH0 := Lib.hid (show Has w0 w.heap.size 24 [.int .i64 t.k, .int .i64 t.n, .string ⟨t.s.toArray⟩, .slice Av t.l.length cv] by rw [hw0]; exact Has.new _ _ _)
  try rw [← hw0]
  clear hw0
  (with_reducible refine (HCH.out _ ((HC.out.under HB0.out (Nat.le_refl _)).cell HB0.out.size)).mono ?_)
  rintro e w1 ⟨rfl, hb1⟩
  have HB1 := Lib.hid (HB0.out.trans (hb1.mono HB0.out.size))
  have HH1 := Lib.hid (HH0.out.keep hb1)
  clear hb1
  have z1 := HH1.out.lt
  have d0 := HH1.out.cell 0
  have d1 := HH1.out.cell 1
  have d2 := HH1.out.cell 2
  have d3 := HH1.out.cell 3
  simp only [List.getElem?_cons_succ, List.getElem?_cons_zero] at d0 d1 d2 d3
  by_cases hce : Cd.chkE t = 0
  · have HCE := Lib.hid hce
    have HF := Lib.hid (Cd.chk_some hce)
    have HX := Lib.hid ((HC.out.under HB1.out (Nat.le_refl _)).more HB1.out.size)
    rw [hce]
    clear hce
    go_wp2_with fail
    ((with_reducible refine (HEN.out _ HF.out HX.out).mono ?_); rintro e w2 ⟨v2, rfl, hb2, ho2⟩)
    have HB2 := Lib.hid (HB1.out.trans (hb2.mono HB1.out.size))
    have HO2 := Lib.hid (own_less ho2 HB1.out.size)
    clear hb2 ho2 d0 d1 d2 d3
    go_wp2_with fail
    go_ret2
    have ho : Cd.out t = t.enc := by unfold Cd.out; rw [if_pos HCE.out]
    exact ⟨_, by rw [HCE.out]; rfl, HB2.out, by rw [ho]; exact HO2.out⟩
  · have HCE := Lib.hid hce
    have hne : (Cd.chkE t != 0) = true := by simpa using hce
    clear hce
    go_wp2_with fail
    go_ret2
    exact ⟨_, rfl, HB1.out, by unfold Cd.out; rw [if_neg HCE.out]; exact World.ownsRow_nil _ _ _ 1⟩

set_option maxHeartbeats 1000000 in
theorem Cd.rsize_any (t : Cd.T) (cs : List Value) (w : World) (hh : t.hgt ≤ 1000000) (hc : Cd.CellB w w.heap.size t cs) (hlen : t.enc.length ≤ 90000000) :
    Calls Try.prog 15 #[.agg cs.toArray] w fun e w' => e = .returned (.tuple #[.int .i64 ((Cd.out t).length : Nat), .int .i64 (Cd.chkE t)]) ∧ Below w.heap.size w w' := by
  obtain ⟨Av, cv, rfl⟩ := hc.spell
  have HC := Lib.hid hc
  have HK := Lib.hid (fun w h => Cd.rencode2_any t [.int .i64 t.k, .int .i64 t.n, .string ⟨t.s.toArray⟩, .slice Av t.l.length cv] w hh h hlen)
  clear hc
  go_enter Try.func15, Try.ntmps15
  go_wp2_with fail
  have HB0 := Lib.hid ((Below.refl w.heap.size w).alloc (Nat.le_refl _) (.cells #[.int .i64 t.k, .int .i64 t.n, .string ⟨t.s.toArray⟩, .slice Av t.l.length cv] 24))
  (with_reducible refine (HK.out _ ((HC.out.under HB0.out (Nat.le_refl _)).more HB0.out.size)).mono ?_)
  rintro e w1 ⟨v, rfl, hb, ho⟩
  obtain ⟨A, c, rfl⟩ := own_slice ho
  have HB1 := Lib.hid (HB0.out.trans (hb.mono HB0.out.size))
  clear hb ho
  generalize hn : (Cd.out t).length = n
  have HN := Lib.hid hn
  clear hn
  go_wp2_with fail
  go_ret2
  exact ⟨by rw [HN.out]; rfl, HB1.out⟩
end Go.Proofs.Ytnhodcjbmloeeaa
