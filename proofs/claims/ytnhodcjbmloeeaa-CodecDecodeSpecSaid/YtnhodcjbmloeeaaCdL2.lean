/- The law CodecDecodeSpec returns true. -/
import Derived.Test.YtnhodcjbmloeeaaCdG
import Derived.Test.YtnhodcjbmloeeaaCdQ5
namespace Go.Proofs.Ytnhodcjbmloeeaa
open Go.RowKit Go.Shelf
set_option linter.unusedVariables false

set_option maxRecDepth 100000 in
set_option maxHeartbeats 8000000 in
theorem Cd.law2 (Ar : Option Addr) (nr cr : Nat) (raw : List UInt8) (w : World) (hr : RdB w Ar nr raw) (hnc : nr ≤ cr) (hcm : cr ≤ maxLen) :
    Calls Try.prog 4 #[.slice Ar nr cr] w fun e w' => e = .returned (.bool true) ∧ Below w.heap.size w w' := by
  obtain rfl : raw.length = nr := hr.len
  have HR := Lib.hid hr
  have HNC := Lib.hid hnc
  have HCM := Lib.hid hcm
  have hrm : raw.length ≤ 9223372036854775807 := by unfold maxLen at hcm; omega
  clear hr hnc hcm
  go_enter Try.func4, Try.ntmps4
  go_wp2_with fail
  ((with_reducible refine (Cd.sane_any _).mono ?_); rintro e w1 ⟨rfl, hb1⟩)
  have B1 := Lib.hid hb1
  have R1 := Lib.hid (HR.out.keep hb1)
  clear hb1
  by_cases hbig : 2000 < raw.length
  · have hd : decide ((2000 : Int) < (raw.length : Int)) = true := decide_eq_true (by omega)
    go_wp2_with fail
    go_ret
    exact ⟨rfl, B1.out⟩
  have hd : decide ((2000 : Int) < (raw.length : Int)) = false := decide_eq_false (by omega)
  have HSR := Lib.hid (show raw.length ≤ 2000 by omega)
  have HTS := Lib.hid (show ((Cd.dec raw).getD (.mk 0 0 [] [])).hgt ≤ 1000000 by
    cases hdr : Cd.dec raw with
    | none => simp [Cd.T.hgt, Cd.T.hgts]
    | some t => have := (Cd.dec_some hdr).2.2.2; show t.hgt ≤ 1000000; omega)
  clear hbig
  have HD := Lib.hid (Cd.decode_any w1 Ar cr raw R1.out HNC.out HCM.out (by have := HSR.out; omega))
  unfold Cd.RetD at HD
  have HD2 := Lib.hid (fun w (h : RdB w Ar raw.length raw) => Cd.rdecode_any w Ar cr raw h HNC.out HCM.out (by have := HSR.out; omega))
  unfold Cd.RetD at HD2
  generalize (Cd.dec raw).getD (.mk 0 0 [] []) = t at HD HD2 HTS
  generalize (if (Cd.dec raw).isSome then (0 : Int) else 10) = ec at HD HD2
  have hee : (ec == ec) = true := by simp
  go_wp2_with fail
  ((with_reducible refine HD.out.mono ?_); rintro e w5 ⟨cs5, rfl, hb5, hx5⟩)
  obtain ⟨A5, c5, rfl⟩ := hx5.spell
  have B5 := Lib.hid (B1.out.trans (hb5.mono B1.out.size))
  have R5 := Lib.hid (R1.out.keep hb5)
  have HX5 := Lib.hid hx5
  clear hb5 hx5 hd
  go_upto_region 6 with fail
  obtain ⟨w6, hw6⟩ : ∃ w6, w6 = w5.alloc (.cells #[.int .i64 t.k, .int .i64 t.n, .string ⟨t.s.toArray⟩, .slice A5 t.l.length c5] 24) := ⟨_, rfl⟩
  have X6 := Lib.hid (show Cd.P1 w w6 w5.heap.size t A5 c5 by
    rw [hw6]
    exact ⟨B5.out.alloc B5.out.size _, Cd.Bx.new HX5.out⟩)
  have R6 := Lib.hid (show RdB w6 Ar raw.length raw by rw [hw6]; exact R5.out.alloc _)
  try rw [← hw6]
  clear hw6
  have HD6 := Lib.hid (HD2.out w6 R6.out)
  go_wp2_with fail
  ((with_reducible refine HD6.out.mono ?_); rintro e w7 ⟨cs7, rfl, hb7, hx7⟩)
  obtain ⟨A7, c7, rfl⟩ := hx7.spell
  have X7 := Lib.hid (X6.out.keep hb7)
  have HX7 := Lib.hid hx7
  clear hb7 hx7
  go_upto_region 7 with fail
  obtain ⟨w8, hw8⟩ : ∃ w8, w8 = w7.alloc (.cells #[.int .i64 t.k, .int .i64 t.n, .string ⟨t.s.toArray⟩, .slice A7 t.l.length c7] 24) := ⟨_, rfl⟩
  have HP8 := Lib.hid (show Cd.P2 w w8 w5.heap.size t A5 c5 w7.heap.size t A7 c7 by
    rw [hw8]
    exact ⟨X7.out.below.alloc X7.out.below.size _, X7.out.bx.keep ((Below.refl _ _).alloc (Nat.le_refl _) _), Cd.Bx.new HX7.out⟩)
  try rw [← hw8]
  clear hw8
  obtain ⟨z0, c0, c1, c2, c3⟩ := HP8.out.bx.facts
  obtain ⟨z0', c0', c1', c2', c3'⟩ := HP8.out.bx'.facts
  have HS := Lib.hid (Cd.rsame_any 1000000 t t _ _ w8 HTS.out (HP8.out.bx.cell.cell (Nat.le_refl _)) (HP8.out.bx'.cell.cell (Nat.le_refl _)))
  rw [Cd.T.sm_yes] at HS
  go_wp2_with fail
  ((with_reducible refine HS.out.mono ?_); rintro e w9 ⟨rfl, hb9⟩)
  have HP9 := Lib.hid (HP8.out.keep hb9)
  clear hb9 z0 c0 c1 c2 c3 z0' c0' c1' c2' c3'
  go_wp2_with fail
  go_ret
  exact ⟨rfl, HP9.out.below⟩
end Go.Proofs.Ytnhodcjbmloeeaa
