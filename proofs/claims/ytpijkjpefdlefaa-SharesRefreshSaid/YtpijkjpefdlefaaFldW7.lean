/- Contract of field.Through; what the calls of 'sane' come to. -/
import Derived.Test.YtpijkjpefdlefaaByt
import Derived.Test.YtpijkjpefdlefaaFldW6
namespace Go.Proofs.Ytpijkjpefdlefaa
open Go.RowKit Go.Shelf
set_option linter.unusedVariables false

/-- what Through answers -/
def Fld.thrV (l l2 : List UInt8) (a : UInt8) : UInt8 := if Fld.ptsB l l2 = true then Fld.ev (Fld.coefs l l2) a else 0
def Fld.thrE (l l2 : List UInt8) : Int := if Fld.ptsB l l2 = true then 0 else 1

theorem Fld.through_any (A A2 : Option Addr) (m c m2 c2 : Nat) (l l2 : List UInt8) (a : UInt8) (w : World) (hm : m ≤ 1000000) (hm2 : m2 ≤ maxLen) (hrd : RdB w A m l) (hrd2 : RdB w A2 m2 l2) :
    Calls Try.prog 36 #[.slice A m c, .slice A2 m2 c2, B8 a] w fun e w' => e = .returned (.tuple #[B8 (Fld.thrV l l2 a), .int .i64 (Fld.thrE l l2)]) ∧ Below w.heap.size w w' := by
  by_cases hp : Fld.ptsB l l2 = true
  · have HV := Lib.hid (show Fld.thrV l l2 a = Fld.ev (Fld.coefs l l2) a by rw [Fld.thrV, if_pos hp])
    have HE := Lib.hid (show Fld.thrE l l2 = 0 by rw [Fld.thrE, if_pos hp])
    have HLC := Lib.hid (show (Fld.coefs l l2).length = m by rw [Fld.coefs_len, hrd.len])
    have HC := Lib.hid (Fld.coef_yes A A2 m c m2 c2 l l2 w hrd.len hrd2.len hm hm2 hrd hrd2 hp)
    clear hp
    go_enter Try.func36, Try.ntmps36
    go_wp2_with fail
    refine HC.out.mono ?_
    rintro e w1 ⟨v, rfl, hown, hb⟩
    obtain ⟨A3, c3, rfl⟩ := own_form hown
    have HR := Lib.hid (RdB.of_own hown)
    have HB := Lib.hid hb
    clear hown hb
    go_wp2_with fail
    refine (Fld.eval_ev A3 m c3 (Fld.coefs l l2) a w1 HLC.out (by unfold maxLen; omega) HR.out).mono ?_
    rintro e w2 ⟨rfl, hb2⟩
    have HB2 := Lib.hid (HB.out.trans (hb2.mono HB.out.size))
    clear hb2
    go_wp2_with fail
    go_ret2
    exact ⟨by rw [HV.out, HE.out]; rfl, HB2.out⟩
  · have hp : Fld.ptsB l l2 = false := by cases h : Fld.ptsB l l2 <;> simp_all
    have HV := Lib.hid (show Fld.thrV l l2 a = 0 by rw [Fld.thrV, hp]; rfl)
    have HE := Lib.hid (show Fld.thrE l l2 = 1 by rw [Fld.thrE, hp]; rfl)
    have HC := Lib.hid (Fld.coef_no A A2 m c m2 c2 l l2 w hrd.len hrd2.len (by unfold maxLen; omega) hm2 hrd hp)
    clear hp
    go_enter Try.func36, Try.ntmps36
    go_wp2_with fail
    refine HC.out.mono ?_
    rintro e w1 ⟨rfl, hb⟩
    have HB := Lib.hid hb
    clear hb
    go_wp2_with fail
    go_ret2
    exact ⟨by rw [HV.out, HE.out]; rfl, HB.out⟩
end Go.Proofs.Ytpijkjpefdlefaa
