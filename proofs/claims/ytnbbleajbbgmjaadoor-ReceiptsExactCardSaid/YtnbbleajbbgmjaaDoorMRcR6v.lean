import Derived.Test.YtnbbleajbbgmjaaDoorMRcR5
import Derived.Test.YtnbbleajbbgmjaaDoorMRcW8
import Derived.Test.YtnbbleajbbgmjaaDoorMRcR6
import Derived.Test.YtnbbleajbbgmjaaDoorMRcR8
/- Contracts of the reference's receipts: valid. -/
namespace Go.Proofs.YtnbbleajbbgmjaaDoor
open Go.RowKit
set_option linter.unusedVariables false

set_option maxHeartbeats 2000000 in
theorem Rc.rread_any (Ac As Al : Option Addr) (nc cc ns cs nl cl : Nat) (c : List Rc.C) (subs : List Rc.Sb) (l : List Rc.R) (no : Int) (w : World) (hE : Rc.Ev w w.heap.size Ac As Al nc ns nl c subs l) :
    Calls Tryd.prog 46 #[.slice Ac nc cc, .slice As ns cs, .slice Al nl cl, Rc.i no] w fun e w' =>
      e = .returned (.int .i64 (Rc.readE (Rc.chkE Rc.K0 Rc.I0 c subs l) ns no)) ∧ Below w.heap.size w w' := by
  have HC := Lib.hid (Rc.rcheck_any Ac As Al nc cc ns cs nl cl c subs l w hE)
  have hEE : Rc.chkE Rc.K0 Rc.I0 c subs l = 0 ∨ Rc.chkE Rc.K0 Rc.I0 c subs l = 510 := Rc.chk_ok
  generalize Rc.chkE Rc.K0 Rc.I0 c subs l = E at HC hEE ⊢
  clear hE
  rcases hEE with rfl | rfl
  · by_cases h0 : no < 0
    · have HV := Lib.hid (show Rc.readE 0 ns no = 1 from by rw [Rc.readE, if_pos rfl, Rc.inB_lt0 h0]; rfl)
      have hd0 : decide (no < 0) = true := decide_eq_true h0
      clear h0
      go_enter Tryd.func46, Tryd.ntmps46
      go_wp2_with fail
      ((with_reducible refine HC.out.mono ?_); rintro e w1 ⟨rfl, hb1⟩)
      have HB1 := Lib.hid hb1
      clear hb1
      go_wp2_with fail
      go_ret
      exact ⟨by rw [HV.out]; rfl, HB1.out⟩
    · have hd0 : decide (no < 0) = false := decide_eq_false h0
      by_cases h1 : (ns : Int) ≤ no
      · have HV := Lib.hid (show Rc.readE 0 ns no = 1 from by rw [Rc.readE, if_pos rfl, Rc.inB_geN h1]; rfl)
        have hd1 : decide ((ns : Int) ≤ no) = true := decide_eq_true h1
        clear h0 h1
        go_enter Tryd.func46, Tryd.ntmps46
        go_wp2_with fail
        ((with_reducible refine HC.out.mono ?_); rintro e w1 ⟨rfl, hb1⟩)
        have HB1 := Lib.hid hb1
        clear hb1
        go_wp2_with fail
        go_ret
        exact ⟨by rw [HV.out]; rfl, HB1.out⟩
      · have HV := Lib.hid (show Rc.readE 0 ns no = 0 from by rw [Rc.readE, if_pos rfl, Rc.inB_in (by omega) (by omega)]; rfl)
        have hd1 : decide ((ns : Int) ≤ no) = false := decide_eq_false h1
        clear h0 h1
        go_enter Tryd.func46, Tryd.ntmps46
        go_wp2_with fail
        ((with_reducible refine HC.out.mono ?_); rintro e w1 ⟨rfl, hb1⟩)
        have HB1 := Lib.hid hb1
        clear hb1
        go_wp2_with fail
        go_ret
        exact ⟨by rw [HV.out]; rfl, HB1.out⟩
  · have HV := Lib.hid (show Rc.readE 510 ns no = 510 from by rw [Rc.readE, if_neg (by decide)])
    go_enter Tryd.func46, Tryd.ntmps46
    go_wp2_with fail
    ((with_reducible refine HC.out.mono ?_); rintro e w1 ⟨rfl, hb1⟩)
    have HB1 := Lib.hid hb1
    clear hb1
    go_wp2_with fail
    go_ret
    exact ⟨by rw [HV.out]; rfl, HB1.out⟩

end Go.Proofs.YtnbbleajbbgmjaaDoor
/- Contracts of the reference's When and Conflict. -/
namespace Go.Proofs.YtnbbleajbbgmjaaDoor
open Go.RowKit
set_option linter.unusedVariables false

theorem Rc.readE_ok {E : Int} {ns : Nat} {no : Int} (hE : E = 0 ∨ E = 510) (h : Rc.readE E ns no = 0) : E = 0 := by
  rcases hE with rfl | rfl
  · rfl
  · rw [Rc.readE, if_neg (by decide)] at h
    exact absurd h (by decide)
theorem Rc.rwhen_any (Ac As Al : Option Addr) (nc cc ns cs nl cl : Nat) (c : List Rc.C) (subs : List Rc.Sb) (l : List Rc.R) (no : Int) (w : World) (hE : Rc.Ev w w.heap.size Ac As Al nc ns nl c subs l) :
    Calls Tryd.prog 17 #[.slice Ac nc cc, .slice As ns cs, .slice Al nl cl, Rc.i no] w fun e w' => e = .returned (Rc.whenV (Rc.readE (Rc.chkE Rc.K0 Rc.I0 c subs l) ns no) (Rc.ofs c l no)) ∧ Below w.heap.size w w' :=
  Rc.rwhen_of Ac As Al nc cc ns cs nl cl c subs l no _ w hE (fun w' hb => Rc.rread_any Ac As Al nc cc ns cs nl cl c subs l no w' (hE.up hb))
    (fun h0 x hx => by have h := Rc.ok_rf (Rc.readE_ok Rc.chk_ok h0) x hx; rw [hE.c.len] at h; exact h)
theorem Rc.rconf_any (Ac As Al : Option Addr) (nc cc ns cs nl cl : Nat) (c : List Rc.C) (subs : List Rc.Sb) (l : List Rc.R) (no : Int) (w : World) (hE : Rc.Ev w w.heap.size Ac As Al nc ns nl c subs l) :
    Calls Tryd.prog 19 #[.slice Ac nc cc, .slice As ns cs, .slice Al nl cl, Rc.i no] w fun e w' => e = .returned (Rc.confV (Rc.readE (Rc.chkE Rc.K0 Rc.I0 c subs l) ns no) (Rc.ofs c l no)) ∧ Below w.heap.size w w' :=
  Rc.rconf_of Ac As Al nc cc ns cs nl cl c subs l no _ w hE (Rc.rread_any Ac As Al nc cc ns cs nl cl c subs l no w hE)
    (fun h0 x hx => by have h := Rc.ok_rf (Rc.readE_ok Rc.chk_ok h0) x hx; rw [hE.c.len] at h; exact h)
end Go.Proofs.YtnbbleajbbgmjaaDoor
