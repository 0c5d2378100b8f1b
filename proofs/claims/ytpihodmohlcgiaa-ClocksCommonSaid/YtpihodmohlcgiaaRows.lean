/-
  No cell of these rows narrows 'for every input' (looked for: loops, veiled, ifaces, maps, wideKeys, modest, calm, conditions, laid).
  DERIVED. THE GIVEN ROWS OF THIS SEAT. 7 by the template 'for every input the law returns true; each argument reads behind the call as it read before'; 0 by the template 'total and deterministic' (their statements: YtpihodmohlcgiaaTotals.lean).
  GIVEN WITH THE SEED: the statements are not yours to turn. If you find one false, say at which input.
  Laid BY PROGRAM, IN A SANDBOX (cutbox-rows.mjs): the forced cells as the released guide's own fill.sh prints them over the translation 5cc72b71c71b2008… (all of the seat's roots in one cut). By AI agents, Wed Nov 11 2026. No macro, syntax, notation, axiom, sorry.
-/
import Derived.Test.YtpihodmohlcgiaaChecked
import GoSem.Claim
import GoSem.ClaimJoined
import GoSem.ClaimMapViews
import Derived.JoinedTies
import Derived.KernelRfl
namespace Go.Proofs.Ytpihodmohlcgiaa
/- THE CELL 'sum', in the pinned program and in every row, IS THE sha256 OF THE DUMP (.gsa) THAT YtpihodmohlcgiaaProg.lean LOADS. Nothing in Lean hashes anything: it is a label: what it is worth is what the hold of that sum in a sandbox is worth. -/
noncomputable def Try.pinned : Pinned := { name := "ytpihodmohlcgiaa", sum := "5cc72b71c71b2008fbb3ffed40d7204c1ea029668ef135c640752ca701ffcb94", checked := Try.checked }
namespace Rows
def none {H : Type} : Left H := { results := [], args := [] }

/-- 'gridwrightlaw49.ClocksMaySpec': WHATEVER THE INPUT: true; the input reads as it did. -/
def clocksMaySpecSpec : ChangeSpec := { name := "clocksMaySpec", fn := fun _ => fun
  | [d1, d2, d3] => { results := [.lit (.bool true)], args := [d1, d2, d3] }
  | _ => none }
def clocksMaySpecRow : OpenClaim := { program := "ytpihodmohlcgiaa", sum := "5cc72b71c71b2008fbb3ffed40d7204c1ea029668ef135c640752ca701ffcb94", func := "gridwright/gridwrightlaw49.ClocksMaySpec", spec := "clocksMaySpec", unfollowed := true, recurses := true, apart := false }
def ClocksMaySpecSaid : Prop := clocksMaySpecRow.holds Try.pinned (OpenSpec.ofChange clocksMaySpecSpec)

/-- ITS FALSE NEIGHBOUR: 'it returns false'. Refute it at one input. -/
def clocksMaySpecWrong : ChangeSpec := { name := "clocksMaySpec", fn := fun _ => fun
  | [d1, d2, d3] => { results := [.lit (.bool false)], args := [d1, d2, d3] }
  | _ => none }
def ClocksMaySpecWrongFalsely : Prop := clocksMaySpecRow.holds Try.pinned (OpenSpec.ofChange clocksMaySpecWrong)

/-- 'gridwrightlaw49.ClocksTimesSpec': WHATEVER THE INPUT: true; the input reads as it did. -/
def clocksTimesSpecSpec : ChangeSpec := { name := "clocksTimesSpec", fn := fun _ => fun
  | [d1, d2, d3, d4] => { results := [.lit (.bool true)], args := [d1, d2, d3, d4] }
  | _ => none }
def clocksTimesSpecRow : OpenClaim := { program := "ytpihodmohlcgiaa", sum := "5cc72b71c71b2008fbb3ffed40d7204c1ea029668ef135c640752ca701ffcb94", func := "gridwright/gridwrightlaw49.ClocksTimesSpec", spec := "clocksTimesSpec", unfollowed := true, recurses := true, apart := false }
def ClocksTimesSpecSaid : Prop := clocksTimesSpecRow.holds Try.pinned (OpenSpec.ofChange clocksTimesSpecSpec)

/-- ITS FALSE NEIGHBOUR: 'it returns false'. Refute it at one input. -/
def clocksTimesSpecWrong : ChangeSpec := { name := "clocksTimesSpec", fn := fun _ => fun
  | [d1, d2, d3, d4] => { results := [.lit (.bool false)], args := [d1, d2, d3, d4] }
  | _ => none }
def ClocksTimesSpecWrongFalsely : Prop := clocksTimesSpecRow.holds Try.pinned (OpenSpec.ofChange clocksTimesSpecWrong)

/-- 'gridwrightlaw49.ClocksExact': WHATEVER THE INPUT: true; the input reads as it did. -/
def clocksExactSpec : ChangeSpec := { name := "clocksExact", fn := fun _ => fun
  | [d1, d2, d3] => { results := [.lit (.bool true)], args := [d1, d2, d3] }
  | _ => none }
def clocksExactRow : OpenClaim := { program := "ytpihodmohlcgiaa", sum := "5cc72b71c71b2008fbb3ffed40d7204c1ea029668ef135c640752ca701ffcb94", func := "gridwright/gridwrightlaw49.ClocksExact", spec := "clocksExact", unfollowed := true, recurses := true, apart := false }
def ClocksExactSaid : Prop := clocksExactRow.holds Try.pinned (OpenSpec.ofChange clocksExactSpec)

/-- ITS FALSE NEIGHBOUR: 'it returns false'. Refute it at one input. -/
def clocksExactWrong : ChangeSpec := { name := "clocksExact", fn := fun _ => fun
  | [d1, d2, d3] => { results := [.lit (.bool false)], args := [d1, d2, d3] }
  | _ => none }
def ClocksExactWrongFalsely : Prop := clocksExactRow.holds Try.pinned (OpenSpec.ofChange clocksExactWrong)

/-- 'gridwrightlaw49.ClocksCommon': WHATEVER THE INPUT: true; the input reads as it did. -/
def clocksCommonSpec : ChangeSpec := { name := "clocksCommon", fn := fun _ => fun
  | [d1, d2, d3] => { results := [.lit (.bool true)], args := [d1, d2, d3] }
  | _ => none }
def clocksCommonRow : OpenClaim := { program := "ytpihodmohlcgiaa", sum := "5cc72b71c71b2008fbb3ffed40d7204c1ea029668ef135c640752ca701ffcb94", func := "gridwright/gridwrightlaw49.ClocksCommon", spec := "clocksCommon", unfollowed := true, recurses := true, apart := false }
def ClocksCommonSaid : Prop := clocksCommonRow.holds Try.pinned (OpenSpec.ofChange clocksCommonSpec)

/-- ITS FALSE NEIGHBOUR: 'it returns false'. Refute it at one input. -/
def clocksCommonWrong : ChangeSpec := { name := "clocksCommon", fn := fun _ => fun
  | [d1, d2, d3] => { results := [.lit (.bool false)], args := [d1, d2, d3] }
  | _ => none }
def ClocksCommonWrongFalsely : Prop := clocksCommonRow.holds Try.pinned (OpenSpec.ofChange clocksCommonWrong)

/-- 'gridwrightlaw49.ClocksWider': WHATEVER THE INPUT: true; the input reads as it did. -/
def clocksWiderSpec : ChangeSpec := { name := "clocksWider", fn := fun _ => fun
  | [d1, d2, d3, d4] => { results := [.lit (.bool true)], args := [d1, d2, d3, d4] }
  | _ => none }
def clocksWiderRow : OpenClaim := { program := "ytpihodmohlcgiaa", sum := "5cc72b71c71b2008fbb3ffed40d7204c1ea029668ef135c640752ca701ffcb94", func := "gridwright/gridwrightlaw49.ClocksWider", spec := "clocksWider", unfollowed := true, recurses := true, apart := false }
def ClocksWiderSaid : Prop := clocksWiderRow.holds Try.pinned (OpenSpec.ofChange clocksWiderSpec)

/-- ITS FALSE NEIGHBOUR: 'it returns false'. Refute it at one input. -/
def clocksWiderWrong : ChangeSpec := { name := "clocksWider", fn := fun _ => fun
  | [d1, d2, d3, d4] => { results := [.lit (.bool false)], args := [d1, d2, d3, d4] }
  | _ => none }
def ClocksWiderWrongFalsely : Prop := clocksWiderRow.holds Try.pinned (OpenSpec.ofChange clocksWiderWrong)

/-- 'gridwrightlaw49.ClocksSteady': WHATEVER THE INPUT: true; the input reads as it did. -/
def clocksSteadySpec : ChangeSpec := { name := "clocksSteady", fn := fun _ => fun
  | [d1, d2] => { results := [.lit (.bool true)], args := [d1, d2] }
  | _ => none }
def clocksSteadyRow : OpenClaim := { program := "ytpihodmohlcgiaa", sum := "5cc72b71c71b2008fbb3ffed40d7204c1ea029668ef135c640752ca701ffcb94", func := "gridwright/gridwrightlaw49.ClocksSteady", spec := "clocksSteady", unfollowed := true, recurses := true, apart := false }
def ClocksSteadySaid : Prop := clocksSteadyRow.holds Try.pinned (OpenSpec.ofChange clocksSteadySpec)

/-- ITS FALSE NEIGHBOUR: 'it returns false'. Refute it at one input. -/
def clocksSteadyWrong : ChangeSpec := { name := "clocksSteady", fn := fun _ => fun
  | [d1, d2] => { results := [.lit (.bool false)], args := [d1, d2] }
  | _ => none }
def ClocksSteadyWrongFalsely : Prop := clocksSteadyRow.holds Try.pinned (OpenSpec.ofChange clocksSteadyWrong)

/-- 'gridwrightlaw49.ClocksMeet': WHATEVER THE INPUT: true; the input reads as it did. -/
def clocksMeetSpec : ChangeSpec := { name := "clocksMeet", fn := fun _ => fun
  | [d1, d2, d3] => { results := [.lit (.bool true)], args := [d1, d2, d3] }
  | _ => none }
def clocksMeetRow : OpenClaim := { program := "ytpihodmohlcgiaa", sum := "5cc72b71c71b2008fbb3ffed40d7204c1ea029668ef135c640752ca701ffcb94", func := "gridwright/gridwrightlaw49.ClocksMeet", spec := "clocksMeet", unfollowed := true, recurses := true, apart := false }
def ClocksMeetSaid : Prop := clocksMeetRow.holds Try.pinned (OpenSpec.ofChange clocksMeetSpec)

/-- ITS FALSE NEIGHBOUR: 'it returns false'. Refute it at one input. -/
def clocksMeetWrong : ChangeSpec := { name := "clocksMeet", fn := fun _ => fun
  | [d1, d2, d3] => { results := [.lit (.bool false)], args := [d1, d2, d3] }
  | _ => none }
def ClocksMeetWrongFalsely : Prop := clocksMeetRow.holds Try.pinned (OpenSpec.ofChange clocksMeetWrong)

/- THE SECOND FORM. 'bulk': how many values and letters a reading holds, each counted each time it is reached (what is shared counts as often as it is met; a slice's spare places count too). A statement '..UptoSaid' is the law's where the arguments, and the package variables that the reading takes, are together of bulk at most 1048576: NARROWER than '..Said'. Prove '..Said' where nothing that the law and all that it calls make is longer than what came in: it says more and counts as full. Else prove '..UptoSaid'. A law counts once. -/
mutual
def uptoBulk {H : Type} : DataW H → Nat
  | .lit (.string bytes) => bytes.length + 1
  | .lit _ => 1
  | .nil => 1
  | .ptr d => uptoBulk d + 1
  | .slice elems spare => uptoBulkAll elems + uptoBulkAll spare + 1
  | .agg parts => uptoBulkAll parts + 1
  | .iface _ d => uptoBulk d + 1
  | .map entries => uptoBulkEntries entries + 1
  | .held _ => 1
def uptoBulkAll {H : Type} : List (DataW H) → Nat
  | [] => 0
  | d :: r => uptoBulk d + uptoBulkAll r
def uptoBulkEntries {H : Type} : List (Lit × DataW H) → Nat
  | [] => 0
  | x :: r => uptoBulkEntry x + uptoBulkEntries r
def uptoBulkEntry {H : Type} : Lit × DataW H → Nat
  | (.string bytes, d) => bytes.length + uptoBulk d + 1
  | (_, d) => uptoBulk d + 1
 end
def uptoSmall : (H : Type) → List (DataW H) → Bool := fun _ ds => decide (uptoBulkAll ds ≤ 1048576)
def OpenSpec.upto (s : _root_.Go.ChangeSpec) : _root_.Go.OpenSpec := { _root_.Go.OpenSpec.ofChange s with cond := some uptoSmall }

/-- 'gridwrightlaw49.ClocksMaySpec', WHERE WHAT IT READS IS OF BULK AT MOST 1048576: true; the input reads as it did. -/
def clocksMaySpecUptoRow : OpenClaim := { program := "ytpihodmohlcgiaa", sum := "5cc72b71c71b2008fbb3ffed40d7204c1ea029668ef135c640752ca701ffcb94", func := "gridwright/gridwrightlaw49.ClocksMaySpec", spec := "clocksMaySpec", unfollowed := true, recurses := true, apart := false, narrowed := true }
def ClocksMaySpecUptoSaid : Prop := clocksMaySpecUptoRow.holds Try.pinned (OpenSpec.upto clocksMaySpecSpec)

/-- 'gridwrightlaw49.ClocksTimesSpec', WHERE WHAT IT READS IS OF BULK AT MOST 1048576: true; the input reads as it did. -/
def clocksTimesSpecUptoRow : OpenClaim := { program := "ytpihodmohlcgiaa", sum := "5cc72b71c71b2008fbb3ffed40d7204c1ea029668ef135c640752ca701ffcb94", func := "gridwright/gridwrightlaw49.ClocksTimesSpec", spec := "clocksTimesSpec", unfollowed := true, recurses := true, apart := false, narrowed := true }
def ClocksTimesSpecUptoSaid : Prop := clocksTimesSpecUptoRow.holds Try.pinned (OpenSpec.upto clocksTimesSpecSpec)

/-- 'gridwrightlaw49.ClocksExact', WHERE WHAT IT READS IS OF BULK AT MOST 1048576: true; the input reads as it did. -/
def clocksExactUptoRow : OpenClaim := { program := "ytpihodmohlcgiaa", sum := "5cc72b71c71b2008fbb3ffed40d7204c1ea029668ef135c640752ca701ffcb94", func := "gridwright/gridwrightlaw49.ClocksExact", spec := "clocksExact", unfollowed := true, recurses := true, apart := false, narrowed := true }
def ClocksExactUptoSaid : Prop := clocksExactUptoRow.holds Try.pinned (OpenSpec.upto clocksExactSpec)

/-- 'gridwrightlaw49.ClocksCommon', WHERE WHAT IT READS IS OF BULK AT MOST 1048576: true; the input reads as it did. -/
def clocksCommonUptoRow : OpenClaim := { program := "ytpihodmohlcgiaa", sum := "5cc72b71c71b2008fbb3ffed40d7204c1ea029668ef135c640752ca701ffcb94", func := "gridwright/gridwrightlaw49.ClocksCommon", spec := "clocksCommon", unfollowed := true, recurses := true, apart := false, narrowed := true }
def ClocksCommonUptoSaid : Prop := clocksCommonUptoRow.holds Try.pinned (OpenSpec.upto clocksCommonSpec)

/-- 'gridwrightlaw49.ClocksWider', WHERE WHAT IT READS IS OF BULK AT MOST 1048576: true; the input reads as it did. -/
def clocksWiderUptoRow : OpenClaim := { program := "ytpihodmohlcgiaa", sum := "5cc72b71c71b2008fbb3ffed40d7204c1ea029668ef135c640752ca701ffcb94", func := "gridwright/gridwrightlaw49.ClocksWider", spec := "clocksWider", unfollowed := true, recurses := true, apart := false, narrowed := true }
def ClocksWiderUptoSaid : Prop := clocksWiderUptoRow.holds Try.pinned (OpenSpec.upto clocksWiderSpec)

/-- 'gridwrightlaw49.ClocksSteady', WHERE WHAT IT READS IS OF BULK AT MOST 1048576: true; the input reads as it did. -/
def clocksSteadyUptoRow : OpenClaim := { program := "ytpihodmohlcgiaa", sum := "5cc72b71c71b2008fbb3ffed40d7204c1ea029668ef135c640752ca701ffcb94", func := "gridwright/gridwrightlaw49.ClocksSteady", spec := "clocksSteady", unfollowed := true, recurses := true, apart := false, narrowed := true }
def ClocksSteadyUptoSaid : Prop := clocksSteadyUptoRow.holds Try.pinned (OpenSpec.upto clocksSteadySpec)

/-- 'gridwrightlaw49.ClocksMeet', WHERE WHAT IT READS IS OF BULK AT MOST 1048576: true; the input reads as it did. -/
def clocksMeetUptoRow : OpenClaim := { program := "ytpihodmohlcgiaa", sum := "5cc72b71c71b2008fbb3ffed40d7204c1ea029668ef135c640752ca701ffcb94", func := "gridwright/gridwrightlaw49.ClocksMeet", spec := "clocksMeet", unfollowed := true, recurses := true, apart := false, narrowed := true }
def ClocksMeetUptoSaid : Prop := clocksMeetUptoRow.holds Try.pinned (OpenSpec.upto clocksMeetSpec)

end Rows
end Go.Proofs.Ytpihodmohlcgiaa
