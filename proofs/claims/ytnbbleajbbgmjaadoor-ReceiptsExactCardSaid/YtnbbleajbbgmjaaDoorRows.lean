/-
  NARROWER THAN 'FOR EVERY INPUT', by the rows' own cells (each row's printed sentence says how): ReceiptsSpec: laid · ReceiptsWhenSpec: laid · ReceiptsFewer: laid · ReceiptsExact: laid · ReceiptsBefore: laid · ReceiptsTrue: laid · ReceiptsConflicts: laid.
  DERIVED. THE GIVEN ROWS OF THIS SEAT. 7 by the template 'for every input the law returns true; each argument reads behind the call as it read before'; 0 by the template 'total and deterministic' (their statements: YtnbbleajbbgmjaaDoorTotals.lean).
  GIVEN WITH THE SEED: the statements are not yours to turn. If you find one false, say at which input.
  Laid BY PROGRAM, IN A SANDBOX (cutbox-rows.mjs): the forced cells as the released guide's own fill.sh prints them over the translation 60da1efebc392a5c… (all of the seat's roots in one cut). By AI agents, Wed Nov 11 2026. No macro, syntax, notation, axiom, sorry.
-/
import Derived.Test.YtnbbleajbbgmjaaDoorChecked
import GoSem.Claim
import GoSem.ClaimJoined
import GoSem.ClaimMapViews
import Derived.JoinedTies
import Derived.KernelRfl
namespace Go.Proofs.YtnbbleajbbgmjaaDoor
/- THE CELL 'sum', in the pinned program and in every row, IS THE sha256 OF THE DUMP (.gsa) THAT YtnbbleajbbgmjaaDoorProg.lean LOADS. Nothing in Lean hashes anything: it is a label: what it is worth is what the hold of that sum in a sandbox is worth. -/
noncomputable def Tryd.pinned : Pinned := { name := "ytnbbleajbbgmjaadoor", sum := "60da1efebc392a5c5a1d71e634012dbbfd7435a079fcc2d3b2f4e4ba30980892", checked := Tryd.checked }
namespace Rows
def none {H : Type} : Left H := { results := [], args := [] }

/- WHAT THE LISTED PACKAGE-LEVEL VARIABLES READ AS WHEN THE CALL BEGINS. Each datum BY PROGRAM (the guide's laid-datum.mjs) off the statement by which the dump's own 'gosem.cut.vars' lays the variable. In a bare row this is a premise. The card (YtnbbleajbbgmjaaDoorCards.lean) ties it to the program's text. -/
def laid_gridwright_digest_start {H : Type} : DataW H := .agg [.lit (.int .u32 1779033703), .lit (.int .u32 3144134277), .lit (.int .u32 1013904242), .lit (.int .u32 2773480762), .lit (.int .u32 1359893119), .lit (.int .u32 2600822924), .lit (.int .u32 528734635), .lit (.int .u32 1541459225)]
def laid_gridwright_digest_numbers {H : Type} : DataW H := .agg [.lit (.int .u32 1116352408), .lit (.int .u32 1899447441), .lit (.int .u32 3049323471), .lit (.int .u32 3921009573), .lit (.int .u32 961987163), .lit (.int .u32 1508970993), .lit (.int .u32 2453635748), .lit (.int .u32 2870763221), .lit (.int .u32 3624381080), .lit (.int .u32 310598401), .lit (.int .u32 607225278), .lit (.int .u32 1426881987), .lit (.int .u32 1925078388), .lit (.int .u32 2162078206), .lit (.int .u32 2614888103), .lit (.int .u32 3248222580), .lit (.int .u32 3835390401), .lit (.int .u32 4022224774), .lit (.int .u32 264347078), .lit (.int .u32 604807628), .lit (.int .u32 770255983), .lit (.int .u32 1249150122), .lit (.int .u32 1555081692), .lit (.int .u32 1996064986), .lit (.int .u32 2554220882), .lit (.int .u32 2821834349), .lit (.int .u32 2952996808), .lit (.int .u32 3210313671), .lit (.int .u32 3336571891), .lit (.int .u32 3584528711), .lit (.int .u32 113926993), .lit (.int .u32 338241895), .lit (.int .u32 666307205), .lit (.int .u32 773529912), .lit (.int .u32 1294757372), .lit (.int .u32 1396182291), .lit (.int .u32 1695183700), .lit (.int .u32 1986661051), .lit (.int .u32 2177026350), .lit (.int .u32 2456956037), .lit (.int .u32 2730485921), .lit (.int .u32 2820302411), .lit (.int .u32 3259730800), .lit (.int .u32 3345764771), .lit (.int .u32 3516065817), .lit (.int .u32 3600352804), .lit (.int .u32 4094571909), .lit (.int .u32 275423344), .lit (.int .u32 430227734), .lit (.int .u32 506948616), .lit (.int .u32 659060556), .lit (.int .u32 883997877), .lit (.int .u32 958139571), .lit (.int .u32 1322822218), .lit (.int .u32 1537002063), .lit (.int .u32 1747873779), .lit (.int .u32 1955562222), .lit (.int .u32 2024104815), .lit (.int .u32 2227730452), .lit (.int .u32 2361852424), .lit (.int .u32 2428436474), .lit (.int .u32 2756734187), .lit (.int .u32 3204031479), .lit (.int .u32 3329325298)]

/-- 'gridwrightlaw51.ReceiptsSpec': WHATEVER THE INPUT: true; the input reads as it did. -/
def receiptsSpecSpec : ChangeSpec := { name := "receiptsSpec", fn := fun _ => fun
  | [d1, d2, d3, d4] => { results := [.lit (.bool true)], args := [d1, d2, d3, d4] }
  | _ => none }
def receiptsSpecRow : OpenClaim := { program := "ytnbbleajbbgmjaadoor", sum := "60da1efebc392a5c5a1d71e634012dbbfd7435a079fcc2d3b2f4e4ba30980892", func := "gridwright/gridwrightlaw51.ReceiptsSpec", spec := "receiptsSpec", unfollowed := true, recurses := true, named := ["gridwright/digest.start", "gridwright/digest.numbers"], apart := false, laid := [("gridwright/digest.start", laid_gridwright_digest_start), ("gridwright/digest.numbers", laid_gridwright_digest_numbers)] }
def ReceiptsSpecSaid : Prop := receiptsSpecRow.holds Tryd.pinned (OpenSpec.ofChange receiptsSpecSpec)

/-- ITS FALSE NEIGHBOUR: 'it returns false'. Refute it at one input. -/
def receiptsSpecWrong : ChangeSpec := { name := "receiptsSpec", fn := fun _ => fun
  | [d1, d2, d3, d4] => { results := [.lit (.bool false)], args := [d1, d2, d3, d4] }
  | _ => none }
def ReceiptsSpecWrongFalsely : Prop := receiptsSpecRow.holds Tryd.pinned (OpenSpec.ofChange receiptsSpecWrong)

/-- 'gridwrightlaw51.ReceiptsWhenSpec': WHATEVER THE INPUT: true; the input reads as it did. -/
def receiptsWhenSpecSpec : ChangeSpec := { name := "receiptsWhenSpec", fn := fun _ => fun
  | [d1, d2, d3, d4, d5, d6] => { results := [.lit (.bool true)], args := [d1, d2, d3, d4, d5, d6] }
  | _ => none }
def receiptsWhenSpecRow : OpenClaim := { program := "ytnbbleajbbgmjaadoor", sum := "60da1efebc392a5c5a1d71e634012dbbfd7435a079fcc2d3b2f4e4ba30980892", func := "gridwright/gridwrightlaw51.ReceiptsWhenSpec", spec := "receiptsWhenSpec", unfollowed := true, recurses := true, named := ["gridwright/digest.start", "gridwright/digest.numbers"], apart := false, laid := [("gridwright/digest.start", laid_gridwright_digest_start), ("gridwright/digest.numbers", laid_gridwright_digest_numbers)] }
def ReceiptsWhenSpecSaid : Prop := receiptsWhenSpecRow.holds Tryd.pinned (OpenSpec.ofChange receiptsWhenSpecSpec)

/-- ITS FALSE NEIGHBOUR: 'it returns false'. Refute it at one input. -/
def receiptsWhenSpecWrong : ChangeSpec := { name := "receiptsWhenSpec", fn := fun _ => fun
  | [d1, d2, d3, d4, d5, d6] => { results := [.lit (.bool false)], args := [d1, d2, d3, d4, d5, d6] }
  | _ => none }
def ReceiptsWhenSpecWrongFalsely : Prop := receiptsWhenSpecRow.holds Tryd.pinned (OpenSpec.ofChange receiptsWhenSpecWrong)

/-- 'gridwrightlaw51.ReceiptsFewer': WHATEVER THE INPUT: true; the input reads as it did. -/
def receiptsFewerSpec : ChangeSpec := { name := "receiptsFewer", fn := fun _ => fun
  | [d1, d2, d3, d4, d5] => { results := [.lit (.bool true)], args := [d1, d2, d3, d4, d5] }
  | _ => none }
def receiptsFewerRow : OpenClaim := { program := "ytnbbleajbbgmjaadoor", sum := "60da1efebc392a5c5a1d71e634012dbbfd7435a079fcc2d3b2f4e4ba30980892", func := "gridwright/gridwrightlaw51.ReceiptsFewer", spec := "receiptsFewer", unfollowed := true, recurses := true, named := ["gridwright/digest.start", "gridwright/digest.numbers"], apart := false, laid := [("gridwright/digest.start", laid_gridwright_digest_start), ("gridwright/digest.numbers", laid_gridwright_digest_numbers)] }
def ReceiptsFewerSaid : Prop := receiptsFewerRow.holds Tryd.pinned (OpenSpec.ofChange receiptsFewerSpec)

/-- ITS FALSE NEIGHBOUR: 'it returns false'. Refute it at one input. -/
def receiptsFewerWrong : ChangeSpec := { name := "receiptsFewer", fn := fun _ => fun
  | [d1, d2, d3, d4, d5] => { results := [.lit (.bool false)], args := [d1, d2, d3, d4, d5] }
  | _ => none }
def ReceiptsFewerWrongFalsely : Prop := receiptsFewerRow.holds Tryd.pinned (OpenSpec.ofChange receiptsFewerWrong)

/-- 'gridwrightlaw51.ReceiptsExact': WHATEVER THE INPUT: true; the input reads as it did. -/
def receiptsExactSpec : ChangeSpec := { name := "receiptsExact", fn := fun _ => fun
  | [d1, d2, d3, d4, d5] => { results := [.lit (.bool true)], args := [d1, d2, d3, d4, d5] }
  | _ => none }
def receiptsExactRow : OpenClaim := { program := "ytnbbleajbbgmjaadoor", sum := "60da1efebc392a5c5a1d71e634012dbbfd7435a079fcc2d3b2f4e4ba30980892", func := "gridwright/gridwrightlaw51.ReceiptsExact", spec := "receiptsExact", unfollowed := true, recurses := true, named := ["gridwright/digest.start", "gridwright/digest.numbers"], apart := false, laid := [("gridwright/digest.start", laid_gridwright_digest_start), ("gridwright/digest.numbers", laid_gridwright_digest_numbers)] }
def ReceiptsExactSaid : Prop := receiptsExactRow.holds Tryd.pinned (OpenSpec.ofChange receiptsExactSpec)

/-- ITS FALSE NEIGHBOUR: 'it returns false'. Refute it at one input. -/
def receiptsExactWrong : ChangeSpec := { name := "receiptsExact", fn := fun _ => fun
  | [d1, d2, d3, d4, d5] => { results := [.lit (.bool false)], args := [d1, d2, d3, d4, d5] }
  | _ => none }
def ReceiptsExactWrongFalsely : Prop := receiptsExactRow.holds Tryd.pinned (OpenSpec.ofChange receiptsExactWrong)

/-- 'gridwrightlaw51.ReceiptsBefore': WHATEVER THE INPUT: true; the input reads as it did. -/
def receiptsBeforeSpec : ChangeSpec := { name := "receiptsBefore", fn := fun _ => fun
  | [d1, d2, d3, d4, d5] => { results := [.lit (.bool true)], args := [d1, d2, d3, d4, d5] }
  | _ => none }
def receiptsBeforeRow : OpenClaim := { program := "ytnbbleajbbgmjaadoor", sum := "60da1efebc392a5c5a1d71e634012dbbfd7435a079fcc2d3b2f4e4ba30980892", func := "gridwright/gridwrightlaw51.ReceiptsBefore", spec := "receiptsBefore", unfollowed := true, recurses := true, named := ["gridwright/digest.start", "gridwright/digest.numbers"], apart := false, laid := [("gridwright/digest.start", laid_gridwright_digest_start), ("gridwright/digest.numbers", laid_gridwright_digest_numbers)] }
def ReceiptsBeforeSaid : Prop := receiptsBeforeRow.holds Tryd.pinned (OpenSpec.ofChange receiptsBeforeSpec)

/-- ITS FALSE NEIGHBOUR: 'it returns false'. Refute it at one input. -/
def receiptsBeforeWrong : ChangeSpec := { name := "receiptsBefore", fn := fun _ => fun
  | [d1, d2, d3, d4, d5] => { results := [.lit (.bool false)], args := [d1, d2, d3, d4, d5] }
  | _ => none }
def ReceiptsBeforeWrongFalsely : Prop := receiptsBeforeRow.holds Tryd.pinned (OpenSpec.ofChange receiptsBeforeWrong)

/-- 'gridwrightlaw51.ReceiptsTrue': WHATEVER THE INPUT: true; the input reads as it did. -/
def receiptsTrueSpec : ChangeSpec := { name := "receiptsTrue", fn := fun _ => fun
  | [d1, d2, d3, d4, d5] => { results := [.lit (.bool true)], args := [d1, d2, d3, d4, d5] }
  | _ => none }
def receiptsTrueRow : OpenClaim := { program := "ytnbbleajbbgmjaadoor", sum := "60da1efebc392a5c5a1d71e634012dbbfd7435a079fcc2d3b2f4e4ba30980892", func := "gridwright/gridwrightlaw51.ReceiptsTrue", spec := "receiptsTrue", unfollowed := true, recurses := true, named := ["gridwright/digest.start", "gridwright/digest.numbers"], apart := false, laid := [("gridwright/digest.start", laid_gridwright_digest_start), ("gridwright/digest.numbers", laid_gridwright_digest_numbers)] }
def ReceiptsTrueSaid : Prop := receiptsTrueRow.holds Tryd.pinned (OpenSpec.ofChange receiptsTrueSpec)

/-- ITS FALSE NEIGHBOUR: 'it returns false'. Refute it at one input. -/
def receiptsTrueWrong : ChangeSpec := { name := "receiptsTrue", fn := fun _ => fun
  | [d1, d2, d3, d4, d5] => { results := [.lit (.bool false)], args := [d1, d2, d3, d4, d5] }
  | _ => none }
def ReceiptsTrueWrongFalsely : Prop := receiptsTrueRow.holds Tryd.pinned (OpenSpec.ofChange receiptsTrueWrong)

/-- 'gridwrightlaw51.ReceiptsConflicts': WHATEVER THE INPUT: true; the input reads as it did. -/
def receiptsConflictsSpec : ChangeSpec := { name := "receiptsConflicts", fn := fun _ => fun
  | [d1, d2, d3, d4, d5] => { results := [.lit (.bool true)], args := [d1, d2, d3, d4, d5] }
  | _ => none }
def receiptsConflictsRow : OpenClaim := { program := "ytnbbleajbbgmjaadoor", sum := "60da1efebc392a5c5a1d71e634012dbbfd7435a079fcc2d3b2f4e4ba30980892", func := "gridwright/gridwrightlaw51.ReceiptsConflicts", spec := "receiptsConflicts", unfollowed := true, recurses := true, named := ["gridwright/digest.start", "gridwright/digest.numbers"], apart := false, laid := [("gridwright/digest.start", laid_gridwright_digest_start), ("gridwright/digest.numbers", laid_gridwright_digest_numbers)] }
def ReceiptsConflictsSaid : Prop := receiptsConflictsRow.holds Tryd.pinned (OpenSpec.ofChange receiptsConflictsSpec)

/-- ITS FALSE NEIGHBOUR: 'it returns false'. Refute it at one input. -/
def receiptsConflictsWrong : ChangeSpec := { name := "receiptsConflicts", fn := fun _ => fun
  | [d1, d2, d3, d4, d5] => { results := [.lit (.bool false)], args := [d1, d2, d3, d4, d5] }
  | _ => none }
def ReceiptsConflictsWrongFalsely : Prop := receiptsConflictsRow.holds Tryd.pinned (OpenSpec.ofChange receiptsConflictsWrong)

/- THE SECOND FORM. 'bulk': how many values and letters a reading holds, each counted each time it is reached (what is shared counts as often as it is met; a slice's spare places count too). A statement '..UptoSaid' is the law's where the arguments, and the package variables that the reading takes, are together of bulk at most 1048576: NARROWER than '..Said'. Prove '..Said' where nothing that the law and all that it calls make is longer than what came in: it says more and counts as full. Else prove '..UptoSaid'. A law counts once. -/
mutual
def uptoBulk {H : Type} : DataW H → Nat
  | .lit (.string bytes) => bytes.length + 1
  | .lit _ => 1
  | .nil => 1
  | .ptr d => uptoBulk d + 1
  | .slice elems spare => uptoBulkAll elems + uptoBulkAll spare + 1
  | .agg parts => uptoBulkAll parts + 1
  | .iface _ d => uptoBulk d + 1
  | .map entries => uptoBulkEntries entries + 1
  | .held _ => 1
def uptoBulkAll {H : Type} : List (DataW H) → Nat
  | [] => 0
  | d :: r => uptoBulk d + uptoBulkAll r
def uptoBulkEntries {H : Type} : List (Lit × DataW H) → Nat
  | [] => 0
  | x :: r => uptoBulkEntry x + uptoBulkEntries r
def uptoBulkEntry {H : Type} : Lit × DataW H → Nat
  | (.string bytes, d) => bytes.length + uptoBulk d + 1
  | (_, d) => uptoBulk d + 1
 end
def uptoSmall : (H : Type) → List (DataW H) → Bool := fun _ ds => decide (uptoBulkAll ds ≤ 1048576)
def OpenSpec.upto (s : _root_.Go.ChangeSpec) : _root_.Go.OpenSpec := { _root_.Go.OpenSpec.ofChange s with cond := some uptoSmall }

/-- 'gridwrightlaw51.ReceiptsSpec', WHERE WHAT IT READS IS OF BULK AT MOST 1048576: true; the input reads as it did. -/
def receiptsSpecUptoRow : OpenClaim := { program := "ytnbbleajbbgmjaadoor", sum := "60da1efebc392a5c5a1d71e634012dbbfd7435a079fcc2d3b2f4e4ba30980892", func := "gridwright/gridwrightlaw51.ReceiptsSpec", spec := "receiptsSpec", unfollowed := true, recurses := true, named := ["gridwright/digest.start", "gridwright/digest.numbers"], apart := false, laid := [("gridwright/digest.start", laid_gridwright_digest_start), ("gridwright/digest.numbers", laid_gridwright_digest_numbers)], narrowed := true }
def ReceiptsSpecUptoSaid : Prop := receiptsSpecUptoRow.holds Tryd.pinned (OpenSpec.upto receiptsSpecSpec)

/-- 'gridwrightlaw51.ReceiptsWhenSpec', WHERE WHAT IT READS IS OF BULK AT MOST 1048576: true; the input reads as it did. -/
def receiptsWhenSpecUptoRow : OpenClaim := { program := "ytnbbleajbbgmjaadoor", sum := "60da1efebc392a5c5a1d71e634012dbbfd7435a079fcc2d3b2f4e4ba30980892", func := "gridwright/gridwrightlaw51.ReceiptsWhenSpec", spec := "receiptsWhenSpec", unfollowed := true, recurses := true, named := ["gridwright/digest.start", "gridwright/digest.numbers"], apart := false, laid := [("gridwright/digest.start", laid_gridwright_digest_start), ("gridwright/digest.numbers", laid_gridwright_digest_numbers)], narrowed := true }
def ReceiptsWhenSpecUptoSaid : Prop := receiptsWhenSpecUptoRow.holds Tryd.pinned (OpenSpec.upto receiptsWhenSpecSpec)

/-- 'gridwrightlaw51.ReceiptsFewer', WHERE WHAT IT READS IS OF BULK AT MOST 1048576: true; the input reads as it did. -/
def receiptsFewerUptoRow : OpenClaim := { program := "ytnbbleajbbgmjaadoor", sum := "60da1efebc392a5c5a1d71e634012dbbfd7435a079fcc2d3b2f4e4ba30980892", func := "gridwright/gridwrightlaw51.ReceiptsFewer", spec := "receiptsFewer", unfollowed := true, recurses := true, named := ["gridwright/digest.start", "gridwright/digest.numbers"], apart := false, laid := [("gridwright/digest.start", laid_gridwright_digest_start), ("gridwright/digest.numbers", laid_gridwright_digest_numbers)], narrowed := true }
def ReceiptsFewerUptoSaid : Prop := receiptsFewerUptoRow.holds Tryd.pinned (OpenSpec.upto receiptsFewerSpec)

/-- 'gridwrightlaw51.ReceiptsExact', WHERE WHAT IT READS IS OF BULK AT MOST 1048576: true; the input reads as it did. -/
def receiptsExactUptoRow : OpenClaim := { program := "ytnbbleajbbgmjaadoor", sum := "60da1efebc392a5c5a1d71e634012dbbfd7435a079fcc2d3b2f4e4ba30980892", func := "gridwright/gridwrightlaw51.ReceiptsExact", spec := "receiptsExact", unfollowed := true, recurses := true, named := ["gridwright/digest.start", "gridwright/digest.numbers"], apart := false, laid := [("gridwright/digest.start", laid_gridwright_digest_start), ("gridwright/digest.numbers", laid_gridwright_digest_numbers)], narrowed := true }
def ReceiptsExactUptoSaid : Prop := receiptsExactUptoRow.holds Tryd.pinned (OpenSpec.upto receiptsExactSpec)

/-- 'gridwrightlaw51.ReceiptsBefore', WHERE WHAT IT READS IS OF BULK AT MOST 1048576: true; the input reads as it did. -/
def receiptsBeforeUptoRow : OpenClaim := { program := "ytnbbleajbbgmjaadoor", sum := "60da1efebc392a5c5a1d71e634012dbbfd7435a079fcc2d3b2f4e4ba30980892", func := "gridwright/gridwrightlaw51.ReceiptsBefore", spec := "receiptsBefore", unfollowed := true, recurses := true, named := ["gridwright/digest.start", "gridwright/digest.numbers"], apart := false, laid := [("gridwright/digest.start", laid_gridwright_digest_start), ("gridwright/digest.numbers", laid_gridwright_digest_numbers)], narrowed := true }
def ReceiptsBeforeUptoSaid : Prop := receiptsBeforeUptoRow.holds Tryd.pinned (OpenSpec.upto receiptsBeforeSpec)

/-- 'gridwrightlaw51.ReceiptsTrue', WHERE WHAT IT READS IS OF BULK AT MOST 1048576: true; the input reads as it did. -/
def receiptsTrueUptoRow : OpenClaim := { program := "ytnbbleajbbgmjaadoor", sum := "60da1efebc392a5c5a1d71e634012dbbfd7435a079fcc2d3b2f4e4ba30980892", func := "gridwright/gridwrightlaw51.ReceiptsTrue", spec := "receiptsTrue", unfollowed := true, recurses := true, named := ["gridwright/digest.start", "gridwright/digest.numbers"], apart := false, laid := [("gridwright/digest.start", laid_gridwright_digest_start), ("gridwright/digest.numbers", laid_gridwright_digest_numbers)], narrowed := true }
def ReceiptsTrueUptoSaid : Prop := receiptsTrueUptoRow.holds Tryd.pinned (OpenSpec.upto receiptsTrueSpec)

/-- 'gridwrightlaw51.ReceiptsConflicts', WHERE WHAT IT READS IS OF BULK AT MOST 1048576: true; the input reads as it did. -/
def receiptsConflictsUptoRow : OpenClaim := { program := "ytnbbleajbbgmjaadoor", sum := "60da1efebc392a5c5a1d71e634012dbbfd7435a079fcc2d3b2f4e4ba30980892", func := "gridwright/gridwrightlaw51.ReceiptsConflicts", spec := "receiptsConflicts", unfollowed := true, recurses := true, named := ["gridwright/digest.start", "gridwright/digest.numbers"], apart := false, laid := [("gridwright/digest.start", laid_gridwright_digest_start), ("gridwright/digest.numbers", laid_gridwright_digest_numbers)], narrowed := true }
def ReceiptsConflictsUptoSaid : Prop := receiptsConflictsUptoRow.holds Tryd.pinned (OpenSpec.upto receiptsConflictsSpec)

end Rows
end Go.Proofs.YtnbbleajbbgmjaaDoor
