/-
  NARROWER THAN 'FOR EVERY INPUT', by the rows' own cells (each row's printed sentence says how): SealsOpened: laid · SealsReturned: laid · SealsSealSpec: laid · SealsOpenSpec: laid · SealsTwinSpec: laid · SealsHide: laid · SealsMarks: laid.
  DERIVED. THE GIVEN ROWS OF THIS SEAT. 7 by the template 'for every input the law returns true; each argument reads behind the call as it read before'; 0 by the template 'total and deterministic' (their statements: YtideglpjgplpnaaDoorTotals.lean).
  GIVEN WITH THE SEED: the statements are not yours to turn. If you find one false, say at which input.
  Laid BY PROGRAM, IN A SANDBOX (cutbox-rows.mjs): the forced cells as the released guide's own fill.sh prints them over the translation 239f825064acda2d… (all of the seat's roots in one cut). By AI agents, Wed Nov 11 2026. No macro, syntax, notation, axiom, sorry.
-/
import Derived.Test.YtideglpjgplpnaaDoorChecked
import GoSem.Claim
import GoSem.ClaimJoined
import GoSem.ClaimMapViews
import Derived.JoinedTies
import Derived.KernelRfl
namespace Go.Proofs.YtideglpjgplpnaaDoor
/- THE CELL 'sum', in the pinned program and in every row, IS THE sha256 OF THE DUMP (.gsa) THAT YtideglpjgplpnaaDoorProg.lean LOADS. Nothing in Lean hashes anything: it is a label: what it is worth is what the hold of that sum in a sandbox is worth. -/
noncomputable def Tryd.pinned : Pinned := { name := "ytideglpjgplpnaadoor", sum := "239f825064acda2d24bc7232cc381615a9c53373de6090937a352751e9096b0c", checked := Tryd.checked }
namespace Rows
def none {H : Type} : Left H := { results := [], args := [] }

/- WHAT THE LISTED PACKAGE-LEVEL VARIABLES READ AS WHEN THE CALL BEGINS. Each datum BY PROGRAM (the guide's laid-datum.mjs) off the statement by which the dump's own 'gosem.cut.vars' lays the variable. In a bare row this is a premise. The card (YtideglpjgplpnaaDoorCards.lean) ties it to the program's text. -/
def laid_gridwright_digest_start {H : Type} : DataW H := .agg [.lit (.int .u32 1779033703), .lit (.int .u32 3144134277), .lit (.int .u32 1013904242), .lit (.int .u32 2773480762), .lit (.int .u32 1359893119), .lit (.int .u32 2600822924), .lit (.int .u32 528734635), .lit (.int .u32 1541459225)]
def laid_gridwright_digest_numbers {H : Type} : DataW H := .agg [.lit (.int .u32 1116352408), .lit (.int .u32 1899447441), .lit (.int .u32 3049323471), .lit (.int .u32 3921009573), .lit (.int .u32 961987163), .lit (.int .u32 1508970993), .lit (.int .u32 2453635748), .lit (.int .u32 2870763221), .lit (.int .u32 3624381080), .lit (.int .u32 310598401), .lit (.int .u32 607225278), .lit (.int .u32 1426881987), .lit (.int .u32 1925078388), .lit (.int .u32 2162078206), .lit (.int .u32 2614888103), .lit (.int .u32 3248222580), .lit (.int .u32 3835390401), .lit (.int .u32 4022224774), .lit (.int .u32 264347078), .lit (.int .u32 604807628), .lit (.int .u32 770255983), .lit (.int .u32 1249150122), .lit (.int .u32 1555081692), .lit (.int .u32 1996064986), .lit (.int .u32 2554220882), .lit (.int .u32 2821834349), .lit (.int .u32 2952996808), .lit (.int .u32 3210313671), .lit (.int .u32 3336571891), .lit (.int .u32 3584528711), .lit (.int .u32 113926993), .lit (.int .u32 338241895), .lit (.int .u32 666307205), .lit (.int .u32 773529912), .lit (.int .u32 1294757372), .lit (.int .u32 1396182291), .lit (.int .u32 1695183700), .lit (.int .u32 1986661051), .lit (.int .u32 2177026350), .lit (.int .u32 2456956037), .lit (.int .u32 2730485921), .lit (.int .u32 2820302411), .lit (.int .u32 3259730800), .lit (.int .u32 3345764771), .lit (.int .u32 3516065817), .lit (.int .u32 3600352804), .lit (.int .u32 4094571909), .lit (.int .u32 275423344), .lit (.int .u32 430227734), .lit (.int .u32 506948616), .lit (.int .u32 659060556), .lit (.int .u32 883997877), .lit (.int .u32 958139571), .lit (.int .u32 1322822218), .lit (.int .u32 1537002063), .lit (.int .u32 1747873779), .lit (.int .u32 1955562222), .lit (.int .u32 2024104815), .lit (.int .u32 2227730452), .lit (.int .u32 2361852424), .lit (.int .u32 2428436474), .lit (.int .u32 2756734187), .lit (.int .u32 3204031479), .lit (.int .u32 3329325298)]

/-- 'gridwrightlaw50.SealsOpened': WHATEVER THE INPUT: true; the input reads as it did. -/
def sealsOpenedSpec : ChangeSpec := { name := "sealsOpened", fn := fun _ => fun
  | [d1, d2] => { results := [.lit (.bool true)], args := [d1, d2] }
  | _ => none }
def sealsOpenedRow : OpenClaim := { program := "ytideglpjgplpnaadoor", sum := "239f825064acda2d24bc7232cc381615a9c53373de6090937a352751e9096b0c", func := "gridwright/gridwrightlaw50.SealsOpened", spec := "sealsOpened", unfollowed := true, recurses := true, named := ["gridwright/digest.start", "gridwright/digest.numbers"], apart := false, laid := [("gridwright/digest.start", laid_gridwright_digest_start), ("gridwright/digest.numbers", laid_gridwright_digest_numbers)] }
def SealsOpenedSaid : Prop := sealsOpenedRow.holds Tryd.pinned (OpenSpec.ofChange sealsOpenedSpec)

/-- ITS FALSE NEIGHBOUR: 'it returns false'. Refute it at one input. -/
def sealsOpenedWrong : ChangeSpec := { name := "sealsOpened", fn := fun _ => fun
  | [d1, d2] => { results := [.lit (.bool false)], args := [d1, d2] }
  | _ => none }
def SealsOpenedWrongFalsely : Prop := sealsOpenedRow.holds Tryd.pinned (OpenSpec.ofChange sealsOpenedWrong)

/-- 'gridwrightlaw50.SealsReturned': WHATEVER THE INPUT: true; the input reads as it did. -/
def sealsReturnedSpec : ChangeSpec := { name := "sealsReturned", fn := fun _ => fun
  | [d1, d2, d3, d4, d5, d6, d7, d8, d9] => { results := [.lit (.bool true)], args := [d1, d2, d3, d4, d5, d6, d7, d8, d9] }
  | _ => none }
def sealsReturnedRow : OpenClaim := { program := "ytideglpjgplpnaadoor", sum := "239f825064acda2d24bc7232cc381615a9c53373de6090937a352751e9096b0c", func := "gridwright/gridwrightlaw50.SealsReturned", spec := "sealsReturned", unfollowed := true, recurses := true, named := ["gridwright/digest.start", "gridwright/digest.numbers"], apart := false, laid := [("gridwright/digest.start", laid_gridwright_digest_start), ("gridwright/digest.numbers", laid_gridwright_digest_numbers)] }
def SealsReturnedSaid : Prop := sealsReturnedRow.holds Tryd.pinned (OpenSpec.ofChange sealsReturnedSpec)

/-- ITS FALSE NEIGHBOUR: 'it returns false'. Refute it at one input. -/
def sealsReturnedWrong : ChangeSpec := { name := "sealsReturned", fn := fun _ => fun
  | [d1, d2, d3, d4, d5, d6, d7, d8, d9] => { results := [.lit (.bool false)], args := [d1, d2, d3, d4, d5, d6, d7, d8, d9] }
  | _ => none }
def SealsReturnedWrongFalsely : Prop := sealsReturnedRow.holds Tryd.pinned (OpenSpec.ofChange sealsReturnedWrong)

/-- 'gridwrightlaw50.SealsSealSpec': WHATEVER THE INPUT: true; the input reads as it did. -/
def sealsSealSpecSpec : ChangeSpec := { name := "sealsSealSpec", fn := fun _ => fun
  | [d1, d2, d3, d4, d5, d6] => { results := [.lit (.bool true)], args := [d1, d2, d3, d4, d5, d6] }
  | _ => none }
def sealsSealSpecRow : OpenClaim := { program := "ytideglpjgplpnaadoor", sum := "239f825064acda2d24bc7232cc381615a9c53373de6090937a352751e9096b0c", func := "gridwright/gridwrightlaw50.SealsSealSpec", spec := "sealsSealSpec", unfollowed := true, recurses := true, named := ["gridwright/digest.start", "gridwright/digest.numbers"], apart := false, laid := [("gridwright/digest.start", laid_gridwright_digest_start), ("gridwright/digest.numbers", laid_gridwright_digest_numbers)] }
def SealsSealSpecSaid : Prop := sealsSealSpecRow.holds Tryd.pinned (OpenSpec.ofChange sealsSealSpecSpec)

/-- ITS FALSE NEIGHBOUR: 'it returns false'. Refute it at one input. -/
def sealsSealSpecWrong : ChangeSpec := { name := "sealsSealSpec", fn := fun _ => fun
  | [d1, d2, d3, d4, d5, d6] => { results := [.lit (.bool false)], args := [d1, d2, d3, d4, d5, d6] }
  | _ => none }
def SealsSealSpecWrongFalsely : Prop := sealsSealSpecRow.holds Tryd.pinned (OpenSpec.ofChange sealsSealSpecWrong)

/-- 'gridwrightlaw50.SealsOpenSpec': WHATEVER THE INPUT: true; the input reads as it did. -/
def sealsOpenSpecSpec : ChangeSpec := { name := "sealsOpenSpec", fn := fun _ => fun
  | [d1, d2] => { results := [.lit (.bool true)], args := [d1, d2] }
  | _ => none }
def sealsOpenSpecRow : OpenClaim := { program := "ytideglpjgplpnaadoor", sum := "239f825064acda2d24bc7232cc381615a9c53373de6090937a352751e9096b0c", func := "gridwright/gridwrightlaw50.SealsOpenSpec", spec := "sealsOpenSpec", unfollowed := true, recurses := true, named := ["gridwright/digest.start", "gridwright/digest.numbers"], apart := false, laid := [("gridwright/digest.start", laid_gridwright_digest_start), ("gridwright/digest.numbers", laid_gridwright_digest_numbers)] }
def SealsOpenSpecSaid : Prop := sealsOpenSpecRow.holds Tryd.pinned (OpenSpec.ofChange sealsOpenSpecSpec)

/-- ITS FALSE NEIGHBOUR: 'it returns false'. Refute it at one input. -/
def sealsOpenSpecWrong : ChangeSpec := { name := "sealsOpenSpec", fn := fun _ => fun
  | [d1, d2] => { results := [.lit (.bool false)], args := [d1, d2] }
  | _ => none }
def SealsOpenSpecWrongFalsely : Prop := sealsOpenSpecRow.holds Tryd.pinned (OpenSpec.ofChange sealsOpenSpecWrong)

/-- 'gridwrightlaw50.SealsTwinSpec': WHATEVER THE INPUT: true; the input reads as it did. -/
def sealsTwinSpecSpec : ChangeSpec := { name := "sealsTwinSpec", fn := fun _ => fun
  | [d1, d2, d3] => { results := [.lit (.bool true)], args := [d1, d2, d3] }
  | _ => none }
def sealsTwinSpecRow : OpenClaim := { program := "ytideglpjgplpnaadoor", sum := "239f825064acda2d24bc7232cc381615a9c53373de6090937a352751e9096b0c", func := "gridwright/gridwrightlaw50.SealsTwinSpec", spec := "sealsTwinSpec", unfollowed := true, recurses := true, named := ["gridwright/digest.start", "gridwright/digest.numbers"], apart := false, laid := [("gridwright/digest.start", laid_gridwright_digest_start), ("gridwright/digest.numbers", laid_gridwright_digest_numbers)] }
def SealsTwinSpecSaid : Prop := sealsTwinSpecRow.holds Tryd.pinned (OpenSpec.ofChange sealsTwinSpecSpec)

/-- ITS FALSE NEIGHBOUR: 'it returns false'. Refute it at one input. -/
def sealsTwinSpecWrong : ChangeSpec := { name := "sealsTwinSpec", fn := fun _ => fun
  | [d1, d2, d3] => { results := [.lit (.bool false)], args := [d1, d2, d3] }
  | _ => none }
def SealsTwinSpecWrongFalsely : Prop := sealsTwinSpecRow.holds Tryd.pinned (OpenSpec.ofChange sealsTwinSpecWrong)

/-- 'gridwrightlaw50.SealsHide': WHATEVER THE INPUT: true; the input reads as it did. -/
def sealsHideSpec : ChangeSpec := { name := "sealsHide", fn := fun _ => fun
  | [d1, d2, d3, d4, d5, d6, d7] => { results := [.lit (.bool true)], args := [d1, d2, d3, d4, d5, d6, d7] }
  | _ => none }
def sealsHideRow : OpenClaim := { program := "ytideglpjgplpnaadoor", sum := "239f825064acda2d24bc7232cc381615a9c53373de6090937a352751e9096b0c", func := "gridwright/gridwrightlaw50.SealsHide", spec := "sealsHide", unfollowed := true, recurses := true, named := ["gridwright/digest.start", "gridwright/digest.numbers"], apart := false, laid := [("gridwright/digest.start", laid_gridwright_digest_start), ("gridwright/digest.numbers", laid_gridwright_digest_numbers)] }
def SealsHideSaid : Prop := sealsHideRow.holds Tryd.pinned (OpenSpec.ofChange sealsHideSpec)

/-- ITS FALSE NEIGHBOUR: 'it returns false'. Refute it at one input. -/
def sealsHideWrong : ChangeSpec := { name := "sealsHide", fn := fun _ => fun
  | [d1, d2, d3, d4, d5, d6, d7] => { results := [.lit (.bool false)], args := [d1, d2, d3, d4, d5, d6, d7] }
  | _ => none }
def SealsHideWrongFalsely : Prop := sealsHideRow.holds Tryd.pinned (OpenSpec.ofChange sealsHideWrong)

/-- 'gridwrightlaw50.SealsMarks': WHATEVER THE INPUT: true; the input reads as it did. -/
def sealsMarksSpec : ChangeSpec := { name := "sealsMarks", fn := fun _ => fun
  | [d1, d2] => { results := [.lit (.bool true)], args := [d1, d2] }
  | _ => none }
def sealsMarksRow : OpenClaim := { program := "ytideglpjgplpnaadoor", sum := "239f825064acda2d24bc7232cc381615a9c53373de6090937a352751e9096b0c", func := "gridwright/gridwrightlaw50.SealsMarks", spec := "sealsMarks", unfollowed := true, recurses := true, named := ["gridwright/digest.start", "gridwright/digest.numbers"], apart := false, laid := [("gridwright/digest.start", laid_gridwright_digest_start), ("gridwright/digest.numbers", laid_gridwright_digest_numbers)] }
def SealsMarksSaid : Prop := sealsMarksRow.holds Tryd.pinned (OpenSpec.ofChange sealsMarksSpec)

/-- ITS FALSE NEIGHBOUR: 'it returns false'. Refute it at one input. -/
def sealsMarksWrong : ChangeSpec := { name := "sealsMarks", fn := fun _ => fun
  | [d1, d2] => { results := [.lit (.bool false)], args := [d1, d2] }
  | _ => none }
def SealsMarksWrongFalsely : Prop := sealsMarksRow.holds Tryd.pinned (OpenSpec.ofChange sealsMarksWrong)

/- THE SECOND FORM. 'bulk': how many values and letters a reading holds, each counted each time it is reached (what is shared counts as often as it is met; a slice's spare places count too). A statement '..UptoSaid' is the law's where the arguments, and the package variables that the reading takes, are together of bulk at most 1048576: NARROWER than '..Said'. Prove '..Said' where nothing that the law and all that it calls make is longer than what came in: it says more and counts as full. Else prove '..UptoSaid'. A law counts once. -/
mutual
def uptoBulk {H : Type} : DataW H → Nat
  | .lit (.string bytes) => bytes.length + 1
  | .lit _ => 1
  | .nil => 1
  | .ptr d => uptoBulk d + 1
  | .slice elems spare => uptoBulkAll elems + uptoBulkAll spare + 1
  | .agg parts => uptoBulkAll parts + 1
  | .iface _ d => uptoBulk d + 1
  | .map entries => uptoBulkEntries entries + 1
  | .held _ => 1
def uptoBulkAll {H : Type} : List (DataW H) → Nat
  | [] => 0
  | d :: r => uptoBulk d + uptoBulkAll r
def uptoBulkEntries {H : Type} : List (Lit × DataW H) → Nat
  | [] => 0
  | x :: r => uptoBulkEntry x + uptoBulkEntries r
def uptoBulkEntry {H : Type} : Lit × DataW H → Nat
  | (.string bytes, d) => bytes.length + uptoBulk d + 1
  | (_, d) => uptoBulk d + 1
 end
def uptoSmall : (H : Type) → List (DataW H) → Bool := fun _ ds => decide (uptoBulkAll ds ≤ 1048576)
def OpenSpec.upto (s : _root_.Go.ChangeSpec) : _root_.Go.OpenSpec := { _root_.Go.OpenSpec.ofChange s with cond := some uptoSmall }

/-- 'gridwrightlaw50.SealsOpened', WHERE WHAT IT READS IS OF BULK AT MOST 1048576: true; the input reads as it did. -/
def sealsOpenedUptoRow : OpenClaim := { program := "ytideglpjgplpnaadoor", sum := "239f825064acda2d24bc7232cc381615a9c53373de6090937a352751e9096b0c", func := "gridwright/gridwrightlaw50.SealsOpened", spec := "sealsOpened", unfollowed := true, recurses := true, named := ["gridwright/digest.start", "gridwright/digest.numbers"], apart := false, laid := [("gridwright/digest.start", laid_gridwright_digest_start), ("gridwright/digest.numbers", laid_gridwright_digest_numbers)], narrowed := true }
def SealsOpenedUptoSaid : Prop := sealsOpenedUptoRow.holds Tryd.pinned (OpenSpec.upto sealsOpenedSpec)

/-- 'gridwrightlaw50.SealsReturned', WHERE WHAT IT READS IS OF BULK AT MOST 1048576: true; the input reads as it did. -/
def sealsReturnedUptoRow : OpenClaim := { program := "ytideglpjgplpnaadoor", sum := "239f825064acda2d24bc7232cc381615a9c53373de6090937a352751e9096b0c", func := "gridwright/gridwrightlaw50.SealsReturned", spec := "sealsReturned", unfollowed := true, recurses := true, named := ["gridwright/digest.start", "gridwright/digest.numbers"], apart := false, laid := [("gridwright/digest.start", laid_gridwright_digest_start), ("gridwright/digest.numbers", laid_gridwright_digest_numbers)], narrowed := true }
def SealsReturnedUptoSaid : Prop := sealsReturnedUptoRow.holds Tryd.pinned (OpenSpec.upto sealsReturnedSpec)

/-- 'gridwrightlaw50.SealsSealSpec', WHERE WHAT IT READS IS OF BULK AT MOST 1048576: true; the input reads as it did. -/
def sealsSealSpecUptoRow : OpenClaim := { program := "ytideglpjgplpnaadoor", sum := "239f825064acda2d24bc7232cc381615a9c53373de6090937a352751e9096b0c", func := "gridwright/gridwrightlaw50.SealsSealSpec", spec := "sealsSealSpec", unfollowed := true, recurses := true, named := ["gridwright/digest.start", "gridwright/digest.numbers"], apart := false, laid := [("gridwright/digest.start", laid_gridwright_digest_start), ("gridwright/digest.numbers", laid_gridwright_digest_numbers)], narrowed := true }
def SealsSealSpecUptoSaid : Prop := sealsSealSpecUptoRow.holds Tryd.pinned (OpenSpec.upto sealsSealSpecSpec)

/-- 'gridwrightlaw50.SealsOpenSpec', WHERE WHAT IT READS IS OF BULK AT MOST 1048576: true; the input reads as it did. -/
def sealsOpenSpecUptoRow : OpenClaim := { program := "ytideglpjgplpnaadoor", sum := "239f825064acda2d24bc7232cc381615a9c53373de6090937a352751e9096b0c", func := "gridwright/gridwrightlaw50.SealsOpenSpec", spec := "sealsOpenSpec", unfollowed := true, recurses := true, named := ["gridwright/digest.start", "gridwright/digest.numbers"], apart := false, laid := [("gridwright/digest.start", laid_gridwright_digest_start), ("gridwright/digest.numbers", laid_gridwright_digest_numbers)], narrowed := true }
def SealsOpenSpecUptoSaid : Prop := sealsOpenSpecUptoRow.holds Tryd.pinned (OpenSpec.upto sealsOpenSpecSpec)

/-- 'gridwrightlaw50.SealsTwinSpec', WHERE WHAT IT READS IS OF BULK AT MOST 1048576: true; the input reads as it did. -/
def sealsTwinSpecUptoRow : OpenClaim := { program := "ytideglpjgplpnaadoor", sum := "239f825064acda2d24bc7232cc381615a9c53373de6090937a352751e9096b0c", func := "gridwright/gridwrightlaw50.SealsTwinSpec", spec := "sealsTwinSpec", unfollowed := true, recurses := true, named := ["gridwright/digest.start", "gridwright/digest.numbers"], apart := false, laid := [("gridwright/digest.start", laid_gridwright_digest_start), ("gridwright/digest.numbers", laid_gridwright_digest_numbers)], narrowed := true }
def SealsTwinSpecUptoSaid : Prop := sealsTwinSpecUptoRow.holds Tryd.pinned (OpenSpec.upto sealsTwinSpecSpec)

/-- 'gridwrightlaw50.SealsHide', WHERE WHAT IT READS IS OF BULK AT MOST 1048576: true; the input reads as it did. -/
def sealsHideUptoRow : OpenClaim := { program := "ytideglpjgplpnaadoor", sum := "239f825064acda2d24bc7232cc381615a9c53373de6090937a352751e9096b0c", func := "gridwright/gridwrightlaw50.SealsHide", spec := "sealsHide", unfollowed := true, recurses := true, named := ["gridwright/digest.start", "gridwright/digest.numbers"], apart := false, laid := [("gridwright/digest.start", laid_gridwright_digest_start), ("gridwright/digest.numbers", laid_gridwright_digest_numbers)], narrowed := true }
def SealsHideUptoSaid : Prop := sealsHideUptoRow.holds Tryd.pinned (OpenSpec.upto sealsHideSpec)

/-- 'gridwrightlaw50.SealsMarks', WHERE WHAT IT READS IS OF BULK AT MOST 1048576: true; the input reads as it did. -/
def sealsMarksUptoRow : OpenClaim := { program := "ytideglpjgplpnaadoor", sum := "239f825064acda2d24bc7232cc381615a9c53373de6090937a352751e9096b0c", func := "gridwright/gridwrightlaw50.SealsMarks", spec := "sealsMarks", unfollowed := true, recurses := true, named := ["gridwright/digest.start", "gridwright/digest.numbers"], apart := false, laid := [("gridwright/digest.start", laid_gridwright_digest_start), ("gridwright/digest.numbers", laid_gridwright_digest_numbers)], narrowed := true }
def SealsMarksUptoSaid : Prop := sealsMarksUptoRow.holds Tryd.pinned (OpenSpec.upto sealsMarksSpec)

end Rows
end Go.Proofs.YtideglpjgplpnaaDoor
