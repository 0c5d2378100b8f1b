import Derived.Lib.LaidTab
import Derived.LaidMore
import Derived.LaidSub
import Derived.Stop.LaidErr
import Derived.Test.YtnbbleajbbgmjaaDoorMDgW5
import Derived.Test.YtnbbleajbbgmjaaDoorMFrame
/- What a row's condition gives the walks: the two package variables hold the first state and the numbers. -/
namespace Go.Proofs.YtnbbleajbbgmjaaDoor
open Go.RowKit
set_option linter.unusedVariables false

/-- the numbers and the first state -/
def Rc.K0 : List UInt32 := [1116352408, 1899447441, 3049323471, 3921009573, 961987163, 1508970993, 2453635748, 2870763221, 3624381080, 310598401, 607225278, 1426881987, 1925078388, 2162078206, 2614888103, 3248222580, 3835390401, 4022224774, 264347078, 604807628, 770255983, 1249150122, 1555081692, 1996064986, 2554220882, 2821834349, 2952996808, 3210313671, 3336571891, 3584528711, 113926993, 338241895, 666307205, 773529912, 1294757372, 1396182291, 1695183700, 1986661051, 2177026350, 2456956037, 2730485921, 2820302411, 3259730800, 3345764771, 3516065817, 3600352804, 4094571909, 275423344, 430227734, 506948616, 659060556, 883997877, 958139571, 1322822218, 1537002063, 1747873779, 1955562222, 2024104815, 2227730452, 2361852424, 2428436474, 2756734187, 3204031479, 3329325298]
def Rc.I0 : Dg.S := ⟨1779033703, 3144134277, 1013904242, 2773480762, 1359893119, 2600822924, 528734635, 1541459225⟩
def Rc.zK : List Int := [1116352408, 1899447441, 3049323471, 3921009573, 961987163, 1508970993, 2453635748, 2870763221, 3624381080, 310598401, 607225278, 1426881987, 1925078388, 2162078206, 2614888103, 3248222580, 3835390401, 4022224774, 264347078, 604807628, 770255983, 1249150122, 1555081692, 1996064986, 2554220882, 2821834349, 2952996808, 3210313671, 3336571891, 3584528711, 113926993, 338241895, 666307205, 773529912, 1294757372, 1396182291, 1695183700, 1986661051, 2177026350, 2456956037, 2730485921, 2820302411, 3259730800, 3345764771, 3516065817, 3600352804, 4094571909, 275423344, 430227734, 506948616, 659060556, 883997877, 958139571, 1322822218, 1537002063, 1747873779, 1955562222, 2024104815, 2227730452, 2361852424, 2428436474, 2756734187, 3204031479, 3329325298]
def Rc.zI : List Int := [1779033703, 3144134277, 1013904242, 2773480762, 1359893119, 2600822924, 528734635, 1541459225]
/-- what the rows list -/
abbrev Rc.laidL : List (String × DataW Unit) := Rows.receiptsBeforeRow.laid
def Rc.n0 : String := Rows.receiptsBeforeRow.named.getD 0 ""
def Rc.n1 : String := Rows.receiptsBeforeRow.named.getD 1 ""
theorem Rc.of_laid {W : World} (h : laidMetH Tryd.prog Rc.laidL W) : Dg.G W Rc.K0 Rc.I0 := by
  rw [MakeChecks.laidMetH_plain _ _ _ (by kernel_rfl)] at h
  have h0 : laidMet Tryd.prog ((Rc.n0, Lib.tabData .u32 Rc.zI) :: [(Rc.n1, Lib.tabData .u32 Rc.zK)]) W := h
  have hg0 : Tryd.prog.globalNamed Rc.n0 = some 0 := by kernel_rfl
  have hg1 : Tryd.prog.globalNamed Rc.n1 = some 1 := by kernel_rfl
  have T0 := Lib.tabIs_of_head (t := 114) (e := 113) (n := 8) hg0 (by kernel_rfl) (by kernel_rfl) (by kernel_rfl) (by kernel_rfl) (by kernel_rfl) h0
  have T1 := Lib.tabIs_of_head (t := 127) (e := 113) (n := 64) hg1 (by kernel_rfl) (by kernel_rfl) (by kernel_rfl) (by kernel_rfl) (by kernel_rfl) (laidMet.tail h0)
  have c0 := T0.cell hg0 0 (by decide)
  have c1 := T1.cell hg1 0 (by decide)
  refine ⟨fun j u hu => ?_, fun t ht => ?_, World.block_lt_of_cell? _ _ c0, World.block_lt_of_cell? _ _ c1⟩
  · have e : Dg.sc Rc.I0 = Rc.zI.map (Value.int .u32) := by rfl
    rw [e, List.getElem?_map, Option.map_eq_some_iff] at hu
    obtain ⟨z, hz, rfl⟩ := hu
    have hj := (List.getElem?_eq_some_iff.1 hz).1
    rw [T0.cell hg0 j hj, List.getD_eq_getElem?_getD, hz]
    rfl
  · have e : ∀ t, t < 64 → Rc.zK.getD t 0 = ((Rc.K0[t]!).toNat : Int) := by decide
    rw [T1.cell hg1 t ht, e t ht]
/-- The door's own heap meets the condition. -/
theorem Rc.door_met (os : Os) (args : Array Value) : laidMetH Tryd.prog Rc.laidL ((World.doorLaid Tryd.prog 400 os).forCall (fun _ _ => 0) ⟨#[], args, []⟩).memory :=
  laidMetH_of_parts3 (fuel := 8) (laidMet_of_run' 8 (by kernel_rfl) (by kernel_rfl)) (by kernel_rfl) (by kernel_rfl)
end Go.Proofs.YtnbbleajbbgmjaaDoor
