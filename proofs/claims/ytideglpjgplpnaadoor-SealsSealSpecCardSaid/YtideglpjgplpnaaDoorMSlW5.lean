import Derived.RangeFuncNested
import Derived.RangeFuncBound
import Derived.RangeFuncCalls
import Derived.RangeFuncLeaves
import Derived.Shelf.Abstract
import Derived.Shelf.RegionOpen
import Derived.OwnWalkIn
import Derived.TacticsInMore
import Derived.LoopNIn
import Derived.LoopIn
import Derived.Laws.StructEq
import Derived.Test.YtideglpjgplpnaaDoorMSlW2
import Derived.Test.YtideglpjgplpnaaDoorMSlT
/- The iterator seals.wrong$1: the places of the shares that are altered. -/
namespace Go.Proofs.YtideglpjgplpnaaDoor
open Go.RowKit Go.Shelf
attribute [local go_sem] Oper.semAt_some
set_option linter.unusedVariables false

/-- its numbers are numbers of 64 bits -/
def Sl.rg (x : Shr.S) : Prop := Rc.in64 x.ep ∧ Rc.in64 x.ix ∧ Rc.in64 x.th ∧ Rc.in64 x.mn
def Sl.enc (i : Nat) : Array Value := #[.int .i64 (i : Int)]
/-- what a round of the caller's keeps: all that lay ahead of the caller, and the two boxes -/
def Sl.Kp (n0 ge gn : Nat) (A B : World) : Prop := Below n0 A B ∧ B.heap[ge]? = A.heap[ge]? ∧ B.heap[gn]? = A.heap[gn]?
theorem Sl.Kp.trans {n0 ge gn : Nat} {A B C : World} (h : Sl.Kp n0 ge gn A B) (k : Sl.Kp n0 ge gn B C) : Sl.Kp n0 ge gn A C := ⟨h.1.trans k.1, k.2.1.trans h.2.1, k.2.2.trans h.2.2⟩
theorem Sl.Kp.of {n0 ge gn : Nat} {A B : World} (h : Below A.heap.size A B) (hn : n0 ≤ A.heap.size) (hge : ge < A.heap.size) (hgn : gn < A.heap.size) : Sl.Kp n0 ge gn A B := ⟨h.mono hn, h.block _ hge, h.block _ hgn⟩
theorem Sl.Kp.step {n0 ge gn : Nat} {A B C : World} (h : Sl.Kp n0 ge gn A B) (hn : n0 ≤ A.heap.size) (hge : ge < A.heap.size) (hgn : gn < A.heap.size) (k : Below B.heap.size B C) : Sl.Kp n0 ge gn A C :=
  h.trans (.of k (Nat.le_trans hn h.1.size) (Nat.lt_of_lt_of_le hge h.1.size) (Nat.lt_of_lt_of_le hgn h.1.size))
theorem Sl.Kp.hg {n0 ge gn : Nat} {A B : World} (h : Sl.Kp n0 ge gn A B) {t : TypeId} {cs : List Value} (k : Has A ge t cs) : Has B ge t cs := h.2.1.trans k
theorem Sl.Kp.hn {n0 ge gn : Nat} {A B : World} (h : Sl.Kp n0 ge gn A B) {t : TypeId} {cs : List Value} (k : Has A gn t cs) : Has B gn t cs := h.2.2.trans k
def Sl.z5 : List Value := [.int .i64 0, .int .i64 0, .int .i64 0, .int .i64 0, .slice none 0 0]
theorem Sl.cells_at (x : Shr.C) : x.cells[1]? = some (.int .i64 x.s.ix) := rfl
theorem Sl.cells_len (x : Shr.C) : x.cells.length = 5 := rfl
theorem Sl.cells_one (x : Shr.C) : ∀ v ∈ x.cells, v.oneCell' = true := by
  intro v hv
  simp only [Shr.C.cells, List.mem_cons, List.not_mem_nil, or_false] at hv
  rcases hv with rfl | rfl | rfl | rfl | rfl <;> rfl
theorem Sl.infoS : (Tryd.prog.info? 43).map (·.size) = some 5 := by kernel_rfl
theorem Sl.infoD : (Tryd.prog.info? 23).map (·.size) = some 32 := by kernel_rfl
theorem Sl.eqD (xs ys : List UInt8) (hx : xs.length = 32) (hy : ys.length = 32) (w : World) : (Op.equalIn 10000 23 (.agg (xs.map Dg.b8).toArray) (.agg (ys.map Dg.b8).toArray)).run Tryd.prog w = .ok (xs == ys) w :=
  run_equalIn_bytes w 9998 23 5 32 Tryd.underlying23 Tryd.underlying5 (fun w => by kernel_rfl) xs ys hx hy
theorem Sl.neqD (xs ys : List UInt8) (hx : xs.length = 32) (hy : ys.length = 32) (w : World) : (binOp .neq 23 (.agg (xs.map Dg.b8).toArray) (.agg (ys.map Dg.b8).toArray)).run Tryd.prog w = .ok (.bool (!(xs == ys))) w := by
  rw [run_neq_struct, Sl.eqD xs ys hx hy]
  rfl
theorem Shr.Rds.get {w : World} {A : Option Addr} {n : Nat} {xs : List Shr.C} (h : Shr.Rds w A n xs) (k : Nat) (x : Shr.C) (hx : xs[k]? = some x) : x.Ok w ∧ ∃ b off, A = some ⟨b, off, none⟩ ∧ b < w.heap.size ∧ w.rangeAt b (off + k * 5) x.cells := by
  have hk : k < n := by rw [← h.len]; exact (List.getElem?_eq_some_iff.1 hx).1
  refine ⟨h.ok x (List.mem_of_getElem? hx), rdK (xss := xs.map Shr.C.cells) (by decide) (by rw [List.length_map, h.len]) (fun cs hc => ?_) (by rw [← List.flatMap_def]; exact h.rd) k hk x.cells (by rw [List.getElem?_map, hx]; rfl)⟩
  obtain ⟨y, _, rfl⟩ := List.mem_map.1 hc
  rfl

set_option maxRecDepth 100000 in
set_option maxHeartbeats 16000000 in
theorem Sl.wr_stops (n : Nat) (hn : 5 ≤ n) (gl gs : Nat) (A : Option Addr) (nl cl : Nat) (xs : List Shr.C) (s : Sl.W) (Ad : Option Addr) (cd : Nat) (Am : Option Addr) (cA : Nat) (w0 w : World) (hw : Below w0.heap.size w0 w)
    (hR : Shr.Rds w0 A nl xs) (hx : ∀ x ∈ xs, Sl.rg x.s) (hnl : nl ≤ maxLen) (hdl : ∀ x ∈ xs, x.s.d.length ≤ 10000000) (hS : Sl.Ok s w0 Ad cd Am cA) (hmk : (s.ms.length : Int) = s.mn) (hm8 : s.ms.length ≤ 1000) (hG : Dg.G w0 Rc.K0 Rc.I0)
    (hgl : Has w gl 28 [.slice A nl cl]) (hgs : Has w gs 27 (Sl.row s Ad cd Am cA)) :
    SeqStopsK Fence.wide n Tryd.prog 54 #[.pointer (some ⟨gl, 0, none⟩), .pointer (some ⟨gs, 0, none⟩)] Sl.enc (Sl.Kp w0.heap.size gl gs) (fun r => r = Sl.alt s (Shr.vals xs)) (fun pre => ∃ r, pre ++ r = Sl.alt s (Shr.vals xs)) (Sl.alt s (Shr.vals xs)).length w := fun L J Jx W hbW hJ _ hY h0 => by
  have h1 : 1 ≤ n := by omega
  have h2 : 1 ≤ n - 1 := by omega
  have h3 : 1 ≤ n - 1 - 1 := by omega
  have hfn : ∀ f, Fence.wide.fn f := fun _ => trivial
  have hn0 := hw.size
  have hge := hgl.lt
  have hgn := hgs.lt
  have HR := Lib.hid hR
  have HXW := Lib.hid hx
  have HDL := Lib.hid hdl
  have HS := Lib.hid hS
  have HMK := Lib.hid hmk
  have HM8 := Lib.hid hm8
  have HG := Lib.hid hG
  have HGL := Lib.hid hgl
  have HGS := Lib.hid hgs
  have HW := Lib.hid hw
  have HJ := Lib.hid hJ
  have HY := Lib.hid hY
  have HBW := Lib.hid (Sl.Kp.of hbW hn0 hge hgn)
  have hll := hR.len
  have HVL := Lib.hid ((Shr.vals_len xs).trans hll)
  unfold maxLen at hnl
  have a0 : W.cell? ⟨gl, 0, none⟩ = some (.slice A nl cl) := (hgl.keep hbW).cell 0
  have H0 := Lib.hid h0
  clear hR hx hdl hS hmk hm8 hG hgl hgs hw hJ hY hbW h0
  refine callsIn_of_wp Tryd.func54 rfl trivial ?_ rfl
  simp only [Tryd.ntmps54, List.size_toArray, List.length_cons, List.length_nil, Nat.reduceAdd, Nat.reduceSub, Array.replicate_succ, Array.replicate_zero, List.push_toArray, List.append_toArray, List.nil_append, List.cons_append]
  gi_wp2
  gi_loopw [8] (fun i wr => ∃ k : Nat, k ≤ nl ∧ i = .int .i64 k ∧ J (Sl.altp s (Shr.vals xs) k) wr ∧ Sl.Kp w0.heap.size gl gs w wr) (fun i wr => nl - (intOf i).toNat)
  case atStart => exact ⟨0, by omega, rfl, H0.out, HBW.out⟩
  case round =>
    clear a0
    obtain ⟨k, hk, rfl, hJk, hB⟩ := hrel
    by_cases hlt : k < nl
    · obtain ⟨x, hx⟩ : ∃ x, xs[k]? = some x := ⟨_, List.getElem?_eq_getElem (by omega)⟩
      have hww := HW.out.trans hB.1
      obtain ⟨hok, bl, ol, rfl, hbl, hrx⟩ := (HR.out.keep hww).get k x hx
      have HOK := Lib.hid hok
      have HRX := Lib.hid hrx
      have HI5 := Lib.hid (show (Tryd.prog.info? 43).map (·.size) = some x.cells.length from Sl.infoS)
      have HI5b := Lib.hid (show (Tryd.prog.info? 43).map (·.size) = some x.cells.toArray.size from Sl.infoS)
      have HZ5 := Lib.hid (show Sl.z5.toArray.size = x.cells.toArray.size from rfl)
      have H15 := Lib.hid (show x.cells.toArray.all (·.oneCell') = true from all_oneCell_toArray (Sl.cells_one x))
      have HN1 := Lib.hid (show (wr.alloc (.cells Sl.z5.toArray 43)).heap[wr.heap.size]? = some (.cells Sl.z5.toArray 43 (0, 0)) from World.alloc_heap_new _ _)
      have HGLr := Lib.hid (hB.hg HGL.out)
      have HGSr := Lib.hid (hB.hn HGS.out)
      have HB := Lib.hid hB
      have HWW := Lib.hid hww
      have HJK := Lib.hid hJk
      have hzw := hB.1.size
      have hvx : (Shr.vals xs)[k]? = some x.s := by rw [Shr.vals, List.getElem?_map, hx]; rfl
      have HSN := Lib.hid (show Sl.altp s (Shr.vals xs) (k + 1) = Sl.altp s (Shr.vals xs) k ++ (if Sl.bad s x.s = true then [k] else []) from by rw [Sl.altp, Sl.altk, hvx])
      have HXM := Lib.hid (List.mem_of_getElem? hx)
      have a0 : wr.cell? ⟨gl, 0, none⟩ = some (.slice (some ⟨bl, ol, none⟩) nl cl) := HGLr.out.cell 0
      have i1 : (0 : Int) ≤ (k : Int) := by omega
      have i2 : (k : Int) < (nl : Int) := by omega
      clear hJk hB hx hrx hok hvx hww
      gi_wp2_with (first
        | (with_reducible refine wpListIn_load_mid rfl 43 (.tmp 11) rfl bl (ol + k * 5) rfl x.cells _ HRX.out Tryd.underlying43 rfl HI5.out ?_)
        | ((refine wpListIn_store_row (o := ⟨none, .store 43 (.tmp 5) (.tmp 12), _, _, _, _⟩) rfl 43 (.tmp 5) (.tmp 12) rfl wr.heap.size x.cells.toArray rfl rfl 43 Sl.z5.toArray HN1.out HI5b.out HZ5.out H15.out ?_)
           obtain ⟨W2, hW2⟩ : ∃ W2, W2 = (wr.alloc (.cells Sl.z5.toArray 43)).setRow wr.heap.size x.cells.toArray := ⟨_, rfl⟩
           change wpListIn _ _ _ _ _ _ _ ((wr.alloc (.cells Sl.z5.toArray 43)).setRow wr.heap.size x.cells.toArray)
           have HX2 := Lib.hid (show Has W2 wr.heap.size 43 x.cells from by rw [hW2]; exact setRow_heap _ wr.heap.size _ x.cells.toArray 43 (0, 0) HN1.out)
           have HB2 := Lib.hid (show Below wr.heap.size wr W2 from by rw [hW2]; exact below_setRow ((Below.refl _ wr).alloc (Nat.le_refl _) _) (Nat.le_refl _) _)
           rw [← hW2]
           clear hW2 a0))
      have hput : ∀ a : Act, a.put none undef = a := fun _ => rfl
      rw [hput]
      have x1 : W2.cell? ⟨wr.heap.size, 1, none⟩ = some (.int .i64 x.s.ix) := HX2.out.cell 1
      have HGS2 := Lib.hid (HGSr.out.keep HB2.out)
      have x2 : W2.cell? ⟨gs, 34, none⟩ = some (.int .i64 s.mn) := (HGS2.out.cell 34).trans (Sl.row_at HS.out.cl Ad cd Am cA).2.2.1
      have x3 : W2.cell? ⟨gs, 35, none⟩ = some (.slice Am s.ms.length cA) := (HGS2.out.cell 35).trans (Sl.row_at HS.out.cl Ad cd Am cA).2.2.2
      have s0 : Below W2.heap.size W2 W2.drew := (Below.refl _ W2).drew
      have HJ2 := Lib.hid (fun (w' : World) (h : Below W2.heap.size W2 w') => HJ.out _ wr w' none HJK.out (grown_none (HB2.out.trans (h.mono HB2.out.size))) (fun _ e => by cases e))
      have HK2 := Lib.hid (fun (w' : World) (h : Below W2.heap.size W2 w') => HB.out.step hn0 hge hgn (HB2.out.trans (h.mono HB2.out.size)))
      have HWW2 := Lib.hid (HWW.out.trans (HB2.out.mono HWW.out.size))
      have HP := Lib.hid (Sl.altp_pre s (Shr.vals xs) (k + 1) (Shr.vals xs).length (by rw [HVL.out]; omega))
      refine wpIn_mono (Q := NormalOnly (fun a' W' => ∃ (b : Bool) (u9 u10 u11 u12 u13 u14 u15 u16 u17 u18 u19 u20 u21 u22 u23 u24 u25 u26 u27 u28 u29 u30 u31 u32 u33 u34 u35 u36 u37 u38 u39 u40 : Value), a' = { tmps := #[.func (.yield L) #[] #[], .pointer (some ⟨gl, 0, none⟩), .pointer (some ⟨gs, 0, none⟩), undef, .int .i64 (k : Int), .pointer (some ⟨wr.heap.size, 0, none⟩), .slice (some ⟨bl, ol, none⟩) nl cl, .int .i64 (nl : Int), .int .i64 (k : Int), u9, u10, u11, u12, u13, u14, u15, u16, u17, u18, u19, u20, u21, u22, u23, u24, u25, u26, u27, u28, u29, u30, u31, u32, u33, u34, u35, u36, u37, u38, u39, u40, .bool b, u42], defers := [] } ∧ ((b = false ∧ J (Sl.altp s (Shr.vals xs) (k + 1)) W' ∧ Sl.Kp w0.heap.size gl gs w W') ∨ (b = true ∧ Jx (Sl.altp s (Shr.vals xs) (k + 1)) W')))) ?region ?tail
      case region =>
        have KP := Lib.hid (fun (w' : World) (h : Below W2.heap.size W2 w') => (⟨(h.cell (p := ⟨wr.heap.size, 1, none⟩) HX2.out.lt).trans x1, (h.cell (p := ⟨gs, 34, none⟩) HGS2.out.lt).trans x2, h⟩ : w'.cell? ⟨wr.heap.size, 1, none⟩ = some (.int .i64 x.s.ix) ∧ w'.cell? ⟨gs, 34, none⟩ = some (.int .i64 s.mn) ∧ Below W2.heap.size W2 w'))
        have HLB := Lib.hid (fun (h : Sl.bad s x.s = true) => (show (Sl.altp s (Shr.vals xs) k).length < (Sl.alt s (Shr.vals xs)).length from by
          obtain ⟨r, hr⟩ := HP.out
          have h2 := congrArg List.length hr
          rw [HSN.out, if_pos h] at h2
          simp only [List.length_append, List.length_cons, List.length_nil] at h2
          show _ < (Sl.altp s (Shr.vals xs) (Shr.vals xs).length).length
          omega))
        have HSB := Lib.hid (fun (h : Sl.bad s x.s = true) => (show Sl.altp s (Shr.vals xs) (k + 1) = Sl.altp s (Shr.vals xs) k ++ [k] from by rw [HSN.out, if_pos h]))
        by_cases c0 : x.s.ix < 1
        · have hd0 : decide (x.s.ix < 1) = true := decide_eq_true c0
          have hbad : Sl.bad s x.s = true := by unfold Sl.bad; rw [hd0]; rfl
          have HS1 := Lib.hid (HSB.out hbad).symm
          have HLEN := Lib.hid (HLB.out hbad)
          clear hbad x3 HLB HSB
          refine wpIn_region_named (fun ops hops => ?_)
          refine wpIn_region_T (by kernel_rfl) [26, 27, 28] (fun w' => w'.cell? ⟨wr.heap.size, 1, none⟩ = some (.int .i64 x.s.ix) ∧ w'.cell? ⟨gs, 34, none⟩ = some (.int .i64 s.mn) ∧ Below W2.heap.size W2 w') ?_
          rw [show ops.size = 29 from by rw [hops]; rfl]
          have HNS : Region.noSelect ops = true := by rw [hops]; kernel_rfl
          have hHeld := KP.out _ s0
          obtain ⟨o0, h0, d0, p0, g0⟩ := op_at5 hops 0 rfl (d := some 13) (p := Op.fieldAddr 43 (Operand.tmp 5) 1) (g := none) rfl rfl rfl
          obtain ⟨o1, h1, d1, p1, g1⟩ := op_at5 hops 1 rfl (d := some 14) (p := Op.load 3 (Operand.tmp 13)) (g := none) rfl rfl rfl
          obtain ⟨o2, h2, d2, p2, g2⟩ := op_at5 hops 2 rfl (d := some 15) (p := Op.binOp BinOp.lss 3 (Operand.tmp 14) (Operand.const (Value.int IntKind.i64 1)) 3) (g := none) rfl rfl rfl
          obtain ⟨o3, h3, d3, p3, g3⟩ := op_at5 hops 3 rfl (d := some 16) (p := Op.move (Operand.tmp 15)) (g := none) rfl rfl rfl
          obtain ⟨o4, h4, d4, p4, g4⟩ := op_at5 hops 4 rfl (d := some 17) (p := Op.fieldAddr 43 (Operand.tmp 5) 1) (g := some (3, false)) rfl rfl rfl
          obtain ⟨o5, h5, d5, p5, g5⟩ := op_at5 hops 5 rfl (d := some 18) (p := Op.load 3 (Operand.tmp 17)) (g := some (3, false)) rfl rfl rfl
          obtain ⟨o6, h6, d6, p6, g6⟩ := op_at5 hops 6 rfl (d := some 19) (p := Op.fieldAddr 27 (Operand.tmp 2) 3) (g := some (3, false)) rfl rfl rfl
          obtain ⟨o7, h7, d7, p7, g7⟩ := op_at5 hops 7 rfl (d := some 20) (p := Op.load 3 (Operand.tmp 19)) (g := some (3, false)) rfl rfl rfl
          obtain ⟨o8, h8, d8, p8, g8⟩ := op_at5 hops 8 rfl (d := some 21) (p := Op.binOp BinOp.gtr 3 (Operand.tmp 18) (Operand.tmp 20) 3) (g := some (3, false)) rfl rfl rfl
          obtain ⟨o9, h9, d9, p9, g9⟩ := op_at5 hops 9 rfl (d := some 22) (p := Op.pick (Operand.tmp 16) (Operand.const (Value.bool true)) (Operand.tmp 21)) (g := none) rfl rfl rfl
          obtain ⟨o10, h10, d10, p10, g10⟩ := op_at5 hops 10 rfl (d := some 23) (p := Op.move (Operand.tmp 22)) (g := none) rfl rfl rfl
          obtain ⟨o11, h11, d11, p11, g11⟩ := op_at5 hops 11 rfl (d := some 24) (p := Op.fieldAddr 27 (Operand.tmp 2) 4) (g := some (10, false)) rfl rfl rfl
          obtain ⟨o12, h12, d12, p12, g12⟩ := op_at5 hops 12 rfl (d := some 25) (p := Op.load 25 (Operand.tmp 24)) (g := some (10, false)) rfl rfl rfl
          obtain ⟨o13, h13, d13, p13, g13⟩ := op_at5 hops 13 rfl (d := some 26) (p := Op.fieldAddr 43 (Operand.tmp 5) 1) (g := some (10, false)) rfl rfl rfl
          obtain ⟨o14, h14, d14, p14, g14⟩ := op_at5 hops 14 rfl (d := some 27) (p := Op.load 3 (Operand.tmp 26)) (g := some (10, false)) rfl rfl rfl
          obtain ⟨o15, h15, d15, p15, g15⟩ := op_at5 hops 15 rfl (d := some 28) (p := Op.binOp BinOp.sub 3 (Operand.tmp 27) (Operand.const (Value.int IntKind.i64 1)) 3) (g := some (10, false)) rfl rfl rfl
          obtain ⟨o16, h16, d16, p16, g16⟩ := op_at5 hops 16 rfl (d := some 29) (p := Op.indexAddr 25 (Operand.tmp 25) (Operand.tmp 28)) (g := some (10, false)) rfl rfl rfl
          obtain ⟨o17, h17, d17, p17, g17⟩ := op_at5 hops 17 rfl (d := some 30) (p := Op.load 23 (Operand.tmp 29)) (g := some (10, false)) rfl rfl rfl
          obtain ⟨o18, h18, d18, p18, g18⟩ := op_at5 hops 18 rfl (d := some 31) (p := Op.load 43 (Operand.tmp 5)) (g := some (10, false)) rfl rfl rfl
          obtain ⟨o19, h19, d19, p19, g19⟩ := op_at5 hops 19 rfl (d := some 32) (p := Op.build 69 #[(0, Operand.tmp 31)]) (g := some (10, false)) rfl rfl rfl
          obtain ⟨o20, h20, d20, p20, g20⟩ := op_at5 hops 20 rfl (d := some 33) (p := Op.call { callee := Callee.value (Operand.func 38), args := #[Operand.tmp 32], argTypes := #[69] }) (g := some (10, false)) rfl rfl rfl
          obtain ⟨o21, h21, d21, p21, g21⟩ := op_at5 hops 21 rfl (d := some 34) (p := Op.binOp BinOp.neq 23 (Operand.tmp 30) (Operand.tmp 33) 23) (g := some (10, false)) rfl rfl rfl
          obtain ⟨o22, h22, d22, p22, g22⟩ := op_at5 hops 22 rfl (d := some 35) (p := Op.pick (Operand.tmp 23) (Operand.const (Value.bool true)) (Operand.tmp 34)) (g := none) rfl rfl rfl
          obtain ⟨o23, h23, d23, p23, g23⟩ := op_at5 hops 23 rfl (d := some 36) (p := Op.move (Operand.tmp 35)) (g := none) rfl rfl rfl
          obtain ⟨o24, h24, d24, p24, g24⟩ := op_at5 hops 24 rfl (d := some 37) (p := Op.move (Operand.tmp 0)) (g := some (23, true)) rfl rfl rfl
          obtain ⟨o25, h25, d25, p25, g25⟩ := op_at5 hops 25 rfl (d := some 38) (p := Op.move (Operand.tmp 4)) (g := some (23, true)) rfl rfl rfl
          obtain ⟨o26, h26, d26, p26, g26⟩ := op_at5 hops 26 rfl (d := some 39) (p := Op.call { callee := Callee.value (Operand.tmp 37), args := #[Operand.tmp 38], argTypes := #[3] }) (g := some (23, true)) rfl rfl rfl
          obtain ⟨o27, h27, d27, p27, g27⟩ := op_at5 hops 27 rfl (d := some 40) (p := Op.unOp UnOp.not 4 (Operand.tmp 39)) (g := some (23, true)) rfl rfl rfl
          obtain ⟨o28, h28, d28, p28, g28⟩ := op_at5 hops 28 rfl (d := some 41) (p := Op.pick (Operand.tmp 36) (Operand.tmp 40) (Operand.const (Value.bool false))) (g := none) rfl rfl rfl
          refine wpAnyInT_take wideFn rfl (i := 0) (v := .pointer (some ⟨wr.heap.size, 1, none⟩)) [0, 1, 2, 3, 4, 5, 6, 7, 8, 9, 10, 11, 12, 13, 14, 15, 16, 17, 18, 19, 20, 21, 22, 23, 24, 25, 26, 27, 28] h0 HNS (by rw [hops]; kernel_rfl) (by rw [hops]; kernel_rfl) (by rw [hops]; kernel_rfl) (fun _ _ _ => NormalOnly.hQ _ _ _) (Or.inl ⟨(wanted_none g0), fun w' _ => by unfold execOp; rw [p0]; first | rfl | kernel_rfl⟩) hHeld ?_
          rw [d0]
          simp only [Act.put, List.setIfInBounds_toArray, List.set_cons_zero, List.set_cons_succ]
          refine wpAnyInT_take wideFn rfl (i := 1) (v := .int .i64 x.s.ix) [1, 2, 3, 4, 5, 6, 7, 8, 9, 10, 11, 12, 13, 14, 15, 16, 17, 18, 19, 20, 21, 22, 23, 24, 25, 26, 27, 28] h1 HNS (by rw [hops]; kernel_rfl) (by rw [hops]; kernel_rfl) (by rw [hops]; kernel_rfl) (fun _ _ _ => NormalOnly.hQ _ _ _) (Or.inl ⟨(wanted_none g1), fun w' h => run_op_load_cell 3 _ p1 wr.heap.size 1 (by rfl) _ h.1 _ Tryd.underlying3 rfl⟩) hHeld ?_
          rw [d1]
          simp only [Act.put, List.setIfInBounds_toArray, List.set_cons_zero, List.set_cons_succ]
          refine wpAnyInT_take wideFn rfl (i := 2) (v := .bool true) [2, 3, 4, 5, 6, 7, 8, 9, 10, 11, 12, 13, 14, 15, 16, 17, 18, 19, 20, 21, 22, 23, 24, 25, 26, 27, 28] h2 HNS (by rw [hops]; kernel_rfl) (by rw [hops]; kernel_rfl) (by rw [hops]; kernel_rfl) (fun _ _ _ => NormalOnly.hQ _ _ _) (Or.inl ⟨(wanted_none g2), fun w' _ => (show _ = Result.ok (.value (.bool (decide (x.s.ix < 1)))) w' from by unfold execOp; rw [p2]; first | rfl | kernel_rfl).trans (by rw [hd0])⟩) hHeld ?_
          rw [d2]
          simp only [Act.put, List.setIfInBounds_toArray, List.set_cons_zero, List.set_cons_succ]
          refine wpAnyInT_take wideFn rfl (i := 3) (v := .bool true) [3, 4, 5, 6, 7, 8, 9, 10, 11, 12, 13, 14, 15, 16, 17, 18, 19, 20, 21, 22, 23, 24, 25, 26, 27, 28] h3 HNS (by rw [hops]; kernel_rfl) (by rw [hops]; kernel_rfl) (by rw [hops]; kernel_rfl) (fun _ _ _ => NormalOnly.hQ _ _ _) (Or.inl ⟨(wanted_none g3), fun w' _ => by unfold execOp; rw [p3]; first | rfl | kernel_rfl⟩) hHeld ?_
          rw [d3]
          simp only [Act.put, List.setIfInBounds_toArray, List.set_cons_zero, List.set_cons_succ]
          refine wpAnyInT_take wideFn rfl (i := 4) (v := undef) [4, 5, 8, 9, 10, 11, 12, 13, 14, 15, 16, 17, 18, 19, 20, 21, 22, 23, 24, 25, 26, 27, 28] h4 HNS (by rw [hops]; kernel_rfl) (by rw [hops]; kernel_rfl) (by rw [hops]; kernel_rfl) (fun _ _ _ => NormalOnly.hQ _ _ _) (Or.inr ⟨(unwanted_some g4 h3 d3 (by rfl)), rfl⟩) hHeld ?_
          rw [d4]
          simp only [Act.put, List.setIfInBounds_toArray, List.set_cons_zero, List.set_cons_succ]
          refine wpAnyInT_take wideFn rfl (i := 5) (v := undef) [5, 8, 9, 10, 11, 12, 13, 14, 15, 16, 17, 18, 19, 20, 21, 22, 23, 24, 25, 26, 27, 28] h5 HNS (by rw [hops]; kernel_rfl) (by rw [hops]; kernel_rfl) (by rw [hops]; kernel_rfl) (fun _ _ _ => NormalOnly.hQ _ _ _) (Or.inr ⟨(unwanted_some g5 h3 d3 (by rfl)), rfl⟩) hHeld ?_
          rw [d5]
          simp only [Act.put, List.setIfInBounds_toArray, List.set_cons_zero, List.set_cons_succ]
          refine wpAnyInT_take wideFn rfl (i := 6) (v := undef) [6, 7, 8, 9, 10, 11, 12, 13, 14, 15, 16, 17, 18, 19, 20, 21, 22, 23, 24, 25, 26, 27, 28] h6 HNS (by rw [hops]; kernel_rfl) (by rw [hops]; kernel_rfl) (by rw [hops]; kernel_rfl) (fun _ _ _ => NormalOnly.hQ _ _ _) (Or.inr ⟨(unwanted_some g6 h3 d3 (by rfl)), rfl⟩) hHeld ?_
          rw [d6]
          simp only [Act.put, List.setIfInBounds_toArray, List.set_cons_zero, List.set_cons_succ]
          refine wpAnyInT_take wideFn rfl (i := 7) (v := undef) [7, 8, 9, 10, 11, 12, 13, 14, 15, 16, 17, 18, 19, 20, 21, 22, 23, 24, 25, 26, 27, 28] h7 HNS (by rw [hops]; kernel_rfl) (by rw [hops]; kernel_rfl) (by rw [hops]; kernel_rfl) (fun _ _ _ => NormalOnly.hQ _ _ _) (Or.inr ⟨(unwanted_some g7 h3 d3 (by rfl)), rfl⟩) hHeld ?_
          rw [d7]
          simp only [Act.put, List.setIfInBounds_toArray, List.set_cons_zero, List.set_cons_succ]
          refine wpAnyInT_take wideFn rfl (i := 8) (v := undef) [8, 9, 10, 11, 12, 13, 14, 15, 16, 17, 18, 19, 20, 21, 22, 23, 24, 25, 26, 27, 28] h8 HNS (by rw [hops]; kernel_rfl) (by rw [hops]; kernel_rfl) (by rw [hops]; kernel_rfl) (fun _ _ _ => NormalOnly.hQ _ _ _) (Or.inr ⟨(unwanted_some g8 h3 d3 (by rfl)), rfl⟩) hHeld ?_
          rw [d8]
          simp only [Act.put, List.setIfInBounds_toArray, List.set_cons_zero, List.set_cons_succ]
          refine wpAnyInT_take wideFn rfl (i := 9) (v := .bool true) [9, 10, 11, 12, 13, 14, 15, 16, 17, 18, 19, 20, 21, 22, 23, 24, 25, 26, 27, 28] h9 HNS (by rw [hops]; kernel_rfl) (by rw [hops]; kernel_rfl) (by rw [hops]; kernel_rfl) (fun _ _ _ => NormalOnly.hQ _ _ _) (Or.inl ⟨(wanted_none g9), fun w' _ => by unfold execOp; rw [p9]; first | rfl | kernel_rfl⟩) hHeld ?_
          rw [d9]
          simp only [Act.put, List.setIfInBounds_toArray, List.set_cons_zero, List.set_cons_succ]
          refine wpAnyInT_take wideFn rfl (i := 10) (v := .bool true) [10, 11, 12, 13, 14, 15, 16, 17, 18, 19, 20, 21, 22, 23, 24, 25, 26, 27, 28] h10 HNS (by rw [hops]; kernel_rfl) (by rw [hops]; kernel_rfl) (by rw [hops]; kernel_rfl) (fun _ _ _ => NormalOnly.hQ _ _ _) (Or.inl ⟨(wanted_none g10), fun w' _ => by unfold execOp; rw [p10]; first | rfl | kernel_rfl⟩) hHeld ?_
          rw [d10]
          simp only [Act.put, List.setIfInBounds_toArray, List.set_cons_zero, List.set_cons_succ]
          refine wpAnyInT_take wideFn rfl (i := 11) (v := undef) [11, 12, 16, 17, 21, 22, 23, 24, 25, 26, 27, 28] h11 HNS (by rw [hops]; kernel_rfl) (by rw [hops]; kernel_rfl) (by rw [hops]; kernel_rfl) (fun _ _ _ => NormalOnly.hQ _ _ _) (Or.inr ⟨(unwanted_some g11 h10 d10 (by rfl)), rfl⟩) hHeld ?_
          rw [d11]
          simp only [Act.put, List.setIfInBounds_toArray, List.set_cons_zero, List.set_cons_succ]
          refine wpAnyInT_take wideFn rfl (i := 12) (v := undef) [12, 16, 17, 21, 22, 23, 24, 25, 26, 27, 28] h12 HNS (by rw [hops]; kernel_rfl) (by rw [hops]; kernel_rfl) (by rw [hops]; kernel_rfl) (fun _ _ _ => NormalOnly.hQ _ _ _) (Or.inr ⟨(unwanted_some g12 h10 d10 (by rfl)), rfl⟩) hHeld ?_
          rw [d12]
          simp only [Act.put, List.setIfInBounds_toArray, List.set_cons_zero, List.set_cons_succ]
          refine wpAnyInT_take wideFn rfl (i := 13) (v := undef) [13, 14, 15, 16, 17, 21, 22, 23, 24, 25, 26, 27, 28] h13 HNS (by rw [hops]; kernel_rfl) (by rw [hops]; kernel_rfl) (by rw [hops]; kernel_rfl) (fun _ _ _ => NormalOnly.hQ _ _ _) (Or.inr ⟨(unwanted_some g13 h10 d10 (by rfl)), rfl⟩) hHeld ?_
          rw [d13]
          simp only [Act.put, List.setIfInBounds_toArray, List.set_cons_zero, List.set_cons_succ]
          refine wpAnyInT_take wideFn rfl (i := 14) (v := undef) [14, 15, 16, 17, 21, 22, 23, 24, 25, 26, 27, 28] h14 HNS (by rw [hops]; kernel_rfl) (by rw [hops]; kernel_rfl) (by rw [hops]; kernel_rfl) (fun _ _ _ => NormalOnly.hQ _ _ _) (Or.inr ⟨(unwanted_some g14 h10 d10 (by rfl)), rfl⟩) hHeld ?_
          rw [d14]
          simp only [Act.put, List.setIfInBounds_toArray, List.set_cons_zero, List.set_cons_succ]
          refine wpAnyInT_take wideFn rfl (i := 15) (v := undef) [15, 16, 17, 21, 22, 23, 24, 25, 26, 27, 28] h15 HNS (by rw [hops]; kernel_rfl) (by rw [hops]; kernel_rfl) (by rw [hops]; kernel_rfl) (fun _ _ _ => NormalOnly.hQ _ _ _) (Or.inr ⟨(unwanted_some g15 h10 d10 (by rfl)), rfl⟩) hHeld ?_
          rw [d15]
          simp only [Act.put, List.setIfInBounds_toArray, List.set_cons_zero, List.set_cons_succ]
          refine wpAnyInT_take wideFn rfl (i := 16) (v := undef) [16, 17, 21, 22, 23, 24, 25, 26, 27, 28] h16 HNS (by rw [hops]; kernel_rfl) (by rw [hops]; kernel_rfl) (by rw [hops]; kernel_rfl) (fun _ _ _ => NormalOnly.hQ _ _ _) (Or.inr ⟨(unwanted_some g16 h10 d10 (by rfl)), rfl⟩) hHeld ?_
          rw [d16]
          simp only [Act.put, List.setIfInBounds_toArray, List.set_cons_zero, List.set_cons_succ]
          refine wpAnyInT_take wideFn rfl (i := 17) (v := undef) [17, 21, 22, 23, 24, 25, 26, 27, 28] h17 HNS (by rw [hops]; kernel_rfl) (by rw [hops]; kernel_rfl) (by rw [hops]; kernel_rfl) (fun _ _ _ => NormalOnly.hQ _ _ _) (Or.inr ⟨(unwanted_some g17 h10 d10 (by rfl)), rfl⟩) hHeld ?_
          rw [d17]
          simp only [Act.put, List.setIfInBounds_toArray, List.set_cons_zero, List.set_cons_succ]
          refine wpAnyInT_take wideFn rfl (i := 18) (v := undef) [18, 19, 20, 21, 22, 23, 24, 25, 26, 27, 28] h18 HNS (by rw [hops]; kernel_rfl) (by rw [hops]; kernel_rfl) (by rw [hops]; kernel_rfl) (fun _ _ _ => NormalOnly.hQ _ _ _) (Or.inr ⟨(unwanted_some g18 h10 d10 (by rfl)), rfl⟩) hHeld ?_
          rw [d18]
          simp only [Act.put, List.setIfInBounds_toArray, List.set_cons_zero, List.set_cons_succ]
          refine wpAnyInT_take wideFn rfl (i := 19) (v := undef) [19, 20, 21, 22, 23, 24, 25, 26, 27, 28] h19 HNS (by rw [hops]; kernel_rfl) (by rw [hops]; kernel_rfl) (by rw [hops]; kernel_rfl) (fun _ _ _ => NormalOnly.hQ _ _ _) (Or.inr ⟨(unwanted_some g19 h10 d10 (by rfl)), rfl⟩) hHeld ?_
          rw [d19]
          simp only [Act.put, List.setIfInBounds_toArray, List.set_cons_zero, List.set_cons_succ]
          refine wpAnyInT_take wideFn rfl (i := 20) (v := undef) [20, 21, 22, 23, 24, 25, 26, 27, 28] h20 HNS (by rw [hops]; kernel_rfl) (by rw [hops]; kernel_rfl) (by rw [hops]; kernel_rfl) (fun _ _ _ => NormalOnly.hQ _ _ _) (Or.inr ⟨(unwanted_some g20 h10 d10 (by rfl)), rfl⟩) hHeld ?_
          rw [d20]
          simp only [Act.put, List.setIfInBounds_toArray, List.set_cons_zero, List.set_cons_succ]
          refine wpAnyInT_take wideFn rfl (i := 21) (v := undef) [21, 22, 23, 24, 25, 26, 27, 28] h21 HNS (by rw [hops]; kernel_rfl) (by rw [hops]; kernel_rfl) (by rw [hops]; kernel_rfl) (fun _ _ _ => NormalOnly.hQ _ _ _) (Or.inr ⟨(unwanted_some g21 h10 d10 (by rfl)), rfl⟩) hHeld ?_
          rw [d21]
          simp only [Act.put, List.setIfInBounds_toArray, List.set_cons_zero, List.set_cons_succ]
          refine wpAnyInT_take wideFn rfl (i := 22) (v := .bool true) [22, 23, 24, 25, 26, 27, 28] h22 HNS (by rw [hops]; kernel_rfl) (by rw [hops]; kernel_rfl) (by rw [hops]; kernel_rfl) (fun _ _ _ => NormalOnly.hQ _ _ _) (Or.inl ⟨(wanted_none g22), fun w' _ => by unfold execOp; rw [p22]; first | rfl | kernel_rfl⟩) hHeld ?_
          rw [d22]
          simp only [Act.put, List.setIfInBounds_toArray, List.set_cons_zero, List.set_cons_succ]
          refine wpAnyInT_take wideFn rfl (i := 23) (v := .bool true) [23, 24, 25, 26, 27, 28] h23 HNS (by rw [hops]; kernel_rfl) (by rw [hops]; kernel_rfl) (by rw [hops]; kernel_rfl) (fun _ _ _ => NormalOnly.hQ _ _ _) (Or.inl ⟨(wanted_none g23), fun w' _ => by unfold execOp; rw [p23]; first | rfl | kernel_rfl⟩) hHeld ?_
          rw [d23]
          simp only [Act.put, List.setIfInBounds_toArray, List.set_cons_zero, List.set_cons_succ]
          refine wpAnyInT_take wideFn rfl (i := 24) (v := .func (.yield L) #[] #[]) [24, 26, 27, 28] h24 HNS (by rw [hops]; kernel_rfl) (by rw [hops]; kernel_rfl) (by rw [hops]; kernel_rfl) (fun _ _ _ => NormalOnly.hQ _ _ _) (Or.inl ⟨(wanted_some g24 h23 d23 (by rfl)), fun w' _ => by unfold execOp; rw [p24]; first | rfl | kernel_rfl⟩) hHeld ?_
          rw [d24]
          simp only [Act.put, List.setIfInBounds_toArray, List.set_cons_zero, List.set_cons_succ]
          refine wpAnyInT_take wideFn rfl (i := 25) (v := .int .i64 (k : Int)) [25, 26, 27, 28] h25 HNS (by rw [hops]; kernel_rfl) (by rw [hops]; kernel_rfl) (by rw [hops]; kernel_rfl) (fun _ _ _ => NormalOnly.hQ _ _ _) (Or.inl ⟨(wanted_some g25 h23 d23 (by rfl)), fun w' _ => by unfold execOp; rw [p25]; first | rfl | kernel_rfl⟩) hHeld ?_
          rw [d25]
          simp only [Act.put, List.setIfInBounds_toArray, List.set_cons_zero, List.set_cons_succ]
          refine wpAnyInT_one (by rw [hops]; kernel_rfl) h26 (wanted_some g26 h23 d23 (by rfl)) (fun K hK => ?_)
          refine wpIn_yield1 wideFn rfl (by omega) L _ _ _ (.int .i64 (k : Int)) _ p26 (by rfl) (by rfl) (HY.out _ k W2.drew (HJ2.out _ s0) HLEN.out) ?_
          rintro e W3 (⟨rfl, hJ3, hk3⟩ | ⟨rfl, hJx3⟩)
          · refine ⟨_, rfl, ?_⟩
            rw [d26]
            simp only [Act.put, List.setIfInBounds_toArray, List.set_cons_zero, List.set_cons_succ]
            refine hK.out _ _ (fun h => absurd (by decide) h) ?_
            refine wpAnyInT_one (by rw [hops]; kernel_rfl) h27 (wanted_some g27 h23 d23 (by rfl)) (fun K2 hK2 => ?_)
            refine wpIn_runG wideFn rfl (v := .bool false) (w' := W3) (by unfold execOp; rw [p27]; first | rfl | kernel_rfl) ?_
            rw [d27]
            simp only [Act.put, List.setIfInBounds_toArray, List.set_cons_zero, List.set_cons_succ]
            refine hK2.out _ _ (fun h => absurd (by decide) h) ?_
            refine wpAnyInT_one (by rw [hops]; kernel_rfl) h28 (wanted_none g28) (fun K3 hK3 => ?_)
            refine wpIn_runG wideFn rfl (v := .bool false) (w' := W3) (by unfold execOp; rw [p28]; first | rfl | kernel_rfl) ?_
            rw [d28]
            simp only [Act.put, List.setIfInBounds_toArray, List.set_cons_zero, List.set_cons_succ]
            refine hK3.out _ _ (fun h => absurd (by decide) h) ?_
            refine wpAnyInT_done (by rw [hops]; kernel_rfl) ⟨rfl, _, _, _, _, _, _, _, _, _, _, _, _, _, _, _, _, _, _, _, _, _, _, _, _, _, _, _, _, _, _, _, _, _, rfl, .inl ⟨rfl, HS1.out ▸ hJ3, (HK2.out _ s0).trans hk3⟩⟩ _
          · refine ⟨_, rfl, ?_⟩
            rw [d26]
            simp only [Act.put, List.setIfInBounds_toArray, List.set_cons_zero, List.set_cons_succ]
            refine hK.out _ _ (fun h => absurd (by decide) h) ?_
            refine wpAnyInT_one (by rw [hops]; kernel_rfl) h27 (wanted_some g27 h23 d23 (by rfl)) (fun K2 hK2 => ?_)
            refine wpIn_runG wideFn rfl (v := .bool true) (w' := W3) (by unfold execOp; rw [p27]; first | rfl | kernel_rfl) ?_
            rw [d27]
            simp only [Act.put, List.setIfInBounds_toArray, List.set_cons_zero, List.set_cons_succ]
            refine hK2.out _ _ (fun h => absurd (by decide) h) ?_
            refine wpAnyInT_one (by rw [hops]; kernel_rfl) h28 (wanted_none g28) (fun K3 hK3 => ?_)
            refine wpIn_runG wideFn rfl (v := .bool true) (w' := W3) (by unfold execOp; rw [p28]; first | rfl | kernel_rfl) ?_
            rw [d28]
            simp only [Act.put, List.setIfInBounds_toArray, List.set_cons_zero, List.set_cons_succ]
            refine hK3.out _ _ (fun h => absurd (by decide) h) ?_
            refine wpAnyInT_done (by rw [hops]; kernel_rfl) ⟨rfl, _, _, _, _, _, _, _, _, _, _, _, _, _, _, _, _, _, _, _, _, _, _, _, _, _, _, _, _, _, _, _, _, _, rfl, .inr ⟨rfl, HS1.out ▸ hJx3⟩⟩ _
        · have hd0 : decide (x.s.ix < 1) = false := decide_eq_false c0
          by_cases c1 : s.mn < x.s.ix
          · have hd1 : decide (s.mn < x.s.ix) = true := decide_eq_true c1
            have hbad : Sl.bad s x.s = true := by unfold Sl.bad; rw [hd0, hd1]; rfl
            have HS1 := Lib.hid (HSB.out hbad).symm
            have HLEN := Lib.hid (HLB.out hbad)
            clear hbad x3 HLB HSB
            refine wpIn_region_named (fun ops hops => ?_)
            refine wpIn_region_T (by kernel_rfl) [26, 27, 28] (fun w' => w'.cell? ⟨wr.heap.size, 1, none⟩ = some (.int .i64 x.s.ix) ∧ w'.cell? ⟨gs, 34, none⟩ = some (.int .i64 s.mn) ∧ Below W2.heap.size W2 w') ?_
            rw [show ops.size = 29 from by rw [hops]; rfl]
            have HNS : Region.noSelect ops = true := by rw [hops]; kernel_rfl
            have hHeld := KP.out _ s0
            obtain ⟨o0, h0, d0, p0, g0⟩ := op_at5 hops 0 rfl (d := some 13) (p := Op.fieldAddr 43 (Operand.tmp 5) 1) (g := none) rfl rfl rfl
            obtain ⟨o1, h1, d1, p1, g1⟩ := op_at5 hops 1 rfl (d := some 14) (p := Op.load 3 (Operand.tmp 13)) (g := none) rfl rfl rfl
            obtain ⟨o2, h2, d2, p2, g2⟩ := op_at5 hops 2 rfl (d := some 15) (p := Op.binOp BinOp.lss 3 (Operand.tmp 14) (Operand.const (Value.int IntKind.i64 1)) 3) (g := none) rfl rfl rfl
            obtain ⟨o3, h3, d3, p3, g3⟩ := op_at5 hops 3 rfl (d := some 16) (p := Op.move (Operand.tmp 15)) (g := none) rfl rfl rfl
            obtain ⟨o4, h4, d4, p4, g4⟩ := op_at5 hops 4 rfl (d := some 17) (p := Op.fieldAddr 43 (Operand.tmp 5) 1) (g := some (3, false)) rfl rfl rfl
            obtain ⟨o5, h5, d5, p5, g5⟩ := op_at5 hops 5 rfl (d := some 18) (p := Op.load 3 (Operand.tmp 17)) (g := some (3, false)) rfl rfl rfl
            obtain ⟨o6, h6, d6, p6, g6⟩ := op_at5 hops 6 rfl (d := some 19) (p := Op.fieldAddr 27 (Operand.tmp 2) 3) (g := some (3, false)) rfl rfl rfl
            obtain ⟨o7, h7, d7, p7, g7⟩ := op_at5 hops 7 rfl (d := some 20) (p := Op.load 3 (Operand.tmp 19)) (g := some (3, false)) rfl rfl rfl
            obtain ⟨o8, h8, d8, p8, g8⟩ := op_at5 hops 8 rfl (d := some 21) (p := Op.binOp BinOp.gtr 3 (Operand.tmp 18) (Operand.tmp 20) 3) (g := some (3, false)) rfl rfl rfl
            obtain ⟨o9, h9, d9, p9, g9⟩ := op_at5 hops 9 rfl (d := some 22) (p := Op.pick (Operand.tmp 16) (Operand.const (Value.bool true)) (Operand.tmp 21)) (g := none) rfl rfl rfl
            obtain ⟨o10, h10, d10, p10, g10⟩ := op_at5 hops 10 rfl (d := some 23) (p := Op.move (Operand.tmp 22)) (g := none) rfl rfl rfl
            obtain ⟨o11, h11, d11, p11, g11⟩ := op_at5 hops 11 rfl (d := some 24) (p := Op.fieldAddr 27 (Operand.tmp 2) 4) (g := some (10, false)) rfl rfl rfl
            obtain ⟨o12, h12, d12, p12, g12⟩ := op_at5 hops 12 rfl (d := some 25) (p := Op.load 25 (Operand.tmp 24)) (g := some (10, false)) rfl rfl rfl
            obtain ⟨o13, h13, d13, p13, g13⟩ := op_at5 hops 13 rfl (d := some 26) (p := Op.fieldAddr 43 (Operand.tmp 5) 1) (g := some (10, false)) rfl rfl rfl
            obtain ⟨o14, h14, d14, p14, g14⟩ := op_at5 hops 14 rfl (d := some 27) (p := Op.load 3 (Operand.tmp 26)) (g := some (10, false)) rfl rfl rfl
            obtain ⟨o15, h15, d15, p15, g15⟩ := op_at5 hops 15 rfl (d := some 28) (p := Op.binOp BinOp.sub 3 (Operand.tmp 27) (Operand.const (Value.int IntKind.i64 1)) 3) (g := some (10, false)) rfl rfl rfl
            obtain ⟨o16, h16, d16, p16, g16⟩ := op_at5 hops 16 rfl (d := some 29) (p := Op.indexAddr 25 (Operand.tmp 25) (Operand.tmp 28)) (g := some (10, false)) rfl rfl rfl
            obtain ⟨o17, h17, d17, p17, g17⟩ := op_at5 hops 17 rfl (d := some 30) (p := Op.load 23 (Operand.tmp 29)) (g := some (10, false)) rfl rfl rfl
            obtain ⟨o18, h18, d18, p18, g18⟩ := op_at5 hops 18 rfl (d := some 31) (p := Op.load 43 (Operand.tmp 5)) (g := some (10, false)) rfl rfl rfl
            obtain ⟨o19, h19, d19, p19, g19⟩ := op_at5 hops 19 rfl (d := some 32) (p := Op.build 69 #[(0, Operand.tmp 31)]) (g := some (10, false)) rfl rfl rfl
            obtain ⟨o20, h20, d20, p20, g20⟩ := op_at5 hops 20 rfl (d := some 33) (p := Op.call { callee := Callee.value (Operand.func 38), args := #[Operand.tmp 32], argTypes := #[69] }) (g := some (10, false)) rfl rfl rfl
            obtain ⟨o21, h21, d21, p21, g21⟩ := op_at5 hops 21 rfl (d := some 34) (p := Op.binOp BinOp.neq 23 (Operand.tmp 30) (Operand.tmp 33) 23) (g := some (10, false)) rfl rfl rfl
            obtain ⟨o22, h22, d22, p22, g22⟩ := op_at5 hops 22 rfl (d := some 35) (p := Op.pick (Operand.tmp 23) (Operand.const (Value.bool true)) (Operand.tmp 34)) (g := none) rfl rfl rfl
            obtain ⟨o23, h23, d23, p23, g23⟩ := op_at5 hops 23 rfl (d := some 36) (p := Op.move (Operand.tmp 35)) (g := none) rfl rfl rfl
            obtain ⟨o24, h24, d24, p24, g24⟩ := op_at5 hops 24 rfl (d := some 37) (p := Op.move (Operand.tmp 0)) (g := some (23, true)) rfl rfl rfl
            obtain ⟨o25, h25, d25, p25, g25⟩ := op_at5 hops 25 rfl (d := some 38) (p := Op.move (Operand.tmp 4)) (g := some (23, true)) rfl rfl rfl
            obtain ⟨o26, h26, d26, p26, g26⟩ := op_at5 hops 26 rfl (d := some 39) (p := Op.call { callee := Callee.value (Operand.tmp 37), args := #[Operand.tmp 38], argTypes := #[3] }) (g := some (23, true)) rfl rfl rfl
            obtain ⟨o27, h27, d27, p27, g27⟩ := op_at5 hops 27 rfl (d := some 40) (p := Op.unOp UnOp.not 4 (Operand.tmp 39)) (g := some (23, true)) rfl rfl rfl
            obtain ⟨o28, h28, d28, p28, g28⟩ := op_at5 hops 28 rfl (d := some 41) (p := Op.pick (Operand.tmp 36) (Operand.tmp 40) (Operand.const (Value.bool false))) (g := none) rfl rfl rfl
            refine wpAnyInT_take wideFn rfl (i := 0) (v := .pointer (some ⟨wr.heap.size, 1, none⟩)) [0, 1, 2, 3, 4, 5, 6, 7, 8, 9, 10, 11, 12, 13, 14, 15, 16, 17, 18, 19, 20, 21, 22, 23, 24, 25, 26, 27, 28] h0 HNS (by rw [hops]; kernel_rfl) (by rw [hops]; kernel_rfl) (by rw [hops]; kernel_rfl) (fun _ _ _ => NormalOnly.hQ _ _ _) (Or.inl ⟨(wanted_none g0), fun w' _ => by unfold execOp; rw [p0]; first | rfl | kernel_rfl⟩) hHeld ?_
            rw [d0]
            simp only [Act.put, List.setIfInBounds_toArray, List.set_cons_zero, List.set_cons_succ]
            refine wpAnyInT_take wideFn rfl (i := 1) (v := .int .i64 x.s.ix) [1, 2, 3, 4, 5, 6, 7, 8, 9, 10, 11, 12, 13, 14, 15, 16, 17, 18, 19, 20, 21, 22, 23, 24, 25, 26, 27, 28] h1 HNS (by rw [hops]; kernel_rfl) (by rw [hops]; kernel_rfl) (by rw [hops]; kernel_rfl) (fun _ _ _ => NormalOnly.hQ _ _ _) (Or.inl ⟨(wanted_none g1), fun w' h => run_op_load_cell 3 _ p1 wr.heap.size 1 (by rfl) _ h.1 _ Tryd.underlying3 rfl⟩) hHeld ?_
            rw [d1]
            simp only [Act.put, List.setIfInBounds_toArray, List.set_cons_zero, List.set_cons_succ]
            refine wpAnyInT_take wideFn rfl (i := 2) (v := .bool false) [2, 3, 4, 5, 6, 7, 8, 9, 10, 11, 12, 13, 14, 15, 16, 17, 18, 19, 20, 21, 22, 23, 24, 25, 26, 27, 28] h2 HNS (by rw [hops]; kernel_rfl) (by rw [hops]; kernel_rfl) (by rw [hops]; kernel_rfl) (fun _ _ _ => NormalOnly.hQ _ _ _) (Or.inl ⟨(wanted_none g2), fun w' _ => (show _ = Result.ok (.value (.bool (decide (x.s.ix < 1)))) w' from by unfold execOp; rw [p2]; first | rfl | kernel_rfl).trans (by rw [hd0])⟩) hHeld ?_
            rw [d2]
            simp only [Act.put, List.setIfInBounds_toArray, List.set_cons_zero, List.set_cons_succ]
            refine wpAnyInT_take wideFn rfl (i := 3) (v := .bool false) [3, 4, 5, 6, 7, 8, 9, 10, 11, 12, 13, 14, 15, 16, 17, 18, 19, 20, 21, 22, 23, 24, 25, 26, 27, 28] h3 HNS (by rw [hops]; kernel_rfl) (by rw [hops]; kernel_rfl) (by rw [hops]; kernel_rfl) (fun _ _ _ => NormalOnly.hQ _ _ _) (Or.inl ⟨(wanted_none g3), fun w' _ => by unfold execOp; rw [p3]; first | rfl | kernel_rfl⟩) hHeld ?_
            rw [d3]
            simp only [Act.put, List.setIfInBounds_toArray, List.set_cons_zero, List.set_cons_succ]
            refine wpAnyInT_take wideFn rfl (i := 4) (v := .pointer (some ⟨wr.heap.size, 1, none⟩)) [4, 5, 8, 9, 10, 11, 12, 13, 14, 15, 16, 17, 18, 19, 20, 21, 22, 23, 24, 25, 26, 27, 28] h4 HNS (by rw [hops]; kernel_rfl) (by rw [hops]; kernel_rfl) (by rw [hops]; kernel_rfl) (fun _ _ _ => NormalOnly.hQ _ _ _) (Or.inl ⟨(wanted_some g4 h3 d3 (by rfl)), fun w' _ => by unfold execOp; rw [p4]; first | rfl | kernel_rfl⟩) hHeld ?_
            rw [d4]
            simp only [Act.put, List.setIfInBounds_toArray, List.set_cons_zero, List.set_cons_succ]
            refine wpAnyInT_take wideFn rfl (i := 5) (v := .int .i64 x.s.ix) [5, 8, 9, 10, 11, 12, 13, 14, 15, 16, 17, 18, 19, 20, 21, 22, 23, 24, 25, 26, 27, 28] h5 HNS (by rw [hops]; kernel_rfl) (by rw [hops]; kernel_rfl) (by rw [hops]; kernel_rfl) (fun _ _ _ => NormalOnly.hQ _ _ _) (Or.inl ⟨(wanted_some g5 h3 d3 (by rfl)), fun w' h => run_op_load_cell 3 _ p5 wr.heap.size 1 (by rfl) _ h.1 _ Tryd.underlying3 rfl⟩) hHeld ?_
            rw [d5]
            simp only [Act.put, List.setIfInBounds_toArray, List.set_cons_zero, List.set_cons_succ]
            refine wpAnyInT_take wideFn rfl (i := 6) (v := .pointer (some ⟨gs, 34, none⟩)) [6, 7, 8, 9, 10, 11, 12, 13, 14, 15, 16, 17, 18, 19, 20, 21, 22, 23, 24, 25, 26, 27, 28] h6 HNS (by rw [hops]; kernel_rfl) (by rw [hops]; kernel_rfl) (by rw [hops]; kernel_rfl) (fun _ _ _ => NormalOnly.hQ _ _ _) (Or.inl ⟨(wanted_some g6 h3 d3 (by rfl)), fun w' _ => by unfold execOp; rw [p6]; first | rfl | kernel_rfl⟩) hHeld ?_
            rw [d6]
            simp only [Act.put, List.setIfInBounds_toArray, List.set_cons_zero, List.set_cons_succ]
            refine wpAnyInT_take wideFn rfl (i := 7) (v := .int .i64 s.mn) [7, 8, 9, 10, 11, 12, 13, 14, 15, 16, 17, 18, 19, 20, 21, 22, 23, 24, 25, 26, 27, 28] h7 HNS (by rw [hops]; kernel_rfl) (by rw [hops]; kernel_rfl) (by rw [hops]; kernel_rfl) (fun _ _ _ => NormalOnly.hQ _ _ _) (Or.inl ⟨(wanted_some g7 h3 d3 (by rfl)), fun w' h => run_op_load_cell 3 _ p7 gs 34 (by rfl) _ h.2.1 _ Tryd.underlying3 rfl⟩) hHeld ?_
            rw [d7]
            simp only [Act.put, List.setIfInBounds_toArray, List.set_cons_zero, List.set_cons_succ]
            refine wpAnyInT_take wideFn rfl (i := 8) (v := .bool true) [8, 9, 10, 11, 12, 13, 14, 15, 16, 17, 18, 19, 20, 21, 22, 23, 24, 25, 26, 27, 28] h8 HNS (by rw [hops]; kernel_rfl) (by rw [hops]; kernel_rfl) (by rw [hops]; kernel_rfl) (fun _ _ _ => NormalOnly.hQ _ _ _) (Or.inl ⟨(wanted_some g8 h3 d3 (by rfl)), fun w' _ => (show _ = Result.ok (.value (.bool (decide (s.mn < x.s.ix)))) w' from by unfold execOp; rw [p8]; first | rfl | kernel_rfl).trans (by rw [hd1])⟩) hHeld ?_
            rw [d8]
            simp only [Act.put, List.setIfInBounds_toArray, List.set_cons_zero, List.set_cons_succ]
            refine wpAnyInT_take wideFn rfl (i := 9) (v := .bool true) [9, 10, 11, 12, 13, 14, 15, 16, 17, 18, 19, 20, 21, 22, 23, 24, 25, 26, 27, 28] h9 HNS (by rw [hops]; kernel_rfl) (by rw [hops]; kernel_rfl) (by rw [hops]; kernel_rfl) (fun _ _ _ => NormalOnly.hQ _ _ _) (Or.inl ⟨(wanted_none g9), fun w' _ => by unfold execOp; rw [p9]; first | rfl | kernel_rfl⟩) hHeld ?_
            rw [d9]
            simp only [Act.put, List.setIfInBounds_toArray, List.set_cons_zero, List.set_cons_succ]
            refine wpAnyInT_take wideFn rfl (i := 10) (v := .bool true) [10, 11, 12, 13, 14, 15, 16, 17, 18, 19, 20, 21, 22, 23, 24, 25, 26, 27, 28] h10 HNS (by rw [hops]; kernel_rfl) (by rw [hops]; kernel_rfl) (by rw [hops]; kernel_rfl) (fun _ _ _ => NormalOnly.hQ _ _ _) (Or.inl ⟨(wanted_none g10), fun w' _ => by unfold execOp; rw [p10]; first | rfl | kernel_rfl⟩) hHeld ?_
            rw [d10]
            simp only [Act.put, List.setIfInBounds_toArray, List.set_cons_zero, List.set_cons_succ]
            refine wpAnyInT_take wideFn rfl (i := 11) (v := undef) [11, 12, 16, 17, 21, 22, 23, 24, 25, 26, 27, 28] h11 HNS (by rw [hops]; kernel_rfl) (by rw [hops]; kernel_rfl) (by rw [hops]; kernel_rfl) (fun _ _ _ => NormalOnly.hQ _ _ _) (Or.inr ⟨(unwanted_some g11 h10 d10 (by rfl)), rfl⟩) hHeld ?_
            rw [d11]
            simp only [Act.put, List.setIfInBounds_toArray, List.set_cons_zero, List.set_cons_succ]
            refine wpAnyInT_take wideFn rfl (i := 12) (v := undef) [12, 16, 17, 21, 22, 23, 24, 25, 26, 27, 28] h12 HNS (by rw [hops]; kernel_rfl) (by rw [hops]; kernel_rfl) (by rw [hops]; kernel_rfl) (fun _ _ _ => NormalOnly.hQ _ _ _) (Or.inr ⟨(unwanted_some g12 h10 d10 (by rfl)), rfl⟩) hHeld ?_
            rw [d12]
            simp only [Act.put, List.setIfInBounds_toArray, List.set_cons_zero, List.set_cons_succ]
            refine wpAnyInT_take wideFn rfl (i := 13) (v := undef) [13, 14, 15, 16, 17, 21, 22, 23, 24, 25, 26, 27, 28] h13 HNS (by rw [hops]; kernel_rfl) (by rw [hops]; kernel_rfl) (by rw [hops]; kernel_rfl) (fun _ _ _ => NormalOnly.hQ _ _ _) (Or.inr ⟨(unwanted_some g13 h10 d10 (by rfl)), rfl⟩) hHeld ?_
            rw [d13]
            simp only [Act.put, List.setIfInBounds_toArray, List.set_cons_zero, List.set_cons_succ]
            refine wpAnyInT_take wideFn rfl (i := 14) (v := undef) [14, 15, 16, 17, 21, 22, 23, 24, 25, 26, 27, 28] h14 HNS (by rw [hops]; kernel_rfl) (by rw [hops]; kernel_rfl) (by rw [hops]; kernel_rfl) (fun _ _ _ => NormalOnly.hQ _ _ _) (Or.inr ⟨(unwanted_some g14 h10 d10 (by rfl)), rfl⟩) hHeld ?_
            rw [d14]
            simp only [Act.put, List.setIfInBounds_toArray, List.set_cons_zero, List.set_cons_succ]
            refine wpAnyInT_take wideFn rfl (i := 15) (v := undef) [15, 16, 17, 21, 22, 23, 24, 25, 26, 27, 28] h15 HNS (by rw [hops]; kernel_rfl) (by rw [hops]; kernel_rfl) (by rw [hops]; kernel_rfl) (fun _ _ _ => NormalOnly.hQ _ _ _) (Or.inr ⟨(unwanted_some g15 h10 d10 (by rfl)), rfl⟩) hHeld ?_
            rw [d15]
            simp only [Act.put, List.setIfInBounds_toArray, List.set_cons_zero, List.set_cons_succ]
            refine wpAnyInT_take wideFn rfl (i := 16) (v := undef) [16, 17, 21, 22, 23, 24, 25, 26, 27, 28] h16 HNS (by rw [hops]; kernel_rfl) (by rw [hops]; kernel_rfl) (by rw [hops]; kernel_rfl) (fun _ _ _ => NormalOnly.hQ _ _ _) (Or.inr ⟨(unwanted_some g16 h10 d10 (by rfl)), rfl⟩) hHeld ?_
            rw [d16]
            simp only [Act.put, List.setIfInBounds_toArray, List.set_cons_zero, List.set_cons_succ]
            refine wpAnyInT_take wideFn rfl (i := 17) (v := undef) [17, 21, 22, 23, 24, 25, 26, 27, 28] h17 HNS (by rw [hops]; kernel_rfl) (by rw [hops]; kernel_rfl) (by rw [hops]; kernel_rfl) (fun _ _ _ => NormalOnly.hQ _ _ _) (Or.inr ⟨(unwanted_some g17 h10 d10 (by rfl)), rfl⟩) hHeld ?_
            rw [d17]
            simp only [Act.put, List.setIfInBounds_toArray, List.set_cons_zero, List.set_cons_succ]
            refine wpAnyInT_take wideFn rfl (i := 18) (v := undef) [18, 19, 20, 21, 22, 23, 24, 25, 26, 27, 28] h18 HNS (by rw [hops]; kernel_rfl) (by rw [hops]; kernel_rfl) (by rw [hops]; kernel_rfl) (fun _ _ _ => NormalOnly.hQ _ _ _) (Or.inr ⟨(unwanted_some g18 h10 d10 (by rfl)), rfl⟩) hHeld ?_
            rw [d18]
            simp only [Act.put, List.setIfInBounds_toArray, List.set_cons_zero, List.set_cons_succ]
            refine wpAnyInT_take wideFn rfl (i := 19) (v := undef) [19, 20, 21, 22, 23, 24, 25, 26, 27, 28] h19 HNS (by rw [hops]; kernel_rfl) (by rw [hops]; kernel_rfl) (by rw [hops]; kernel_rfl) (fun _ _ _ => NormalOnly.hQ _ _ _) (Or.inr ⟨(unwanted_some g19 h10 d10 (by rfl)), rfl⟩) hHeld ?_
            rw [d19]
            simp only [Act.put, List.setIfInBounds_toArray, List.set_cons_zero, List.set_cons_succ]
            refine wpAnyInT_take wideFn rfl (i := 20) (v := undef) [20, 21, 22, 23, 24, 25, 26, 27, 28] h20 HNS (by rw [hops]; kernel_rfl) (by rw [hops]; kernel_rfl) (by rw [hops]; kernel_rfl) (fun _ _ _ => NormalOnly.hQ _ _ _) (Or.inr ⟨(unwanted_some g20 h10 d10 (by rfl)), rfl⟩) hHeld ?_
            rw [d20]
            simp only [Act.put, List.setIfInBounds_toArray, List.set_cons_zero, List.set_cons_succ]
            refine wpAnyInT_take wideFn rfl (i := 21) (v := undef) [21, 22, 23, 24, 25, 26, 27, 28] h21 HNS (by rw [hops]; kernel_rfl) (by rw [hops]; kernel_rfl) (by rw [hops]; kernel_rfl) (fun _ _ _ => NormalOnly.hQ _ _ _) (Or.inr ⟨(unwanted_some g21 h10 d10 (by rfl)), rfl⟩) hHeld ?_
            rw [d21]
            simp only [Act.put, List.setIfInBounds_toArray, List.set_cons_zero, List.set_cons_succ]
            refine wpAnyInT_take wideFn rfl (i := 22) (v := .bool true) [22, 23, 24, 25, 26, 27, 28] h22 HNS (by rw [hops]; kernel_rfl) (by rw [hops]; kernel_rfl) (by rw [hops]; kernel_rfl) (fun _ _ _ => NormalOnly.hQ _ _ _) (Or.inl ⟨(wanted_none g22), fun w' _ => by unfold execOp; rw [p22]; first | rfl | kernel_rfl⟩) hHeld ?_
            rw [d22]
            simp only [Act.put, List.setIfInBounds_toArray, List.set_cons_zero, List.set_cons_succ]
            refine wpAnyInT_take wideFn rfl (i := 23) (v := .bool true) [23, 24, 25, 26, 27, 28] h23 HNS (by rw [hops]; kernel_rfl) (by rw [hops]; kernel_rfl) (by rw [hops]; kernel_rfl) (fun _ _ _ => NormalOnly.hQ _ _ _) (Or.inl ⟨(wanted_none g23), fun w' _ => by unfold execOp; rw [p23]; first | rfl | kernel_rfl⟩) hHeld ?_
            rw [d23]
            simp only [Act.put, List.setIfInBounds_toArray, List.set_cons_zero, List.set_cons_succ]
            refine wpAnyInT_take wideFn rfl (i := 24) (v := .func (.yield L) #[] #[]) [24, 26, 27, 28] h24 HNS (by rw [hops]; kernel_rfl) (by rw [hops]; kernel_rfl) (by rw [hops]; kernel_rfl) (fun _ _ _ => NormalOnly.hQ _ _ _) (Or.inl ⟨(wanted_some g24 h23 d23 (by rfl)), fun w' _ => by unfold execOp; rw [p24]; first | rfl | kernel_rfl⟩) hHeld ?_
            rw [d24]
            simp only [Act.put, List.setIfInBounds_toArray, List.set_cons_zero, List.set_cons_succ]
            refine wpAnyInT_take wideFn rfl (i := 25) (v := .int .i64 (k : Int)) [25, 26, 27, 28] h25 HNS (by rw [hops]; kernel_rfl) (by rw [hops]; kernel_rfl) (by rw [hops]; kernel_rfl) (fun _ _ _ => NormalOnly.hQ _ _ _) (Or.inl ⟨(wanted_some g25 h23 d23 (by rfl)), fun w' _ => by unfold execOp; rw [p25]; first | rfl | kernel_rfl⟩) hHeld ?_
            rw [d25]
            simp only [Act.put, List.setIfInBounds_toArray, List.set_cons_zero, List.set_cons_succ]
            refine wpAnyInT_one (by rw [hops]; kernel_rfl) h26 (wanted_some g26 h23 d23 (by rfl)) (fun K hK => ?_)
            refine wpIn_yield1 wideFn rfl (by omega) L _ _ _ (.int .i64 (k : Int)) _ p26 (by rfl) (by rfl) (HY.out _ k W2.drew (HJ2.out _ s0) HLEN.out) ?_
            rintro e W3 (⟨rfl, hJ3, hk3⟩ | ⟨rfl, hJx3⟩)
            · refine ⟨_, rfl, ?_⟩
              rw [d26]
              simp only [Act.put, List.setIfInBounds_toArray, List.set_cons_zero, List.set_cons_succ]
              refine hK.out _ _ (fun h => absurd (by decide) h) ?_
              refine wpAnyInT_one (by rw [hops]; kernel_rfl) h27 (wanted_some g27 h23 d23 (by rfl)) (fun K2 hK2 => ?_)
              refine wpIn_runG wideFn rfl (v := .bool false) (w' := W3) (by unfold execOp; rw [p27]; first | rfl | kernel_rfl) ?_
              rw [d27]
              simp only [Act.put, List.setIfInBounds_toArray, List.set_cons_zero, List.set_cons_succ]
              refine hK2.out _ _ (fun h => absurd (by decide) h) ?_
              refine wpAnyInT_one (by rw [hops]; kernel_rfl) h28 (wanted_none g28) (fun K3 hK3 => ?_)
              refine wpIn_runG wideFn rfl (v := .bool false) (w' := W3) (by unfold execOp; rw [p28]; first | rfl | kernel_rfl) ?_
              rw [d28]
              simp only [Act.put, List.setIfInBounds_toArray, List.set_cons_zero, List.set_cons_succ]
              refine hK3.out _ _ (fun h => absurd (by decide) h) ?_
              refine wpAnyInT_done (by rw [hops]; kernel_rfl) ⟨rfl, _, _, _, _, _, _, _, _, _, _, _, _, _, _, _, _, _, _, _, _, _, _, _, _, _, _, _, _, _, _, _, _, _, rfl, .inl ⟨rfl, HS1.out ▸ hJ3, (HK2.out _ s0).trans hk3⟩⟩ _
            · refine ⟨_, rfl, ?_⟩
              rw [d26]
              simp only [Act.put, List.setIfInBounds_toArray, List.set_cons_zero, List.set_cons_succ]
              refine hK.out _ _ (fun h => absurd (by decide) h) ?_
              refine wpAnyInT_one (by rw [hops]; kernel_rfl) h27 (wanted_some g27 h23 d23 (by rfl)) (fun K2 hK2 => ?_)
              refine wpIn_runG wideFn rfl (v := .bool true) (w' := W3) (by unfold execOp; rw [p27]; first | rfl | kernel_rfl) ?_
              rw [d27]
              simp only [Act.put, List.setIfInBounds_toArray, List.set_cons_zero, List.set_cons_succ]
              refine hK2.out _ _ (fun h => absurd (by decide) h) ?_
              refine wpAnyInT_one (by rw [hops]; kernel_rfl) h28 (wanted_none g28) (fun K3 hK3 => ?_)
              refine wpIn_runG wideFn rfl (v := .bool true) (w' := W3) (by unfold execOp; rw [p28]; first | rfl | kernel_rfl) ?_
              rw [d28]
              simp only [Act.put, List.setIfInBounds_toArray, List.set_cons_zero, List.set_cons_succ]
              refine hK3.out _ _ (fun h => absurd (by decide) h) ?_
              refine wpAnyInT_done (by rw [hops]; kernel_rfl) ⟨rfl, _, _, _, _, _, _, _, _, _, _, _, _, _, _, _, _, _, _, _, _, _, _, _, _, _, _, _, _, _, _, _, _, _, rfl, .inr ⟨rfl, HS1.out ▸ hJx3⟩⟩ _
          · have hd1 : decide (s.mn < x.s.ix) = false := decide_eq_false c1
            have hmn := HMK.out
            have hri := (HXW.out x HXM.out).2.1
            unfold Rc.in64 at hri
            have h8 := HM8.out
            obtain ⟨j, hj⟩ : ∃ j : Nat, (x.s.ix - 1).toNat = j := ⟨_, rfl⟩
            have hjl : j < s.ms.length := by omega
            have HJL := Lib.hid hjl
            have HJ1 := Lib.hid (show IntKind.i64.wrap (x.s.ix - 1) = (j : Int) from by rw [IntWalk.i64_in _ (by omega)]; omega)
            obtain ⟨bm, om, rfl, hbm, hrm, hm32⟩ := (HS.out.keep HWW2.out).mark j hjl
            obtain ⟨M, hM⟩ : ∃ M, s.ms.getD j [] = M := ⟨_, rfl⟩
            rw [hM] at hrm hm32
            have HBD := Lib.hid (show Sl.bad s x.s = !(M == Sl.mark x.s) from by unfold Sl.bad; rw [hd0, hd1, hj, hM]; rfl)
            have HM32 := Lib.hid hm32
            have HM32b := Lib.hid (show (Tryd.prog.info? 23).map (·.size) = some (M.map Dg.b8).length from by rw [List.length_map, hm32]; exact Sl.infoD)
            have HRM := Lib.hid hrm
            have HBM := Lib.hid hbm
            have KP := Lib.hid (fun (w' : World) (h : Below W2.heap.size W2 w') => (⟨(KP.out w' h).1, (KP.out w' h).2.1, (h.cell (p := ⟨gs, 35, none⟩) HGS2.out.lt).trans x3, fun i v hv => (h.cell (p := ⟨bm, om + j * 32 + i, none⟩) HBM.out).trans (HRM.out i v hv), fun i v hv => by rw [Nat.zero_add]; exact ((HX2.out.keep h).cell i).trans hv, h⟩ : w'.cell? ⟨wr.heap.size, 1, none⟩ = some (.int .i64 x.s.ix) ∧ w'.cell? ⟨gs, 34, none⟩ = some (.int .i64 s.mn) ∧ w'.cell? ⟨gs, 35, none⟩ = some (.slice (some ⟨bm, om, none⟩) s.ms.length cA) ∧ w'.rangeAt bm (om + j * 32) (M.map Dg.b8) ∧ w'.rangeAt wr.heap.size 0 x.cells ∧ Below W2.heap.size W2 w'))
            have HEN := Lib.hid (enters_of Tryd.func38 (by kernel_rfl) rfl)
            have HMA := Lib.hid (fun (w' : World) (h : Below W2.heap.size W2 w') => (Sl.mark_any x.s x.A x.c w' (HOK.out.rd.keep (HB2.out.trans (h.mono HB2.out.size))) (HDL.out x HXM.out) (HXW.out x HXM.out).1 (HXW.out x HXM.out).2.1 (HXW.out x HXM.out).2.2.1 (HXW.out x HXM.out).2.2.2 (HG.out.keep (HWW2.out.trans (h.mono HWW2.out.size)))))
            clear hmn hri h8 hj hjl hbm hrm hm32 hM x3
            by_cases c2 : M = Sl.mark x.s
            · have HEQ := Lib.hid (show (!(M == Sl.mark x.s)) = false from by rw [c2]; simp)
              have HS1 := Lib.hid (show Sl.altp s (Shr.vals xs) (k + 1) = Sl.altp s (Shr.vals xs) k from by rw [HSN.out, if_neg (by rw [HBD.out, HEQ.out]; decide), List.append_nil])
              have HJ2 := Lib.hid (fun (w' : World) (h : Below W2.heap.size W2 w') => (show J (Sl.altp s (Shr.vals xs) (k + 1)) w' from by rw [HS1.out]; exact HJ2.out w' h))
              clear HLB HSB c2
              refine wpIn_region_named (fun ops hops => ?_)
              refine wpIn_region_T (by kernel_rfl) [] (fun w' => w'.cell? ⟨wr.heap.size, 1, none⟩ = some (.int .i64 x.s.ix) ∧ w'.cell? ⟨gs, 34, none⟩ = some (.int .i64 s.mn) ∧ w'.cell? ⟨gs, 35, none⟩ = some (.slice (some ⟨bm, om, none⟩) s.ms.length cA) ∧ w'.rangeAt bm (om + j * 32) (M.map Dg.b8) ∧ w'.rangeAt wr.heap.size 0 x.cells ∧ Below W2.heap.size W2 w') ?_
              rw [show ops.size = 29 from by rw [hops]; rfl]
              have HNS : Region.noSelect ops = true := by rw [hops]; kernel_rfl
              have hHeld := KP.out _ s0
              obtain ⟨o0, h0, d0, p0, g0⟩ := op_at5 hops 0 rfl (d := some 13) (p := Op.fieldAddr 43 (Operand.tmp 5) 1) (g := none) rfl rfl rfl
              obtain ⟨o1, h1, d1, p1, g1⟩ := op_at5 hops 1 rfl (d := some 14) (p := Op.load 3 (Operand.tmp 13)) (g := none) rfl rfl rfl
              obtain ⟨o2, h2, d2, p2, g2⟩ := op_at5 hops 2 rfl (d := some 15) (p := Op.binOp BinOp.lss 3 (Operand.tmp 14) (Operand.const (Value.int IntKind.i64 1)) 3) (g := none) rfl rfl rfl
              obtain ⟨o3, h3, d3, p3, g3⟩ := op_at5 hops 3 rfl (d := some 16) (p := Op.move (Operand.tmp 15)) (g := none) rfl rfl rfl
              obtain ⟨o4, h4, d4, p4, g4⟩ := op_at5 hops 4 rfl (d := some 17) (p := Op.fieldAddr 43 (Operand.tmp 5) 1) (g := some (3, false)) rfl rfl rfl
              obtain ⟨o5, h5, d5, p5, g5⟩ := op_at5 hops 5 rfl (d := some 18) (p := Op.load 3 (Operand.tmp 17)) (g := some (3, false)) rfl rfl rfl
              obtain ⟨o6, h6, d6, p6, g6⟩ := op_at5 hops 6 rfl (d := some 19) (p := Op.fieldAddr 27 (Operand.tmp 2) 3) (g := some (3, false)) rfl rfl rfl
              obtain ⟨o7, h7, d7, p7, g7⟩ := op_at5 hops 7 rfl (d := some 20) (p := Op.load 3 (Operand.tmp 19)) (g := some (3, false)) rfl rfl rfl
              obtain ⟨o8, h8, d8, p8, g8⟩ := op_at5 hops 8 rfl (d := some 21) (p := Op.binOp BinOp.gtr 3 (Operand.tmp 18) (Operand.tmp 20) 3) (g := some (3, false)) rfl rfl rfl
              obtain ⟨o9, h9, d9, p9, g9⟩ := op_at5 hops 9 rfl (d := some 22) (p := Op.pick (Operand.tmp 16) (Operand.const (Value.bool true)) (Operand.tmp 21)) (g := none) rfl rfl rfl
              obtain ⟨o10, h10, d10, p10, g10⟩ := op_at5 hops 10 rfl (d := some 23) (p := Op.move (Operand.tmp 22)) (g := none) rfl rfl rfl
              obtain ⟨o11, h11, d11, p11, g11⟩ := op_at5 hops 11 rfl (d := some 24) (p := Op.fieldAddr 27 (Operand.tmp 2) 4) (g := some (10, false)) rfl rfl rfl
              obtain ⟨o12, h12, d12, p12, g12⟩ := op_at5 hops 12 rfl (d := some 25) (p := Op.load 25 (Operand.tmp 24)) (g := some (10, false)) rfl rfl rfl
              obtain ⟨o13, h13, d13, p13, g13⟩ := op_at5 hops 13 rfl (d := some 26) (p := Op.fieldAddr 43 (Operand.tmp 5) 1) (g := some (10, false)) rfl rfl rfl
              obtain ⟨o14, h14, d14, p14, g14⟩ := op_at5 hops 14 rfl (d := some 27) (p := Op.load 3 (Operand.tmp 26)) (g := some (10, false)) rfl rfl rfl
              obtain ⟨o15, h15, d15, p15, g15⟩ := op_at5 hops 15 rfl (d := some 28) (p := Op.binOp BinOp.sub 3 (Operand.tmp 27) (Operand.const (Value.int IntKind.i64 1)) 3) (g := some (10, false)) rfl rfl rfl
              obtain ⟨o16, h16, d16, p16, g16⟩ := op_at5 hops 16 rfl (d := some 29) (p := Op.indexAddr 25 (Operand.tmp 25) (Operand.tmp 28)) (g := some (10, false)) rfl rfl rfl
              obtain ⟨o17, h17, d17, p17, g17⟩ := op_at5 hops 17 rfl (d := some 30) (p := Op.load 23 (Operand.tmp 29)) (g := some (10, false)) rfl rfl rfl
              obtain ⟨o18, h18, d18, p18, g18⟩ := op_at5 hops 18 rfl (d := some 31) (p := Op.load 43 (Operand.tmp 5)) (g := some (10, false)) rfl rfl rfl
              obtain ⟨o19, h19, d19, p19, g19⟩ := op_at5 hops 19 rfl (d := some 32) (p := Op.build 69 #[(0, Operand.tmp 31)]) (g := some (10, false)) rfl rfl rfl
              obtain ⟨o20, h20, d20, p20, g20⟩ := op_at5 hops 20 rfl (d := some 33) (p := Op.call { callee := Callee.value (Operand.func 38), args := #[Operand.tmp 32], argTypes := #[69] }) (g := some (10, false)) rfl rfl rfl
              obtain ⟨o21, h21, d21, p21, g21⟩ := op_at5 hops 21 rfl (d := some 34) (p := Op.binOp BinOp.neq 23 (Operand.tmp 30) (Operand.tmp 33) 23) (g := some (10, false)) rfl rfl rfl
              obtain ⟨o22, h22, d22, p22, g22⟩ := op_at5 hops 22 rfl (d := some 35) (p := Op.pick (Operand.tmp 23) (Operand.const (Value.bool true)) (Operand.tmp 34)) (g := none) rfl rfl rfl
              obtain ⟨o23, h23, d23, p23, g23⟩ := op_at5 hops 23 rfl (d := some 36) (p := Op.move (Operand.tmp 35)) (g := none) rfl rfl rfl
              obtain ⟨o24, h24, d24, p24, g24⟩ := op_at5 hops 24 rfl (d := some 37) (p := Op.move (Operand.tmp 0)) (g := some (23, true)) rfl rfl rfl
              obtain ⟨o25, h25, d25, p25, g25⟩ := op_at5 hops 25 rfl (d := some 38) (p := Op.move (Operand.tmp 4)) (g := some (23, true)) rfl rfl rfl
              obtain ⟨o26, h26, d26, p26, g26⟩ := op_at5 hops 26 rfl (d := some 39) (p := Op.call { callee := Callee.value (Operand.tmp 37), args := #[Operand.tmp 38], argTypes := #[3] }) (g := some (23, true)) rfl rfl rfl
              obtain ⟨o27, h27, d27, p27, g27⟩ := op_at5 hops 27 rfl (d := some 40) (p := Op.unOp UnOp.not 4 (Operand.tmp 39)) (g := some (23, true)) rfl rfl rfl
              obtain ⟨o28, h28, d28, p28, g28⟩ := op_at5 hops 28 rfl (d := some 41) (p := Op.pick (Operand.tmp 36) (Operand.tmp 40) (Operand.const (Value.bool false))) (g := none) rfl rfl rfl
              refine wpAnyInT_take wideFn rfl (i := 0) (v := .pointer (some ⟨wr.heap.size, 1, none⟩)) [0, 1, 2, 3, 4, 5, 6, 7, 8, 9, 10, 11, 12, 13, 14, 15, 16, 17, 18, 19, 20, 21, 22, 23, 24, 25, 26, 27, 28] h0 HNS (by rw [hops]; kernel_rfl) (by rw [hops]; kernel_rfl) (by rw [hops]; kernel_rfl) (fun _ _ _ => NormalOnly.hQ _ _ _) (Or.inl ⟨(wanted_none g0), fun w' _ => by unfold execOp; rw [p0]; first | rfl | kernel_rfl⟩) hHeld ?_
              rw [d0]
              simp only [Act.put, List.setIfInBounds_toArray, List.set_cons_zero, List.set_cons_succ]
              refine wpAnyInT_take wideFn rfl (i := 1) (v := .int .i64 x.s.ix) [1, 2, 3, 4, 5, 6, 7, 8, 9, 10, 11, 12, 13, 14, 15, 16, 17, 18, 19, 20, 21, 22, 23, 24, 25, 26, 27, 28] h1 HNS (by rw [hops]; kernel_rfl) (by rw [hops]; kernel_rfl) (by rw [hops]; kernel_rfl) (fun _ _ _ => NormalOnly.hQ _ _ _) (Or.inl ⟨(wanted_none g1), fun w' h => run_op_load_cell 3 _ p1 wr.heap.size 1 (by rfl) _ h.1 _ Tryd.underlying3 rfl⟩) hHeld ?_
              rw [d1]
              simp only [Act.put, List.setIfInBounds_toArray, List.set_cons_zero, List.set_cons_succ]
              refine wpAnyInT_take wideFn rfl (i := 2) (v := .bool false) [2, 3, 4, 5, 6, 7, 8, 9, 10, 11, 12, 13, 14, 15, 16, 17, 18, 19, 20, 21, 22, 23, 24, 25, 26, 27, 28] h2 HNS (by rw [hops]; kernel_rfl) (by rw [hops]; kernel_rfl) (by rw [hops]; kernel_rfl) (fun _ _ _ => NormalOnly.hQ _ _ _) (Or.inl ⟨(wanted_none g2), fun w' _ => (show _ = Result.ok (.value (.bool (decide (x.s.ix < 1)))) w' from by unfold execOp; rw [p2]; first | rfl | kernel_rfl).trans (by rw [hd0])⟩) hHeld ?_
              rw [d2]
              simp only [Act.put, List.setIfInBounds_toArray, List.set_cons_zero, List.set_cons_succ]
              refine wpAnyInT_take wideFn rfl (i := 3) (v := .bool false) [3, 4, 5, 6, 7, 8, 9, 10, 11, 12, 13, 14, 15, 16, 17, 18, 19, 20, 21, 22, 23, 24, 25, 26, 27, 28] h3 HNS (by rw [hops]; kernel_rfl) (by rw [hops]; kernel_rfl) (by rw [hops]; kernel_rfl) (fun _ _ _ => NormalOnly.hQ _ _ _) (Or.inl ⟨(wanted_none g3), fun w' _ => by unfold execOp; rw [p3]; first | rfl | kernel_rfl⟩) hHeld ?_
              rw [d3]
              simp only [Act.put, List.setIfInBounds_toArray, List.set_cons_zero, List.set_cons_succ]
              refine wpAnyInT_take wideFn rfl (i := 4) (v := .pointer (some ⟨wr.heap.size, 1, none⟩)) [4, 5, 8, 9, 10, 11, 12, 13, 14, 15, 16, 17, 18, 19, 20, 21, 22, 23, 24, 25, 26, 27, 28] h4 HNS (by rw [hops]; kernel_rfl) (by rw [hops]; kernel_rfl) (by rw [hops]; kernel_rfl) (fun _ _ _ => NormalOnly.hQ _ _ _) (Or.inl ⟨(wanted_some g4 h3 d3 (by rfl)), fun w' _ => by unfold execOp; rw [p4]; first | rfl | kernel_rfl⟩) hHeld ?_
              rw [d4]
              simp only [Act.put, List.setIfInBounds_toArray, List.set_cons_zero, List.set_cons_succ]
              refine wpAnyInT_take wideFn rfl (i := 5) (v := .int .i64 x.s.ix) [5, 8, 9, 10, 11, 12, 13, 14, 15, 16, 17, 18, 19, 20, 21, 22, 23, 24, 25, 26, 27, 28] h5 HNS (by rw [hops]; kernel_rfl) (by rw [hops]; kernel_rfl) (by rw [hops]; kernel_rfl) (fun _ _ _ => NormalOnly.hQ _ _ _) (Or.inl ⟨(wanted_some g5 h3 d3 (by rfl)), fun w' h => run_op_load_cell 3 _ p5 wr.heap.size 1 (by rfl) _ h.1 _ Tryd.underlying3 rfl⟩) hHeld ?_
              rw [d5]
              simp only [Act.put, List.setIfInBounds_toArray, List.set_cons_zero, List.set_cons_succ]
              refine wpAnyInT_take wideFn rfl (i := 6) (v := .pointer (some ⟨gs, 34, none⟩)) [6, 7, 8, 9, 10, 11, 12, 13, 14, 15, 16, 17, 18, 19, 20, 21, 22, 23, 24, 25, 26, 27, 28] h6 HNS (by rw [hops]; kernel_rfl) (by rw [hops]; kernel_rfl) (by rw [hops]; kernel_rfl) (fun _ _ _ => NormalOnly.hQ _ _ _) (Or.inl ⟨(wanted_some g6 h3 d3 (by rfl)), fun w' _ => by unfold execOp; rw [p6]; first | rfl | kernel_rfl⟩) hHeld ?_
              rw [d6]
              simp only [Act.put, List.setIfInBounds_toArray, List.set_cons_zero, List.set_cons_succ]
              refine wpAnyInT_take wideFn rfl (i := 7) (v := .int .i64 s.mn) [7, 8, 9, 10, 11, 12, 13, 14, 15, 16, 17, 18, 19, 20, 21, 22, 23, 24, 25, 26, 27, 28] h7 HNS (by rw [hops]; kernel_rfl) (by rw [hops]; kernel_rfl) (by rw [hops]; kernel_rfl) (fun _ _ _ => NormalOnly.hQ _ _ _) (Or.inl ⟨(wanted_some g7 h3 d3 (by rfl)), fun w' h => run_op_load_cell 3 _ p7 gs 34 (by rfl) _ h.2.1 _ Tryd.underlying3 rfl⟩) hHeld ?_
              rw [d7]
              simp only [Act.put, List.setIfInBounds_toArray, List.set_cons_zero, List.set_cons_succ]
              refine wpAnyInT_take wideFn rfl (i := 8) (v := .bool false) [8, 9, 10, 11, 12, 13, 14, 15, 16, 17, 18, 19, 20, 21, 22, 23, 24, 25, 26, 27, 28] h8 HNS (by rw [hops]; kernel_rfl) (by rw [hops]; kernel_rfl) (by rw [hops]; kernel_rfl) (fun _ _ _ => NormalOnly.hQ _ _ _) (Or.inl ⟨(wanted_some g8 h3 d3 (by rfl)), fun w' _ => (show _ = Result.ok (.value (.bool (decide (s.mn < x.s.ix)))) w' from by unfold execOp; rw [p8]; first | rfl | kernel_rfl).trans (by rw [hd1])⟩) hHeld ?_
              rw [d8]
              simp only [Act.put, List.setIfInBounds_toArray, List.set_cons_zero, List.set_cons_succ]
              refine wpAnyInT_take wideFn rfl (i := 9) (v := .bool false) [9, 10, 11, 12, 13, 14, 15, 16, 17, 18, 19, 20, 21, 22, 23, 24, 25, 26, 27, 28] h9 HNS (by rw [hops]; kernel_rfl) (by rw [hops]; kernel_rfl) (by rw [hops]; kernel_rfl) (fun _ _ _ => NormalOnly.hQ _ _ _) (Or.inl ⟨(wanted_none g9), fun w' _ => by unfold execOp; rw [p9]; first | rfl | kernel_rfl⟩) hHeld ?_
              rw [d9]
              simp only [Act.put, List.setIfInBounds_toArray, List.set_cons_zero, List.set_cons_succ]
              refine wpAnyInT_take wideFn rfl (i := 10) (v := .bool false) [10, 11, 12, 13, 14, 15, 16, 17, 18, 19, 20, 21, 22, 23, 24, 25, 26, 27, 28] h10 HNS (by rw [hops]; kernel_rfl) (by rw [hops]; kernel_rfl) (by rw [hops]; kernel_rfl) (fun _ _ _ => NormalOnly.hQ _ _ _) (Or.inl ⟨(wanted_none g10), fun w' _ => by unfold execOp; rw [p10]; first | rfl | kernel_rfl⟩) hHeld ?_
              rw [d10]
              simp only [Act.put, List.setIfInBounds_toArray, List.set_cons_zero, List.set_cons_succ]
              refine wpAnyInT_take wideFn rfl (i := 11) (v := .pointer (some ⟨gs, 35, none⟩)) [11, 12, 16, 17, 21, 22, 23, 24, 25, 26, 27, 28] h11 HNS (by rw [hops]; kernel_rfl) (by rw [hops]; kernel_rfl) (by rw [hops]; kernel_rfl) (fun _ _ _ => NormalOnly.hQ _ _ _) (Or.inl ⟨(wanted_some g11 h10 d10 (by rfl)), fun w' _ => by unfold execOp; rw [p11]; first | rfl | kernel_rfl⟩) hHeld ?_
              rw [d11]
              simp only [Act.put, List.setIfInBounds_toArray, List.set_cons_zero, List.set_cons_succ]
              refine wpAnyInT_take wideFn rfl (i := 12) (v := .slice (some ⟨bm, om, none⟩) s.ms.length cA) [12, 16, 17, 21, 22, 23, 24, 25, 26, 27, 28] h12 HNS (by rw [hops]; kernel_rfl) (by rw [hops]; kernel_rfl) (by rw [hops]; kernel_rfl) (fun _ _ _ => NormalOnly.hQ _ _ _) (Or.inl ⟨(wanted_some g12 h10 d10 (by rfl)), fun w' h => run_op_load_cell 25 _ p12 gs 35 (by rfl) _ h.2.2.1 _ Tryd.underlying25 rfl⟩) hHeld ?_
              rw [d12]
              simp only [Act.put, List.setIfInBounds_toArray, List.set_cons_zero, List.set_cons_succ]
              refine wpAnyInT_take wideFn rfl (i := 13) (v := .pointer (some ⟨wr.heap.size, 1, none⟩)) [13, 14, 15, 16, 17, 21, 22, 23, 24, 25, 26, 27, 28] h13 HNS (by rw [hops]; kernel_rfl) (by rw [hops]; kernel_rfl) (by rw [hops]; kernel_rfl) (fun _ _ _ => NormalOnly.hQ _ _ _) (Or.inl ⟨(wanted_some g13 h10 d10 (by rfl)), fun w' _ => by unfold execOp; rw [p13]; first | rfl | kernel_rfl⟩) hHeld ?_
              rw [d13]
              simp only [Act.put, List.setIfInBounds_toArray, List.set_cons_zero, List.set_cons_succ]
              refine wpAnyInT_take wideFn rfl (i := 14) (v := .int .i64 x.s.ix) [14, 15, 16, 17, 21, 22, 23, 24, 25, 26, 27, 28] h14 HNS (by rw [hops]; kernel_rfl) (by rw [hops]; kernel_rfl) (by rw [hops]; kernel_rfl) (fun _ _ _ => NormalOnly.hQ _ _ _) (Or.inl ⟨(wanted_some g14 h10 d10 (by rfl)), fun w' h => run_op_load_cell 3 _ p14 wr.heap.size 1 (by rfl) _ h.1 _ Tryd.underlying3 rfl⟩) hHeld ?_
              rw [d14]
              simp only [Act.put, List.setIfInBounds_toArray, List.set_cons_zero, List.set_cons_succ]
              refine wpAnyInT_take wideFn rfl (i := 15) (v := .int .i64 (j : Int)) [15, 16, 17, 21, 22, 23, 24, 25, 26, 27, 28] h15 HNS (by rw [hops]; kernel_rfl) (by rw [hops]; kernel_rfl) (by rw [hops]; kernel_rfl) (fun _ _ _ => NormalOnly.hQ _ _ _) (Or.inl ⟨(wanted_some g15 h10 d10 (by rfl)), fun w' _ => (show _ = Result.ok (.value (.int .i64 (IntKind.i64.wrap (x.s.ix - 1)))) w' from by unfold execOp; rw [p15]; first | rfl | kernel_rfl).trans (by rw [HJ1.out])⟩) hHeld ?_
              rw [d15]
              simp only [Act.put, List.setIfInBounds_toArray, List.set_cons_zero, List.set_cons_succ]
              refine wpAnyInT_take wideFn rfl (i := 16) (v := .pointer (some ⟨bm, om + j * 32, none⟩)) [16, 17, 21, 22, 23, 24, 25, 26, 27, 28] h16 HNS (by rw [hops]; kernel_rfl) (by rw [hops]; kernel_rfl) (by rw [hops]; kernel_rfl) (fun _ _ _ => NormalOnly.hQ _ _ _) (Or.inl ⟨(wanted_some g16 h10 d10 (by rfl)), fun w' _ => run_op_index_mid 25 _ _ p16 bm om s.ms.length cA j (by rfl) (by rfl) HJL.out 23 32 Tryd.underlying25 Sl.infoD⟩) hHeld ?_
              rw [d16]
              simp only [Act.put, List.setIfInBounds_toArray, List.set_cons_zero, List.set_cons_succ]
              refine wpAnyInT_take wideFn rfl (i := 17) (v := .agg (M.map Dg.b8).toArray) [17, 21, 22, 23, 24, 25, 26, 27, 28] h17 HNS (by rw [hops]; kernel_rfl) (by rw [hops]; kernel_rfl) (by rw [hops]; kernel_rfl) (fun _ _ _ => NormalOnly.hQ _ _ _) (Or.inl ⟨(wanted_some g17 h10 d10 (by rfl)), fun w' h => run_op_load_mid 23 _ p17 bm (om + j * 32) (by rfl) (M.map Dg.b8) _ h.2.2.2.1 Tryd.underlying23 rfl HM32b.out⟩) hHeld ?_
              rw [d17]
              simp only [Act.put, List.setIfInBounds_toArray, List.set_cons_zero, List.set_cons_succ]
              refine wpAnyInT_take wideFn rfl (i := 18) (v := .agg x.cells.toArray) [18, 19, 20, 21, 22, 23, 24, 25, 26, 27, 28] h18 HNS (by rw [hops]; kernel_rfl) (by rw [hops]; kernel_rfl) (by rw [hops]; kernel_rfl) (fun _ _ _ => NormalOnly.hQ _ _ _) (Or.inl ⟨(wanted_some g18 h10 d10 (by rfl)), fun w' h => run_op_load_mid 43 _ p18 wr.heap.size 0 (by rfl) x.cells _ h.2.2.2.2.1 Tryd.underlying43 rfl HI5.out⟩) hHeld ?_
              rw [d18]
              simp only [Act.put, List.setIfInBounds_toArray, List.set_cons_zero, List.set_cons_succ]
              refine wpAnyInT_take wideFn rfl (i := 19) (v := .agg x.cells.toArray) [19, 20, 21, 22, 23, 24, 25, 26, 27, 28] h19 HNS (by rw [hops]; kernel_rfl) (by rw [hops]; kernel_rfl) (by rw [hops]; kernel_rfl) (fun _ _ _ => NormalOnly.hQ _ _ _) (Or.inl ⟨(wanted_some g19 h10 d10 (by rfl)), fun w' _ => run_op_buildR 69 _ p19 [(0, .agg x.cells.toArray)] (by rfl) _ w' (by kernel_rfl)⟩) hHeld ?_
              rw [d19]
              simp only [Act.put, List.setIfInBounds_toArray, List.set_cons_zero, List.set_cons_succ]
              refine wpAnyInT_one (by rw [hops]; kernel_rfl) h20 (wanted_some g20 h10 d10 (by rfl)) (fun K hK => ?_)
              refine wpIn_call1 38 _ _ (.agg x.cells.toArray) p20 HEN.out (by rfl) ?_
              (refine (HMA.out _ s0).mono ?_; rintro e w9 ⟨rfl, hb9⟩)
              have s9 : Below W2.heap.size W2 w9 := s0.trans (hb9.mono s0.size)
              clear hb9
              refine ⟨_, rfl, ?_⟩
              rw [d20]
              simp only [Act.put, List.setIfInBounds_toArray, List.set_cons_zero, List.set_cons_succ]
              refine hK.out _ _ (fun _ => KP.out _ s9) ?_
              clear hK K hHeld
              have hHeld := KP.out _ s9
              refine wpAnyInT_take wideFn rfl (i := 21) (v := .bool false) [21, 22, 23, 24, 25, 26, 27, 28] h21 HNS (by rw [hops]; kernel_rfl) (by rw [hops]; kernel_rfl) (by rw [hops]; kernel_rfl) (fun _ _ _ => NormalOnly.hQ _ _ _) (Or.inl ⟨(wanted_some g21 h10 d10 (by rfl)), fun w' _ => run_op_neq_agg 23 23 _ _ p21 _ _ _ (by rfl) (by rfl) (by kernel_rfl) (by rw [Sl.neqD _ _ HM32.out (Sl.mark_len _), HEQ.out])⟩) hHeld ?_
              rw [d21]
              simp only [Act.put, List.setIfInBounds_toArray, List.set_cons_zero, List.set_cons_succ]
              refine wpAnyInT_take wideFn rfl (i := 22) (v := .bool false) [22, 23, 24, 25, 26, 27, 28] h22 HNS (by rw [hops]; kernel_rfl) (by rw [hops]; kernel_rfl) (by rw [hops]; kernel_rfl) (fun _ _ _ => NormalOnly.hQ _ _ _) (Or.inl ⟨(wanted_none g22), fun w' _ => by unfold execOp; rw [p22]; first | rfl | kernel_rfl⟩) hHeld ?_
              rw [d22]
              simp only [Act.put, List.setIfInBounds_toArray, List.set_cons_zero, List.set_cons_succ]
              refine wpAnyInT_take wideFn rfl (i := 23) (v := .bool false) [23, 24, 25, 26, 27, 28] h23 HNS (by rw [hops]; kernel_rfl) (by rw [hops]; kernel_rfl) (by rw [hops]; kernel_rfl) (fun _ _ _ => NormalOnly.hQ _ _ _) (Or.inl ⟨(wanted_none g23), fun w' _ => by unfold execOp; rw [p23]; first | rfl | kernel_rfl⟩) hHeld ?_
              rw [d23]
              simp only [Act.put, List.setIfInBounds_toArray, List.set_cons_zero, List.set_cons_succ]
              refine wpAnyInT_take wideFn rfl (i := 24) (v := undef) [24, 26, 27, 28] h24 HNS (by rw [hops]; kernel_rfl) (by rw [hops]; kernel_rfl) (by rw [hops]; kernel_rfl) (fun _ _ _ => NormalOnly.hQ _ _ _) (Or.inr ⟨(unwanted_some g24 h23 d23 (by rfl)), rfl⟩) hHeld ?_
              rw [d24]
              simp only [Act.put, List.setIfInBounds_toArray, List.set_cons_zero, List.set_cons_succ]
              refine wpAnyInT_take wideFn rfl (i := 25) (v := undef) [25, 26, 27, 28] h25 HNS (by rw [hops]; kernel_rfl) (by rw [hops]; kernel_rfl) (by rw [hops]; kernel_rfl) (fun _ _ _ => NormalOnly.hQ _ _ _) (Or.inr ⟨(unwanted_some g25 h23 d23 (by rfl)), rfl⟩) hHeld ?_
              rw [d25]
              simp only [Act.put, List.setIfInBounds_toArray, List.set_cons_zero, List.set_cons_succ]
              refine wpAnyInT_take wideFn rfl (i := 26) (v := undef) [26, 27, 28] h26 HNS (by rw [hops]; kernel_rfl) (by rw [hops]; kernel_rfl) (by rw [hops]; kernel_rfl) (fun _ _ _ => NormalOnly.hQ _ _ _) (Or.inr ⟨(unwanted_some g26 h23 d23 (by rfl)), rfl⟩) hHeld ?_
              rw [d26]
              simp only [Act.put, List.setIfInBounds_toArray, List.set_cons_zero, List.set_cons_succ]
              refine wpAnyInT_take wideFn rfl (i := 27) (v := undef) [27, 28] h27 HNS (by rw [hops]; kernel_rfl) (by rw [hops]; kernel_rfl) (by rw [hops]; kernel_rfl) (fun _ _ _ => NormalOnly.hQ _ _ _) (Or.inr ⟨(unwanted_some g27 h23 d23 (by rfl)), rfl⟩) hHeld ?_
              rw [d27]
              simp only [Act.put, List.setIfInBounds_toArray, List.set_cons_zero, List.set_cons_succ]
              refine wpAnyInT_take wideFn rfl (i := 28) (v := .bool false) [28] h28 HNS (by rw [hops]; kernel_rfl) (by rw [hops]; kernel_rfl) (by rw [hops]; kernel_rfl) (fun _ _ _ => NormalOnly.hQ _ _ _) (Or.inl ⟨(wanted_none g28), fun w' _ => by unfold execOp; rw [p28]; first | rfl | kernel_rfl⟩) hHeld ?_
              rw [d28]
              simp only [Act.put, List.setIfInBounds_toArray, List.set_cons_zero, List.set_cons_succ]
              refine wpAnyInT_done (by rw [hops]; kernel_rfl) ⟨rfl, _, _, _, _, _, _, _, _, _, _, _, _, _, _, _, _, _, _, _, _, _, _, _, _, _, _, _, _, _, _, _, _, _, rfl, .inl ⟨rfl, HJ2.out _ s9, HK2.out _ s9⟩⟩ _
            · have HEQ := Lib.hid (show (!(M == Sl.mark x.s)) = true from by simpa using c2)
              have hbad : Sl.bad s x.s = true := by rw [HBD.out, HEQ.out]
              have HS1 := Lib.hid (HSB.out hbad).symm
              have HLEN := Lib.hid (HLB.out hbad)
              clear hbad HLB HSB c2
              refine wpIn_region_named (fun ops hops => ?_)
              refine wpIn_region_T (by kernel_rfl) [26, 27, 28] (fun w' => w'.cell? ⟨wr.heap.size, 1, none⟩ = some (.int .i64 x.s.ix) ∧ w'.cell? ⟨gs, 34, none⟩ = some (.int .i64 s.mn) ∧ w'.cell? ⟨gs, 35, none⟩ = some (.slice (some ⟨bm, om, none⟩) s.ms.length cA) ∧ w'.rangeAt bm (om + j * 32) (M.map Dg.b8) ∧ w'.rangeAt wr.heap.size 0 x.cells ∧ Below W2.heap.size W2 w') ?_
              rw [show ops.size = 29 from by rw [hops]; rfl]
              have HNS : Region.noSelect ops = true := by rw [hops]; kernel_rfl
              have hHeld := KP.out _ s0
              obtain ⟨o0, h0, d0, p0, g0⟩ := op_at5 hops 0 rfl (d := some 13) (p := Op.fieldAddr 43 (Operand.tmp 5) 1) (g := none) rfl rfl rfl
              obtain ⟨o1, h1, d1, p1, g1⟩ := op_at5 hops 1 rfl (d := some 14) (p := Op.load 3 (Operand.tmp 13)) (g := none) rfl rfl rfl
              obtain ⟨o2, h2, d2, p2, g2⟩ := op_at5 hops 2 rfl (d := some 15) (p := Op.binOp BinOp.lss 3 (Operand.tmp 14) (Operand.const (Value.int IntKind.i64 1)) 3) (g := none) rfl rfl rfl
              obtain ⟨o3, h3, d3, p3, g3⟩ := op_at5 hops 3 rfl (d := some 16) (p := Op.move (Operand.tmp 15)) (g := none) rfl rfl rfl
              obtain ⟨o4, h4, d4, p4, g4⟩ := op_at5 hops 4 rfl (d := some 17) (p := Op.fieldAddr 43 (Operand.tmp 5) 1) (g := some (3, false)) rfl rfl rfl
              obtain ⟨o5, h5, d5, p5, g5⟩ := op_at5 hops 5 rfl (d := some 18) (p := Op.load 3 (Operand.tmp 17)) (g := some (3, false)) rfl rfl rfl
              obtain ⟨o6, h6, d6, p6, g6⟩ := op_at5 hops 6 rfl (d := some 19) (p := Op.fieldAddr 27 (Operand.tmp 2) 3) (g := some (3, false)) rfl rfl rfl
              obtain ⟨o7, h7, d7, p7, g7⟩ := op_at5 hops 7 rfl (d := some 20) (p := Op.load 3 (Operand.tmp 19)) (g := some (3, false)) rfl rfl rfl
              obtain ⟨o8, h8, d8, p8, g8⟩ := op_at5 hops 8 rfl (d := some 21) (p := Op.binOp BinOp.gtr 3 (Operand.tmp 18) (Operand.tmp 20) 3) (g := some (3, false)) rfl rfl rfl
              obtain ⟨o9, h9, d9, p9, g9⟩ := op_at5 hops 9 rfl (d := some 22) (p := Op.pick (Operand.tmp 16) (Operand.const (Value.bool true)) (Operand.tmp 21)) (g := none) rfl rfl rfl
              obtain ⟨o10, h10, d10, p10, g10⟩ := op_at5 hops 10 rfl (d := some 23) (p := Op.move (Operand.tmp 22)) (g := none) rfl rfl rfl
              obtain ⟨o11, h11, d11, p11, g11⟩ := op_at5 hops 11 rfl (d := some 24) (p := Op.fieldAddr 27 (Operand.tmp 2) 4) (g := some (10, false)) rfl rfl rfl
              obtain ⟨o12, h12, d12, p12, g12⟩ := op_at5 hops 12 rfl (d := some 25) (p := Op.load 25 (Operand.tmp 24)) (g := some (10, false)) rfl rfl rfl
              obtain ⟨o13, h13, d13, p13, g13⟩ := op_at5 hops 13 rfl (d := some 26) (p := Op.fieldAddr 43 (Operand.tmp 5) 1) (g := some (10, false)) rfl rfl rfl
              obtain ⟨o14, h14, d14, p14, g14⟩ := op_at5 hops 14 rfl (d := some 27) (p := Op.load 3 (Operand.tmp 26)) (g := some (10, false)) rfl rfl rfl
              obtain ⟨o15, h15, d15, p15, g15⟩ := op_at5 hops 15 rfl (d := some 28) (p := Op.binOp BinOp.sub 3 (Operand.tmp 27) (Operand.const (Value.int IntKind.i64 1)) 3) (g := some (10, false)) rfl rfl rfl
              obtain ⟨o16, h16, d16, p16, g16⟩ := op_at5 hops 16 rfl (d := some 29) (p := Op.indexAddr 25 (Operand.tmp 25) (Operand.tmp 28)) (g := some (10, false)) rfl rfl rfl
              obtain ⟨o17, h17, d17, p17, g17⟩ := op_at5 hops 17 rfl (d := some 30) (p := Op.load 23 (Operand.tmp 29)) (g := some (10, false)) rfl rfl rfl
              obtain ⟨o18, h18, d18, p18, g18⟩ := op_at5 hops 18 rfl (d := some 31) (p := Op.load 43 (Operand.tmp 5)) (g := some (10, false)) rfl rfl rfl
              obtain ⟨o19, h19, d19, p19, g19⟩ := op_at5 hops 19 rfl (d := some 32) (p := Op.build 69 #[(0, Operand.tmp 31)]) (g := some (10, false)) rfl rfl rfl
              obtain ⟨o20, h20, d20, p20, g20⟩ := op_at5 hops 20 rfl (d := some 33) (p := Op.call { callee := Callee.value (Operand.func 38), args := #[Operand.tmp 32], argTypes := #[69] }) (g := some (10, false)) rfl rfl rfl
              obtain ⟨o21, h21, d21, p21, g21⟩ := op_at5 hops 21 rfl (d := some 34) (p := Op.binOp BinOp.neq 23 (Operand.tmp 30) (Operand.tmp 33) 23) (g := some (10, false)) rfl rfl rfl
              obtain ⟨o22, h22, d22, p22, g22⟩ := op_at5 hops 22 rfl (d := some 35) (p := Op.pick (Operand.tmp 23) (Operand.const (Value.bool true)) (Operand.tmp 34)) (g := none) rfl rfl rfl
              obtain ⟨o23, h23, d23, p23, g23⟩ := op_at5 hops 23 rfl (d := some 36) (p := Op.move (Operand.tmp 35)) (g := none) rfl rfl rfl
              obtain ⟨o24, h24, d24, p24, g24⟩ := op_at5 hops 24 rfl (d := some 37) (p := Op.move (Operand.tmp 0)) (g := some (23, true)) rfl rfl rfl
              obtain ⟨o25, h25, d25, p25, g25⟩ := op_at5 hops 25 rfl (d := some 38) (p := Op.move (Operand.tmp 4)) (g := some (23, true)) rfl rfl rfl
              obtain ⟨o26, h26, d26, p26, g26⟩ := op_at5 hops 26 rfl (d := some 39) (p := Op.call { callee := Callee.value (Operand.tmp 37), args := #[Operand.tmp 38], argTypes := #[3] }) (g := some (23, true)) rfl rfl rfl
              obtain ⟨o27, h27, d27, p27, g27⟩ := op_at5 hops 27 rfl (d := some 40) (p := Op.unOp UnOp.not 4 (Operand.tmp 39)) (g := some (23, true)) rfl rfl rfl
              obtain ⟨o28, h28, d28, p28, g28⟩ := op_at5 hops 28 rfl (d := some 41) (p := Op.pick (Operand.tmp 36) (Operand.tmp 40) (Operand.const (Value.bool false))) (g := none) rfl rfl rfl
              refine wpAnyInT_take wideFn rfl (i := 0) (v := .pointer (some ⟨wr.heap.size, 1, none⟩)) [0, 1, 2, 3, 4, 5, 6, 7, 8, 9, 10, 11, 12, 13, 14, 15, 16, 17, 18, 19, 20, 21, 22, 23, 24, 25, 26, 27, 28] h0 HNS (by rw [hops]; kernel_rfl) (by rw [hops]; kernel_rfl) (by rw [hops]; kernel_rfl) (fun _ _ _ => NormalOnly.hQ _ _ _) (Or.inl ⟨(wanted_none g0), fun w' _ => by unfold execOp; rw [p0]; first | rfl | kernel_rfl⟩) hHeld ?_
              rw [d0]
              simp only [Act.put, List.setIfInBounds_toArray, List.set_cons_zero, List.set_cons_succ]
              refine wpAnyInT_take wideFn rfl (i := 1) (v := .int .i64 x.s.ix) [1, 2, 3, 4, 5, 6, 7, 8, 9, 10, 11, 12, 13, 14, 15, 16, 17, 18, 19, 20, 21, 22, 23, 24, 25, 26, 27, 28] h1 HNS (by rw [hops]; kernel_rfl) (by rw [hops]; kernel_rfl) (by rw [hops]; kernel_rfl) (fun _ _ _ => NormalOnly.hQ _ _ _) (Or.inl ⟨(wanted_none g1), fun w' h => run_op_load_cell 3 _ p1 wr.heap.size 1 (by rfl) _ h.1 _ Tryd.underlying3 rfl⟩) hHeld ?_
              rw [d1]
              simp only [Act.put, List.setIfInBounds_toArray, List.set_cons_zero, List.set_cons_succ]
              refine wpAnyInT_take wideFn rfl (i := 2) (v := .bool false) [2, 3, 4, 5, 6, 7, 8, 9, 10, 11, 12, 13, 14, 15, 16, 17, 18, 19, 20, 21, 22, 23, 24, 25, 26, 27, 28] h2 HNS (by rw [hops]; kernel_rfl) (by rw [hops]; kernel_rfl) (by rw [hops]; kernel_rfl) (fun _ _ _ => NormalOnly.hQ _ _ _) (Or.inl ⟨(wanted_none g2), fun w' _ => (show _ = Result.ok (.value (.bool (decide (x.s.ix < 1)))) w' from by unfold execOp; rw [p2]; first | rfl | kernel_rfl).trans (by rw [hd0])⟩) hHeld ?_
              rw [d2]
              simp only [Act.put, List.setIfInBounds_toArray, List.set_cons_zero, List.set_cons_succ]
              refine wpAnyInT_take wideFn rfl (i := 3) (v := .bool false) [3, 4, 5, 6, 7, 8, 9, 10, 11, 12, 13, 14, 15, 16, 17, 18, 19, 20, 21, 22, 23, 24, 25, 26, 27, 28] h3 HNS (by rw [hops]; kernel_rfl) (by rw [hops]; kernel_rfl) (by rw [hops]; kernel_rfl) (fun _ _ _ => NormalOnly.hQ _ _ _) (Or.inl ⟨(wanted_none g3), fun w' _ => by unfold execOp; rw [p3]; first | rfl | kernel_rfl⟩) hHeld ?_
              rw [d3]
              simp only [Act.put, List.setIfInBounds_toArray, List.set_cons_zero, List.set_cons_succ]
              refine wpAnyInT_take wideFn rfl (i := 4) (v := .pointer (some ⟨wr.heap.size, 1, none⟩)) [4, 5, 8, 9, 10, 11, 12, 13, 14, 15, 16, 17, 18, 19, 20, 21, 22, 23, 24, 25, 26, 27, 28] h4 HNS (by rw [hops]; kernel_rfl) (by rw [hops]; kernel_rfl) (by rw [hops]; kernel_rfl) (fun _ _ _ => NormalOnly.hQ _ _ _) (Or.inl ⟨(wanted_some g4 h3 d3 (by rfl)), fun w' _ => by unfold execOp; rw [p4]; first | rfl | kernel_rfl⟩) hHeld ?_
              rw [d4]
              simp only [Act.put, List.setIfInBounds_toArray, List.set_cons_zero, List.set_cons_succ]
              refine wpAnyInT_take wideFn rfl (i := 5) (v := .int .i64 x.s.ix) [5, 8, 9, 10, 11, 12, 13, 14, 15, 16, 17, 18, 19, 20, 21, 22, 23, 24, 25, 26, 27, 28] h5 HNS (by rw [hops]; kernel_rfl) (by rw [hops]; kernel_rfl) (by rw [hops]; kernel_rfl) (fun _ _ _ => NormalOnly.hQ _ _ _) (Or.inl ⟨(wanted_some g5 h3 d3 (by rfl)), fun w' h => run_op_load_cell 3 _ p5 wr.heap.size 1 (by rfl) _ h.1 _ Tryd.underlying3 rfl⟩) hHeld ?_
              rw [d5]
              simp only [Act.put, List.setIfInBounds_toArray, List.set_cons_zero, List.set_cons_succ]
              refine wpAnyInT_take wideFn rfl (i := 6) (v := .pointer (some ⟨gs, 34, none⟩)) [6, 7, 8, 9, 10, 11, 12, 13, 14, 15, 16, 17, 18, 19, 20, 21, 22, 23, 24, 25, 26, 27, 28] h6 HNS (by rw [hops]; kernel_rfl) (by rw [hops]; kernel_rfl) (by rw [hops]; kernel_rfl) (fun _ _ _ => NormalOnly.hQ _ _ _) (Or.inl ⟨(wanted_some g6 h3 d3 (by rfl)), fun w' _ => by unfold execOp; rw [p6]; first | rfl | kernel_rfl⟩) hHeld ?_
              rw [d6]
              simp only [Act.put, List.setIfInBounds_toArray, List.set_cons_zero, List.set_cons_succ]
              refine wpAnyInT_take wideFn rfl (i := 7) (v := .int .i64 s.mn) [7, 8, 9, 10, 11, 12, 13, 14, 15, 16, 17, 18, 19, 20, 21, 22, 23, 24, 25, 26, 27, 28] h7 HNS (by rw [hops]; kernel_rfl) (by rw [hops]; kernel_rfl) (by rw [hops]; kernel_rfl) (fun _ _ _ => NormalOnly.hQ _ _ _) (Or.inl ⟨(wanted_some g7 h3 d3 (by rfl)), fun w' h => run_op_load_cell 3 _ p7 gs 34 (by rfl) _ h.2.1 _ Tryd.underlying3 rfl⟩) hHeld ?_
              rw [d7]
              simp only [Act.put, List.setIfInBounds_toArray, List.set_cons_zero, List.set_cons_succ]
              refine wpAnyInT_take wideFn rfl (i := 8) (v := .bool false) [8, 9, 10, 11, 12, 13, 14, 15, 16, 17, 18, 19, 20, 21, 22, 23, 24, 25, 26, 27, 28] h8 HNS (by rw [hops]; kernel_rfl) (by rw [hops]; kernel_rfl) (by rw [hops]; kernel_rfl) (fun _ _ _ => NormalOnly.hQ _ _ _) (Or.inl ⟨(wanted_some g8 h3 d3 (by rfl)), fun w' _ => (show _ = Result.ok (.value (.bool (decide (s.mn < x.s.ix)))) w' from by unfold execOp; rw [p8]; first | rfl | kernel_rfl).trans (by rw [hd1])⟩) hHeld ?_
              rw [d8]
              simp only [Act.put, List.setIfInBounds_toArray, List.set_cons_zero, List.set_cons_succ]
              refine wpAnyInT_take wideFn rfl (i := 9) (v := .bool false) [9, 10, 11, 12, 13, 14, 15, 16, 17, 18, 19, 20, 21, 22, 23, 24, 25, 26, 27, 28] h9 HNS (by rw [hops]; kernel_rfl) (by rw [hops]; kernel_rfl) (by rw [hops]; kernel_rfl) (fun _ _ _ => NormalOnly.hQ _ _ _) (Or.inl ⟨(wanted_none g9), fun w' _ => by unfold execOp; rw [p9]; first | rfl | kernel_rfl⟩) hHeld ?_
              rw [d9]
              simp only [Act.put, List.setIfInBounds_toArray, List.set_cons_zero, List.set_cons_succ]
              refine wpAnyInT_take wideFn rfl (i := 10) (v := .bool false) [10, 11, 12, 13, 14, 15, 16, 17, 18, 19, 20, 21, 22, 23, 24, 25, 26, 27, 28] h10 HNS (by rw [hops]; kernel_rfl) (by rw [hops]; kernel_rfl) (by rw [hops]; kernel_rfl) (fun _ _ _ => NormalOnly.hQ _ _ _) (Or.inl ⟨(wanted_none g10), fun w' _ => by unfold execOp; rw [p10]; first | rfl | kernel_rfl⟩) hHeld ?_
              rw [d10]
              simp only [Act.put, List.setIfInBounds_toArray, List.set_cons_zero, List.set_cons_succ]
              refine wpAnyInT_take wideFn rfl (i := 11) (v := .pointer (some ⟨gs, 35, none⟩)) [11, 12, 16, 17, 21, 22, 23, 24, 25, 26, 27, 28] h11 HNS (by rw [hops]; kernel_rfl) (by rw [hops]; kernel_rfl) (by rw [hops]; kernel_rfl) (fun _ _ _ => NormalOnly.hQ _ _ _) (Or.inl ⟨(wanted_some g11 h10 d10 (by rfl)), fun w' _ => by unfold execOp; rw [p11]; first | rfl | kernel_rfl⟩) hHeld ?_
              rw [d11]
              simp only [Act.put, List.setIfInBounds_toArray, List.set_cons_zero, List.set_cons_succ]
              refine wpAnyInT_take wideFn rfl (i := 12) (v := .slice (some ⟨bm, om, none⟩) s.ms.length cA) [12, 16, 17, 21, 22, 23, 24, 25, 26, 27, 28] h12 HNS (by rw [hops]; kernel_rfl) (by rw [hops]; kernel_rfl) (by rw [hops]; kernel_rfl) (fun _ _ _ => NormalOnly.hQ _ _ _) (Or.inl ⟨(wanted_some g12 h10 d10 (by rfl)), fun w' h => run_op_load_cell 25 _ p12 gs 35 (by rfl) _ h.2.2.1 _ Tryd.underlying25 rfl⟩) hHeld ?_
              rw [d12]
              simp only [Act.put, List.setIfInBounds_toArray, List.set_cons_zero, List.set_cons_succ]
              refine wpAnyInT_take wideFn rfl (i := 13) (v := .pointer (some ⟨wr.heap.size, 1, none⟩)) [13, 14, 15, 16, 17, 21, 22, 23, 24, 25, 26, 27, 28] h13 HNS (by rw [hops]; kernel_rfl) (by rw [hops]; kernel_rfl) (by rw [hops]; kernel_rfl) (fun _ _ _ => NormalOnly.hQ _ _ _) (Or.inl ⟨(wanted_some g13 h10 d10 (by rfl)), fun w' _ => by unfold execOp; rw [p13]; first | rfl | kernel_rfl⟩) hHeld ?_
              rw [d13]
              simp only [Act.put, List.setIfInBounds_toArray, List.set_cons_zero, List.set_cons_succ]
              refine wpAnyInT_take wideFn rfl (i := 14) (v := .int .i64 x.s.ix) [14, 15, 16, 17, 21, 22, 23, 24, 25, 26, 27, 28] h14 HNS (by rw [hops]; kernel_rfl) (by rw [hops]; kernel_rfl) (by rw [hops]; kernel_rfl) (fun _ _ _ => NormalOnly.hQ _ _ _) (Or.inl ⟨(wanted_some g14 h10 d10 (by rfl)), fun w' h => run_op_load_cell 3 _ p14 wr.heap.size 1 (by rfl) _ h.1 _ Tryd.underlying3 rfl⟩) hHeld ?_
              rw [d14]
              simp only [Act.put, List.setIfInBounds_toArray, List.set_cons_zero, List.set_cons_succ]
              refine wpAnyInT_take wideFn rfl (i := 15) (v := .int .i64 (j : Int)) [15, 16, 17, 21, 22, 23, 24, 25, 26, 27, 28] h15 HNS (by rw [hops]; kernel_rfl) (by rw [hops]; kernel_rfl) (by rw [hops]; kernel_rfl) (fun _ _ _ => NormalOnly.hQ _ _ _) (Or.inl ⟨(wanted_some g15 h10 d10 (by rfl)), fun w' _ => (show _ = Result.ok (.value (.int .i64 (IntKind.i64.wrap (x.s.ix - 1)))) w' from by unfold execOp; rw [p15]; first | rfl | kernel_rfl).trans (by rw [HJ1.out])⟩) hHeld ?_
              rw [d15]
              simp only [Act.put, List.setIfInBounds_toArray, List.set_cons_zero, List.set_cons_succ]
              refine wpAnyInT_take wideFn rfl (i := 16) (v := .pointer (some ⟨bm, om + j * 32, none⟩)) [16, 17, 21, 22, 23, 24, 25, 26, 27, 28] h16 HNS (by rw [hops]; kernel_rfl) (by rw [hops]; kernel_rfl) (by rw [hops]; kernel_rfl) (fun _ _ _ => NormalOnly.hQ _ _ _) (Or.inl ⟨(wanted_some g16 h10 d10 (by rfl)), fun w' _ => run_op_index_mid 25 _ _ p16 bm om s.ms.length cA j (by rfl) (by rfl) HJL.out 23 32 Tryd.underlying25 Sl.infoD⟩) hHeld ?_
              rw [d16]
              simp only [Act.put, List.setIfInBounds_toArray, List.set_cons_zero, List.set_cons_succ]
              refine wpAnyInT_take wideFn rfl (i := 17) (v := .agg (M.map Dg.b8).toArray) [17, 21, 22, 23, 24, 25, 26, 27, 28] h17 HNS (by rw [hops]; kernel_rfl) (by rw [hops]; kernel_rfl) (by rw [hops]; kernel_rfl) (fun _ _ _ => NormalOnly.hQ _ _ _) (Or.inl ⟨(wanted_some g17 h10 d10 (by rfl)), fun w' h => run_op_load_mid 23 _ p17 bm (om + j * 32) (by rfl) (M.map Dg.b8) _ h.2.2.2.1 Tryd.underlying23 rfl HM32b.out⟩) hHeld ?_
              rw [d17]
              simp only [Act.put, List.setIfInBounds_toArray, List.set_cons_zero, List.set_cons_succ]
              refine wpAnyInT_take wideFn rfl (i := 18) (v := .agg x.cells.toArray) [18, 19, 20, 21, 22, 23, 24, 25, 26, 27, 28] h18 HNS (by rw [hops]; kernel_rfl) (by rw [hops]; kernel_rfl) (by rw [hops]; kernel_rfl) (fun _ _ _ => NormalOnly.hQ _ _ _) (Or.inl ⟨(wanted_some g18 h10 d10 (by rfl)), fun w' h => run_op_load_mid 43 _ p18 wr.heap.size 0 (by rfl) x.cells _ h.2.2.2.2.1 Tryd.underlying43 rfl HI5.out⟩) hHeld ?_
              rw [d18]
              simp only [Act.put, List.setIfInBounds_toArray, List.set_cons_zero, List.set_cons_succ]
              refine wpAnyInT_take wideFn rfl (i := 19) (v := .agg x.cells.toArray) [19, 20, 21, 22, 23, 24, 25, 26, 27, 28] h19 HNS (by rw [hops]; kernel_rfl) (by rw [hops]; kernel_rfl) (by rw [hops]; kernel_rfl) (fun _ _ _ => NormalOnly.hQ _ _ _) (Or.inl ⟨(wanted_some g19 h10 d10 (by rfl)), fun w' _ => run_op_buildR 69 _ p19 [(0, .agg x.cells.toArray)] (by rfl) _ w' (by kernel_rfl)⟩) hHeld ?_
              rw [d19]
              simp only [Act.put, List.setIfInBounds_toArray, List.set_cons_zero, List.set_cons_succ]
              refine wpAnyInT_one (by rw [hops]; kernel_rfl) h20 (wanted_some g20 h10 d10 (by rfl)) (fun K hK => ?_)
              refine wpIn_call1 38 _ _ (.agg x.cells.toArray) p20 HEN.out (by rfl) ?_
              (refine (HMA.out _ s0).mono ?_; rintro e w9 ⟨rfl, hb9⟩)
              have s9 : Below W2.heap.size W2 w9 := s0.trans (hb9.mono s0.size)
              clear hb9
              refine ⟨_, rfl, ?_⟩
              rw [d20]
              simp only [Act.put, List.setIfInBounds_toArray, List.set_cons_zero, List.set_cons_succ]
              refine hK.out _ _ (fun _ => KP.out _ s9) ?_
              clear hK K hHeld
              have hHeld := KP.out _ s9
              refine wpAnyInT_take wideFn rfl (i := 21) (v := .bool true) [21, 22, 23, 24, 25, 26, 27, 28] h21 HNS (by rw [hops]; kernel_rfl) (by rw [hops]; kernel_rfl) (by rw [hops]; kernel_rfl) (fun _ _ _ => NormalOnly.hQ _ _ _) (Or.inl ⟨(wanted_some g21 h10 d10 (by rfl)), fun w' _ => run_op_neq_agg 23 23 _ _ p21 _ _ _ (by rfl) (by rfl) (by kernel_rfl) (by rw [Sl.neqD _ _ HM32.out (Sl.mark_len _), HEQ.out])⟩) hHeld ?_
              rw [d21]
              simp only [Act.put, List.setIfInBounds_toArray, List.set_cons_zero, List.set_cons_succ]
              refine wpAnyInT_take wideFn rfl (i := 22) (v := .bool true) [22, 23, 24, 25, 26, 27, 28] h22 HNS (by rw [hops]; kernel_rfl) (by rw [hops]; kernel_rfl) (by rw [hops]; kernel_rfl) (fun _ _ _ => NormalOnly.hQ _ _ _) (Or.inl ⟨(wanted_none g22), fun w' _ => by unfold execOp; rw [p22]; first | rfl | kernel_rfl⟩) hHeld ?_
              rw [d22]
              simp only [Act.put, List.setIfInBounds_toArray, List.set_cons_zero, List.set_cons_succ]
              refine wpAnyInT_take wideFn rfl (i := 23) (v := .bool true) [23, 24, 25, 26, 27, 28] h23 HNS (by rw [hops]; kernel_rfl) (by rw [hops]; kernel_rfl) (by rw [hops]; kernel_rfl) (fun _ _ _ => NormalOnly.hQ _ _ _) (Or.inl ⟨(wanted_none g23), fun w' _ => by unfold execOp; rw [p23]; first | rfl | kernel_rfl⟩) hHeld ?_
              rw [d23]
              simp only [Act.put, List.setIfInBounds_toArray, List.set_cons_zero, List.set_cons_succ]
              refine wpAnyInT_take wideFn rfl (i := 24) (v := .func (.yield L) #[] #[]) [24, 26, 27, 28] h24 HNS (by rw [hops]; kernel_rfl) (by rw [hops]; kernel_rfl) (by rw [hops]; kernel_rfl) (fun _ _ _ => NormalOnly.hQ _ _ _) (Or.inl ⟨(wanted_some g24 h23 d23 (by rfl)), fun w' _ => by unfold execOp; rw [p24]; first | rfl | kernel_rfl⟩) hHeld ?_
              rw [d24]
              simp only [Act.put, List.setIfInBounds_toArray, List.set_cons_zero, List.set_cons_succ]
              refine wpAnyInT_take wideFn rfl (i := 25) (v := .int .i64 (k : Int)) [25, 26, 27, 28] h25 HNS (by rw [hops]; kernel_rfl) (by rw [hops]; kernel_rfl) (by rw [hops]; kernel_rfl) (fun _ _ _ => NormalOnly.hQ _ _ _) (Or.inl ⟨(wanted_some g25 h23 d23 (by rfl)), fun w' _ => by unfold execOp; rw [p25]; first | rfl | kernel_rfl⟩) hHeld ?_
              rw [d25]
              simp only [Act.put, List.setIfInBounds_toArray, List.set_cons_zero, List.set_cons_succ]
              refine wpAnyInT_one (by rw [hops]; kernel_rfl) h26 (wanted_some g26 h23 d23 (by rfl)) (fun K hK => ?_)
              refine wpIn_yield1 wideFn rfl (by omega) L _ _ _ (.int .i64 (k : Int)) _ p26 (by rfl) (by rfl) (HY.out _ k w9 (HJ2.out _ s9) HLEN.out) ?_
              rintro e W3 (⟨rfl, hJ3, hk3⟩ | ⟨rfl, hJx3⟩)
              · refine ⟨_, rfl, ?_⟩
                rw [d26]
                simp only [Act.put, List.setIfInBounds_toArray, List.set_cons_zero, List.set_cons_succ]
                refine hK.out _ _ (fun h => absurd (by decide) h) ?_
                refine wpAnyInT_one (by rw [hops]; kernel_rfl) h27 (wanted_some g27 h23 d23 (by rfl)) (fun K2 hK2 => ?_)
                refine wpIn_runG wideFn rfl (v := .bool false) (w' := W3) (by unfold execOp; rw [p27]; first | rfl | kernel_rfl) ?_
                rw [d27]
                simp only [Act.put, List.setIfInBounds_toArray, List.set_cons_zero, List.set_cons_succ]
                refine hK2.out _ _ (fun h => absurd (by decide) h) ?_
                refine wpAnyInT_one (by rw [hops]; kernel_rfl) h28 (wanted_none g28) (fun K3 hK3 => ?_)
                refine wpIn_runG wideFn rfl (v := .bool false) (w' := W3) (by unfold execOp; rw [p28]; first | rfl | kernel_rfl) ?_
                rw [d28]
                simp only [Act.put, List.setIfInBounds_toArray, List.set_cons_zero, List.set_cons_succ]
                refine hK3.out _ _ (fun h => absurd (by decide) h) ?_
                refine wpAnyInT_done (by rw [hops]; kernel_rfl) ⟨rfl, _, _, _, _, _, _, _, _, _, _, _, _, _, _, _, _, _, _, _, _, _, _, _, _, _, _, _, _, _, _, _, _, _, rfl, .inl ⟨rfl, HS1.out ▸ hJ3, (HK2.out _ s9).trans hk3⟩⟩ _
              · refine ⟨_, rfl, ?_⟩
                rw [d26]
                simp only [Act.put, List.setIfInBounds_toArray, List.set_cons_zero, List.set_cons_succ]
                refine hK.out _ _ (fun h => absurd (by decide) h) ?_
                refine wpAnyInT_one (by rw [hops]; kernel_rfl) h27 (wanted_some g27 h23 d23 (by rfl)) (fun K2 hK2 => ?_)
                refine wpIn_runG wideFn rfl (v := .bool true) (w' := W3) (by unfold execOp; rw [p27]; first | rfl | kernel_rfl) ?_
                rw [d27]
                simp only [Act.put, List.setIfInBounds_toArray, List.set_cons_zero, List.set_cons_succ]
                refine hK2.out _ _ (fun h => absurd (by decide) h) ?_
                refine wpAnyInT_one (by rw [hops]; kernel_rfl) h28 (wanted_none g28) (fun K3 hK3 => ?_)
                refine wpIn_runG wideFn rfl (v := .bool true) (w' := W3) (by unfold execOp; rw [p28]; first | rfl | kernel_rfl) ?_
                rw [d28]
                simp only [Act.put, List.setIfInBounds_toArray, List.set_cons_zero, List.set_cons_succ]
                refine hK3.out _ _ (fun h => absurd (by decide) h) ?_
                refine wpAnyInT_done (by rw [hops]; kernel_rfl) ⟨rfl, _, _, _, _, _, _, _, _, _, _, _, _, _, _, _, _, _, _, _, _, _, _, _, _, _, _, _, _, _, _, _, _, _, rfl, .inr ⟨rfl, HS1.out ▸ hJx3⟩⟩ _
      case tail =>
        rintro e a' W5 ⟨rfl, b, v9, v10, v11, v12, v13, v14, v15, v16, v17, v18, v19, v20, v21, v22, v23, v24, v25, v26, v27, v28, v29, v30, v31, v32, v33, v34, v35, v36, v37, v38, v39, v40, rfl, ⟨rfl, hJ5, hK5⟩ | ⟨rfl, hJ5⟩⟩
        · have HJ5 := Lib.hid hJ5
          have HK5 := Lib.hid hK5
          clear hJ5 hK5 HJ2 HK2 x1 x2 x3 s0
          gi_wp2
          go_roundw
          case rel => exact ⟨k + 1, by omega, by go_num, HJ5.out, HK5.out⟩
          case measure => simp [intOf]; omega
        · have HJ5 := Lib.hid hJ5
          clear hJ5 HJ2 HK2 x1 x2 x3 s0
          gi_wp2
          refine bodyPost_ret (results_none rfl _ _ _) rfl ?_
          exact ⟨⟨_, rfl⟩, .inr ⟨_, HP.out, HJ5.out⟩⟩
    · obtain rfl : k = nl := by omega
      have HX := Lib.hid (show J (Sl.alt s (Shr.vals xs)) wr from by unfold Sl.alt; rw [HVL.out]; exact hJk)
      clear hJk hB
      gi_wp2
      go_end0
      exact ⟨⟨_, rfl⟩, .inl ⟨_, rfl, HX.out⟩⟩
end Go.Proofs.YtideglpjgplpnaaDoor
