import Derived.Test.YtideglpjgplpnaaDoorMDgC
import Derived.Test.YtideglpjgplpnaaDoorMFldW5
import Derived.Test.YtideglpjgplpnaaDoorMSlW5
/- Contracts of combine and xor. -/
namespace Go.Proofs.YtideglpjgplpnaaDoor
open Go.RowKit Go.Shelf
set_option linter.unusedVariables false

/-- n zeros, as cells -/
def Sl.zc (n : Nat) : Array Value := ((List.replicate n (0 : UInt8)).map B8).toArray
theorem Sl.make_zc (n : Nat) (hn : n ≤ 1000) (W : World) : (Instr.makeSlice 24 (.int .i64 (n : Int)) (.int .i64 (n : Int))).run Tryd.prog W = .ok (.slice (some ⟨W.heap.size, 0, none⟩) n n) (W.alloc (.cells (Sl.zc n) 5)) := by
  obtain ⟨i0, hi0, hz0, hz1, hz2⟩ := info_parts Fld.info8
  have hr := run_make (P := Tryd.prog) W 24 5 i0 _ Tryd.underlying24 hi0 hz0 .i64 .i64 n n (by omega) (Int.le_refl _) (by rw [hz2]; omega) (by omega)
  simp only [Int.toNat_natCast] at hr
  have e : (madeCells (Value.int .u8 0).cells (n * i0.size)) = Sl.zc n := by
    apply Array.ext'
    rw [hz1, Nat.mul_one, Sl.zc]
    have := toList_madeCells_one (.int .u8 0) n
    rw [List.map_replicate]
    exact this
  rw [e] at hr
  exact hr
/-- the first k places done -/
def Sl.xz (a b : List UInt8) (n k : Nat) : List UInt8 := (Sl.xorl a b).take k ++ List.replicate (n - k) 0
theorem Sl.xz_len (a b : List UInt8) (n k : Nat) (ha : a.length = n) (hk : k ≤ n) : (Sl.xz a b n k).length = n := by
  rw [Sl.xz, List.length_append, List.length_take, Sl.xorl_len, List.length_replicate]
  omega
theorem Sl.xz_set (a b : List UInt8) (n k : Nat) (ha : a.length = n) (hk : k < n) : (Sl.xz a b n k).set k (a.getD k 0 ^^^ b.getD k 0) = Sl.xz a b n (k + 1) := by
  apply List.ext_getElem?
  intro i
  have hx : (Sl.xorl a b).length = n := by rw [Sl.xorl_len, ha]
  by_cases hi : i < n
  · by_cases he : i = k
    · subst he
      rw [List.getElem?_set_self (by rw [Sl.xz_len a b n i ha (by omega)]; exact hi)]
      unfold Sl.xz
      rw [List.getElem?_append_left (by rw [List.length_take, hx]; omega), List.getElem?_take, if_pos (by omega)]
      simp [Sl.xorl, ha, hi]
    · rw [List.getElem?_set_ne (by omega)]
      unfold Sl.xz
      by_cases hl : i < k
      · rw [List.getElem?_append_left (by rw [List.length_take, hx]; omega), List.getElem?_append_left (by rw [List.length_take, hx]; omega), List.getElem?_take, List.getElem?_take, if_pos hl, if_pos (by omega)]
      · rw [List.getElem?_append_right (by rw [List.length_take, hx]; omega), List.getElem?_append_right (by rw [List.length_take, hx]; omega), List.length_take, List.length_take, hx, List.getElem?_replicate, List.getElem?_replicate, if_pos (by omega), if_pos (by omega)]
  · rw [List.getElem?_eq_none (by rw [List.length_set, Sl.xz_len a b n k ha (by omega)]; omega), List.getElem?_eq_none (by rw [Sl.xz_len a b n (k + 1) ha (by omega)]; omega)]
theorem Sl.xz_0 (a b : List UInt8) (n : Nat) : Sl.xz a b n 0 = List.replicate n 0 := by simp [Sl.xz]
theorem Sl.xz_n (a b : List UInt8) (n : Nat) (ha : a.length = n) : Sl.xz a b n n = Sl.xorl a b := by
  unfold Sl.xz
  rw [List.take_of_length_le (by rw [Sl.xorl_len, ha]; exact Nat.le_refl _)]
  simp
theorem Sl.xor1_any (x y : UInt8) (w : World) : Calls Tryd.prog 61 #[B8 x, B8 y] w fun e w' => e = .returned (B8 (x ^^^ y)) ∧ w = w' := by
  have h := Fld.xor8 x y
  go_enter Tryd.func61, Tryd.ntmps61
  go_wp2
  go_ret
  exact ⟨rfl, rfl⟩
theorem Sl.keep2 {W : World} {b1 o1 b2 o2 : Nat} {v1 v2 : Value} (z1 : b1 < W.heap.size) (z2 : b2 < W.heap.size) (h1 : W.cell? ⟨b1, o1, none⟩ = some v1) (h2 : W.cell? ⟨b2, o2, none⟩ = some v2) (w' : World) (s : Below W.heap.size W w') :
    w'.cell? ⟨b1, o1, none⟩ = some v1 ∧ w'.cell? ⟨b2, o2, none⟩ = some v2 ∧ Below W.heap.size W w' := ⟨(s.cell (p := ⟨b1, o1, none⟩) z1).trans h1, (s.cell (p := ⟨b2, o2, none⟩) z2).trans h2, s⟩

/-- what combine hands back -/
def Sl.RetX (w : World) (n : Nat) (l : List UInt8) (e : Ending) (w' : World) : Prop := e = .returned (.slice (some ⟨w.heap.size, 0, none⟩) n n) ∧ Has w' w.heap.size 5 (l.map B8) ∧ Below w.heap.size w w'
theorem Sl.RetX.rd {w w' : World} {n : Nat} {l : List UInt8} (h : Has w' w.heap.size 5 (l.map B8)) (hl : l.length = n) : RdB w' (some ⟨w.heap.size, 0, none⟩) n l :=
  ⟨by simp [hl], fun _ => ⟨w.heap.size, 0, rfl, h.lt, fun j u hu => by rw [Nat.zero_add, h.cell j]; exact hu⟩⟩

set_option maxRecDepth 100000 in
set_option maxHeartbeats 2000000 in
theorem Sl.comb_any (A B : Option Addr) (n ca cb : Nat) (a b : List UInt8) (w : World) (ha : RdB w A n a) (hb : RdB w B n b) (hn : n ≤ 1000) :
    Calls Tryd.prog 60 #[.slice A n ca, .slice B n cb, .func (.func 61) #[] #[]] w (Sl.RetX w n (Sl.xorl a b)) := by
  have HA := Lib.hid ha
  have HB := Lib.hid hb
  have HLA := Lib.hid ha.len
  have hmk := Sl.make_zc n hn
  have H0 := Lib.hid (show Has (w.alloc (.cells (Sl.zc n) 5)) w.heap.size 5 ((Sl.xz a b n 0).map B8) from by rw [Sl.xz_0]; exact Has.new w 5 ((List.replicate n (0 : UInt8)).map B8))
  have HB0 := Lib.hid ((Below.refl w.heap.size w).alloc (Nat.le_refl _) (.cells (Sl.zc n) 5))
  clear ha hb
  go_enter Tryd.func60, Tryd.ntmps60
  go_wp2_with fail
  clear hmk
  obtain ⟨W1, hW1⟩ : ∃ W1, W1 = w.alloc (.cells (Sl.zc n) 5) := ⟨_, rfl⟩
  rw [← hW1] at H0 HB0 ⊢
  clear hW1
  go_loopw [14] (fun i wr => ∃ k : Nat, k ≤ n ∧ i = .int .i64 k ∧ Has wr w.heap.size 5 ((Sl.xz a b n k).map B8) ∧ Below w.heap.size w wr) (fun i _ => n - (intOf i).toNat)
  case atStart => exact ⟨0, by omega, rfl, H0.out, HB0.out⟩
  case round =>
    clear H0 HB0
    obtain ⟨k, hk, rfl, hH, hBl⟩ := hrel
    have HH := Lib.hid hH
    have HBL := Lib.hid hBl
    by_cases hlt : k < n
    · obtain ⟨b1, o1, rfl, z1, c1⟩ := HA.out.byte k hlt
      replace c1 := (hBl.cell (p := ⟨b1, o1 + k, none⟩) z1).trans c1
      obtain ⟨b2, o2, rfl, z2, c2⟩ := HB.out.byte k hlt
      replace c2 := (hBl.cell (p := ⟨b2, o2 + k, none⟩) z2).trans c2
      have HX := Lib.hid (Sl.xz_set a b n k HLA.out hlt)
      have hg : w.heap.size < wr.heap.size := hH.lt
      have n1 : w.heap.size ≠ b1 := by omega
      have n2 : w.heap.size ≠ b2 := by omega
      have cg : wr.cell? ⟨w.heap.size, k, none⟩ = some (B8 ((Sl.xz a b n k).getD k 0)) := by
        rw [hH.cell k, List.getElem?_map, List.getElem?_eq_getElem (by rw [Sl.xz_len a b n k HLA.out (by omega)]; exact hlt), List.getD_eq_getElem?_getD, List.getElem?_eq_getElem (by rw [Sl.xz_len a b n k HLA.out (by omega)]; exact hlt)]
        rfl
      have fg := hH.frozen k
      have i1 : (0 : Int) ≤ (k : Int) := by omega
      have i2 : (k : Int) < (n : Int) := by omega
      generalize a.getD k 0 = x at c1 HX
      generalize b.getD k 0 = y at c2 HX
      clear hH hBl
      go_wp2_with fail
      go_region_held3 (fun w' => w'.cell? ⟨b1, o1 + k, none⟩ = some (B8 x) ∧ w'.cell? ⟨b2, o2 + k, none⟩ = some (B8 y))
        (first
          | exact ⟨c1, c2⟩
          | go_keep)
        (first
          | (go_at_call 61; (with_reducible refine (Sl.xor1_any x y _).mono ?_); rintro e w5 ⟨rfl, rfl⟩))
      have e : B8 (x ^^^ y) = .int .u8 ((x.toNat ^^^ y.toNat : Nat) : Int) := by
        show Value.int .u8 (((x ^^^ y).toNat : Nat) : Int) = _
        rw [UInt8.toNat_xor]
      have H6 := Lib.hid (show Has (wr.setCell ⟨w.heap.size, k, none⟩ (.int .u8 ((x.toNat ^^^ y.toNat : Nat) : Int))).drew w.heap.size 5 ((Sl.xz a b n (k + 1)).map B8) from by
        rw [← HX.out, List.map_set, e]
        exact (HH.out.set k _).drew)
      have HB6 := Lib.hid (show Below w.heap.size w (wr.setCell ⟨w.heap.size, k, none⟩ (.int .u8 ((x.toNat ^^^ y.toNat : Nat) : Int))).drew from (HBL.out.setCell (p := ⟨w.heap.size, k, none⟩) (Nat.le_refl _) _).drew)
      clear c1 c2 cg fg
      go_wp2_with fail
      go_roundw
      case rel => exact ⟨k + 1, by omega, by go_num, H6.out, HB6.out⟩
      case measure => simp [intOf]; omega
    · have hkn : k = n := by omega
      subst hkn
      rw [Sl.xz_n a b k HLA.out] at hH
      clear HH HBL
      go_wp2_with fail
      go_ret
      exact ⟨rfl, hH, hBl⟩
theorem Sl.xor_any (A B : Option Addr) (n ca cb : Nat) (a b : List UInt8) (w : World) (ha : RdB w A n a) (hb : RdB w B n b) (hn : n ≤ 1000) :
    Calls Tryd.prog 33 #[.slice A n ca, .slice B n cb] w (Sl.RetX w n (Sl.xorl a b)) := by
  have HC := Lib.hid (Sl.comb_any A B n ca cb a b w ha hb hn)
  clear ha hb
  go_enter Tryd.func33, Tryd.ntmps33
  go_wp2_with fail
  refine HC.out.mono ?_
  rintro e w1 ⟨rfl, h1, h2⟩
  go_wp2_with fail
  go_ret
  exact ⟨rfl, h1, h2⟩
end Go.Proofs.YtideglpjgplpnaaDoor
/- Building of opaque rows; results out of a cell; what is kept beside one block. -/
namespace Go.Proofs.YtideglpjgplpnaaDoor
open Go.RowKit Go.Shelf
set_option linter.unusedVariables false

theorem list32 {α : Type} (l : List α) (h : l.length = 32) : ∃ x0 x1 x2 x3 x4 x5 x6 x7 x8 x9 x10 x11 x12 x13 x14 x15 x16 x17 x18 x19 x20 x21 x22 x23 x24 x25 x26 x27 x28 x29 x30 x31, l = [x0, x1, x2, x3, x4, x5, x6, x7, x8, x9, x10, x11, x12, x13, x14, x15, x16, x17, x18, x19, x20, x21, x22, x23, x24, x25, x26, x27, x28, x29, x30, x31] := by
  rcases l with _ | ⟨x0, _ | ⟨x1, _ | ⟨x2, _ | ⟨x3, _ | ⟨x4, _ | ⟨x5, _ | ⟨x6, _ | ⟨x7, _ | ⟨x8, _ | ⟨x9, _ | ⟨x10, _ | ⟨x11, _ | ⟨x12, _ | ⟨x13, _ | ⟨x14, _ | ⟨x15, _ | ⟨x16, _ | ⟨x17, _ | ⟨x18, _ | ⟨x19, _ | ⟨x20, _ | ⟨x21, _ | ⟨x22, _ | ⟨x23, _ | ⟨x24, _ | ⟨x25, _ | ⟨x26, _ | ⟨x27, _ | ⟨x28, _ | ⟨x29, _ | ⟨x30, _ | ⟨x31, _ | ⟨x32, l⟩⟩⟩⟩⟩⟩⟩⟩⟩⟩⟩⟩⟩⟩⟩⟩⟩⟩⟩⟩⟩⟩⟩⟩⟩⟩⟩⟩⟩⟩⟩⟩⟩ <;> first | (exfalso; simp at h; done) | (exfalso; simp at h; omega) | exact ⟨x0, x1, x2, x3, x4, x5, x6, x7, x8, x9, x10, x11, x12, x13, x14, x15, x16, x17, x18, x19, x20, x21, x22, x23, x24, x25, x26, x27, x28, x29, x30, x31, rfl⟩

theorem wpList_buildR {P : Program} {ops : Array Oper} {rest : List Oper} {o : Oper} {a : Act} {w : World} {Q : Exit → Act → World → Prop} (hg : o.guard = none) (t : TypeId) (parts : Array (Nat × Operand)) (ho : o.op = .build t parts) (vs : List (Nat × Value)) (hv : parts.toList.map (fun p => (p.1, a.eval p.2)) = vs) (v : Value) (w' : World)
    (hr : (Instr.build t vs.toArray).run P w = .ok v w') (h : wpList P ops Q rest (a.put o.dst v) w') : wpList P ops Q (o :: rest) a w :=
  wpList_plain hg fun _ hK => by
    have hv' : (parts.map fun (i, x) => (i, a.eval x)) = vs.toArray := by rw [← hv]; apply Array.ext'; simp
    unfold Oper.wp execOp
    simp only [ho, hv', Sem.run_bind, hr, Result.andThen_ok]
    exact hK _ _ h
theorem wpList_buildSliceR {P : Program} {ops : Array Oper} {rest : List Oper} {o : Oper} {a : Act} {w : World} {Q : Exit → Act → World → Prop} (hg : o.guard = none) (t : TypeId) (len : Nat) (parts : Array (Nat × Operand)) (ho : o.op = .buildSlice t len parts) (vs : List (Nat × Value)) (hv : parts.toList.map (fun p => (p.1, a.eval p.2)) = vs) (v : Value) (w' : World)
    (hr : (Instr.buildSlice t len vs.toArray).run P w = .ok v w') (h : wpList P ops Q rest (a.put o.dst v) w') : wpList P ops Q (o :: rest) a w :=
  wpList_plain hg fun _ hK => by
    have hv' : (parts.map fun (i, x) => (i, a.eval x)) = vs.toArray := by rw [← hv]; apply Array.ext'; simp
    unfold Oper.wp execOp
    simp only [ho, hv', Sem.run_bind, hr, Result.andThen_ok]
    exact hK _ _ h
theorem Sl.elD : EltOk Tryd.prog 25 23 (.agg Dg.z32.toArray) 32 32 := ⟨Tryd.underlying25, by kernel_rfl, rfl, by decide⟩
/-- a sealed body's cells, its marks in V -/
def Sl.rowV (D : List UInt8) (vd : Value) (th mn : Int) (V : Value) : List Value := D.map Dg.b8 ++ [vd, .int .i64 th, .int .i64 mn, V]
theorem Sl.rowV_len {D : List UInt8} (h : D.length = 32) (vd : Value) (th mn : Int) (V : Value) : (Sl.rowV D vd th mn V).length = 36 := by simp [Sl.rowV, h]
theorem Sl.rowV_at {D : List UInt8} (h : D.length = 32) (vd : Value) (th mn : Int) (V : Value) : (Sl.rowV D vd th mn V)[35]? = some V := by
  have h2 : (D.map Dg.b8).length = 32 := by simp [h]
  unfold Sl.rowV
  rw [List.getElem?_append_right (by omega), h2]
  rfl
theorem Sl.rowV_set {D : List UInt8} (h : D.length = 32) (vd : Value) (th mn : Int) (V V' : Value) : (Sl.rowV D vd th mn V).set 35 V' = Sl.rowV D vd th mn V' := by
  have h2 : (D.map Dg.b8).length = 32 := by simp [h]
  unfold Sl.rowV
  rw [List.set_append_right _ _ (by omega), h2]
  rfl
theorem Sl.rowV_one (D : List UInt8) (A : Option Addr) (n c : Nat) (th mn : Int) (A2 : Option Addr) (n2 c2 : Nat) : ∀ v ∈ Sl.rowV D (.slice A n c) th mn (.slice A2 n2 c2), v.oneCell' = true := by
  intro v hv
  unfold Sl.rowV at hv
  simp only [List.mem_append, List.mem_cons, List.not_mem_nil, or_false] at hv
  rcases hv with hv | rfl | rfl | rfl | rfl
  · exact one_bytes _ v hv
  · rfl
  · rfl
  · rfl
  · rfl
def Sl.z36 : List Value := Dg.z32 ++ [.slice none 0 0, .int .i64 0, .int .i64 0, .slice none 0 0]
def Sl.zero : Sl.W := ⟨List.replicate 32 0, [], 0, 0, []⟩
theorem Sl.zero_row : Sl.row Sl.zero none 0 none 0 = Sl.z36 := rfl
theorem Sl.zero_ok (w : World) : Sl.Ok Sl.zero w none 0 none 0 := ⟨rfl, (fun _ h => by cases h), RdB.none_, Rd.none_, by decide, by decide, fun _ => rfl⟩
theorem Sl.infoW : (Tryd.prog.info? 27).map (·.size) = some 36 := by kernel_rfl
theorem Sl.bld (dc : List Value) (h : dc.length = 32) (A : Option Addr) (n c : Nat) (th mn : Int) (W : World) : (Instr.build 27 #[(0, .agg dc.toArray), (1, .slice A n c), (2, .int .i64 th), (3, .int .i64 mn)]).run Tryd.prog W = .ok (.agg (dc ++ [Value.slice A n c, .int .i64 th, .int .i64 mn, .slice none 0 0] : List Value).toArray) W := by
  obtain ⟨x0, x1, x2, x3, x4, x5, x6, x7, x8, x9, x10, x11, x12, x13, x14, x15, x16, x17, x18, x19, x20, x21, x22, x23, x24, x25, x26, x27, x28, x29, x30, x31, rfl⟩ := list32 dc h
  exact run_build W _ _ _ (by kernel_rfl)
theorem Sl.bld0 (W : World) : (Instr.build 27 #[]).run Tryd.prog W = .ok (.agg Sl.z36.toArray) W := run_build W _ _ _ (by kernel_rfl)
theorem Sl.bs1 (dc : List Value) (h : dc.length = 32) (W : World) : (Instr.buildSlice 25 1 #[(0, .agg dc.toArray)]).run Tryd.prog W = .ok (.slice (some ⟨W.heap.size, 0, none⟩) 1 1) (W.alloc (.cells dc.toArray 23)) := by
  obtain ⟨x0, x1, x2, x3, x4, x5, x6, x7, x8, x9, x10, x11, x12, x13, x14, x15, x16, x17, x18, x19, x20, x21, x22, x23, x24, x25, x26, x27, x28, x29, x30, x31, rfl⟩ := list32 dc h
  kernel_rfl
/-- a result out of a variable and two out of slots -/
theorem results_cell_row3 {P : Program} {fn : Func} {p q r : Tmp} {ty : TypeId} (h : fn.results = #[.cell p ty, .tmp q, .tmp r]) (tmps : Array Value) (w : World) (g : Nat) (t : TypeId) (cs : Array Value) (fr : Nat × Nat) (d : TypeDesc)
    (hp : tmps.getD p undef = .pointer (some ⟨g, 0, none⟩)) (hg : w.heap[g]? = some (.cells cs t fr))
    (hu : P.underlying ty = some d) (hd : (match d with | .struct _ | .array _ _ => true | _ => false) = true) (hi : (P.info? ty).map (·.size) = some cs.size) :
    (results fn tmps).run P w = .ok (.tuple #[.agg cs, tmps.getD q undef, tmps.getD r undef]) w := by
  have hp' : tmps[p]?.getD undef = .pointer (some ⟨g, 0, none⟩) := by simpa using hp
  simp [results, h, hp', asAddr, run_loadVar_row w g t ty cs fr d hg hu hd hi]
theorem grown_row (w : World) (g : Nat) (c : Array Value) : w.grownBy (w.setRow g c) (some g) := ⟨rfl, rfl, rfl, by simp [World.setRow], fun k hk hne => setRow_other w g k c (fun e => hne (by rw [e]))⟩
theorem grown_then {A B C : World} {row : Option Nat} (h : A.grownBy B row) (k : Below A.heap.size B C) : A.grownBy C row := ⟨k.os.trans h.os, k.tape.trans h.tape, k.output.trans h.output, Nat.le_trans h.size k.size, fun i hi hne => (k.block i hi).trans (h.block i hi hne)⟩
theorem grown_cell {A B : World} {g i : Nat} {v : Value} (h : A.grownBy B (some g)) (hg : A.heap.size ≤ B.heap.size) : A.grownBy (B.setCell ⟨g, i, none⟩ v) (some g) := ⟨h.os, h.tape, h.output, by simpa using h.size, fun k hk hne => (Below.heap_setCell B ⟨g, i, none⟩ v k (fun e => hne (by rw [e]))).trans (h.block k hk hne)⟩
theorem grown_two {A B C : World} {g : Nat} (h : A.grownBy B (some g)) (k : B.grownBy C (some g)) : A.grownBy C (some g) := ⟨k.os.trans h.os, k.tape.trans h.tape, k.output.trans h.output, Nat.le_trans h.size k.size, fun i hi hne => (k.block i (Nat.lt_of_lt_of_le hi h.size) hne).trans (h.block i hi hne)⟩
theorem Shr.Rds.kept {w w' : World} {A : Option Addr} {n : Nat} {xs : List Shr.C} {row : Option Nat} (h : Shr.Rds w A n xs) (hg : w.grownBy w' row) (hA : Far A row) (hx : ∀ x, x ∈ xs → Far x.A row) : Shr.Rds w' A n xs :=
  ⟨Rd.kept h.rd hg hA, h.len, fun x hxm => (h.ok x hxm).kept hg (hx x hxm)⟩
theorem run_op_store_cell {P : Program} {o : Oper} {a : Act} {w : World} (ty : TypeId) (x y : Operand) (ho : o.op = .store ty x y)
    (b off : Nat) (hx : a.eval x = .pointer (some ⟨b, off, none⟩)) (A : Option Addr) (n c : Nat) (hy : a.eval y = .slice A n c) (old : Value) (hc : w.cell? ⟨b, off, none⟩ = some old) (hf : w.frozen? ⟨b, off, none⟩ = false) (hz : (P.info? ty).map (·.size) = some 1) : (execOp a.eval o).run P w = .ok .skip (w.setCell ⟨b, off, none⟩ (.slice A n c)) := by
  have hsz : (sizeOf ty).run P w = .ok 1 w := by
    cases hq : P.info? ty with
    | none => simp [hq] at hz
    | some inf =>
      have hs : inf.size = 1 := by simpa [hq] using hz
      simp [sizeOf, typeInfo, Sem.run_bind, hq, hs]
  simp only [execOp, ho, hx, hy]
  simp [Instr.storeAt, Instr.sureAddr, storeVar, storeCells, hsz, Sem.run_bind, go_sem, hc, hf, Value.cells, Result.andThen]
end Go.Proofs.YtideglpjgplpnaaDoor
