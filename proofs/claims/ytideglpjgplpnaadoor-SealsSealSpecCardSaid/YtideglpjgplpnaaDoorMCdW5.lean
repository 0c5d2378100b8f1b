import Derived.Lib.AppendStr
import Derived.Test.YtideglpjgplpnaaDoorMCdW1
/- An append of a string onto a slice of bytes of the call's own; contract of the writer of texts. -/
namespace Go.Proofs.YtideglpjgplpnaaDoor
open Go.RowKit Go.Shelf
set_option linter.unusedVariables false

section
variable {P : Program} {t u e : TypeId} {w : World} {base : Nat} {v : Value} {n : Nat} {xs : List Value}
theorem run_append_str (E : EltOk P t e (.int .u8 0) 1 1) (hu : P.underlying u = some .string) (ty : TypeId) (hown : w.ownsRow base e 1 v n xs) (s : ByteArray)
    (h63 : n + s.size ≤ maxLen) (hbytes : n + s.size ≤ 140737488355328) (hbase : base ≤ w.heap.size) :
    ∃ v' w', (Builtin.append_ #[t, u] ty #[v, .string s]).run P w = .ok v' w' ∧ Grew w base e 1 v (n + s.size) (xs ++ Lib.strCells s) v' w' := by
  obtain ⟨i, hi, hz, hsize, hby⟩ := info_parts E.info
  obtain ⟨v', w', hr, h2, h3, h4⟩ := Lib.run_append_own_string (P := P) w base t u ty e i E.und hu hi hz hsize hby v n xs hown s h63 hbytes hbase
  refine ⟨v', w', hr, h2, h3, ?_⟩
  have hsmall : n + s.size ≤ 9223372036854775807 := by simp only [maxLen] at h63; omega
  have hxl : xs.length = n := by simpa using hown.1
  rcases hown.2 with ⟨rfl, rfl⟩ | ⟨g, cap, cur, rfl, hbg, hg, hnc, hcm, hcs, htake⟩
  · by_cases hm : s.size = 0
    · left
      have := h4.2 ⟨rfl, hm⟩
      rw [this]
    · have hr2 := run_append_nil_string (P := P) w t u ty e i (.int .u8 0) E.und hu hi hz s (by omega) (by omega) (by rw [hby]; omega)
      rw [hr2] at hr
      injection hr with e1 e2
      right
      rw [← e1]
      rfl
  · by_cases hroom : n + s.size ≤ cap
    · have hcs' : cur.size = cap := by simpa using hcs
      have hr2 := Lib.run_append_room_string (P := P) w t u ty e i E.und hu hi hsize g n cap cur hg s hroom (by omega)
      rw [hr2] at hr
      injection hr with e1 e2
      left
      rw [← e1]
      rfl
    · have holds : ∀ j u, xs[j]? = some u → w.cell? ((⟨g, 0, none⟩ : Addr).add j) = some u := hown.cells (g := g) rfl
      have hr2 := Lib.run_append_grow_string (P := P) w t u ty e i (.int .u8 0) E.und hu hi hz ⟨g, 0, none⟩ n cap xs (by rw [hsize]; simpa using hxl) holds s (by omega) (by omega) (by rw [hby]; exact growslice_fits (by omega) (by omega))
      rw [hr2] at hr
      injection hr with e1 e2
      right
      rw [← e1]
      rfl

theorem step_append_str {ops : Array Oper} {o : Oper} {a : Act} {K : Act → World → Prop} {Q : Exit → Act → World → Prop} {F : Prop} {s : ByteArray} (hgd : o.guard = none) (sl x : Operand) (ho : o.op = .call { callee := .builtin .append, args := #[sl, x], argTypes := #[t, u] })
    (E : EltOk P t e (.int .u8 0) 1 1) (hu : P.underlying u = some .string) (hs : a.eval sl = v) (hown : w.ownsRow base e 1 v n xs) (hx : a.eval x = .string s)
    (h63 : n + s.size ≤ maxLen) (hbytes : n + s.size ≤ 140737488355328) (hbase : base ≤ w.heap.size)
    (h : ∀ v' w', Grew w base e 1 v (n + s.size) (xs ++ Lib.strCells s) v' w' → K (a.put o.dst v') w') :
    if Region.wanted o (yielded ops a.tmps) = true then Oper.wp P o a w K Q else F := by
  rw [if_pos (by simp [Region.wanted, hgd])]
  obtain ⟨v', w', hr, hG⟩ := run_append_str E hu o.type hown s h63 hbytes hbase
  unfold Oper.wp execOp
  simp only [ho, resolve, invoke, builtin, Sem.run_bind, Sem.run_pure, Result.andThen_ok, List.map_toArray, List.map_cons, List.map_nil, hs, hx, hr]
  exact h v' w' hG
end
theorem strCells_eq (s : List UInt8) : Lib.strCells ⟨s.toArray⟩ = s.map fun a => Value.int .u8 (a.toNat : Int) := by
  unfold Lib.strCells
  simp
theorem str_size (s : List UInt8) : (⟨s.toArray⟩ : ByteArray).size = s.length := by
  show s.toArray.size = _
  simp

set_option maxRecDepth 100000 in
set_option maxHeartbeats 2000000 in
theorem Cd.wText_any (v : Value) (base : Nat) (k n : Int) (s : List UInt8) (A : Option Addr) (ln c : Nat) (xs : List UInt8) (w : World) (hown : w.ownsRow base 5 1 v xs.length (xs.map fun a => Value.int .u8 (a.toNat : Int))) (hbase : base ≤ w.heap.size) (hlen : xs.length + s.length ≤ 900000000) :
    Calls Tryd.prog 99 #[v, .agg #[.int .i64 k, .int .i64 n, .string ⟨s.toArray⟩, .slice A ln c]] w (Cd.RetG w base v (xs ++ (2 :: (Cd.num s.length ++ s)))) := by
  have HO := Lib.hid hown
  have HSZ0 := Lib.hid (str_size s)
  have HSC := Lib.hid (strCells_eq s)
  clear hown
  go_enter Tryd.func99, Tryd.ntmps99
  go_wp2_with fail
  obtain ⟨w0, hw0⟩ : ∃ w0, w0 = w.alloc (.cells #[.int .i64 k, .int .i64 n, .string ⟨s.toArray⟩, .slice A ln c] 77) := ⟨_, rfl⟩
  have HB0 := Lib.hid (show Below w.heap.size w w0 by rw [hw0]; exact (Below.refl _ _).alloc (Nat.le_refl _) _)
  have HH0 := Lib.hid (show Has w0 w.heap.size 77 [.int .i64 k, .int .i64 n, .string ⟨s.toArray⟩, .slice A ln c] by rw [hw0]; exact Has.new _ _ _)
  have HO0 := Lib.hid (own_below HO.out HB0.out)
  have hz0 : w0.heap.size = w.heap.size + 1 := by rw [hw0]; simp
  rw [← hw0]
  clear hw0
  have c1 := HH0.out.cell 2
  simp only [List.getElem?_cons_succ, List.getElem?_cons_zero] at c1
  have HEN := Lib.hid (enters_of Tryd.func97 (by kernel_rfl) rfl)
  have OW := Lib.hid (show ((w0.alloc (.cells #[.int .u8 2] 5)).drew).ownsRow base 5 1 v xs.length (xs.map fun a => Value.int .u8 (a.toNat : Int)) from own_drew (HO0.out.alloc _))
  have SR := Lib.hid (show Rd ((w0.alloc (.cells #[.int .u8 2] 5)).drew) (w0.heap.size + 1) 1 (some ⟨w0.heap.size, 0, none⟩) 1 [.int .u8 2] by have h := rd_new w0 5 1 [.int .u8 2] rfl; rw [World.size_alloc] at h; exact h)
  have H1 := Lib.hid (show ∀ u ∈ [Value.int .u8 2], u.oneCell' = true by simp [Value.oneCell'])
  have H63 := Lib.hid (show xs.length + 1 ≤ maxLen by unfold maxLen; omega)
  have H64 := Lib.hid (show (xs.length + 1) * 1 ≤ 140737488355328 by omega)
  have HPB := Lib.hid (show Below w0.heap.size w0 ((w0.alloc (.cells #[.int .u8 2] 5)).drew) from ((Below.refl _ _).alloc (Nat.le_refl _) _).drew)
  have HBS := Lib.hid (show base ≤ ((w0.alloc (.cells #[.int .u8 2] 5)).drew).heap.size from Nat.le_trans (by omega) HPB.out.size)
  have HGW := Lib.hid (show ∀ v4 w4, Grew ((w0.alloc (.cells #[.int .u8 2] 5)).drew) base 5 1 v (xs.length + 1) ((xs.map fun a => Value.int .u8 (a.toNat : Int)) ++ [.int .u8 2]) v4 w4 → Grw w0 base v (xs.length + 1) (xs ++ [2]) v4 w4 from fun v4 w4 hG =>
    Grw.pre HPB.out (Grw.of hG (by rw [List.map_append (l₂ := [2])]; rfl)))
  have HNU := Lib.hid (show ∀ v4 w4, Grw w0 base v (xs.length + 1) (xs ++ [2]) v4 w4 → Calls Tryd.prog 97 #[v4, .int .u64 (s.length : Nat)] w4 (Cd.RetG w4 base v4 ((xs ++ [2]) ++ Cd.num s.length)) from fun v4 w4 hG =>
    Cd.numeral_any v4 base s.length (xs ++ [2]) w4 (by have h := hG.own; rw [show (xs ++ [(2 : UInt8)]).length = xs.length + 1 by simp]; exact h) (by have := hG.grown.size; omega) (by omega) (by simp; omega))
  have HCL := Lib.hid (show ∀ n1 x1 v4 w4, Grw w0 base v n1 x1 v4 w4 → w4.cell? ⟨w.heap.size, 2, none⟩ = some (.string ⟨s.toArray⟩) from fun n1 x1 v4 w4 hG => by
    have h := (HH0.out.grown hG.grown (fun e => by have := (HO.out.lt _ e).2; omega)).cell 2
    simpa using h)
  have HSZ := Lib.hid (show ∀ n1 x1 v4 w4, Grw w0 base v n1 x1 v4 w4 → w.heap.size < w4.heap.size from fun n1 x1 v4 w4 hG => by have := hG.grown.size; omega)
  have HTR := Lib.hid (show ∀ v4 w4 v5 w5, Grw w0 base v (xs.length + 1) (xs ++ [2]) v4 w4 → Cd.RetG w4 base v4 ((xs ++ [2]) ++ Cd.num s.length) (.returned v5) w5 → Grw w0 base v (xs ++ (2 :: Cd.num s.length)).length (xs ++ (2 :: Cd.num s.length)) v5 w5 from fun v4 w4 v5 w5 hG hR => by
    obtain ⟨v6, e6, hG6⟩ := hR
    injection e6 with e6
    subst e6
    rw [show xs ++ (2 :: Cd.num s.length) = (xs ++ [2]) ++ Cd.num s.length by simp]
    exact hG.trans hG6)
  have HNL := Lib.hid (Cd.num_len s.length)
  have H65 := Lib.hid (show (xs ++ (2 :: Cd.num s.length)).length + (⟨s.toArray⟩ : ByteArray).size ≤ maxLen by rw [HSZ0.out]; have := HNL.out; unfold maxLen; simp; omega)
  have H66 := Lib.hid (show (xs ++ (2 :: Cd.num s.length)).length + (⟨s.toArray⟩ : ByteArray).size ≤ 140737488355328 by rw [HSZ0.out]; have := HNL.out; simp; omega)
  have HFI := Lib.hid (show ∀ v5 w5 v6 w6, Grw w0 base v (xs ++ (2 :: Cd.num s.length)).length (xs ++ (2 :: Cd.num s.length)) v5 w5 → Grew w5 base 5 1 v5 ((xs ++ (2 :: Cd.num s.length)).length + (⟨s.toArray⟩ : ByteArray).size) (((xs ++ (2 :: Cd.num s.length)).map fun a => Value.int .u8 (a.toNat : Int)) ++ Lib.strCells ⟨s.toArray⟩) v6 w6 → Grw w base v (xs ++ (2 :: (Cd.num s.length ++ s))).length (xs ++ (2 :: (Cd.num s.length ++ s))) v6 w6 from fun v5 w5 v6 w6 hG hR => by
    rw [HSZ0.out, HSC.out] at hR
    have h2 := Grw.of hR (xs := xs ++ (2 :: Cd.num s.length) ++ s) (by rw [List.map_append (l₂ := s)])
    rw [show xs ++ (2 :: (Cd.num s.length ++ s)) = xs ++ (2 :: Cd.num s.length) ++ s by simp, List.length_append (bs := s)]
    exact Grw.pre HB0.out (hG.trans h2))
  have HBW := Lib.hid (show ∀ n1 x1 v4 w4, Grw w0 base v n1 x1 v4 w4 → base ≤ w4.heap.size from fun n1 x1 v4 w4 hG => by have := hG.grown.size; omega)
  have hcv : IntKind.u64.wrap ((s.length : Nat) : Int) = ((s.length : Nat) : Int) := by rw [Cd.u64_wrap]; omega
  have hsz := HSZ0.out
  have c1a := (HH0.out.alloc (.cells #[.int .u8 2] 5)).cell 2
  simp only [List.getElem?_cons_succ, List.getElem?_cons_zero] at c1a
  have z0 := HH0.out.lt
  clear hz0
  go_region_law (first
    | (refine step_append_rd (by rfl) (.tmp 5) (.tmp 6) (by rfl) el27 (by rfl) OW.out (by rfl) SR.out H1.out (fun h => by (cases h)) H63.out H64.out HBS.out ?_; intro v4 w4 hG4; have HG4 := Lib.hid (HGW.out v4 w4 hG4); have c14 := HCL.out _ _ v4 w4 HG4.out; have z14 := HSZ.out _ _ v4 w4 HG4.out; clear hG4)
    | (refine step_callR _ 97 (.tmp 7) (.tmp 11) _ v4 (.int .u64 ((s.length : Nat) : Int)) (by rfl) (by rfl) HEN.out (by rfl) (by rfl) (HNU.out v4 w4 HG4.out) (fun e w' h => by obtain ⟨v', e', _⟩ := h; exact ⟨v', e'⟩) ?_; intro v5 w5 hR5; have HG5 := Lib.hid (HTR.out v4 w4 v5 w5 HG4.out hR5); have c15 := HCL.out _ _ v5 w5 HG5.out; have z15 := HSZ.out _ _ v5 w5 HG5.out; clear hR5)
    | (refine step_append_str (by rfl) (.tmp 12) (.tmp 14) (by rfl) el27 Tryd.underlying9 (by rfl) HG5.out.own (by rfl) H65.out H66.out (HBW.out _ _ v5 w5 HG5.out) ?_; intro v6 w6 hG6; have HG6 := Lib.hid (HFI.out v5 w5 v6 w6 HG5.out hG6); clear hG6))
  all_goals (
    go_wp2_with fail
    go_ret
    exact ⟨_, rfl, HG6.out⟩)
end Go.Proofs.YtideglpjgplpnaaDoor
