import Derived.Test.YtideglpjgplpnaaDoorMShW3
/- Contract of shares.Split. -/
namespace Go.Proofs.YtideglpjgplpnaaDoor
open Go.RowKit Go.Shelf
set_option linter.unusedVariables false

/-- slice v of n shares is the call's own, its data lie elsewhere -/
structure Shr.Own (W : World) (base : Nat) (v : Value) (n : Nat) (xs : List Shr.C) : Prop where
  row : W.ownsRow base 43 5 v n (xs.flatMap Shr.C.cells)
  ok : ∀ x, x ∈ xs → x.Ok W ∧ Far x.A v.ownBlock ∧ (∀ b off, x.A = some ⟨b, off, none⟩ → b < W.heap.size)
theorem Shr.Own.keep {W W' : World} {base n : Nat} {v : Value} {xs : List Shr.C} (h : Shr.Own W base v n xs) (hb : Below W.heap.size W W') : Shr.Own W' base v n xs :=
  ⟨own_below h.row hb, fun x hx => ⟨(h.ok x hx).1.keep hb, (h.ok x hx).2.1, fun b off e => Nat.lt_of_lt_of_le ((h.ok x hx).2.2 b off e) hb.size⟩⟩
theorem Shr.Own.rds {W : World} {base n c : Nat} {A : Option Addr} {xs : List Shr.C} (h : Shr.Own W base (.slice A n c) n xs) : Shr.Rds W A n xs := Shr.Rds.of_own h.row (fun x hx => (h.ok x hx).1)
theorem Shr.Own.nil (W : World) (base : Nat) : Shr.Own W base (.slice none 0 0) 0 [] := ⟨World.ownsRow_nil _ _ _ _, fun _ h => by cases h⟩
theorem Shr.C.Ok.kept {x : Shr.C} {w w' : World} {row : Option Nat} (h : x.Ok w) (hg : w.grownBy w' row) (hf : Far x.A row) : x.Ok w' := ⟨h.rd.kept hg hf, h.len, h.nil⟩
/-- behind an append of one share -/
theorem Shr.Own.grow {W W' : World} {base n : Nat} {v v' : Value} {xs : List Shr.C} {x : Shr.C} {o : Obj} (h : Shr.Own W base v n xs) (hx : x.Ok W ∧ Far x.A v.ownBlock ∧ (∀ b off, x.A = some ⟨b, off, none⟩ → b < W.heap.size))
    (hG : Grew (W.alloc o) base 43 5 v (n + 1) (xs.flatMap Shr.C.cells ++ x.cells) v' W') : Shr.Own W' base v' (n + 1) (xs ++ [x]) := by
  refine ⟨by rw [List.flatMap_append, List.flatMap_singleton]; exact hG.own, fun y hy => ?_⟩
  have hy' : y.Ok W ∧ Far y.A v.ownBlock ∧ (∀ b off, y.A = some ⟨b, off, none⟩ → b < W.heap.size) := by
    rcases List.mem_append.1 hy with h1 | h1
    · exact h.ok y h1
    · rw [List.mem_singleton] at h1; subst h1; exact hx
  have h3 := hy'.1.keep ((Below.refl W.heap.size W).alloc (Nat.le_refl _) o)
  have hlt : ∀ b off, y.A = some ⟨b, off, none⟩ → b < (W.alloc o).heap.size := fun b off e => by have := hy'.2.2 b off e; simp; omega
  exact ⟨h3.kept hG.grown hy'.2.1, hy'.2.1.grew hlt hG, fun b off e => Nat.lt_of_lt_of_le (hlt b off e) hG.grown.size⟩
theorem elS : EltOk Tryd.prog 28 43 (.agg #[.int .i64 0, .int .i64 0, .int .i64 0, .int .i64 0, .slice none 0 0]) 5 56 := ⟨Tryd.underlying28, by kernel_rfl, rfl, by decide⟩
theorem Shr.one_cells (x : Shr.C) : ∀ u ∈ x.cells, u.oneCell' = true := by
  intro u hu
  simp only [Shr.C.cells, List.mem_cons, List.not_mem_nil, or_false] at hu
  rcases hu with rfl | rfl | rfl | rfl | rfl <;> rfl
theorem own_mono {w : World} {base base' e size n : Nat} {v : Value} {xs : List Value} (h : w.ownsRow base e size v n xs) (hb : base' ≤ base) : w.ownsRow base' e size v n xs := by
  refine ⟨h.1, ?_⟩
  rcases h.2 with h0 | ⟨g, c, cur, hv, h1, h2⟩
  · exact .inl h0
  · exact .inr ⟨g, c, cur, hv, Nat.le_trans hb h1, h2⟩
theorem Shr.Own.mono {W : World} {base base' n : Nat} {v : Value} {xs : List Shr.C} (h : Shr.Own W base v n xs) (hb : base' ≤ base) : Shr.Own W base' v n xs := ⟨own_mono h.row hb, h.ok⟩
theorem Shr.Own.far {W : World} {base n g : Nat} {v : Value} {xs : List Shr.C} (h : Shr.Own W base v n xs) (hv : v.ownBlock ≠ some g) (hx : ∀ x, x ∈ xs → Far x.A (some g)) (j : Nat) (u : Value) : Shr.Own (W.setCell ⟨g, j, none⟩ u) base v n xs :=
  ⟨h.row.kept (grownBy_set W g j u) (.inr hv), fun x hxm => ⟨(h.ok x hxm).1.kept (grownBy_set W g j u) (hx x hxm), (h.ok x hxm).2.1, fun b off e => by have := (h.ok x hxm).2.2 b off e; simpa using this⟩⟩
/-- shares are handed back, without an error -/
def Shr.RetS (w : World) (n : Nat) (r : List Shr.S) (e : Ending) (w' : World) : Prop := ∃ v xs, e = .returned (.tuple #[v, .int .i64 0]) ∧ Shr.Own w' w.heap.size v n xs ∧ (∀ x, x ∈ xs → Fresh w.heap.size x.A) ∧ Shr.vals xs = r ∧ Below w.heap.size w w'

theorem Shr.spE_pos (ns : Nat) (ep th mn : Int) (nc : Nat) (h : Shr.spE ns ep th mn nc = 0) : ns ≤ 64 ∧ 1 ≤ th ∧ th ≤ mn ∧ mn ≤ 8 ∧ 0 ≤ ep ∧ ep ≤ 1048576 ∧ (nc : Int) = (ns : Int) * (th - 1) := by
  unfold Shr.spE at h
  split at h
  · exact absurd h (by decide)
  · split at h
    · exact absurd h (by decide)
    · split at h
      · exact absurd h (by decide)
      · split at h
        · exact absurd h (by decide)
        · refine ⟨by omega, by omega, by omega, by omega, by omega, by omega, by omega⟩

set_option maxRecDepth 100000 in
set_option maxHeartbeats 2000000 in
theorem Shr.split_no (As Ac : Option Addr) (ns cs nc cc : Nat) (ep th mn : Int) (w : World) (hns : ns ≤ maxLen) (hnc : nc ≤ maxLen) (hth : -9223372036854775808 ≤ th ∧ th ≤ 9223372036854775807) (h : Shr.spE ns ep th mn nc ≠ 0) :
    Calls Tryd.prog 37 #[.slice As ns cs, .int .i64 ep, .int .i64 th, .int .i64 mn, .slice Ac nc cc] w fun e w' => e = .returned (.tuple #[.slice none 0 0, .int .i64 (Shr.spE ns ep th mn nc)]) ∧ Below w.heap.size w w' := by
  unfold maxLen at hns hnc
  by_cases h1 : 64 < ns
  · have HE := Lib.hid (show Shr.spE ns ep th mn nc = 1 by rw [Shr.spE, if_pos h1])
    go_enter Tryd.func37, Tryd.ntmps37
    go_wp2_with fail
    go_ret2
    exact ⟨by rw [HE.out]; rfl, below3 _ _ _ _⟩
  · by_cases h2 : th < 1 ∨ mn < th ∨ 8 < mn
    · have HE := Lib.hid (show Shr.spE ns ep th mn nc = 60 by rw [Shr.spE, if_neg h1, if_pos h2])
      by_cases g1 : th < 1
      · clear h h2
        go_enter Tryd.func37, Tryd.ntmps37
        go_wp2_with fail
        go_ret2
        exact ⟨by rw [HE.out]; rfl, below3 _ _ _ _⟩
      · by_cases g2 : mn < th
        · clear h h2
          go_enter Tryd.func37, Tryd.ntmps37
          go_wp2_with fail
          go_ret2
          exact ⟨by rw [HE.out]; rfl, below3 _ _ _ _⟩
        · have g3 : 8 < mn := by omega
          clear h h2
          go_enter Tryd.func37, Tryd.ntmps37
          go_wp2_with fail
          go_ret2
          exact ⟨by rw [HE.out]; rfl, below3 _ _ _ _⟩
    · have g1 : 1 ≤ th := by omega
      have g2 : th ≤ mn := by omega
      have g3 : mn ≤ 8 := by omega
      by_cases h3 : ep < 0 ∨ 1048576 < ep
      · have HE := Lib.hid (show Shr.spE ns ep th mn nc = 61 by rw [Shr.spE, if_neg h1, if_neg h2, if_pos h3])
        by_cases k1 : ep < 0
        · clear h h2 h3
          go_enter Tryd.func37, Tryd.ntmps37
          go_wp2_with fail
          go_ret2
          exact ⟨by rw [HE.out]; rfl, below3 _ _ _ _⟩
        · have k2 : 1048576 < ep := by omega
          clear h h2 h3
          go_enter Tryd.func37, Tryd.ntmps37
          go_wp2_with fail
          go_ret2
          exact ⟨by rw [HE.out]; rfl, below3 _ _ _ _⟩
      · have k1 : 0 ≤ ep := by omega
        have k2 : ep ≤ 1048576 := by omega
        have h4 : (nc : Int) ≠ (ns : Int) * (th - 1) := fun e => h (by rw [Shr.spE, if_neg h1, if_neg h2, if_neg h3, if_neg (by simp [e])])
        have HE := Lib.hid (show Shr.spE ns ep th mn nc = 1 by rw [Shr.spE, if_neg h1, if_neg h2, if_neg h3, if_pos h4])
        clear h h2 h3
        have hp : (ns : Int) * (th - 1) ≤ 64 * 8 := Int.mul_le_mul (by omega) (by omega) (by omega) (by omega)
        have hp0 : 0 ≤ (ns : Int) * (th - 1) := Int.mul_nonneg (by omega) (by omega)
        obtain ⟨p, he⟩ : ∃ p, (ns : Int) * (th - 1) = p := ⟨_, rfl⟩
        rw [he] at hp hp0 h4
        have hw : wrap64 ((ns : Int) * (th - 1)) = p := by rw [he]; exact IntWalk.wrap64_in _ ⟨by omega, by omega⟩
        clear he
        have hq : ((nc : Int) != p) = true := by simpa using h4
        clear h4
        go_enter Tryd.func37, Tryd.ntmps37
        go_wp2_with fail
        go_ret2
        exact ⟨by rw [HE.out]; rfl, below3 _ _ _ _⟩

set_option maxRecDepth 100000 in
set_option maxHeartbeats 1000000 in
theorem Shr.split_yes (As Ac : Option Addr) (ns cs nc cc : Nat) (ep : Int) (t mn : Nat) (sec coins : List UInt8) (w : World) (hrs : RdB w As ns sec) (hrc : RdB w Ac nc coins) (hcc : nc ≤ cc) (hccm : cc ≤ maxLen) (hnil : Ac = none → cc = 0)
    (h1 : ns ≤ 64) (h2 : 1 ≤ t) (h3 : t ≤ mn) (h4 : mn ≤ 8) (h5 : 0 ≤ ep) (h6 : ep ≤ 1048576) (h7 : nc = ns * (t - 1)) :
    Calls Tryd.prog 37 #[.slice As ns cs, .int .i64 ep, .int .i64 t, .int .i64 mn, .slice Ac nc cc] w (Shr.RetS w mn (Shr.spl sec ep t mn coins)) := by
  have HRS := Lib.hid hrs
  have HRC := Lib.hid hrc
  have HCC := Lib.hid hcc
  have HCM := Lib.hid hccm
  have HNIL := Lib.hid hnil
  have H7 := Lib.hid h7
  have HSL := Lib.hid hrs.len
  have HCL := Lib.hid hrc.len
  have hp : ns * (t - 1) ≤ 64 * 8 := Nat.mul_le_mul (by omega) (by omega)
  have hncb : nc ≤ 512 := by omega
  have hw : wrap64 ((ns : Int) * ((t : Int) - 1)) = (nc : Int) := by
    rw [show ((t : Int) - 1) = ((t - 1 : Nat) : Int) by omega, ← Int.natCast_mul, ← h7]
    exact IntWalk.wrap64_in _ ⟨by omega, by omega⟩
  have HLL := Lib.hid (fun k hk => Shr.line_len sec coins t k h2 (by rw [hrc.len, hrs.len]; exact h7) (by rw [hrs.len]; exact hk))
  clear hrs hrc hcc hccm hnil h7 hp
  have d1 : decide ((64 : Int) < (ns : Int)) = false := decide_eq_false (by omega)
  have d2 : decide ((t : Int) < 1) = false := decide_eq_false (by omega)
  have d3 : decide ((8 : Int) < (mn : Int)) = false := decide_eq_false (by omega)
  have d4 : decide (ep < 0) = false := decide_eq_false (by omega)
  have d5 : decide (1048576 < ep) = false := decide_eq_false (by omega)
  have d6 : decide (mn < t) = false := decide_eq_false (by omega)
  go_enter Tryd.func37, Tryd.ntmps37
  go_wp2_with fail
  clear hw d1 d2 d3 d4 d5 d6
  obtain ⟨W0, hW0⟩ : ∃ W0, ((w.alloc (.cells #[.slice As ns cs] 24)).alloc (.cells #[.int .i64 (t : Int)] 3)).alloc (.cells #[.slice Ac nc cc] 24) = W0 := ⟨_, rfl⟩
  have HB0 := Lib.hid (show Below w.heap.size w W0 by rw [← hW0]; exact below3 _ _ _ _)
  have hz0 : W0.heap.size = w.heap.size + 3 := by rw [← hW0]; simp
  have HS0 := Lib.hid (show Shr.Sp w.heap.size (w.heap.size + 1 + 1) (w.heap.size + 1) As Ac ns cs nc cc t sec coins W0 by
    refine ⟨?_, ?_, ?_, HRS.out.keep HB0.out, HRC.out.keep HB0.out, by omega, by omega, by omega⟩
    · rw [← hW0]; exact (((Has.new w 24 [.slice As ns cs]).alloc _).alloc _).c1
    · rw [← hW0]
      have h := (Has.new ((w.alloc (.cells #[.slice As ns cs] 24)).alloc (.cells #[.int .i64 (t : Int)] 3)) 24 [.slice Ac nc cc]).c1
      simpa using h
    · rw [← hW0]
      have h := ((Has.new (w.alloc (.cells #[.slice As ns cs] 24)) 3 [.int .i64 (t : Int)]).alloc (.cells #[.slice Ac nc cc] 24)).c1
      simpa using h)
  rw [hW0]
  clear hW0
  have hf : ∀ (k : Nat) (W : World), k < ns → Shr.Sp w.heap.size (w.heap.size + 1 + 1) (w.heap.size + 1) As Ac ns cs nc cc t sec coins W → Calls Tryd.prog 67 (#[.int .i64 (k : Int)] ++ #[.pointer (some ⟨w.heap.size, 0, none⟩), .pointer (some ⟨w.heap.size + 1 + 1, 0, none⟩), .pointer (some ⟨w.heap.size + 1, 0, none⟩)]) W (RetB W t (Shr.line sec coins t k)) :=
    fun k W hk hS => Shr.sp1_any _ _ _ As Ac ns cs nc cc t k sec coins W hS hk h1 h2 (by omega) H7.out HCC.out HCM.out HNIL.out
  have hC := Shr.colsQ 67 #[.pointer (some ⟨w.heap.size, 0, none⟩), .pointer (some ⟨w.heap.size + 1 + 1, 0, none⟩), .pointer (some ⟨w.heap.size + 1, 0, none⟩)] ns (Shr.line sec coins t) t HLL.out (Shr.Sp w.heap.size (w.heap.size + 1 + 1) (w.heap.size + 1) As Ac ns cs nc cc t sec coins) W0 (enters_of Tryd.func67 (by kernel_rfl) rfl)
    (fun W W' h hb => h.keep hb) hf HS0.out (by omega)
  ((with_reducible refine hC.mono ?_); rintro e w1 ⟨AL, cL, qs, rfl, hQ, hql, hb1⟩)
  clear hf hC
  have HQ := Lib.hid hQ
  have HQL := Lib.hid hql
  have HB1 := Lib.hid (HB0.out.trans (hb1.mono (by omega)))
  have HS1 := Lib.hid (HS0.out.keep hb1)
  have hz1 : w.heap.size + 3 ≤ w1.heap.size := by have := hb1.size; omega
  have HVL := Lib.hid (show ∀ i : Nat, (List.range ns).map (fun k => Fld.ev (qs[k]!).l (UInt8.ofNat i)) = Shr.dat sec coins t i from fun i => by
    rw [Shr.dat, HSL.out]
    refine List.map_congr_left fun k hk => ?_
    have hk' : k < ns := List.mem_range.1 hk
    have hk2 : k < qs.length := by rw [hQ.len]; exact hk'
    have h := congrArg (fun l => l[k]?) hql
    simp only [List.getElem?_map, List.getElem?_eq_getElem hk2, List.getElem?_range hk', Option.map_some] at h
    injection h with h
    rw [getElem!_pos qs k hk2, h])
  have HQ8 := Lib.hid (show ∀ q, q ∈ qs → q.l.length ≤ 8 from fun q hq => by
    have h : q.l ∈ qs.map Bq.l := List.mem_map_of_mem hq
    rw [hql] at h
    obtain ⟨k, hk, e⟩ := List.mem_map.1 h
    rw [← e, HLL.out k (List.mem_range.1 hk)]
    omega)
  clear hQ hql hb1 HB0 HS0 hz0 HLL
  go_wp2_with fail
  obtain ⟨W2, hW2⟩ : ∃ W2, (w1.alloc (.cells #[.slice AL ns cL] 99)).alloc (.cells #[.int .i64 1] 3) = W2 := ⟨_, rfl⟩
  have hz2 : W2.heap.size = w1.heap.size + 2 := by rw [← hW2]; simp
  have HB12 := Lib.hid (show Below w1.heap.size w1 W2 by rw [← hW2]; exact ((Below.refl _ _).alloc (Nat.le_refl _) _).alloc (by simp) _)
  have HL2 := Lib.hid (show Has W2 w1.heap.size 99 [.slice AL ns cL] by rw [← hW2]; exact (Has.new w1 _ _).alloc _)
  have HI2 := Lib.hid (show Has W2 (w1.heap.size + 1) 3 [.int .i64 ((0 + 1 : Nat) : Int)] by
    rw [← hW2]
    have h := Has.new (w1.alloc (.cells #[.slice AL ns cL] 99)) 3 [.int .i64 1]
    rw [World.size_alloc] at h
    exact h)
  have HS2 := Lib.hid (HS1.out.keep HB12.out)
  have HQ2 := Lib.hid (HQ.out.keep HB12.out)
  have HBW := Lib.hid (HB1.out.trans (HB12.out.mono (by omega)))
  rw [hW2]
  clear hW2 HS1 HQ
  go_loopw [10, 13] (fun v p wr => ∃ (k bi : Nat) (xs : List Shr.C), k ≤ mn ∧ p = .pointer (some ⟨bi, 0, none⟩) ∧ Has wr bi 3 [.int .i64 ((k + 1 : Nat) : Int)] ∧ v.ownBlock ≠ some bi ∧ Shr.Own wr W2.heap.size v k xs ∧ (∀ x, x ∈ xs → Fresh W2.heap.size x.A) ∧ Shr.vals xs = (Shr.spl sec ep t mn coins).take k ∧ Below W2.heap.size W2 wr) (fun _ p wr => match p with | .pointer (some a) => mn + 1 - cellNat wr a.block 0 | _ => 0)
  case atStart => exact ⟨0, w1.heap.size + 1, [], by omega, rfl, HI2.out, by simp [Value.ownBlock], Shr.Own.nil _ _, fun _ h => by (cases h), rfl, Below.refl _ _⟩
  case round =>
    obtain ⟨k, bi, xs, hk, rfl, hI, hne, hO, hfr, hv, hB⟩ := hrel
    have HFR := Lib.hid hfr
    have HH := Lib.hid hI
    have HNE := Lib.hid hne
    have HO := Lib.hid hO
    have HV := Lib.hid hv
    have HB := Lib.hid hB
    obtain ⟨zi, ei⟩ := hI.r1
    have HM := Lib.hid (show cellNat wr bi 0 = k + 1 by unfold cellNat; rw [ei]; simp)
    have hS3 := HS2.out.keep HB.out
    have es := hS3.s
    have et := hS3.t
    clear hI hne hO hv hB hS3 hfr
    by_cases hlt : k < mn
    · have HT := Lib.hid (Shr.spl_take sec ep t mn coins k hlt)
      have HD := Lib.hid (HVL.out (k + 1))
      have HDL := Lib.hid (show (Shr.dat sec coins t (k + 1)).length = ns by rw [Shr.dat_len, HSL.out])
      go_wp2_with fail
      have hf : ∀ (j : Nat) (W : World), j < ns → Shr.Sq w1.heap.size bi AL ns cL (k + 1) qs W → Calls Tryd.prog 69 (#[.int .i64 (j : Int)] ++ #[.pointer (some ⟨w1.heap.size, 0, none⟩), .pointer (some ⟨bi, 0, none⟩)]) W fun e W' => e = .returned (B8 (Fld.ev (qs[j]!).l (UInt8.ofNat (k + 1)))) ∧ Below W.heap.size W W' :=
        fun j W hj hS => Shr.sp2_any _ _ AL ns cL (k + 1) j qs W hS hj h1 (by omega) HQ8.out
      have hC := Shr.cols8 69 #[.pointer (some ⟨w1.heap.size, 0, none⟩), .pointer (some ⟨bi, 0, none⟩)] ns (fun j => Fld.ev (qs[j]!).l (UInt8.ofNat (k + 1))) (Shr.Sq w1.heap.size bi AL ns cL (k + 1) qs) wr (enters_of Tryd.func69 (by kernel_rfl) rfl)
        (fun W W' h hb => h.keep hb) hf ⟨(HL2.out.keep HB.out).c1, ei, HQ2.out.keep HB.out, (HL2.out.keep HB.out).lt, zi⟩ (by omega)
      rw [HD.out] at hC
      ((with_reducible refine hC.mono ?_); rintro e w3 ⟨A3, c3, rfl, hn3, hr3, hfr3, hlt3, hb3⟩)
      clear hf hC
      obtain ⟨x, hx⟩ : ∃ x : Shr.C, x = ⟨⟨ep, ((k + 1 : Nat) : Int), (t : Int), (mn : Int), Shr.dat sec coins t (k + 1)⟩, A3, c3⟩ := ⟨_, rfl⟩
      have HX := Lib.hid (show x.Ok w3 ∧ Far x.A u10.ownBlock ∧ (∀ b off, x.A = some ⟨b, off, none⟩ → b < w3.heap.size) by
        subst hx
        exact ⟨⟨by show RdB w3 A3 (Shr.dat sec coins t (k + 1)).length _; rw [HDL.out]; exact hr3, by show (Shr.dat sec coins t (k + 1)).length ≤ maxLen; rw [HDL.out]; unfold maxLen; omega, hn3⟩, Far.fresh hfr3 HO.out.row (Nat.le_refl _), hlt3⟩)
      have HXC := Lib.hid (show x.cells = [.int .i64 ep, .int .i64 ((k : Int) + 1), .int .i64 (t : Int), .int .i64 (mn : Int), .slice A3 ns c3] by subst hx; show [_, _, _, _, Value.slice A3 (Shr.dat sec coins t (k + 1)).length c3] = _; rw [HDL.out]; rfl)
      have HXS := Lib.hid (show x.s = ⟨ep, ((k + 1 : Nat) : Int), (t : Int), (mn : Int), Shr.dat sec coins t (k + 1)⟩ by rw [hx])
      have HXA := Lib.hid (show Fresh wr.heap.size x.A by rw [hx]; exact hfr3)
      have HWR := Lib.hid HB.out.size
      have HO3 := Lib.hid (HO.out.keep hb3)
      have HB3 := Lib.hid (HB.out.trans (hb3.mono HB.out.size))
      have HH3 := HH.out.keep hb3
      obtain ⟨zi3, ei3⟩ := HH3.r1
      have et3 := (hb3.cell (p := ⟨w.heap.size + 1, 0, none⟩) (show w.heap.size + 1 < wr.heap.size by have := HB.out.size; omega)).trans et
      clear hb3 hn3 hr3 hfr3 hlt3 hx HO HB es et ei HH
      have HH3' := Lib.hid HH3
      clear HH3
      go_wp2_with (at_builtin; refine wpList_append_rd rfl _ _ rfl elS rfl (HO3.out.row.alloc _) rfl (rd_new w3 43 5 [.int .i64 ep, .int .i64 ((k : Int) + 1), .int .i64 (t : Int), .int .i64 (mn : Int), .slice A3 ns c3] rfl) (by simp [Value.oneCell']) (fun h => by (cases h)) (by simp only [maxLen]; omega) (by omega) (by have := HB3.out.size; simp; omega) ?_; intro v4 w4 hG; have HH4 := (HH3'.out.alloc (.cells #[.int .i64 ep, .int .i64 ((k : Int) + 1), .int .i64 (t : Int), .int .i64 (mn : Int), .slice A3 ns c3] 43)).grown hG.grown HNE.out; obtain ⟨z4, ei4⟩ := HH4.r1; have HG := Lib.hid hG; clear hG HH4)
      have HO4 := Lib.hid (HO3.out.grow HX.out (by rw [HXC.out]; exact HG.out))
      have HB4 := Lib.hid ((HB3.out.alloc HB3.out.size (.cells #[.int .i64 ep, .int .i64 ((k : Int) + 1), .int .i64 (t : Int), .int .i64 (mn : Int), .slice A3 ns c3] 43)).grown HG.out.grown (by have := HB3.out.size; simp; omega) (fun g e => own_ge HO3.out.row e))
      have HFR4 := Lib.hid (show ∀ z, z ∈ xs ++ [x] → Fresh W2.heap.size z.A from fun z hz => by
        rcases List.mem_append.1 hz with h | h
        · exact HFR.out z h
        · rw [List.mem_singleton] at h; subst h; exact HXA.out.mono HWR.out)
      have HV4 := Lib.hid (show Shr.vals (xs ++ [x]) = (Shr.spl sec ep t mn coins).take (k + 1) by rw [Shr.vals, List.map_append, HT.out]; show Shr.vals xs ++ [x.s] = _; rw [HV.out, HXS.out])
      have HM4 := Lib.hid (show cellNat (w4.alloc (.cells #[.int .i64 ((k : Int) + 1 + 1)] 3)) w4.heap.size 0 = k + 1 + 1 by unfold cellNat; rw [(Has.new w4 3 [.int .i64 ((k : Int) + 1 + 1)]).c1]; simp; omega)
      have hbn := (Below.refl w4.heap.size w4).alloc (Nat.le_refl _) (.cells #[.int .i64 ((k : Int) + 1 + 1)] 3)
      refine ⟨⟨k + 1, w4.heap.size, xs ++ [x], by omega, rfl, Has.new w4 3 [.int .i64 ((k : Int) + 1 + 1)], fun e => ?_, HO4.out.keep hbn, HFR4.out, HV4.out, HB4.out.alloc HB4.out.size _⟩, ?_⟩
      · have := (HO4.out.row.lt _ e).2
        omega
      · show mn + 1 - cellNat _ w4.heap.size 0 < mn + 1 - cellNat wr bi 0
        rw [HM.out, HM4.out]
        omega
    · obtain rfl : k = mn := by omega
      go_wp2_with fail
      go_ret2
      exact ⟨_, xs, rfl, HO.out.mono (by omega), fun x hx => (HFR.out x hx).mono (by omega), by rw [HV.out, Shr.spl_take_all], HBW.out.trans (HB.out.mono (by omega))⟩
end Go.Proofs.YtideglpjgplpnaaDoor
/- Contract of shares.points: the points of shares for a byte. -/
namespace Go.Proofs.YtideglpjgplpnaaDoor
open Go.RowKit Go.Shelf
set_option linter.unusedVariables false

/-- two slices of bytes of the call's own, in two blocks -/
structure Two (W : World) (base : Nat) (v1 v2 : Value) (n : Nat) (X Y : List UInt8) : Prop where
  x : W.ownsRow base 5 1 v1 n (X.map B8)
  y : W.ownsRow base 5 1 v2 n (Y.map B8)
  xy : v1.ownBlock = none ∨ v1.ownBlock ≠ v2.ownBlock
theorem Two.keep {W W' : World} {base n : Nat} {v1 v2 : Value} {X Y : List UInt8} (h : Two W base v1 v2 n X Y) (hb : Below W.heap.size W W') : Two W' base v1 v2 n X Y := ⟨own_below h.x hb, own_below h.y hb, h.xy⟩
theorem two_sym {a b : Option Nat} (h : a = none ∨ a ≠ b) : b = none ∨ b ≠ a := by
  cases b with
  | none => exact .inl rfl
  | some g =>
    refine .inr fun e => ?_
    rcases h with h | h
    · rw [h] at e; cases e
    · exact h e.symm
/-- what an append leaves is in none of the blocks that the old slice was apart from -/
theorem Grew.apart {w w' : World} {base e size n : Nat} {v v' : Value} {xs : List Value} (hG : Grew w base e size v n xs v' w') {row : Option Nat} (h : v.ownBlock = none ∨ v.ownBlock ≠ row) (hlt : ∀ g, row = some g → g < w.heap.size) : v'.ownBlock = none ∨ v'.ownBlock ≠ row := by
  rcases hG.at_ with e | e
  · rw [e]; exact h
  · rw [e]
    refine .inr fun e2 => ?_
    have := hlt _ e2.symm
    omega
/-- behind two appends, one onto each -/
theorem Two.step {W w0 pre wA wm wB : World} {base n : Nat} {v1 v2 vA vB : Value} {X Y : List UInt8} {a b : UInt8} (h : Two w0 base v1 v2 n X Y) (hB0 : Below base W w0) (hbase : base ≤ w0.heap.size) (hpre : Below w0.heap.size w0 pre)
    (hGA : Grew pre base 5 1 v1 (n + 1) (X.map B8 ++ [B8 a]) vA wA) (hmid : Below wA.heap.size wA wm) (hGB : Grew wm base 5 1 v2 (n + 1) (Y.map B8 ++ [B8 b]) vB wB) :
    Two wB base vA vB (n + 1) (X ++ [a]) (Y ++ [b]) ∧ Below base W wB := by
  have h2lt : ∀ g, v2.ownBlock = some g → g < pre.heap.size := fun g e => Nat.lt_of_lt_of_le (h.y.lt g e).2 hpre.size
  have hA2 := hGA.apart h.xy h2lt
  have hsz := hGA.grown.size
  have hsp := hpre.size
  have hsm := hmid.size
  have hAlt : ∀ g, vA.ownBlock = some g → g < wm.heap.size := fun g e => Nat.lt_of_lt_of_le (hGA.own.lt g e).2 hmid.size
  refine ⟨⟨by rw [List.map_append]; exact (own_below hGA.own hmid).kept hGB.grown hA2, by rw [List.map_append]; exact hGB.own, two_sym (hGB.apart (two_sym hA2) hAlt)⟩, ?_⟩
  have b1 : Below base W pre := hB0.trans (hpre.mono hbase)
  have b2 : Below base W wA := b1.grown hGA.grown (by omega) (fun g e => own_ge h.x e)
  have b3 : Below base W wm := b2.trans (hmid.mono (by omega))
  exact b3.grown hGB.grown (by omega) (fun g e => own_ge h.y e)
theorem Rd.keptB {w w' : World} {B size n : Nat} {A : Option Addr} {xs : List Value} {row : Option Nat} (h : Rd w B size A n xs) (hg : w.grownBy w' row) (hf : Far A row) : Rd w' B size A n xs :=
  ⟨h.1, fun hn => by
    obtain ⟨b, off, e, hb, hc⟩ := h.2 hn
    exact ⟨b, off, e, hb, fun j u hu => hg.cell (hc j u hu) (hf b off e)⟩⟩
theorem far_new {b : Nat} {row : Option Nat} (h : ∀ g, row = some g → g < b) : Far (some ⟨b, 0, none⟩) row := by
  rintro b' off e e2
  injection e with e
  injection e with e1
  subst e1
  have := h b e2.symm
  omega
theorem rd_old (w : World) (t : TypeId) (v : Value) (o : Obj) : Rd ((w.alloc (.cells [v].toArray t)).alloc o) (w.alloc (.cells [v].toArray t)).heap.size 1 (some ⟨w.heap.size, 0, none⟩) 1 [v] :=
  (rd_new w t 1 [v] rfl).below ((Below.refl _ _).alloc (Nat.le_refl _) _) (Nat.le_refl _)

theorem Rd.drew {w : World} {B size n : Nat} {A : Option Addr} {xs : List Value} (h : Rd w B size A n xs) : Rd w.drew B size A n xs := h
theorem rd_second (w : World) (t : TypeId) (v : Value) (o : Obj) : Rd ((w.alloc o).alloc (.cells [v].toArray t)) ((w.alloc o).alloc (.cells [v].toArray t)).heap.size 1 (some ⟨w.heap.size + 1, 0, none⟩) 1 [v] := by
  have h := rd_new (w.alloc o) t 1 [v] rfl
  rw [World.size_alloc w o] at h
  exact h

/-- the place of a share, as a byte -/
def Shr.S.bx (s : Shr.S) : UInt8 := UInt8.ofNat s.ix.toNat
theorem u8_wrapI (i : Int) (h0 : 0 ≤ i) (h : i ≤ 255) : IntKind.u8.wrap i = ((UInt8.ofNat i.toNat).toNat : Int) := by
  have := u8_wrap i.toNat (by omega)
  rwa [Int.toNat_of_nonneg h0] at this
/-- the points of shares are handed back -/
def Shr.RetP (w : World) (n : Nat) (X Y : List UInt8) (e : Ending) (w' : World) : Prop := ∃ v1 v2, e = .returned (.tuple #[v1, v2]) ∧ Two w' w.heap.size v1 v2 n X Y ∧ Below w.heap.size w w'
def Shr.ptX (l : List Shr.S) : List UInt8 := l.map Shr.S.bx
def Shr.ptY (l : List Shr.S) (k : Nat) : List UInt8 := l.map fun s => s.d.getD k 0
theorem Shr.ptX_take (xs : List Shr.C) (k : Nat) (hk : k < xs.length) : (Shr.ptX (Shr.vals xs)).take (k + 1) = (Shr.ptX (Shr.vals xs)).take k ++ [(xs[k]!).s.bx] := by
  rw [List.take_succ_eq_append_getElem (by simp [Shr.ptX, Shr.vals]; exact hk), getElem!_pos xs k hk]
  simp [Shr.ptX, Shr.vals]
theorem Shr.ptY_take (xs : List Shr.C) (a k : Nat) (hk : k < xs.length) : (Shr.ptY (Shr.vals xs) a).take (k + 1) = (Shr.ptY (Shr.vals xs) a).take k ++ [(xs[k]!).s.d.getD a 0] := by
  rw [List.take_succ_eq_append_getElem (by simp [Shr.ptY, Shr.vals]; exact hk), getElem!_pos xs k hk]
  simp [Shr.ptY, Shr.vals]

set_option maxRecDepth 100000 in
set_option maxHeartbeats 1000000 in
theorem Shr.points_any (A : Option Addr) (n c a : Nat) (xs : List Shr.C) (w : World) (hr : Shr.Rds w A n xs) (hn : n ≤ 1000) (hd : ∀ x, x ∈ xs → a < x.s.d.length) (hix : ∀ x, x ∈ xs → 0 ≤ x.s.ix ∧ x.s.ix ≤ 255) :
    Calls Tryd.prog 58 #[.slice A n c, .int .i64 a] w (Shr.RetP w n (Shr.ptX (Shr.vals xs)) (Shr.ptY (Shr.vals xs) a)) := by
  have HR := Lib.hid hr
  have HD := Lib.hid hd
  have HIX := Lib.hid hix
  have HL := Lib.hid hr.len
  clear hr hd hix
  go_enter Tryd.func58, Tryd.ntmps58
  go_wp2_with fail
  go_loopw [4, 5, 10] (fun v1 v2 i wr => ∃ k : Nat, k ≤ n ∧ i = .int .i64 k ∧ Two wr w.heap.size v1 v2 k ((Shr.ptX (Shr.vals xs)).take k) ((Shr.ptY (Shr.vals xs) a).take k) ∧ Below w.heap.size w wr) (fun _ _ i _ => n - (intOf i).toNat)
  case atStart => exact ⟨0, by omega, rfl, ⟨World.ownsRow_nil _ _ _ _, World.ownsRow_nil _ _ _ _, .inl rfl⟩, Below.refl _ _⟩
  case round =>
    obtain ⟨k, hk, rfl, hT, hB⟩ := hrel
    have HT := Lib.hid hT
    have HB := Lib.hid hB
    clear hT hB
    by_cases hlt : k < n
    · obtain ⟨b, off, rfl, hbw, e0, e1, e2, e3, e4⟩ := (HR.out.keep HB.out).at k hlt
      have hmem : xs[k]! ∈ xs := by rw [getElem!_pos xs k (by rw [HL.out]; exact hlt)]; exact List.getElem_mem _
      have hok := HR.out.mem k hlt
      have hda := HD.out _ hmem
      have hix := HIX.out _ hmem
      have HTX := Lib.hid (Shr.ptX_take xs k (by rw [HL.out]; exact hlt))
      have HTY := Lib.hid (Shr.ptY_take xs a k (by rw [HL.out]; exact hlt))
      generalize xs[k]! = x at e0 e1 e2 e3 e4 hok hda hix HTX HTY
      obtain ⟨bd, offd, hxA, hbd, ed0⟩ := hok.rd.byte a hda
      have ed := (HB.out.cell (p := ⟨bd, offd + a, none⟩) hbd).trans ed0
      have hlenm := hok.len
      rw [hxA] at e4
      clear hok hmem hxA ed0
      have hwx := u8_wrapI x.s.ix hix.1 hix.2
      generalize x.s.d.getD a 0 = y at ed HTY
      have HBX := Lib.hid (show x.s.bx = UInt8.ofNat x.s.ix.toNat from rfl)
      generalize x.s.d.length = dl at e4 hda hlenm
      generalize x.s.bx = bx at HTX HBX
      rw [← HBX.out] at hwx
      unfold maxLen at hlenm
      have hszw := HB.out.size
      have hxlt : ∀ g, u4.ownBlock = some g → g < wr.heap.size := fun g e => (HT.out.x.lt g e).2
      have hylt : ∀ g, u5.ownBlock = some g → g < wr.heap.size := fun g e => (HT.out.y.lt g e).2
      have hxge : ∀ g, u4.ownBlock = some g → w.heap.size ≤ g := fun g e => own_ge HT.out.x e
      have hyge : ∀ g, u5.ownBlock = some g → w.heap.size ≤ g := fun g e => own_ge HT.out.y e
      have HXL := Lib.hid hxlt
      have HYL := Lib.hid hylt
      have n1 : some wr.heap.size ≠ u4.ownBlock := fun e => by have := hxlt _ e.symm; omega
      have n2 : some wr.heap.size ≠ u5.ownBlock := fun e => by have := hylt _ e.symm; omega
      have n3 : some bd ≠ u4.ownBlock := fun e => by have := hxge _ e.symm; omega
      have n4 : some bd ≠ u5.ownBlock := fun e => by have := hyge _ e.symm; omega
      have N1 := Lib.hid n1
      have N2 := Lib.hid n2
      have N3 := Lib.hid n3
      have N4 := Lib.hid n4
      clear hxlt hylt hxge hyge n1 n2 n3 n4
      have hxd0 : (0 : Int) ≤ (a : Int) := by omega
      have hxd1 : (a : Int) < (dl : Int) := by omega
      go_wp2_with fail
      clear e0 e1 e2 e3 e4
      generalize hwW : wr.alloc (.cells #[.int .i64 x.s.ep, .int .i64 x.s.ix, .int .i64 x.s.th, .int .i64 x.s.mn, .slice (some ⟨bd, offd, none⟩) dl x.c] 43) = w0
      have HH0 := Lib.hid (show Has w0 wr.heap.size 43 [.int .i64 x.s.ep, .int .i64 x.s.ix, .int .i64 x.s.th, .int .i64 x.s.mn, .slice (some ⟨bd, offd, none⟩) dl x.c] by rw [← hwW]; exact Has.new wr _ _)
      have c1 := HH0.out.cell 1
      have c4 := HH0.out.cell 4
      simp only [List.getElem?_cons_succ, List.getElem?_cons_zero] at c1 c4
      have hBw := (Below.refl wr.heap.size wr).alloc (Nat.le_refl _) (.cells #[.int .i64 x.s.ep, .int .i64 x.s.ix, .int .i64 x.s.th, .int .i64 x.s.mn, .slice (some ⟨bd, offd, none⟩) dl x.c] 43)
      rw [hwW] at hBw
      have hz0 : w0.heap.size = wr.heap.size + 1 := by rw [← hwW]; simp
      have HT0 := Lib.hid (HT.out.keep hBw)
      have HB0 := Lib.hid (HB.out.trans (hBw.mono HB.out.size))
      have cd := (hBw.cell (p := ⟨bd, offd + a, none⟩) (show bd < wr.heap.size by omega)).trans ed
      have F0 := Lib.hid (show Far (some ⟨w0.heap.size, 0, none⟩) u4.ownBlock from far_new fun g e => by have := HXL.out g e; omega)
      have F1 := Lib.hid (show Far (some ⟨w0.heap.size + 1, 0, none⟩) u4.ownBlock from far_new fun g e => by have := HXL.out g e; omega)
      have HYX := Lib.hid (two_sym HT.out.xy)
      have HZ0 := Lib.hid hz0
      clear hwW hBw ed HT HB hz0
      go_region_held3 (fun w' => w'.cell? ⟨wr.heap.size, 1, none⟩ = some (.int .i64 x.s.ix) ∧ w'.cell? ⟨wr.heap.size, 4, none⟩ = some (.slice (some ⟨bd, offd, none⟩) dl x.c) ∧ w'.cell? ⟨bd, offd + a, none⟩ = some (B8 y))
        (first
          | exact ⟨c1, c4, cd⟩
          | go_keep
          | (go_split_ands
             refine ⟨?_, ?_, ?_⟩
             · first | (rw [hGB.grown.cell_far _ (by have := HZ0.out; have := hszw; simp; omega) N2.out]; assumption) | (rw [hGA.grown.cell_far _ (by have := HZ0.out; have := hszw; simp; omega) N1.out]; assumption)
             · first | (rw [hGB.grown.cell_far _ (by have := HZ0.out; have := hszw; simp; omega) N2.out]; assumption) | (rw [hGA.grown.cell_far _ (by have := HZ0.out; have := hszw; simp; omega) N1.out]; assumption)
             · first | (rw [hGB.grown.cell_far _ (by have := HZ0.out; have := hszw; simp; omega) N4.out]; assumption) | (rw [hGA.grown.cell_far _ (by have := HZ0.out; have := hszw; simp; omega) N3.out]; assumption)))
        (first
          | (refine step_append_rd (by rfl) (.tmp 14) (.tmp 18) (by rfl) el8 (by rfl) (own_drew (HT0.out.x.alloc _)) (by rfl) (rd_new _ 5 1 [B8 bx] rfl) (by simp [Value.oneCell']) (fun h => by (cases h)) (by unfold maxLen; omega) (by omega) (by have := HZ0.out; simp; omega) ?_; intro vA wA hGA; have hYa := (own_drew (HT0.out.y.alloc _)).kept hGA.grown HYX.out; have sA : wr.heap.size < wA.heap.size := (by have h1 := hGA.grown.size; have h2 := HZ0.out; simp at h1; omega))
          | (refine step_append_rd (by rfl) (.tmp 14) (.tmp 18) (by rfl) el8 (by rfl) (own_drew ((HT0.out.x.alloc _).alloc _)) (by rfl) (rd_second _ 5 (B8 bx) _) (by simp [Value.oneCell']) (fun h => by (cases h)) (by unfold maxLen; omega) (by omega) (by have := HZ0.out; simp; omega) ?_; intro vA wA hGA; have hYa := (own_drew ((HT0.out.y.alloc _).alloc _)).kept hGA.grown HYX.out; have sA : wr.heap.size < wA.heap.size := (by have h1 := hGA.grown.size; have h2 := HZ0.out; simp at h1; omega))
          | (refine step_append_rd (by rfl) (.tmp 14) (.tmp 18) (by rfl) el8 (by rfl) (own_drew ((HT0.out.x.alloc _).alloc _)) (by rfl) (rd_old _ 5 (B8 bx) _) (by simp [Value.oneCell']) (fun h => by (cases h)) (by unfold maxLen; omega) (by omega) (by have := HZ0.out; simp; omega) ?_; intro vA wA hGA; have hYa := (own_drew ((HT0.out.y.alloc _).alloc _)).kept hGA.grown HYX.out; have sA : wr.heap.size < wA.heap.size := (by have h1 := hGA.grown.size; have h2 := HZ0.out; simp at h1; omega))
          | (refine step_append_rd (by rfl) (.tmp 20) (.tmp 26) (by rfl) el8 (by rfl) (hYa.alloc _) (by rfl) (rd_new _ 5 1 [B8 y] rfl) (by simp [Value.oneCell']) (fun h => by (cases h)) (by unfold maxLen; omega) (by omega) (by have h1 := hGA.grown.size; have h2 := HZ0.out; simp at h1; simp; omega) ?_; intro vB wB hGB)
          | (refine step_append_rd (by rfl) (.tmp 20) (.tmp 26) (by rfl) el8 (by rfl) (hYa) (by rfl) ((rd_second _ 5 (B8 y) _).drew.keptB hGA.grown F1.out) (by simp [Value.oneCell']) (fun h => by (cases h)) (by unfold maxLen; omega) (by omega) (by have h1 := hGA.grown.size; have h2 := HZ0.out; simp at h1; simp; omega) ?_; intro vB wB hGB)
          | (refine step_append_rd (by rfl) (.tmp 20) (.tmp 26) (by rfl) el8 (by rfl) (hYa) (by rfl) ((rd_old _ 5 (B8 y) _).drew.keptB hGA.grown F0.out) (by simp [Value.oneCell']) (fun h => by (cases h)) (by unfold maxLen; omega) (by omega) (by have h1 := hGA.grown.size; have h2 := HZ0.out; simp at h1; simp; omega) ?_; intro vB wB hGB))
      all_goals (
        have hst : Two wB w.heap.size vA vB (k + 1) ((Shr.ptX (Shr.vals xs)).take (k + 1)) ((Shr.ptY (Shr.vals xs) a).take (k + 1)) ∧ Below w.heap.size w wB := by
          rw [HTX.out, HTY.out]
          have hle : w.heap.size ≤ w0.heap.size := by have := HZ0.out; omega
          first
            | exact HT0.out.step HB0.out hle ((Below.refl _ _).alloc (Nat.le_refl _) _).drew hGA ((Below.refl _ _).alloc (Nat.le_refl _) _) hGB
            | exact HT0.out.step HB0.out hle (((Below.refl _ _).alloc (Nat.le_refl _) _).alloc (by simp) _).drew hGA (Below.refl _ _) hGB
        have HST := Lib.hid hst
        clear hst hGA hGB hYa sA
        go_wp2_with fail
        go_roundw
        case rel => exact ⟨k + 1, by omega, by go_num, HST.out.1, HST.out.2⟩
        case measure => simp [intOf]; omega)
    · obtain rfl : k = n := by omega
      go_wp2_with fail
      go_ret2
      refine ⟨_, _, rfl, ?_, HB.out⟩
      have e1 := List.take_of_length_le (l := Shr.ptX (Shr.vals xs)) (i := k) (by simp [Shr.ptX, Shr.vals, HL.out])
      have e2 := List.take_of_length_le (l := Shr.ptY (Shr.vals xs) a) (i := k) (by simp [Shr.ptY, Shr.vals, HL.out])
      rw [e1, e2] at HT
      exact HT.out
end Go.Proofs.YtideglpjgplpnaaDoor
/- Plain mathematics of joining, explaining and refreshing shares. No condition; no program in sight. -/
namespace Go.Proofs.YtideglpjgplpnaaDoor

/-- the threshold of shares, as a number -/
def Shr.tt (l : List Shr.S) : Nat := l[0]!.th.toNat
/-- what Join answers: its error -/
def Shr.joinE (l : List Shr.S) : Int := if Shr.chkE l ≠ 0 then Shr.chkE l else if (l.length : Int) < l[0]!.th then 60 else 0
/-- byte number k of what Join answers -/
def Shr.joinB (l : List Shr.S) (k : Nat) : UInt8 := Fld.thrV (Shr.ptX (l.take (Shr.tt l))) (Shr.ptY (l.take (Shr.tt l)) k) 0
def Shr.joinV (l : List Shr.S) : List UInt8 := (List.range l[0]!.d.length).map (Shr.joinB l)

/-- what is known of shares that Check lets by -/
structure Shr.Good (l : List Shr.S) : Prop where
  pos : 0 < l.length
  th1 : 1 ≤ l[0]!.th
  thm : l[0]!.th ≤ l[0]!.mn
  mn8 : l[0]!.mn ≤ 8
  d64 : l[0]!.d.length ≤ 64
  ok : ∀ k, k < l.length → Shr.okAt l k
  ep : ∀ k, k < l.length → Shr.epAt l k
theorem Shr.good (l : List Shr.S) (h : Shr.chkE l = 0) : Shr.Good l := by
  obtain ⟨h1, h2⟩ := Shr.chkE_ok l h
  obtain ⟨a, ⟨b, c, d, e⟩, f⟩ := of_decide_eq_true h1
  exact ⟨a, b, c, d, e, f, of_decide_eq_true h2⟩
/-- the indexes rise -/
theorem Shr.Good.rise {l : List Shr.S} (h : Shr.Good l) : ∀ k, k < l.length → 1 ≤ l[k]!.ix ∧ l[k]!.ix ≤ l[0]!.mn ∧ ∀ j, j < k → l[j]!.ix < l[k]!.ix
  | 0, hk => by
    have h0 := h.ok 0 hk
    unfold Shr.okAt Shr.last at h0
    simp only [if_pos] at h0
    exact ⟨by omega, by omega, fun j hj => absurd hj (by omega)⟩
  | k + 1, hk => by
    have ih := h.rise k (by omega)
    have h1 := h.ok (k + 1) hk
    unfold Shr.okAt Shr.last at h1
    rw [if_neg (by omega), Nat.add_sub_cancel] at h1
    refine ⟨by omega, by omega, fun j hj => ?_⟩
    by_cases hjk : j = k
    · subst hjk; omega
    · have := ih.2.2 j (by omega); omega
theorem Shr.Good.len_at {l : List Shr.S} (h : Shr.Good l) (k : Nat) (hk : k < l.length) : l[k]!.d.length = l[0]!.d.length := (h.ok k hk).2.2.1
theorem Shr.mem_at {xs : List Shr.C} {x : Shr.C} (hx : x ∈ xs) : ∃ k, k < xs.length ∧ (Shr.vals xs)[k]! = x.s := by
  obtain ⟨k, hk, rfl⟩ := List.getElem_of_mem hx
  exact ⟨k, hk, by rw [Shr.vals_at xs k hk, getElem!_pos xs k hk]⟩
theorem Shr.Good.ix_of {xs : List Shr.C} (h : Shr.Good (Shr.vals xs)) (x : Shr.C) (hx : x ∈ xs) : 0 ≤ x.s.ix ∧ x.s.ix ≤ 255 := by
  obtain ⟨k, hk, e⟩ := Shr.mem_at hx
  have := h.rise k (by rw [Shr.vals_len]; exact hk)
  rw [e] at this
  have := h.mn8
  omega
theorem Shr.Good.dl_of {xs : List Shr.C} (h : Shr.Good (Shr.vals xs)) (x : Shr.C) (hx : x ∈ xs) : x.s.d.length = (Shr.vals xs)[0]!.d.length := by
  obtain ⟨k, hk, e⟩ := Shr.mem_at hx
  have := h.len_at k (by rw [Shr.vals_len]; exact hk)
  rwa [e] at this
theorem Shr.vals_take (xs : List Shr.C) (k : Nat) : Shr.vals (xs.take k) = (Shr.vals xs).take k := by rw [Shr.vals, Shr.vals, List.map_take]
theorem Shr.Good.few {l : List Shr.S} (h : Shr.Good l) : l.length ≤ 8 := by
  have hk := h.rise
  have : ∀ k, k < l.length → ((k : Int) + 1 ≤ l[k]!.ix) := fun k => by
    induction k with
    | zero => intro h0; have := (hk 0 h0).1; omega
    | succ k ih =>
      intro h1
      have := ih (by omega)
      have := (hk (k + 1) h1).2.2 k (by omega)
      omega
  have hp := h.pos
  have h1 := this (l.length - 1) (by omega)
  have h2 := (hk (l.length - 1) (by omega)).2.1
  have := h.mn8
  omega
end Go.Proofs.YtideglpjgplpnaaDoor
