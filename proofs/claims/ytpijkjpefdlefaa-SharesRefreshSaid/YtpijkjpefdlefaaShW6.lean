/- Contract of shares.Split. -/
import Derived.Test.YtpijkjpefdlefaaShW5
namespace Go.Proofs.Ytpijkjpefdlefaa
open Go.RowKit Go.Shelf
set_option linter.unusedVariables false

/-- slice v of n shares is the call's own, its data lie elsewhere -/
structure Shr.Own (W : World) (base : Nat) (v : Value) (n : Nat) (xs : List Shr.C) : Prop where
  row : W.ownsRow base 41 5 v n (xs.flatMap Shr.C.cells)
  ok : ∀ x, x ∈ xs → x.Ok W ∧ Far x.A v.ownBlock ∧ (∀ b off, x.A = some ⟨b, off, none⟩ → b < W.heap.size)
theorem Shr.Own.keep {W W' : World} {base n : Nat} {v : Value} {xs : List Shr.C} (h : Shr.Own W base v n xs) (hb : Below W.heap.size W W') : Shr.Own W' base v n xs :=
  ⟨own_below h.row hb, fun x hx => ⟨(h.ok x hx).1.keep hb, (h.ok x hx).2.1, fun b off e => Nat.lt_of_lt_of_le ((h.ok x hx).2.2 b off e) hb.size⟩⟩
theorem Shr.Own.rds {W : World} {base n c : Nat} {A : Option Addr} {xs : List Shr.C} (h : Shr.Own W base (.slice A n c) n xs) : Shr.Rds W A n xs := Shr.Rds.of_own h.row (fun x hx => (h.ok x hx).1)
theorem Shr.Own.nil (W : World) (base : Nat) : Shr.Own W base (.slice none 0 0) 0 [] := ⟨World.ownsRow_nil _ _ _ _, fun _ h => by cases h⟩
theorem Shr.C.Ok.kept {x : Shr.C} {w w' : World} {row : Option Nat} (h : x.Ok w) (hg : w.grownBy w' row) (hf : Far x.A row) : x.Ok w' := ⟨h.rd.kept hg hf, h.len, h.nil⟩
/-- behind an append of one share -/
theorem Shr.Own.grow {W W' : World} {base n : Nat} {v v' : Value} {xs : List Shr.C} {x : Shr.C} {o : Obj} (h : Shr.Own W base v n xs) (hx : x.Ok W ∧ Far x.A v.ownBlock ∧ (∀ b off, x.A = some ⟨b, off, none⟩ → b < W.heap.size))
    (hG : Grew (W.alloc o) base 41 5 v (n + 1) (xs.flatMap Shr.C.cells ++ x.cells) v' W') : Shr.Own W' base v' (n + 1) (xs ++ [x]) := by
  refine ⟨by rw [List.flatMap_append, List.flatMap_singleton]; exact hG.own, fun y hy => ?_⟩
  have hy' : y.Ok W ∧ Far y.A v.ownBlock ∧ (∀ b off, y.A = some ⟨b, off, none⟩ → b < W.heap.size) := by
    rcases List.mem_append.1 hy with h1 | h1
    · exact h.ok y h1
    · rw [List.mem_singleton] at h1; subst h1; exact hx
  have h3 := hy'.1.keep ((Below.refl W.heap.size W).alloc (Nat.le_refl _) o)
  have hlt : ∀ b off, y.A = some ⟨b, off, none⟩ → b < (W.alloc o).heap.size := fun b off e => by have := hy'.2.2 b off e; simp; omega
  exact ⟨h3.kept hG.grown hy'.2.1, hy'.2.1.grew hlt hG, fun b off e => Nat.lt_of_lt_of_le (hlt b off e) hG.grown.size⟩
theorem elS : EltOk Try.prog 22 41 (.agg #[.int .i64 0, .int .i64 0, .int .i64 0, .int .i64 0, .slice none 0 0]) 5 56 := ⟨Try.underlying22, by kernel_rfl, rfl, by decide⟩
theorem Shr.one_cells (x : Shr.C) : ∀ u ∈ x.cells, u.oneCell' = true := by
  intro u hu
  simp only [Shr.C.cells, List.mem_cons, List.not_mem_nil, or_false] at hu
  rcases hu with rfl | rfl | rfl | rfl | rfl <;> rfl
theorem own_mono {w : World} {base base' e size n : Nat} {v : Value} {xs : List Value} (h : w.ownsRow base e size v n xs) (hb : base' ≤ base) : w.ownsRow base' e size v n xs := by
  refine ⟨h.1, ?_⟩
  rcases h.2 with h0 | ⟨g, c, cur, hv, h1, h2⟩
  · exact .inl h0
  · exact .inr ⟨g, c, cur, hv, Nat.le_trans hb h1, h2⟩
theorem Shr.Own.mono {W : World} {base base' n : Nat} {v : Value} {xs : List Shr.C} (h : Shr.Own W base v n xs) (hb : base' ≤ base) : Shr.Own W base' v n xs := ⟨own_mono h.row hb, h.ok⟩
theorem Shr.Own.far {W : World} {base n g : Nat} {v : Value} {xs : List Shr.C} (h : Shr.Own W base v n xs) (hv : v.ownBlock ≠ some g) (hx : ∀ x, x ∈ xs → Far x.A (some g)) (j : Nat) (u : Value) : Shr.Own (W.setCell ⟨g, j, none⟩ u) base v n xs :=
  ⟨h.row.kept (grownBy_set W g j u) (.inr hv), fun x hxm => ⟨(h.ok x hxm).1.kept (grownBy_set W g j u) (hx x hxm), (h.ok x hxm).2.1, fun b off e => by have := (h.ok x hxm).2.2 b off e; simpa using this⟩⟩
/-- shares are handed back, without an error -/
def Shr.RetS (w : World) (n : Nat) (r : List Shr.S) (e : Ending) (w' : World) : Prop := ∃ v xs, e = .returned (.tuple #[v, .int .i64 0]) ∧ Shr.Own w' w.heap.size v n xs ∧ (∀ x, x ∈ xs → Fresh w.heap.size x.A) ∧ Shr.vals xs = r ∧ Below w.heap.size w w'

theorem Shr.spE_pos (ns : Nat) (ep th mn : Int) (nc : Nat) (h : Shr.spE ns ep th mn nc = 0) : ns ≤ 64 ∧ 1 ≤ th ∧ th ≤ mn ∧ mn ≤ 8 ∧ 0 ≤ ep ∧ ep ≤ 1048576 ∧ (nc : Int) = (ns : Int) * (th - 1) := by
  unfold Shr.spE at h
  split at h
  · exact absurd h (by decide)
  · split at h
    · exact absurd h (by decide)
    · split at h
      · exact absurd h (by decide)
      · split at h
        · exact absurd h (by decide)
        · refine ⟨by omega, by omega, by omega, by omega, by omega, by omega, by omega⟩

set_option maxRecDepth 100000 in
set_option maxHeartbeats 2000000 in
theorem Shr.split_no (As Ac : Option Addr) (ns cs nc cc : Nat) (ep th mn : Int) (w : World) (hns : ns ≤ maxLen) (hnc : nc ≤ maxLen) (hth : -9223372036854775808 ≤ th ∧ th ≤ 9223372036854775807) (h : Shr.spE ns ep th mn nc ≠ 0) :
    Calls Try.prog 12 #[.slice As ns cs, .int .i64 ep, .int .i64 th, .int .i64 mn, .slice Ac nc cc] w fun e w' => e = .returned (.tuple #[.slice none 0 0, .int .i64 (Shr.spE ns ep th mn nc)]) ∧ Below w.heap.size w w' := by
  unfold maxLen at hns hnc
  by_cases h1 : 64 < ns
  · have HE := Lib.hid (show Shr.spE ns ep th mn nc = 1 by rw [Shr.spE, if_pos h1])
    go_enter Try.func12, Try.ntmps12
    go_wp2_with fail
    go_ret2
    exact ⟨by rw [HE.out]; rfl, below3 _ _ _ _⟩
  · by_cases h2 : th < 1 ∨ mn < th ∨ 8 < mn
    · have HE := Lib.hid (show Shr.spE ns ep th mn nc = 60 by rw [Shr.spE, if_neg h1, if_pos h2])
      by_cases g1 : th < 1
      · clear h h2
        go_enter Try.func12, Try.ntmps12
        go_wp2_with fail
        go_ret2
        exact ⟨by rw [HE.out]; rfl, below3 _ _ _ _⟩
      · by_cases g2 : mn < th
        · clear h h2
          go_enter Try.func12, Try.ntmps12
          go_wp2_with fail
          go_ret2
          exact ⟨by rw [HE.out]; rfl, below3 _ _ _ _⟩
        · have g3 : 8 < mn := by omega
          clear h h2
          go_enter Try.func12, Try.ntmps12
          go_wp2_with fail
          go_ret2
          exact ⟨by rw [HE.out]; rfl, below3 _ _ _ _⟩
    · have g1 : 1 ≤ th := by omega
      have g2 : th ≤ mn := by omega
      have g3 : mn ≤ 8 := by omega
      by_cases h3 : ep < 0 ∨ 1048576 < ep
      · have HE := Lib.hid (show Shr.spE ns ep th mn nc = 61 by rw [Shr.spE, if_neg h1, if_neg h2, if_pos h3])
        by_cases k1 : ep < 0
        · clear h h2 h3
          go_enter Try.func12, Try.ntmps12
          go_wp2_with fail
          go_ret2
          exact ⟨by rw [HE.out]; rfl, below3 _ _ _ _⟩
        · have k2 : 1048576 < ep := by omega
          clear h h2 h3
          go_enter Try.func12, Try.ntmps12
          go_wp2_with fail
          go_ret2
          exact ⟨by rw [HE.out]; rfl, below3 _ _ _ _⟩
      · have k1 : 0 ≤ ep := by omega
        have k2 : ep ≤ 1048576 := by omega
        have h4 : (nc : Int) ≠ (ns : Int) * (th - 1) := fun e => h (by rw [Shr.spE, if_neg h1, if_neg h2, if_neg h3, if_neg (by simp [e])])
        have HE := Lib.hid (show Shr.spE ns ep th mn nc = 1 by rw [Shr.spE, if_neg h1, if_neg h2, if_neg h3, if_pos h4])
        clear h h2 h3
        have hp : (ns : Int) * (th - 1) ≤ 64 * 8 := Int.mul_le_mul (by omega) (by omega) (by omega) (by omega)
        have hp0 : 0 ≤ (ns : Int) * (th - 1) := Int.mul_nonneg (by omega) (by omega)
        obtain ⟨p, he⟩ : ∃ p, (ns : Int) * (th - 1) = p := ⟨_, rfl⟩
        rw [he] at hp hp0 h4
        have hw : wrap64 ((ns : Int) * (th - 1)) = p := by rw [he]; exact IntWalk.wrap64_in _ ⟨by omega, by omega⟩
        clear he
        have hq : ((nc : Int) != p) = true := by simpa using h4
        clear h4
        go_enter Try.func12, Try.ntmps12
        go_wp2_with fail
        go_ret2
        exact ⟨by rw [HE.out]; rfl, below3 _ _ _ _⟩

set_option maxRecDepth 100000 in
set_option maxHeartbeats 1000000 in
theorem Shr.split_yes (As Ac : Option Addr) (ns cs nc cc : Nat) (ep : Int) (t mn : Nat) (sec coins : List UInt8) (w : World) (hrs : RdB w As ns sec) (hrc : RdB w Ac nc coins) (hcc : nc ≤ cc) (hccm : cc ≤ maxLen) (hnil : Ac = none → cc = 0)
    (h1 : ns ≤ 64) (h2 : 1 ≤ t) (h3 : t ≤ mn) (h4 : mn ≤ 8) (h5 : 0 ≤ ep) (h6 : ep ≤ 1048576) (h7 : nc = ns * (t - 1)) :
    Calls Try.prog 12 #[.slice As ns cs, .int .i64 ep, .int .i64 t, .int .i64 mn, .slice Ac nc cc] w (Shr.RetS w mn (Shr.spl sec ep t mn coins)) := by
  have HRS := Lib.hid hrs
  have HRC := Lib.hid hrc
  have HCC := Lib.hid hcc
  have HCM := Lib.hid hccm
  have HNIL := Lib.hid hnil
  have H7 := Lib.hid h7
  have HSL := Lib.hid hrs.len
  have HCL := Lib.hid hrc.len
  have hp : ns * (t - 1) ≤ 64 * 8 := Nat.mul_le_mul (by omega) (by omega)
  have hncb : nc ≤ 512 := by omega
  have hw : wrap64 ((ns : Int) * ((t : Int) - 1)) = (nc : Int) := by
    rw [show ((t : Int) - 1) = ((t - 1 : Nat) : Int) by omega, ← Int.natCast_mul, ← h7]
    exact IntWalk.wrap64_in _ ⟨by omega, by omega⟩
  have HLL := Lib.hid (fun k hk => Shr.line_len sec coins t k h2 (by rw [hrc.len, hrs.len]; exact h7) (by rw [hrs.len]; exact hk))
  clear hrs hrc hcc hccm hnil h7 hp
  have d1 : decide ((64 : Int) < (ns : Int)) = false := decide_eq_false (by omega)
  have d2 : decide ((t : Int) < 1) = false := decide_eq_false (by omega)
  have d3 : decide ((8 : Int) < (mn : Int)) = false := decide_eq_false (by omega)
  have d4 : decide (ep < 0) = false := decide_eq_false (by omega)
  have d5 : decide (1048576 < ep) = false := decide_eq_false (by omega)
  have d6 : decide (mn < t) = false := decide_eq_false (by omega)
  go_enter Try.func12, Try.ntmps12
  go_wp2_with fail
  clear hw d1 d2 d3 d4 d5 d6
  obtain ⟨W0, hW0⟩ : ∃ W0, ((w.alloc (.cells #[.slice As ns cs] 23)).alloc (.cells #[.int .i64 (t : Int)] 3)).alloc (.cells #[.slice Ac nc cc] 23) = W0 := ⟨_, rfl⟩
  have HB0 := Lib.hid (show Below w.heap.size w W0 by rw [← hW0]; exact below3 _ _ _ _)
  have hz0 : W0.heap.size = w.heap.size + 3 := by rw [← hW0]; simp
  have HS0 := Lib.hid (show Shr.Sp w.heap.size (w.heap.size + 1 + 1) (w.heap.size + 1) As Ac ns cs nc cc t sec coins W0 by
    refine ⟨?_, ?_, ?_, HRS.out.keep HB0.out, HRC.out.keep HB0.out, by omega, by omega, by omega⟩
    · rw [← hW0]; exact (((Has.new w 23 [.slice As ns cs]).alloc _).alloc _).c1
    · rw [← hW0]
      have h := (Has.new ((w.alloc (.cells #[.slice As ns cs] 23)).alloc (.cells #[.int .i64 (t : Int)] 3)) 23 [.slice Ac nc cc]).c1
      simpa using h
    · rw [← hW0]
      have h := ((Has.new (w.alloc (.cells #[.slice As ns cs] 23)) 3 [.int .i64 (t : Int)]).alloc (.cells #[.slice Ac nc cc] 23)).c1
      simpa using h)
  rw [hW0]
  clear hW0
  have hf : ∀ (k : Nat) (W : World), k < ns → Shr.Sp w.heap.size (w.heap.size + 1 + 1) (w.heap.size + 1) As Ac ns cs nc cc t sec coins W → Calls Try.prog 25 (#[.int .i64 (k : Int)] ++ #[.pointer (some ⟨w.heap.size, 0, none⟩), .pointer (some ⟨w.heap.size + 1 + 1, 0, none⟩), .pointer (some ⟨w.heap.size + 1, 0, none⟩)]) W (RetB W t (Shr.line sec coins t k)) :=
    fun k W hk hS => Shr.sp1_any _ _ _ As Ac ns cs nc cc t k sec coins W hS hk h1 h2 (by omega) H7.out HCC.out HCM.out HNIL.out
  have hC := Shr.colsQ 25 #[.pointer (some ⟨w.heap.size, 0, none⟩), .pointer (some ⟨w.heap.size + 1 + 1, 0, none⟩), .pointer (some ⟨w.heap.size + 1, 0, none⟩)] ns (Shr.line sec coins t) t HLL.out (Shr.Sp w.heap.size (w.heap.size + 1 + 1) (w.heap.size + 1) As Ac ns cs nc cc t sec coins) W0 (enters_of Try.func25 (by kernel_rfl) rfl)
    (fun W W' h hb => h.keep hb) hf HS0.out (by omega)
  ((with_reducible refine hC.mono ?_); rintro e w1 ⟨AL, cL, qs, rfl, hQ, hql, hb1⟩)
  clear hf hC
  have HQ := Lib.hid hQ
  have HQL := Lib.hid hql
  have HB1 := Lib.hid (HB0.out.trans (hb1.mono (by omega)))
  have HS1 := Lib.hid (HS0.out.keep hb1)
  have hz1 : w.heap.size + 3 ≤ w1.heap.size := by have := hb1.size; omega
  have HVL := Lib.hid (show ∀ i : Nat, (List.range ns).map (fun k => Fld.ev (qs[k]!).l (UInt8.ofNat i)) = Shr.dat sec coins t i from fun i => by
    rw [Shr.dat, HSL.out]
    refine List.map_congr_left fun k hk => ?_
    have hk' : k < ns := List.mem_range.1 hk
    have hk2 : k < qs.length := by rw [hQ.len]; exact hk'
    have h := congrArg (fun l => l[k]?) hql
    simp only [List.getElem?_map, List.getElem?_eq_getElem hk2, List.getElem?_range hk', Option.map_some] at h
    injection h with h
    rw [getElem!_pos qs k hk2, h])
  have HQ8 := Lib.hid (show ∀ q, q ∈ qs → q.l.length ≤ 8 from fun q hq => by
    have h : q.l ∈ qs.map Bq.l := List.mem_map_of_mem hq
    rw [hql] at h
    obtain ⟨k, hk, e⟩ := List.mem_map.1 h
    rw [← e, HLL.out k (List.mem_range.1 hk)]
    omega)
  clear hQ hql hb1 HB0 HS0 hz0 HLL
  go_wp2_with fail
  obtain ⟨W2, hW2⟩ : ∃ W2, (w1.alloc (.cells #[.slice AL ns cL] 39)).alloc (.cells #[.int .i64 1] 3) = W2 := ⟨_, rfl⟩
  have hz2 : W2.heap.size = w1.heap.size + 2 := by rw [← hW2]; simp
  have HB12 := Lib.hid (show Below w1.heap.size w1 W2 by rw [← hW2]; exact ((Below.refl _ _).alloc (Nat.le_refl _) _).alloc (by simp) _)
  have HL2 := Lib.hid (show Has W2 w1.heap.size 39 [.slice AL ns cL] by rw [← hW2]; exact (Has.new w1 _ _).alloc _)
  have HI2 := Lib.hid (show Has W2 (w1.heap.size + 1) 3 [.int .i64 ((0 + 1 : Nat) : Int)] by
    rw [← hW2]
    have h := Has.new (w1.alloc (.cells #[.slice AL ns cL] 39)) 3 [.int .i64 1]
    rw [World.size_alloc] at h
    exact h)
  have HS2 := Lib.hid (HS1.out.keep HB12.out)
  have HQ2 := Lib.hid (HQ.out.keep HB12.out)
  have HBW := Lib.hid (HB1.out.trans (HB12.out.mono (by omega)))
  rw [hW2]
  clear hW2 HS1 HQ
  go_loopw [10, 13] (fun v p wr => ∃ (k bi : Nat) (xs : List Shr.C), k ≤ mn ∧ p = .pointer (some ⟨bi, 0, none⟩) ∧ Has wr bi 3 [.int .i64 ((k + 1 : Nat) : Int)] ∧ v.ownBlock ≠ some bi ∧ Shr.Own wr W2.heap.size v k xs ∧ (∀ x, x ∈ xs → Fresh W2.heap.size x.A) ∧ Shr.vals xs = (Shr.spl sec ep t mn coins).take k ∧ Below W2.heap.size W2 wr) (fun _ p wr => match p with | .pointer (some a) => mn + 1 - cellNat wr a.block 0 | _ => 0)
  case atStart => exact ⟨0, w1.heap.size + 1, [], by omega, rfl, HI2.out, by simp [Value.ownBlock], Shr.Own.nil _ _, fun _ h => by (cases h), rfl, Below.refl _ _⟩
  case round =>
    obtain ⟨k, bi, xs, hk, rfl, hI, hne, hO, hfr, hv, hB⟩ := hrel
    have HFR := Lib.hid hfr
    have HH := Lib.hid hI
    have HNE := Lib.hid hne
    have HO := Lib.hid hO
    have HV := Lib.hid hv
    have HB := Lib.hid hB
    obtain ⟨zi, ei⟩ := hI.r1
    have HM := Lib.hid (show cellNat wr bi 0 = k + 1 by unfold cellNat; rw [ei]; simp)
    have hS3 := HS2.out.keep HB.out
    have es := hS3.s
    have et := hS3.t
    clear hI hne hO hv hB hS3 hfr
    by_cases hlt : k < mn
    · have HT := Lib.hid (Shr.spl_take sec ep t mn coins k hlt)
      have HD := Lib.hid (HVL.out (k + 1))
      have HDL := Lib.hid (show (Shr.dat sec coins t (k + 1)).length = ns by rw [Shr.dat_len, HSL.out])
      go_wp2_with fail
      have hf : ∀ (j : Nat) (W : World), j < ns → Shr.Sq w1.heap.size bi AL ns cL (k + 1) qs W → Calls Try.prog 28 (#[.int .i64 (j : Int)] ++ #[.pointer (some ⟨w1.heap.size, 0, none⟩), .pointer (some ⟨bi, 0, none⟩)]) W fun e W' => e = .returned (B8 (Fld.ev (qs[j]!).l (UInt8.ofNat (k + 1)))) ∧ Below W.heap.size W W' :=
        fun j W hj hS => Shr.sp2_any _ _ AL ns cL (k + 1) j qs W hS hj h1 (by omega) HQ8.out
      have hC := Shr.cols8 28 #[.pointer (some ⟨w1.heap.size, 0, none⟩), .pointer (some ⟨bi, 0, none⟩)] ns (fun j => Fld.ev (qs[j]!).l (UInt8.ofNat (k + 1))) (Shr.Sq w1.heap.size bi AL ns cL (k + 1) qs) wr (enters_of Try.func28 (by kernel_rfl) rfl)
        (fun W W' h hb => h.keep hb) hf ⟨(HL2.out.keep HB.out).c1, ei, HQ2.out.keep HB.out, (HL2.out.keep HB.out).lt, zi⟩ (by omega)
      rw [HD.out] at hC
      ((with_reducible refine hC.mono ?_); rintro e w3 ⟨A3, c3, rfl, hn3, hr3, hfr3, hlt3, hb3⟩)
      clear hf hC
      obtain ⟨x, hx⟩ : ∃ x : Shr.C, x = ⟨⟨ep, ((k + 1 : Nat) : Int), (t : Int), (mn : Int), Shr.dat sec coins t (k + 1)⟩, A3, c3⟩ := ⟨_, rfl⟩
      have HX := Lib.hid (show x.Ok w3 ∧ Far x.A u10.ownBlock ∧ (∀ b off, x.A = some ⟨b, off, none⟩ → b < w3.heap.size) by
        subst hx
        exact ⟨⟨by show RdB w3 A3 (Shr.dat sec coins t (k + 1)).length _; rw [HDL.out]; exact hr3, by show (Shr.dat sec coins t (k + 1)).length ≤ maxLen; rw [HDL.out]; unfold maxLen; omega, hn3⟩, Far.fresh hfr3 HO.out.row (Nat.le_refl _), hlt3⟩)
      have HXC := Lib.hid (show x.cells = [.int .i64 ep, .int .i64 ((k : Int) + 1), .int .i64 (t : Int), .int .i64 (mn : Int), .slice A3 ns c3] by subst hx; show [_, _, _, _, Value.slice A3 (Shr.dat sec coins t (k + 1)).length c3] = _; rw [HDL.out]; rfl)
      have HXS := Lib.hid (show x.s = ⟨ep, ((k + 1 : Nat) : Int), (t : Int), (mn : Int), Shr.dat sec coins t (k + 1)⟩ by rw [hx])
      have HXA := Lib.hid (show Fresh wr.heap.size x.A by rw [hx]; exact hfr3)
      have HWR := Lib.hid HB.out.size
      have HO3 := Lib.hid (HO.out.keep hb3)
      have HB3 := Lib.hid (HB.out.trans (hb3.mono HB.out.size))
      have HH3 := HH.out.keep hb3
      obtain ⟨zi3, ei3⟩ := HH3.r1
      have et3 := (hb3.cell (p := ⟨w.heap.size + 1, 0, none⟩) (show w.heap.size + 1 < wr.heap.size by have := HB.out.size; omega)).trans et
      clear hb3 hn3 hr3 hfr3 hlt3 hx HO HB es et ei HH
      have HH3' := Lib.hid HH3
      clear HH3
      go_wp2_with (at_builtin; refine wpList_append_rd rfl _ _ rfl elS rfl (HO3.out.row.alloc _) rfl (rd_new w3 41 5 [.int .i64 ep, .int .i64 ((k : Int) + 1), .int .i64 (t : Int), .int .i64 (mn : Int), .slice A3 ns c3] rfl) (by simp [Value.oneCell']) (fun h => by (cases h)) (by simp only [maxLen]; omega) (by omega) (by have := HB3.out.size; simp; omega) ?_; intro v4 w4 hG; have HH4 := (HH3'.out.alloc (.cells #[.int .i64 ep, .int .i64 ((k : Int) + 1), .int .i64 (t : Int), .int .i64 (mn : Int), .slice A3 ns c3] 41)).grown hG.grown HNE.out; obtain ⟨z4, ei4⟩ := HH4.r1; have HG := Lib.hid hG; clear hG HH4)
      have HO4 := Lib.hid (HO3.out.grow HX.out (by rw [HXC.out]; exact HG.out))
      have HB4 := Lib.hid ((HB3.out.alloc HB3.out.size (.cells #[.int .i64 ep, .int .i64 ((k : Int) + 1), .int .i64 (t : Int), .int .i64 (mn : Int), .slice A3 ns c3] 41)).grown HG.out.grown (by have := HB3.out.size; simp; omega) (fun g e => own_ge HO3.out.row e))
      have HFR4 := Lib.hid (show ∀ z, z ∈ xs ++ [x] → Fresh W2.heap.size z.A from fun z hz => by
        rcases List.mem_append.1 hz with h | h
        · exact HFR.out z h
        · rw [List.mem_singleton] at h; subst h; exact HXA.out.mono HWR.out)
      have HV4 := Lib.hid (show Shr.vals (xs ++ [x]) = (Shr.spl sec ep t mn coins).take (k + 1) by rw [Shr.vals, List.map_append, HT.out]; show Shr.vals xs ++ [x.s] = _; rw [HV.out, HXS.out])
      have HM4 := Lib.hid (show cellNat (w4.alloc (.cells #[.int .i64 ((k : Int) + 1 + 1)] 3)) w4.heap.size 0 = k + 1 + 1 by unfold cellNat; rw [(Has.new w4 3 [.int .i64 ((k : Int) + 1 + 1)]).c1]; simp; omega)
      have hbn := (Below.refl w4.heap.size w4).alloc (Nat.le_refl _) (.cells #[.int .i64 ((k : Int) + 1 + 1)] 3)
      refine ⟨⟨k + 1, w4.heap.size, xs ++ [x], by omega, rfl, Has.new w4 3 [.int .i64 ((k : Int) + 1 + 1)], fun e => ?_, HO4.out.keep hbn, HFR4.out, HV4.out, HB4.out.alloc HB4.out.size _⟩, ?_⟩
      · have := (HO4.out.row.lt _ e).2
        omega
      · show mn + 1 - cellNat _ w4.heap.size 0 < mn + 1 - cellNat wr bi 0
        rw [HM.out, HM4.out]
        omega
    · obtain rfl : k = mn := by omega
      go_wp2_with fail
      go_ret2
      exact ⟨_, xs, rfl, HO.out.mono (by omega), fun x hx => (HFR.out x hx).mono (by omega), by rw [HV.out, Shr.spl_take_all], HBW.out.trans (HB.out.mono (by omega))⟩
end Go.Proofs.Ytpijkjpefdlefaa
