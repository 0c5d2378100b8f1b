import Derived.Test.YtideglpjgplpnaaDoorMSlW1
import Derived.Test.YtideglpjgplpnaaDoorMShW8
/- Contract of the reference's Few for sealed bodies. -/
namespace Go.Proofs.YtideglpjgplpnaaDoor
open Go.RowKit Go.Shelf
set_option linter.unusedVariables false
set_option linter.unusedSimpArgs false

def Sl.fewS (s : Sl.W) : Bool := decide (s.d.length ≤ 100) && decide (s.ms.length ≤ 20)
theorem Sl.fewS_yes {s : Sl.W} (h : Sl.fewS s = true) : s.d.length ≤ 100 ∧ s.ms.length ≤ 20 := by
  rw [Sl.fewS, Bool.and_eq_true] at h
  exact ⟨of_decide_eq_true h.1, of_decide_eq_true h.2⟩
set_option maxHeartbeats 1000000 in
theorem Sl.few_i (nd nm : Nat) (Ad : Option Addr) (cd : Nat) (Am : Option Addr) (cA : Nat) (R : List Value) (w : World) (x1 : R[32]? = some (.slice Ad nd cd)) (x4 : R[35]? = some (.slice Am nm cA)) :
    Calls Tryd.prog 11 #[.agg R.toArray] w fun e w' => e = .returned (.bool (decide (nd ≤ 100) && decide (nm ≤ 20))) ∧ w.alloc (.cells R.toArray 27) = w' := by
  have hH := Has.new w 27 R
  have y1 := (hH.cell 32).trans x1
  have y4 := (hH.cell 35).trans x4
  clear hH x1 x4
  obtain ⟨E, hE⟩ : ∃ E : Bool, (decide (nd ≤ 100) && decide (nm ≤ 20)) = E := ⟨_, rfl⟩
  rw [hE]
  have HE := Lib.hid hE
  clear hE
  go_enter Tryd.func11, Tryd.ntmps11
  by_cases h1 : nd ≤ 100
  · by_cases h2 : nm ≤ 20
    · have q : decide ((nm : Int) ≤ 20) = true := decide_eq_true (by omega)
      go_wp2_with fail
      go_ret
      exact ⟨by rw [← HE.out, decide_eq_true h1, decide_eq_true h2]; rfl, rfl⟩
    · have q : decide ((nm : Int) ≤ 20) = false := decide_eq_false (by omega)
      go_wp2_with fail
      go_ret
      exact ⟨by rw [← HE.out, decide_eq_false h2, Bool.and_false]; rfl, rfl⟩
  · go_wp2_with fail
    go_ret
    exact ⟨by rw [← HE.out, decide_eq_false h1, Bool.false_and]; rfl, rfl⟩
theorem Sl.few_any (s : Sl.W) (Ad : Option Addr) (cd : Nat) (Am : Option Addr) (cA : Nat) (w : World) (hl : s.cm.length = 32) :
    Calls Tryd.prog 11 #[.agg (Sl.row s Ad cd Am cA).toArray] w fun e w' => e = .returned (.bool (Sl.fewS s)) ∧ Below w.heap.size w w' := by
  obtain ⟨x1, x2, x3, x4⟩ := Sl.row_at hl Ad cd Am cA
  refine (Sl.few_i s.d.length s.ms.length Ad cd Am cA _ w x1 x4).mono ?_
  rintro e w' ⟨rfl, rfl⟩
  exact ⟨rfl, (Below.refl _ _).alloc (Nat.le_refl _) _⟩
end Go.Proofs.YtideglpjgplpnaaDoor
/- Contracts of the reference's SameShare and Same, where the shares are the same. -/
namespace Go.Proofs.YtideglpjgplpnaaDoor
open Go.RowKit Go.Shelf
set_option linter.unusedVariables false

set_option maxHeartbeats 1000000 in
theorem Shr.sameS (s : Shr.S) (A B : Option Addr) (ca cb : Nat) (w : World) (ha : RdB w A s.d.length s.d) (hb : RdB w B s.d.length s.d) :
    Calls Tryd.prog 42 #[.agg #[.int .i64 s.ep, .int .i64 s.ix, .int .i64 s.th, .int .i64 s.mn, .slice A s.d.length ca], .agg #[.int .i64 s.ep, .int .i64 s.ix, .int .i64 s.th, .int .i64 s.mn, .slice B s.d.length cb]] w fun e w' => e = .returned (.bool true) ∧ Below w.heap.size w w' := by
  have y1 := ((ha.alloc (.cells #[.int .i64 s.ep, .int .i64 s.ix, .int .i64 s.th, .int .i64 s.mn, .slice A s.d.length ca] 43)).alloc (.cells #[.int .i64 s.ep, .int .i64 s.ix, .int .i64 s.th, .int .i64 s.mn, .slice B s.d.length cb] 43)).str (P := Tryd.prog) Tryd.underlying24 Tryd.underlying5 Tryd.underlying9 ca
  have y2 := ((hb.alloc (.cells #[.int .i64 s.ep, .int .i64 s.ix, .int .i64 s.th, .int .i64 s.mn, .slice A s.d.length ca] 43)).alloc (.cells #[.int .i64 s.ep, .int .i64 s.ix, .int .i64 s.th, .int .i64 s.mn, .slice B s.d.length cb] 43)).str (P := Tryd.prog) Tryd.underlying24 Tryd.underlying5 Tryd.underlying9 cb
  clear ha hb
  go_enter Tryd.func42, Tryd.ntmps42
  go_wp2_with fail
  go_ret
  exact ⟨rfl, below_of2 _ _ _⟩

set_option maxRecDepth 100000 in
set_option maxHeartbeats 1000000 in
theorem Shr.same_any (A B : Option Addr) (n ca cb : Nat) (xs ys : List Shr.C) (w : World) (hx : Shr.Rds w A n xs) (hy : Shr.Rds w B n ys) (hn : n ≤ maxLen) (hv : Shr.vals xs = Shr.vals ys) :
    Calls Tryd.prog 20 #[.slice A n ca, .slice B n cb] w fun e w' => e = .returned (.bool true) ∧ Below w.heap.size w w' := by
  unfold maxLen at hn
  have HX := Lib.hid hx
  have HY := Lib.hid hy
  have HV := Lib.hid hv
  clear hx hy hv
  have q1 : ((n : Int) != (n : Int)) = false := by simp
  go_enter Tryd.func20, Tryd.ntmps20
  go_wp2_with fail
  clear q1
  go_loopw [5] (fun i wr => ∃ k : Nat, k ≤ n ∧ i = .int .i64 k ∧ Below w.heap.size w wr) (fun i _ => n - (intOf i).toNat)
  case atStart => exact ⟨0, by omega, rfl, Below.refl _ _⟩
  case round =>
    obtain ⟨k, hk, rfl, hB⟩ := hrel
    have HB := Lib.hid hB
    clear hB
    by_cases hlt : k < n
    · obtain ⟨b, off, rfl, hbx, x0, x1, x2, x3, x4⟩ := (HX.out.keep HB.out).at k hlt
      obtain ⟨bq, offq, rfl, hby, y0, y1, y2, y3, y4⟩ := (HY.out.keep HB.out).at k hlt
      have ok1 := Lib.hid ((HX.out.keep HB.out).mem k hlt)
      have ok2 := Lib.hid ((HY.out.keep HB.out).mem k hlt)
      have HE := Lib.hid (show (xs[k]!).s = (ys[k]!).s by rw [← Shr.vals_at xs k (by rw [HX.out.len]; exact hlt), ← Shr.vals_at ys k (by rw [HY.out.len]; exact hlt), HV.out])
      generalize xs[k]! = x at x0 x1 x2 x3 x4 ok1 HE
      generalize ys[k]! = y at y0 y1 y2 y3 y4 ok2 HE
      rw [← HE.out] at y0 y1 y2 y3 y4
      have HR2 := Lib.hid (show RdB wr y.A x.s.d.length x.s.d by rw [HE.out]; exact ok2.out.rd)
      have i1 : (0 : Int) ≤ (k : Int) := by omega
      have i2 : (k : Int) < (n : Int) := by omega
      go_wp2_with fail
      go_region_held3 (fun w' => w'.cell? ⟨b, off + k * 5, none⟩ = some (.int .i64 x.s.ep) ∧ w'.cell? ⟨b, off + k * 5 + 1, none⟩ = some (.int .i64 x.s.ix) ∧ w'.cell? ⟨b, off + k * 5 + 2, none⟩ = some (.int .i64 x.s.th) ∧ w'.cell? ⟨b, off + k * 5 + 3, none⟩ = some (.int .i64 x.s.mn) ∧ w'.cell? ⟨b, off + k * 5 + 4, none⟩ = some (.slice x.A x.s.d.length x.c) ∧ w'.cell? ⟨bq, offq + k * 5, none⟩ = some (.int .i64 x.s.ep) ∧ w'.cell? ⟨bq, offq + k * 5 + 1, none⟩ = some (.int .i64 x.s.ix) ∧ w'.cell? ⟨bq, offq + k * 5 + 2, none⟩ = some (.int .i64 x.s.th) ∧ w'.cell? ⟨bq, offq + k * 5 + 3, none⟩ = some (.int .i64 x.s.mn) ∧ w'.cell? ⟨bq, offq + k * 5 + 4, none⟩ = some (.slice y.A x.s.d.length y.c))
        (first
          | exact ⟨x0, x1, x2, x3, x4, y0, y1, y2, y3, y4⟩
          | exact ⟨hBw2 hb9 x0 hbx, hBw2 hb9 x1 hbx, hBw2 hb9 x2 hbx, hBw2 hb9 x3 hbx, hBw2 hb9 x4 hbx, hBw2 hb9 y0 hby, hBw2 hb9 y1 hby, hBw2 hb9 y2 hby, hBw2 hb9 y3 hby, hBw2 hb9 y4 hby⟩)
        (first | (go_at_call 42; (with_reducible refine (Shr.sameS x.s x.A y.A x.c y.c _ ok1.out.rd.drew HR2.out.drew).mono ?_); rintro e w9 ⟨rfl, hb9'⟩; have hb9 : Below wr.heap.size wr w9 := ((Below.refl _ _).drew).trans (hb9'.mono (by simp))))
      have HB9 := Lib.hid (HB.out.trans (hb9.mono HB.out.size))
      clear hb9 hb9' x0 x1 x2 x3 x4 y0 y1 y2 y3 y4
      go_wp2_with fail
      go_roundw
      case rel => exact ⟨k + 1, by omega, by go_num, HB9.out⟩
      case measure => simp [intOf]; omega
    · go_wp2_with fail
      go_ret
      exact ⟨rfl, HB.out⟩
end Go.Proofs.YtideglpjgplpnaaDoor
