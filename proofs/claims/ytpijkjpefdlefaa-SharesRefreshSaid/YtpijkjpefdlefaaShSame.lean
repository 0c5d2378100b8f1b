/- Contracts of the reference's SameShare and Same, where the shares are the same. -/
import Derived.Test.YtpijkjpefdlefaaShSome
namespace Go.Proofs.Ytpijkjpefdlefaa
open Go.RowKit Go.Shelf
set_option linter.unusedVariables false

set_option maxHeartbeats 1000000 in
theorem Shr.sameS (s : Shr.S) (A B : Option Addr) (ca cb : Nat) (w : World) (ha : RdB w A s.d.length s.d) (hb : RdB w B s.d.length s.d) :
    Calls Try.prog 33 #[.agg #[.int .i64 s.ep, .int .i64 s.ix, .int .i64 s.th, .int .i64 s.mn, .slice A s.d.length ca], .agg #[.int .i64 s.ep, .int .i64 s.ix, .int .i64 s.th, .int .i64 s.mn, .slice B s.d.length cb]] w fun e w' => e = .returned (.bool true) ∧ Below w.heap.size w w' := by
  have y1 := ((ha.alloc (.cells #[.int .i64 s.ep, .int .i64 s.ix, .int .i64 s.th, .int .i64 s.mn, .slice A s.d.length ca] 41)).alloc (.cells #[.int .i64 s.ep, .int .i64 s.ix, .int .i64 s.th, .int .i64 s.mn, .slice B s.d.length cb] 41)).str (P := Try.prog) Try.underlying23 Try.underlying5 Try.underlying9 ca
  have y2 := ((hb.alloc (.cells #[.int .i64 s.ep, .int .i64 s.ix, .int .i64 s.th, .int .i64 s.mn, .slice A s.d.length ca] 41)).alloc (.cells #[.int .i64 s.ep, .int .i64 s.ix, .int .i64 s.th, .int .i64 s.mn, .slice B s.d.length cb] 41)).str (P := Try.prog) Try.underlying23 Try.underlying5 Try.underlying9 cb
  clear ha hb
  go_enter Try.func33, Try.ntmps33
  go_wp2_with fail
  go_ret
  exact ⟨rfl, below_of2 _ _ _⟩

set_option maxRecDepth 100000 in
set_option maxHeartbeats 1000000 in
theorem Shr.same_any (A B : Option Addr) (n ca cb : Nat) (xs ys : List Shr.C) (w : World) (hx : Shr.Rds w A n xs) (hy : Shr.Rds w B n ys) (hn : n ≤ maxLen) (hv : Shr.vals xs = Shr.vals ys) :
    Calls Try.prog 16 #[.slice A n ca, .slice B n cb] w fun e w' => e = .returned (.bool true) ∧ Below w.heap.size w w' := by
  unfold maxLen at hn
  have HX := Lib.hid hx
  have HY := Lib.hid hy
  have HV := Lib.hid hv
  clear hx hy hv
  have q1 : ((n : Int) != (n : Int)) = false := by simp
  go_enter Try.func16, Try.ntmps16
  go_wp2_with fail
  clear q1
  go_loopw [5] (fun i wr => ∃ k : Nat, k ≤ n ∧ i = .int .i64 k ∧ Below w.heap.size w wr) (fun i _ => n - (intOf i).toNat)
  case atStart => exact ⟨0, by omega, rfl, Below.refl _ _⟩
  case round =>
    obtain ⟨k, hk, rfl, hB⟩ := hrel
    have HB := Lib.hid hB
    clear hB
    by_cases hlt : k < n
    · obtain ⟨b, off, rfl, hbx, x0, x1, x2, x3, x4⟩ := (HX.out.keep HB.out).at k hlt
      obtain ⟨bq, offq, rfl, hby, y0, y1, y2, y3, y4⟩ := (HY.out.keep HB.out).at k hlt
      have ok1 := Lib.hid ((HX.out.keep HB.out).mem k hlt)
      have ok2 := Lib.hid ((HY.out.keep HB.out).mem k hlt)
      have HE := Lib.hid (show (xs[k]!).s = (ys[k]!).s by rw [← Shr.vals_at xs k (by rw [HX.out.len]; exact hlt), ← Shr.vals_at ys k (by rw [HY.out.len]; exact hlt), HV.out])
      generalize xs[k]! = x at x0 x1 x2 x3 x4 ok1 HE
      generalize ys[k]! = y at y0 y1 y2 y3 y4 ok2 HE
      rw [← HE.out] at y0 y1 y2 y3 y4
      have HR2 := Lib.hid (show RdB wr y.A x.s.d.length x.s.d by rw [HE.out]; exact ok2.out.rd)
      have i1 : (0 : Int) ≤ (k : Int) := by omega
      have i2 : (k : Int) < (n : Int) := by omega
      go_wp2_with fail
      go_region_held3 (fun w' => w'.cell? ⟨b, off + k * 5, none⟩ = some (.int .i64 x.s.ep) ∧ w'.cell? ⟨b, off + k * 5 + 1, none⟩ = some (.int .i64 x.s.ix) ∧ w'.cell? ⟨b, off + k * 5 + 2, none⟩ = some (.int .i64 x.s.th) ∧ w'.cell? ⟨b, off + k * 5 + 3, none⟩ = some (.int .i64 x.s.mn) ∧ w'.cell? ⟨b, off + k * 5 + 4, none⟩ = some (.slice x.A x.s.d.length x.c) ∧ w'.cell? ⟨bq, offq + k * 5, none⟩ = some (.int .i64 x.s.ep) ∧ w'.cell? ⟨bq, offq + k * 5 + 1, none⟩ = some (.int .i64 x.s.ix) ∧ w'.cell? ⟨bq, offq + k * 5 + 2, none⟩ = some (.int .i64 x.s.th) ∧ w'.cell? ⟨bq, offq + k * 5 + 3, none⟩ = some (.int .i64 x.s.mn) ∧ w'.cell? ⟨bq, offq + k * 5 + 4, none⟩ = some (.slice y.A x.s.d.length y.c))
        (first
          | exact ⟨x0, x1, x2, x3, x4, y0, y1, y2, y3, y4⟩
          | exact ⟨hBw2 hb9 x0 hbx, hBw2 hb9 x1 hbx, hBw2 hb9 x2 hbx, hBw2 hb9 x3 hbx, hBw2 hb9 x4 hbx, hBw2 hb9 y0 hby, hBw2 hb9 y1 hby, hBw2 hb9 y2 hby, hBw2 hb9 y3 hby, hBw2 hb9 y4 hby⟩)
        (first | (go_at_call 33; (with_reducible refine (Shr.sameS x.s x.A y.A x.c y.c _ ok1.out.rd.drew HR2.out.drew).mono ?_); rintro e w9 ⟨rfl, hb9'⟩; have hb9 : Below wr.heap.size wr w9 := ((Below.refl _ _).drew).trans (hb9'.mono (by simp))))
      have HB9 := Lib.hid (HB.out.trans (hb9.mono HB.out.size))
      clear hb9 hb9' x0 x1 x2 x3 x4 y0 y1 y2 y3 y4
      go_wp2_with fail
      go_roundw
      case rel => exact ⟨k + 1, by omega, by go_num, HB9.out⟩
      case measure => simp [intOf]; omega
    · go_wp2_with fail
      go_ret
      exact ⟨rfl, HB.out⟩
end Go.Proofs.Ytpijkjpefdlefaa
