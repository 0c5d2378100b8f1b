/- Contracts of the clocks' functions at known answers, and of the statements' 'in'. -/
import Derived.Test.YtpihodmohlcgiaaClkSane
namespace Go.Proofs.Ytpihodmohlcgiaa
open Go.RowKit Go.Shelf
set_option linter.unusedVariables false

theorem Clk.chk_lit {s er d v : Int} (h : Clk.chkE s er d = v) (w : World) : Calls Try.prog 13 #[.agg #[.int .i64 s, .int .i64 er, .int .i64 d]] w fun e w' => e = .returned (.int .i64 v) ∧ Below w.heap.size w w' :=
  (Clk.check_any s er d w).mono fun _ _ ⟨he, hb⟩ => ⟨by rw [he, h], hb⟩
theorem Clk.may_lit {s er d t x v : Int} {b : Bool} (hb : Clk.mayB s er d t x = b) (h : Clk.mayE s er d t x = v) (w : World) : Calls Try.prog 11 #[.agg #[.int .i64 s, .int .i64 er, .int .i64 d], .int .i64 t, .int .i64 x] w fun e w' => e = .returned (.tuple #[.bool b, .int .i64 v]) ∧ Below w.heap.size w w' :=
  (Clk.may_any s er d t x w).mono fun _ _ ⟨he, h2⟩ => ⟨by rw [he, hb, h], h2⟩
theorem Clk.tim_lit {s er d x lo hi v : Int} {b : Bool} (h1 : Clk.timLo s er d x = lo) (h2 : Clk.timHi s er d x = hi) (h3 : Clk.timOk s er d x = b) (h4 : Clk.timE s er d x = v) (w : World) :
    Calls Try.prog 15 #[.agg #[.int .i64 s, .int .i64 er, .int .i64 d], .int .i64 x] w fun e w' => e = .returned (.tuple #[.agg #[.int .i64 lo, .int .i64 hi], .bool b, .int .i64 v]) ∧ Below w.heap.size w w' :=
  (Clk.times_any s er d x w).mono fun _ _ ⟨he, h⟩ => ⟨by rw [he, h1, h2, h3, h4], h⟩
theorem Clk.meet_lit {a b c d lo hi : Int} {k : Bool} (h1 : Clk.meetLo a b c d = lo) (h2 : Clk.meetHi a b c d = hi) (h3 : Clk.meetOk a b c d = k) (w : World) :
    Calls Try.prog 17 #[.agg #[.int .i64 a, .int .i64 b], .agg #[.int .i64 c, .int .i64 d]] w fun e w' => e = .returned (.tuple #[.agg #[.int .i64 lo, .int .i64 hi], .bool k]) ∧ Below w.heap.size w w' :=
  (Clk.meet_any a b c d w).mono fun _ _ ⟨he, h⟩ => ⟨by rw [he, h1, h2, h3], h⟩

/-- is a time in a range? -/
def Clk.inB (lo hi t : Int) : Bool := decide (lo ≤ t) && decide (t ≤ hi)
theorem Clk.inB_iff (lo hi t : Int) : Clk.inB lo hi t = true ↔ lo ≤ t ∧ t ≤ hi := by simp [Clk.inB]

theorem Clk.in_any (lo hi t : Int) (w : World) : Calls Try.prog 19 #[.agg #[.int .i64 lo, .int .i64 hi], .int .i64 t] w fun e w' => e = .returned (.bool (Clk.inB lo hi t)) ∧ Below w.heap.size w w' := by
  by_cases h1 : lo ≤ t
  · by_cases h2 : t ≤ hi
    · have hv := Lib.hid ((Clk.inB_iff lo hi t).2 ⟨h1, h2⟩)
      go_enter Try.func19, Try.ntmps19
      go_wp2
      go_ret
      exact ⟨by rw [hv.out]; rfl, (Below.refl _ _).alloc (Nat.le_refl _) _⟩
    · have hv := Lib.hid (show Clk.inB lo hi t = false by simp [Clk.inB, h2])
      go_enter Try.func19, Try.ntmps19
      go_wp2
      go_ret
      exact ⟨by rw [hv.out]; rfl, (Below.refl _ _).alloc (Nat.le_refl _) _⟩
  · have hv := Lib.hid (show Clk.inB lo hi t = false by simp [Clk.inB, h1])
    go_enter Try.func19, Try.ntmps19
    go_wp2
    go_ret
    exact ⟨by rw [hv.out]; rfl, (Below.refl _ _).alloc (Nat.le_refl _) _⟩
theorem Clk.in_lit {lo hi t : Int} {b : Bool} (h : Clk.inB lo hi t = b) (w : World) : Calls Try.prog 19 #[.agg #[.int .i64 lo, .int .i64 hi], .int .i64 t] w fun e w' => e = .returned (.bool b) ∧ Below w.heap.size w w' :=
  (Clk.in_any lo hi t w).mono fun _ _ ⟨he, h2⟩ => ⟨by rw [he, h], h2⟩

/-- what Times returns, where it returns a range -/
theorem Clk.tim_yes (s er d x : Int) (ho : Clk.okB s er d = true) (hx : Clk.tmB x = true) : Clk.timOk s er d x = true ∧ Clk.timE s er d x = 0 ∧ Clk.IsTimes s er d x (Clk.timLo s er d x) (Clk.timHi s er d x) := by
  have h0 : Clk.timOk s er d x = true := by simp [Clk.timOk, ho, hx]
  refine ⟨h0, by simp [Clk.timE, ho, hx], ?_⟩
  rw [Clk.timLo, Clk.timHi, if_pos h0, if_pos h0]
  exact Clk.last_times s er d x ho hx
theorem Clk.tim_no (s er d x : Int) (h : Clk.timOk s er d x = false) : Clk.timLo s er d x = 0 ∧ Clk.timHi s er d x = 0 := by
  simp [Clk.timLo, Clk.timHi, h]

/-- more error, more drift: the same times and possibly more -/
theorem Clk.sh_wider (s er d er' d' t x : Int) (he : er ≤ er') (hd : d ≤ d') (h : Clk.shB s er d t x = true) : Clk.shB s er' d' t x = true := by
  rw [Clk.shB_iff] at h ⊢
  have h1 : Clk.apart t s * d ≤ Clk.apart t s * d' := Int.mul_le_mul_of_nonneg_left hd (Clk.apart_nn t s)
  omega
theorem Clk.times_wider {s er d er' d' x lo hi lo' hi' : Int} (he : er ≤ er') (hd : d ≤ d') (h : Clk.IsTimes s er d x lo hi) (k : Clk.IsTimes s er' d' x lo' hi') : lo' ≤ lo ∧ hi ≤ hi' := by
  obtain ⟨a1, a2, a3, a4, a5⟩ := h
  obtain ⟨b1, b2, b3, b4, b5⟩ := k
  have p1 := (b5 lo (by omega) (by omega)).1 (Clk.sh_wider s er d er' d' lo x he hd ((a5 lo (by omega) (by omega)).2 (by omega)))
  have p2 := (b5 hi (by omega) (by omega)).1 (Clk.sh_wider s er d er' d' hi x he hd ((a5 hi (by omega) (by omega)).2 (by omega)))
  omega
/-- without drift: the times that differ from the stamp by at most the error -/
theorem Clk.sh_steady (s er t x : Int) : Clk.shB s er 0 t x = true ↔ Clk.apart x t ≤ er := by
  rw [Clk.shB_iff, Int.mul_zero]
  simp
theorem Clk.times_steady {s er x lo hi : Int} (he : 0 ≤ er) (hx : 0 ≤ x) (hx' : x ≤ 1048576) (h : Clk.IsTimes s er 0 x lo hi) : lo = (if 0 < x - er then x - er else 0) ∧ hi = (if x + er < 1048576 then x + er else 1048576) := by
  obtain ⟨a1, a2, a3, a4, a5⟩ := h
  have sh : ∀ t, Clk.shB s er 0 t x = true ↔ (x - er ≤ t ∧ t ≤ x + er) := fun t => by
    rw [Clk.sh_steady]; unfold Clk.apart; split <;> omega
  have p1 := (sh lo).1 ((a5 lo (by omega) (by omega)).2 (by omega))
  have p2 := (sh hi).1 ((a5 hi (by omega) (by omega)).2 (by omega))
  constructor
  · split
    · have := (a5 (x - er) (by omega) (by omega)).1 ((sh _).2 (by omega))
      omega
    · have := (a5 0 (by omega) (by omega)).1 ((sh _).2 (by omega))
      omega
  · split
    · have := (a5 (x + er) (by omega) (by omega)).1 ((sh _).2 (by omega))
      omega
    · have := (a5 1048576 (by omega) (by omega)).1 ((sh _).2 (by omega))
      omega
/-- at the time Sync -/
theorem Clk.sh_sync (s er d x : Int) : Clk.shB s er d s x = decide (Clk.apart x s ≤ er) := by
  unfold Clk.shB
  have h0 : Clk.apart s s = 0 := by unfold Clk.apart; split <;> omega
  rw [h0, Int.zero_mul]
  simp
end Go.Proofs.Ytpihodmohlcgiaa
