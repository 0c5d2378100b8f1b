/- Contracts of clocks.Check, valid, apart, shows: for every argument, what each returns. -/
import Derived.Test.YtnbbleajbbgmjaaDoorUtil
import Derived.Test.YtnbbleajbbgmjaaDoorProg
import Derived.Test.YtnbbleajbbgmjaaDoorClkPlain
namespace Go.Proofs.YtnbbleajbbgmjaaDoor
open Go.RowKit
set_option linter.unusedVariables false

theorem Clk.check_ok (s er d : Int) (w : World) (h : Clk.okB s er d = true) :
    Calls Tryd.prog 38 #[.agg #[.int .i64 s, .int .i64 er, .int .i64 d]] w fun e w' => e = .returned (.int .i64 0) ∧ Below w.heap.size w w' := by
  rw [Clk.okB_iff] at h
  obtain ⟨h1, h2, h3, h4, h5, h6⟩ := h
  go_enter Tryd.func38, Tryd.ntmps38
  go_wp2
  go_ret
  exact ⟨rfl, (Below.refl _ _).alloc (Nat.le_refl _) _⟩

theorem Clk.check_no (s er d : Int) (w : World) (h : Clk.okB s er d = false) :
    Calls Tryd.prog 38 #[.agg #[.int .i64 s, .int .i64 er, .int .i64 d]] w fun e w' => e = .returned (.int .i64 490) ∧ Below w.heap.size w w' := by
  have h' : ¬ (0 ≤ s ∧ s ≤ 1048576 ∧ 0 ≤ er ∧ er ≤ 65536 ∧ 0 ≤ d ∧ d ≤ 999) := fun k => by rw [(Clk.okB_iff s er d).2 k] at h; cases h
  have HH := Lib.hid h'
  clear h h'
  go_enter Tryd.func38, Tryd.ntmps38
  go_wp2
  all_goals first
    | (go_ret; exact ⟨rfl, (Below.refl _ _).alloc (Nat.le_refl _) _⟩)
    | (exfalso; have := HH.out; omega)

theorem Clk.valid_any (t : Int) (w : World) :
    Calls Tryd.prog 50 #[.int .i64 t] w fun e w' => e = .returned (.bool (Clk.tmB t)) ∧ w = w' := by
  by_cases h0 : 0 ≤ t
  · by_cases h1 : t ≤ 1048576
    · have hv := Lib.hid ((Clk.tmB_iff t).2 ⟨h0, h1⟩)
      go_enter Tryd.func50, Tryd.ntmps50
      go_wp2
      go_ret
      exact ⟨by rw [hv.out]; rfl, rfl⟩
    · have hv := Lib.hid (show Clk.tmB t = false by simp [Clk.tmB, h1])
      go_enter Tryd.func50, Tryd.ntmps50
      go_wp2
      go_ret
      exact ⟨by rw [hv.out]; rfl, rfl⟩
  · have hv := Lib.hid (show Clk.tmB t = false by simp [Clk.tmB, h0])
    go_enter Tryd.func50, Tryd.ntmps50
    go_wp2
    go_ret
    exact ⟨by rw [hv.out]; rfl, rfl⟩

theorem Clk.apart_any (a b : Int) (w : World) (ha : 0 ≤ a) (ha' : a ≤ 2097152) (hb : 0 ≤ b) (hb' : b ≤ 2097152) :
    Calls Tryd.prog 67 #[.int .i64 a, .int .i64 b] w fun e w' => e = .returned (.int .i64 (Clk.apart a b)) ∧ w = w' := by
  by_cases h : a < b
  · have hv := Lib.hid (show Clk.apart a b = b - a by simp [Clk.apart, h])
    go_enter Tryd.func67, Tryd.ntmps67
    go_wp2
    go_ret
    exact ⟨by rw [hv.out]; simp, rfl⟩
  · have hv := Lib.hid (show Clk.apart a b = a - b by simp [Clk.apart, h])
    go_enter Tryd.func67, Tryd.ntmps67
    go_wp2
    go_ret
    exact ⟨by rw [hv.out]; simp, rfl⟩

theorem Clk.shows_any (s er d t x : Int) (w : World) (ho : Clk.okB s er d = true) (ht : Clk.tmB t = true) (hx : Clk.tmB x = true) :
    Calls Tryd.prog 51 #[.agg #[.int .i64 s, .int .i64 er, .int .i64 d], .int .i64 t, .int .i64 x] w fun e w' => e = .returned (.bool (Clk.shB s er d t x)) ∧ Below w.heap.size w w' := by
  rw [Clk.okB_iff] at ho
  rw [Clk.tmB_iff] at ht hx
  obtain ⟨h1, h2, h3, h4, h5, h6⟩ := ho
  obtain ⟨t1, t2⟩ := ht
  obtain ⟨x1, x2⟩ := hx
  have p1 := Clk.apart_nn t s
  have p2 := Clk.apart_le t s t1 t2 h1 h2
  obtain ⟨q1, q2⟩ := Clk.prod_bd _ d p1 p2 h5 h6
  go_enter Tryd.func51, Tryd.ntmps51
  go_wp2
  go_quiet ((go_at_call 67; exact Go.Proofs.YtnbbleajbbgmjaaDoor.quiet_left (Clk.apart_any _ _ _ (by omega) (by omega) (by omega) (by omega))))
  go_wp2
  go_ret
  exact ⟨rfl, below_drewN ((Below.refl _ _).alloc (Nat.le_refl _) _) _⟩

end Go.Proofs.YtnbbleajbbgmjaaDoor
