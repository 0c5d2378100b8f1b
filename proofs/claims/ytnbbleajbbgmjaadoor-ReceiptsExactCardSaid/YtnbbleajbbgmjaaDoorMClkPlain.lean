import Derived.Test.YtnbbleajbbgmjaaDoorMUtil
import Derived.Test.YtnbbleajbbgmjaaDoorProg
import Derived.RangeFuncNested
import Derived.RangeFuncBound
import Derived.RangeFuncCalls
import Derived.RangeFuncLeaves
import Derived.Shelf.Abstract
import Derived.Shelf.RegionOpen
import Derived.OwnWalkIn
import Derived.TacticsInMore
import Derived.LoopNIn
import Derived.LoopIn
/- Plain mathematics of clocks that drift: a clock shows a stamp on one interval of times, and halving finds its ends. No condition; no program in sight. -/
namespace Go.Proofs.YtnbbleajbbgmjaaDoor.Clk

/-- the distance between two numbers -/
def apart (a b : Int) : Int := if a < b then b - a else a - b
/-- is a clock valid? -/
def okB (s er d : Int) : Bool := decide (0 ≤ s) && decide (s ≤ 1048576) && decide (0 ≤ er) && decide (er ≤ 65536) && decide (0 ≤ d) && decide (d ≤ 999)
/-- is a number a true time? -/
def tmB (t : Int) : Bool := decide (0 ≤ t) && decide (t ≤ 1048576)
/-- can the clock show the stamp x at the time t? -/
def shB (s er d t x : Int) : Bool := decide (apart x t ≤ er + apart t s * d / 1000)

theorem okB_iff (s er d : Int) : okB s er d = true ↔ 0 ≤ s ∧ s ≤ 1048576 ∧ 0 ≤ er ∧ er ≤ 65536 ∧ 0 ≤ d ∧ d ≤ 999 := by
  simp [okB, and_assoc]
theorem tmB_iff (t : Int) : tmB t = true ↔ 0 ≤ t ∧ t ≤ 1048576 := by simp [tmB]
theorem shB_iff (s er d t x : Int) : shB s er d t x = true ↔ apart x t ≤ er + apart t s * d / 1000 := by simp [shB]
theorem apart_nn (a b : Int) : 0 ≤ apart a b := by unfold apart; split <;> omega
theorem apart_le (a b : Int) (ha : 0 ≤ a) (ha' : a ≤ 1048576) (hb : 0 ≤ b) (hb' : b ≤ 1048576) : apart a b ≤ 1048576 := by unfold apart; split <;> omega

theorem prod_bd (p d : Int) (hp : 0 ≤ p) (hp' : p ≤ 1048576) (hd : 0 ≤ d) (hd' : d ≤ 999) : 0 ≤ p * d ∧ p * d ≤ 1047527424 := by
  refine ⟨Int.mul_nonneg hp hd, ?_⟩
  have := Int.mul_le_mul hp' hd' hd (by omega)
  omega

/-- one step nearer costs at most one -/
theorem div_step (p q d : Int) (hq : q ≤ p + 1) (hd : 0 ≤ d) (hd' : d ≤ 999) : q * d / 1000 ≤ p * d / 1000 + 1 := by
  have h : q * d ≤ (p + 1) * d := Int.mul_le_mul_of_nonneg_right hq hd
  have h2 : (p + 1) * d = p * d + d := by rw [Int.add_mul, Int.one_mul]
  omega

/-- the clock shows the stamp at the time that is equal to it -/
theorem sh_self (s er d x : Int) (he : 0 ≤ er) (hd : 0 ≤ d) : shB s er d x x = true := by
  rw [shB_iff]
  have h1 : apart x x = 0 := by unfold apart; split <;> omega
  have h2 := apart_nn x s
  have h3 : 0 ≤ apart x s * d := Int.mul_nonneg h2 hd
  omega

/-- nearer to the stamp it shows it as well, above -/
theorem sh_up (s er d t x : Int) (hd : 0 ≤ d) (hd' : d ≤ 999) (h : shB s er d (t + 1) x = true) (hx : x ≤ t) : shB s er d t x = true := by
  rw [shB_iff] at h ⊢
  have h1 : apart x (t + 1) = apart x t + 1 := by unfold apart; split <;> split <;> omega
  have h2 : apart (t + 1) s ≤ apart t s + 1 := by unfold apart; split <;> split <;> omega
  have h3 := div_step (apart t s) (apart (t + 1) s) d h2 hd hd'
  omega
/-- nearer to the stamp it shows it as well, below -/
theorem sh_down (s er d t x : Int) (hd : 0 ≤ d) (hd' : d ≤ 999) (h : shB s er d (t - 1) x = true) (hx : t ≤ x) : shB s er d t x = true := by
  rw [shB_iff] at h ⊢
  have h1 : apart x (t - 1) = apart x t + 1 := by unfold apart; split <;> split <;> omega
  have h2 : apart (t - 1) s ≤ apart t s + 1 := by unfold apart; split <;> split <;> omega
  have h3 := div_step (apart t s) (apart (t - 1) s) d h2 hd hd'
  omega

theorem sh_up_to (s er d x : Int) (hd : 0 ≤ d) (hd' : d ≤ 999) (k : Nat) : ∀ t : Int, x ≤ t → shB s er d (t + k) x = true → shB s er d t x = true := by
  induction k with
  | zero => intro t _ h; simpa using h
  | succ k ih =>
    intro t hx h
    refine ih t hx (sh_up s er d (t + k) x hd hd' ?_ (by omega))
    rw [show t + (k : Int) + 1 = t + ((k + 1 : Nat) : Int) from by omega]
    exact h
theorem sh_down_to (s er d x : Int) (hd : 0 ≤ d) (hd' : d ≤ 999) (k : Nat) : ∀ t : Int, t ≤ x → shB s er d (t - k) x = true → shB s er d t x = true := by
  induction k with
  | zero => intro t _ h; simpa using h
  | succ k ih =>
    intro t hx h
    refine ih t hx (sh_down s er d (t - k) x hd hd' ?_ (by omega))
    rw [show t - (k : Int) - 1 = t - ((k + 1 : Nat) : Int) from by omega]
    exact h
theorem sh_above (s er d x t u : Int) (hd : 0 ≤ d) (hd' : d ≤ 999) (hx : x ≤ t) (htu : t ≤ u) (h : shB s er d u x = true) : shB s er d t x = true := by
  refine sh_up_to s er d x hd hd' (u - t).toNat t hx ?_
  rw [show t + ((u - t).toNat : Int) = u from by omega]
  exact h
theorem sh_below (s er d x t u : Int) (hd : 0 ≤ d) (hd' : d ≤ 999) (hx : t ≤ x) (htu : u ≤ t) (h : shB s er d u x = true) : shB s er d t x = true := by
  refine sh_down_to s er d x hd hd' (t - u).toNat t hx ?_
  rw [show t - ((t - u).toNat : Int) = u from by omega]
  exact h

/-- lo to hi are the times at which the clock can show the stamp -/
def IsTimes (s er d x lo hi : Int) : Prop := 0 ≤ lo ∧ lo ≤ x ∧ x ≤ hi ∧ hi ≤ 1048576 ∧ ∀ t, 0 ≤ t → t ≤ 1048576 → (shB s er d t x = true ↔ lo ≤ t ∧ t ≤ hi)

theorem IsTimes.unique {s er d x lo hi lo' hi' : Int} (h : IsTimes s er d x lo hi) (k : IsTimes s er d x lo' hi') : lo = lo' ∧ hi = hi' := by
  obtain ⟨a1, a2, a3, a4, a5⟩ := h
  obtain ⟨b1, b2, b3, b4, b5⟩ := k
  have p1 := (b5 lo (by omega) (by omega)).1 ((a5 lo (by omega) (by omega)).2 (by omega))
  have p2 := (b5 hi (by omega) (by omega)).1 ((a5 hi (by omega) (by omega)).2 (by omega))
  have p3 := (a5 lo' (by omega) (by omega)).1 ((b5 lo' (by omega) (by omega)).2 (by omega))
  have p4 := (a5 hi' (by omega) (by omega)).1 ((b5 hi' (by omega) (by omega)).2 (by omega))
  omega

/-- the two ends, each a last time that is shown -/
theorem isTimes_of (s er d x lo hi : Int) (hd : 0 ≤ d) (hd' : d ≤ 999) (h0 : 0 ≤ lo) (hl : lo ≤ x) (hx : x ≤ hi) (hm : hi ≤ 1048576)
    (hlo : shB s er d lo x = true) (hhi : shB s er d hi x = true) (nlo : lo = 0 ∨ shB s er d (lo - 1) x = false) (nhi : hi = 1048576 ∨ shB s er d (hi + 1) x = false) :
    IsTimes s er d x lo hi := by
  refine ⟨h0, hl, hx, hm, fun t t0 tm => ⟨fun ht => ⟨?_, ?_⟩, fun ⟨h1, h2⟩ => ?_⟩⟩
  · rcases Int.lt_or_le t lo with hlt | hge
    · rcases nlo with n | n
      · omega
      · have := sh_below s er d x (lo - 1) t hd hd' (by omega) (by omega) ht
        rw [this] at n; cases n
    · exact hge
  · rcases Int.lt_or_le hi t with hlt | hge
    · rcases nhi with n | n
      · omega
      · have := sh_above s er d x (hi + 1) t hd hd' (by omega) (by omega) ht
        rw [this] at n; cases n
    · exact hge
  · rcases Int.le_total x t with hxt | htx
    · exact sh_above s er d x t hi hd hd' hxt h2 hhi
    · exact sh_below s er d x t lo hd hd' htx h1 hlo

/-- one step of the search: go the distance k if it is allowed -/
def goB (s er d x step t k : Int) : Int := if (tmB (t + step * k) && shB s er d (t + step * k) x) = true then t + step * k else t
/-- the distances of halves: 2^(n-1) down to 1 -/
def halvesN : Nat → List Int
  | 0 => []
  | n + 1 => (2 ^ n : Int) :: halvesN n
/-- what 'last' finds -/
def lastB (s er d x step : Int) : Int := (halvesN 21).foldl (goB s er d x step) x

theorem go_up (s er d x : Int) (hd : 0 ≤ d) (hd' : d ≤ 999) (n : Nat) : ∀ t : Int, x ≤ t → tmB t = true → shB s er d t x = true →
    (∀ u : Int, tmB u = true → shB s er d u x = true → u < t + 2 ^ n) →
    ∀ r, (halvesN n).foldl (goB s er d x 1) t = r →
    x ≤ r ∧ tmB r = true ∧ shB s er d r x = true ∧ ∀ u : Int, tmB u = true → shB s er d u x = true → u ≤ r := by
  induction n with
  | zero =>
    rintro t h1 h2 h3 h4 r rfl
    refine ⟨h1, h2, h3, fun u hu hs => ?_⟩
    have := h4 u hu hs
    simp at this
    show u ≤ t
    omega
  | succ n ih =>
    intro t h1 h2 h3 h4 r hr
    have hr' : (halvesN n).foldl (goB s er d x 1) (goB s er d x 1 t (2 ^ n)) = r := hr
    clear hr
    revert hr'
    have hp : (0 : Int) < 2 ^ n := Int.pow_pos (by omega)
    have h2n : (2 : Int) ^ (n + 1) = 2 ^ n + 2 ^ n := by rw [Int.pow_succ]; omega
    by_cases h : (tmB (t + 1 * 2 ^ n) && shB s er d (t + 1 * 2 ^ n) x) = true
    · rw [show goB s er d x 1 t (2 ^ n) = t + 1 * 2 ^ n from if_pos h]
      rw [Bool.and_eq_true] at h
      rw [Int.one_mul] at h ⊢
      exact ih _ (by omega) h.1 h.2 (fun u hu hs => by have := h4 u hu hs; omega) r
    · rw [show goB s er d x 1 t (2 ^ n) = t from if_neg h]
      refine ih _ h1 h2 h3 (fun u hu hs => ?_) r
      rcases Int.lt_or_le u (t + 2 ^ n) with hlt | hge
      · exact hlt
      · exfalso
        apply h
        rw [Int.one_mul, Bool.and_eq_true]
        rw [tmB_iff] at h2 hu
        exact ⟨by rw [tmB_iff]; omega, sh_above s er d x _ u hd hd' (by omega) hge hs⟩
theorem go_down (s er d x : Int) (hd : 0 ≤ d) (hd' : d ≤ 999) (n : Nat) : ∀ t : Int, t ≤ x → tmB t = true → shB s er d t x = true →
    (∀ u : Int, tmB u = true → shB s er d u x = true → t - 2 ^ n < u) →
    ∀ r, (halvesN n).foldl (goB s er d x (-1)) t = r →
    r ≤ x ∧ tmB r = true ∧ shB s er d r x = true ∧ ∀ u : Int, tmB u = true → shB s er d u x = true → r ≤ u := by
  induction n with
  | zero =>
    rintro t h1 h2 h3 h4 r rfl
    refine ⟨h1, h2, h3, fun u hu hs => ?_⟩
    have := h4 u hu hs
    simp at this
    show t ≤ u
    omega
  | succ n ih =>
    intro t h1 h2 h3 h4 r hr
    have hr' : (halvesN n).foldl (goB s er d x (-1)) (goB s er d x (-1) t (2 ^ n)) = r := hr
    clear hr
    revert hr'
    have hp : (0 : Int) < 2 ^ n := Int.pow_pos (by omega)
    have h2n : (2 : Int) ^ (n + 1) = 2 ^ n + 2 ^ n := by rw [Int.pow_succ]; omega
    by_cases h : (tmB (t + (-1) * 2 ^ n) && shB s er d (t + (-1) * 2 ^ n) x) = true
    · rw [show goB s er d x (-1) t (2 ^ n) = t + (-1) * 2 ^ n from if_pos h]
      rw [Bool.and_eq_true] at h
      rw [Int.neg_one_mul] at h ⊢
      exact ih _ (by omega) h.1 h.2 (fun u hu hs => by have := h4 u hu hs; omega) r
    · rw [show goB s er d x (-1) t (2 ^ n) = t from if_neg h]
      refine ih _ h1 h2 h3 (fun u hu hs => ?_) r
      rcases Int.lt_or_le (t - 2 ^ n) u with hlt | hge
      · exact hlt
      · exfalso
        apply h
        rw [Int.neg_one_mul, Bool.and_eq_true]
        rw [tmB_iff] at h2 hu
        exact ⟨by rw [tmB_iff]; omega, sh_below s er d x _ u hd hd' (by omega) (by omega) hs⟩

theorem last_times (s er d x : Int) (ho : okB s er d = true) (hx : tmB x = true) : IsTimes s er d x (lastB s er d x (-1)) (lastB s er d x 1) := by
  rw [okB_iff] at ho
  obtain ⟨_, _, he, _, hd, hd'⟩ := ho
  have hs := sh_self s er d x he hd
  have hx' := (tmB_iff x).1 hx
  have hp : (2 : Int) ^ 21 = 2097152 := by decide
  have b1 : ∀ u : Int, tmB u = true → shB s er d u x = true → u < x + 2 ^ 21 := fun u hu _ => by
    rw [tmB_iff] at hu
    omega
  have b2 : ∀ u : Int, tmB u = true → shB s er d u x = true → x - 2 ^ 21 < u := fun u hu _ => by
    rw [tmB_iff] at hu
    omega
  obtain ⟨u1, u2, u3, u4⟩ := go_up s er d x hd hd' 21 x (Int.le_refl _) hx hs b1 _ rfl
  obtain ⟨v1, v2, v3, v4⟩ := go_down s er d x hd hd' 21 x (Int.le_refl _) hx hs b2 _ rfl
  change x ≤ lastB s er d x 1 at u1
  change tmB (lastB s er d x 1) = true at u2
  change shB s er d (lastB s er d x 1) x = true at u3
  change ∀ u : Int, tmB u = true → shB s er d u x = true → u ≤ lastB s er d x 1 at u4
  change lastB s er d x (-1) ≤ x at v1
  change tmB (lastB s er d x (-1)) = true at v2
  change shB s er d (lastB s er d x (-1)) x = true at v3
  change ∀ u : Int, tmB u = true → shB s er d u x = true → lastB s er d x (-1) ≤ u at v4
  rw [tmB_iff] at u2 v2
  refine isTimes_of s er d x _ _ hd hd' v2.1 v1 u1 u2.2 v3 u3 ?_ ?_
  · rcases Int.lt_or_le 0 (lastB s er d x (-1)) with hp | hn
    · refine .inr ?_
      rcases Bool.eq_false_or_eq_true (shB s er d (lastB s er d x (-1) - 1) x) with h | h
      · have := v4 _ (by rw [tmB_iff]; omega) h
        omega
      · exact h
    · exact .inl (by omega)
  · rcases Int.lt_or_le (lastB s er d x 1) 1048576 with hp | hn
    · refine .inr ?_
      rcases Bool.eq_false_or_eq_true (shB s er d (lastB s er d x 1 + 1) x) with h | h
      · have := u4 _ (by rw [tmB_iff]; omega) h
        omega
      · exact h
    · exact .inl (by omega)

/-- what Check returns -/
def chkE (s er d : Int) : Int := if okB s er d = true then 0 else 490
/-- what May returns -/
def mayB (s er d t x : Int) : Bool := okB s er d && (tmB t && tmB x) && shB s er d t x
def mayE (s er d t x : Int) : Int := if okB s er d = true then (if (tmB t && tmB x) = true then 0 else 1) else 490
/-- what Times returns -/
def timOk (s er d x : Int) : Bool := okB s er d && tmB x
def timLo (s er d x : Int) : Int := if timOk s er d x = true then lastB s er d x (-1) else 0
def timHi (s er d x : Int) : Int := if timOk s er d x = true then lastB s er d x 1 else 0
def timE (s er d x : Int) : Int := if okB s er d = true then (if tmB x = true then 0 else 1) else 490
/-- what Meet returns -/
def meetOk (a b c d : Int) : Bool := decide ((if a < c then c else a) ≤ (if d < b then d else b))
def meetLo (a b c d : Int) : Int := if meetOk a b c d = true then (if a < c then c else a) else 0
def meetHi (a b c d : Int) : Int := if meetOk a b c d = true then (if d < b then d else b) else 0

end Go.Proofs.YtnbbleajbbgmjaaDoor.Clk
/- Contracts of clocks.Check, valid, apart, shows: for every argument, what each returns. -/
namespace Go.Proofs.YtnbbleajbbgmjaaDoor
open Go.RowKit
set_option linter.unusedVariables false

theorem Clk.check_ok (s er d : Int) (w : World) (h : Clk.okB s er d = true) :
    Calls Tryd.prog 38 #[.agg #[.int .i64 s, .int .i64 er, .int .i64 d]] w fun e w' => e = .returned (.int .i64 0) ∧ Below w.heap.size w w' := by
  rw [Clk.okB_iff] at h
  obtain ⟨h1, h2, h3, h4, h5, h6⟩ := h
  go_enter Tryd.func38, Tryd.ntmps38
  go_wp2
  go_ret
  exact ⟨rfl, (Below.refl _ _).alloc (Nat.le_refl _) _⟩

theorem Clk.check_no (s er d : Int) (w : World) (h : Clk.okB s er d = false) :
    Calls Tryd.prog 38 #[.agg #[.int .i64 s, .int .i64 er, .int .i64 d]] w fun e w' => e = .returned (.int .i64 490) ∧ Below w.heap.size w w' := by
  have h' : ¬ (0 ≤ s ∧ s ≤ 1048576 ∧ 0 ≤ er ∧ er ≤ 65536 ∧ 0 ≤ d ∧ d ≤ 999) := fun k => by rw [(Clk.okB_iff s er d).2 k] at h; cases h
  have HH := Lib.hid h'
  clear h h'
  go_enter Tryd.func38, Tryd.ntmps38
  go_wp2
  all_goals first
    | (go_ret; exact ⟨rfl, (Below.refl _ _).alloc (Nat.le_refl _) _⟩)
    | (exfalso; have := HH.out; omega)

theorem Clk.valid_any (t : Int) (w : World) :
    Calls Tryd.prog 50 #[.int .i64 t] w fun e w' => e = .returned (.bool (Clk.tmB t)) ∧ w = w' := by
  by_cases h0 : 0 ≤ t
  · by_cases h1 : t ≤ 1048576
    · have hv := Lib.hid ((Clk.tmB_iff t).2 ⟨h0, h1⟩)
      go_enter Tryd.func50, Tryd.ntmps50
      go_wp2
      go_ret
      exact ⟨by rw [hv.out]; rfl, rfl⟩
    · have hv := Lib.hid (show Clk.tmB t = false by simp [Clk.tmB, h1])
      go_enter Tryd.func50, Tryd.ntmps50
      go_wp2
      go_ret
      exact ⟨by rw [hv.out]; rfl, rfl⟩
  · have hv := Lib.hid (show Clk.tmB t = false by simp [Clk.tmB, h0])
    go_enter Tryd.func50, Tryd.ntmps50
    go_wp2
    go_ret
    exact ⟨by rw [hv.out]; rfl, rfl⟩

theorem Clk.apart_any (a b : Int) (w : World) (ha : 0 ≤ a) (ha' : a ≤ 2097152) (hb : 0 ≤ b) (hb' : b ≤ 2097152) :
    Calls Tryd.prog 67 #[.int .i64 a, .int .i64 b] w fun e w' => e = .returned (.int .i64 (Clk.apart a b)) ∧ w = w' := by
  by_cases h : a < b
  · have hv := Lib.hid (show Clk.apart a b = b - a by simp [Clk.apart, h])
    go_enter Tryd.func67, Tryd.ntmps67
    go_wp2
    go_ret
    exact ⟨by rw [hv.out]; simp, rfl⟩
  · have hv := Lib.hid (show Clk.apart a b = a - b by simp [Clk.apart, h])
    go_enter Tryd.func67, Tryd.ntmps67
    go_wp2
    go_ret
    exact ⟨by rw [hv.out]; simp, rfl⟩

theorem Clk.shows_any (s er d t x : Int) (w : World) (ho : Clk.okB s er d = true) (ht : Clk.tmB t = true) (hx : Clk.tmB x = true) :
    Calls Tryd.prog 51 #[.agg #[.int .i64 s, .int .i64 er, .int .i64 d], .int .i64 t, .int .i64 x] w fun e w' => e = .returned (.bool (Clk.shB s er d t x)) ∧ Below w.heap.size w w' := by
  rw [Clk.okB_iff] at ho
  rw [Clk.tmB_iff] at ht hx
  obtain ⟨h1, h2, h3, h4, h5, h6⟩ := ho
  obtain ⟨t1, t2⟩ := ht
  obtain ⟨x1, x2⟩ := hx
  have p1 := Clk.apart_nn t s
  have p2 := Clk.apart_le t s t1 t2 h1 h2
  obtain ⟨q1, q2⟩ := Clk.prod_bd _ d p1 p2 h5 h6
  go_enter Tryd.func51, Tryd.ntmps51
  go_wp2
  go_quiet ((go_at_call 67; exact Go.Proofs.YtnbbleajbbgmjaaDoor.quiet_left (Clk.apart_any _ _ _ (by omega) (by omega) (by omega) (by omega))))
  go_wp2
  go_ret
  exact ⟨rfl, below_drewN ((Below.refl _ _).alloc (Nat.le_refl _) _) _⟩

end Go.Proofs.YtnbbleajbbgmjaaDoor
/- Contract of clocks.May: for every clock, time and stamp. -/
namespace Go.Proofs.YtnbbleajbbgmjaaDoor
open Go.RowKit
set_option linter.unusedVariables false

theorem Clk.check_any (s er d : Int) (w : World) :
    Calls Tryd.prog 38 #[.agg #[.int .i64 s, .int .i64 er, .int .i64 d]] w fun e w' => e = .returned (.int .i64 (Clk.chkE s er d)) ∧ Below w.heap.size w w' := by
  cases h : Clk.okB s er d with
  | true => exact (Clk.check_ok s er d w h).mono fun _ _ ⟨he, hb⟩ => ⟨by rw [he, Clk.chkE, if_pos h], hb⟩
  | false => exact (Clk.check_no s er d w h).mono fun _ _ ⟨he, hb⟩ => ⟨by rw [he, Clk.chkE, if_neg (by rw [h]; decide)], hb⟩

theorem Clk.may_any (s er d t x : Int) (w : World) :
    Calls Tryd.prog 23 #[.agg #[.int .i64 s, .int .i64 er, .int .i64 d], .int .i64 t, .int .i64 x] w fun e w' => e = .returned (.tuple #[.bool (Clk.mayB s er d t x), .int .i64 (Clk.mayE s er d t x)]) ∧ Below w.heap.size w w' := by
  cases h : Clk.okB s er d with
  | false =>
    have e1 := Lib.hid (show Clk.mayB s er d t x = false by simp [Clk.mayB, h])
    have e2 := Lib.hid (show Clk.mayE s er d t x = 490 by simp [Clk.mayE, h])
    have H := Lib.hid h
    clear h
    go_enter Tryd.func23, Tryd.ntmps23
    go_wp2_with (go_at_call 38; refine (Clk.check_no _ _ _ _ H.out).mono ?_; rintro e w1 ⟨rfl, hb⟩)
    go_ret2
    exact ⟨by rw [e1.out, e2.out]; rfl, (((Below.refl _ _).alloc (Nat.le_refl _) _).trans (hb.mono (by simp)))⟩
  | true =>
    have H := Lib.hid h
    clear h
    cases ht : Clk.tmB t with
    | false =>
      have e1 := Lib.hid (show Clk.mayB s er d t x = false by simp [Clk.mayB, ht])
      have e2 := Lib.hid (show Clk.mayE s er d t x = 1 by simp [Clk.mayE, H.out, ht])
      go_enter Tryd.func23, Tryd.ntmps23
      go_wp2_with (first | (go_at_call 38; refine (Clk.check_ok _ _ _ _ H.out).mono ?_; rintro e w1 ⟨rfl, hb⟩) | (go_at_call 50; refine (Clk.valid_any _ _).mono ?_; rintro e w2 ⟨rfl, rfl⟩))
      go_ret2
      exact ⟨by rw [e1.out, e2.out]; rfl, (((Below.refl _ _).alloc (Nat.le_refl _) _).trans (hb.mono (by simp)))⟩
    | true =>
      cases hx : Clk.tmB x with
      | false =>
        have e1 := Lib.hid (show Clk.mayB s er d t x = false by simp [Clk.mayB, hx])
        have e2 := Lib.hid (show Clk.mayE s er d t x = 1 by simp [Clk.mayE, H.out, hx])
        go_enter Tryd.func23, Tryd.ntmps23
        go_wp2_with (first | (go_at_call 38; refine (Clk.check_ok _ _ _ _ H.out).mono ?_; rintro e w1 ⟨rfl, hb⟩) | (go_at_call 50; refine (Clk.valid_any _ _).mono ?_; rintro e w2 ⟨rfl, rfl⟩))
        go_ret2
        exact ⟨by rw [e1.out, e2.out]; rfl, (((Below.refl _ _).alloc (Nat.le_refl _) _).trans (hb.mono (by simp)))⟩
      | true =>
        have e1 := Lib.hid (show Clk.mayB s er d t x = Clk.shB s er d t x by simp [Clk.mayB, hx, ht, H.out])
        have e2 := Lib.hid (show Clk.mayE s er d t x = 0 by simp [Clk.mayE, H.out, hx, ht])
        have Ht := Lib.hid ht
        have Hx := Lib.hid hx
        go_enter Tryd.func23, Tryd.ntmps23
        go_wp2_with (first | (go_at_call 38; refine (Clk.check_ok _ _ _ _ H.out).mono ?_; rintro e w1 ⟨rfl, hb⟩; obtain ⟨hc, hf⟩ := bcell hb) | (go_at_call 50; refine (Clk.valid_any _ _).mono ?_; rintro e w2 ⟨rfl, rfl⟩) | (go_at_call 51; refine (Clk.shows_any _ _ _ _ _ _ H.out Ht.out Hx.out).mono ?_; rintro e w3 ⟨rfl, hb3⟩))
        go_ret2
        exact ⟨by rw [e1.out, e2.out]; rfl, ((((Below.refl _ _).alloc (Nat.le_refl _) _).trans (hb.mono (by simp)))).trans (hb3.mono (by have := hb.size; simp at this; omega))⟩

end Go.Proofs.YtnbbleajbbgmjaaDoor
/- Contract of the iterator clocks.halves: it yields 2^20, 2^19, .., 1. -/
namespace Go.Proofs.YtnbbleajbbgmjaaDoor
open Go.RowKit Go.Shelf
attribute [local go_sem] Oper.semAt_some
set_option linter.unusedVariables false

/-- a distance that halves can yield -/
abbrev Clk.Dist := { x : Int // 0 < x ∧ x ≤ 1048576 }
/-- the head of halvesN m, or 0 -/
def Clk.hd : Nat → Int
  | 0 => 0
  | m + 1 => 2 ^ m
theorem Clk.hd_half (m : Nat) : Clk.hd (m + 1) / 2 = Clk.hd m := by
  cases m with
  | zero => rfl
  | succ m => show (2 : Int) ^ (m + 1) / 2 = 2 ^ m; rw [Int.pow_succ]; omega
theorem Clk.hd_pos (m : Nat) : 0 < Clk.hd (m + 1) := Int.pow_pos (by omega)
theorem Clk.hd_le (m : Nat) (h : m ≤ 21) : Clk.hd m ≤ 1048576 := by
  have H : ∀ k : Nat, k ≤ 21 → Clk.hd k ≤ 1048576 := by decide
  exact H m h
theorem Clk.halves_len (m : Nat) : (Clk.halvesN m).length = m := by
  induction m with
  | zero => rfl
  | succ m ih => simp [Clk.halvesN, ih]

set_option maxHeartbeats 1000000 in
theorem Clk.halves_stops (n : Nat) (hn : 1 ≤ n) (Kp : World → World → Prop) (w : World) :
    SeqStopsK Fence.wide n Tryd.prog 68 #[] (fun v : Clk.Dist => #[.int .i64 v.1]) Kp (fun xs => xs.map (·.1) = Clk.halvesN 21) (fun _ => True) 21 w := fun l J Jx W _ _ _ hY h0 => by
  refine callsIn_of_wp Tryd.func68 rfl trivial ?_ rfl
  simp only [Tryd.ntmps68, List.size_toArray, List.length_cons, List.length_nil, Nat.reduceAdd, Nat.reduceSub, Array.replicate_succ, Array.replicate_zero, List.push_toArray, List.append_toArray, List.nil_append, List.cons_append]
  gi_wp2
  gi_loopw [2] (fun p wr => ∃ (pre : List Clk.Dist) (m : Nat), m ≤ 21 ∧ p = .int .i64 (Clk.hd m) ∧ pre.map (·.1) ++ Clk.halvesN m = Clk.halvesN 21 ∧ J pre wr)
    (fun p wr => (intOf p).toNat)
  case atStart =>
    exact ⟨[], 21, Nat.le_refl _, rfl, rfl, h0⟩
  case round =>
    obtain ⟨pre, m, hm, rfl, hx, hJs⟩ := hrel
    cases m with
    | zero =>
      have HX := Lib.hid hx
      clear hx
      have e0 : Clk.hd 0 = 0 := rfl
      rw [e0]
      gi_wp2
      go_end0
      exact ⟨⟨_, rfl⟩, .inl ⟨pre, by simpa [Clk.halvesN] using HX.out, hJs⟩⟩
    | succ m =>
      have hp := Clk.hd_pos m
      have hle := Clk.hd_le (m + 1) hm
      have hh := Clk.hd_half m
      have hlt : pre.length < 21 := by
        have := congrArg List.length hx
        simp [Clk.halves_len] at this
        omega
      obtain ⟨fn, tmps, assign, body, hy, hR⟩ := hY pre ⟨Clk.hd (m + 1), hp, hle⟩ wr hJs hlt
      dsimp only at hy
      have HX := Lib.hid (show (pre ++ [(⟨Clk.hd (m + 1), hp, hle⟩ : Clk.Dist)]).map (·.1) ++ Clk.halvesN m = Clk.halvesN 21 by rw [← hx]; simp [Clk.halvesN, Clk.hd])
      have HH := Lib.hid hh
      clear hx hh
      have hdec : Hid ((Clk.hd m).toNat < (Clk.hd (m + 1)).toNat) := by
        have := HH.out
        show (Clk.hd m).toNat < (Clk.hd (m + 1)).toNat
        omega
      gi_wp2
      refine hR.mono ?_
      rintro e W3 (⟨rfl, hJ3, hk3⟩ | ⟨rfl, hJx3⟩)
      · gi_wp2
        rw [HH.out]
        go_roundw
        case rel => exact ⟨_, m, by omega, rfl, HX.out, hJ3⟩
        case measure => exact hdec.out
      · gi_wp2
        refine bodyPost_ret (results_none rfl _ _ _) rfl ?_
        exact ⟨⟨_, rfl⟩, .inr ⟨_, trivial, hJx3⟩⟩

end Go.Proofs.YtnbbleajbbgmjaaDoor
/- Contract of the closure 'last' of clocks.Times: the last time, going by halved distances, at which the clock can show the stamp. -/
namespace Go.Proofs.YtnbbleajbbgmjaaDoor
open Go.RowKit Go.Shelf
attribute [local go_sem] Oper.semAt_some
set_option linter.unusedVariables false

theorem Clk.go_tm (s er d x step t k : Int) (h : Clk.tmB t = true) : Clk.tmB (Clk.goB s er d x step t k) = true := by
  unfold Clk.goB
  split
  · rename_i h1; rw [Bool.and_eq_true] at h1; exact h1.1
  · exact h
theorem Clk.fold_tm (s er d x step : Int) (hx : Clk.tmB x = true) (l : List Int) : Clk.tmB (l.foldl (Clk.goB s er d x step) x) = true := by
  suffices H : ∀ (l : List Int) (t : Int), Clk.tmB t = true → Clk.tmB (l.foldl (Clk.goB s er d x step) t) = true from H l x hx
  intro l
  induction l with
  | nil => intro t h; exact h
  | cons a l ih => intro t h; exact ih _ (Clk.go_tm s er d x step t a h)

theorem Clk.halves_in (n : Nat) (w : World) : CallsIn Fence.wide n Tryd.prog 53 #[] w fun e w' => e = .returned (.func (.func 68) #[] #[]) ∧ w = w' := by
  refine callsIn_wide.2 ?_
  go_enter Tryd.func53, Tryd.ntmps53
  go_wp2
  go_ret
  exact ⟨rfl, rfl⟩

set_option maxRecDepth 100000 in
set_option maxHeartbeats 2000000 in
theorem Clk.last_in (n : Nat) (hn : 5 ≤ n) (s er d x step : Int) (bs bc : Nat) (w : World) (ho : Clk.okB s er d = true) (hx : Clk.tmB x = true) (hs : step = 1 ∨ step = -1)
    (hbs : bs < w.heap.size) (hbc : bc < w.heap.size) (cs : w.cell? ⟨bs, 0, none⟩ = some (.int .i64 x)) (c0 : w.cell? ⟨bc, 0, none⟩ = some (.int .i64 s)) (c1 : w.cell? ⟨bc, 1, none⟩ = some (.int .i64 er)) (c2 : w.cell? ⟨bc, 2, none⟩ = some (.int .i64 d)) :
    CallsIn Fence.wide n Tryd.prog 52 #[.int .i64 step, .pointer (some ⟨bs, 0, none⟩), .pointer (some ⟨bc, 0, none⟩)] w fun e w' => e = .returned (.int .i64 (Clk.lastB s er d x step)) ∧ Below w.heap.size w w' := by
  have h1 : 1 ≤ n := by omega
  have h2 : 1 ≤ n - 1 := by omega
  have h3 : 1 ≤ n - 1 - 1 := by omega
  have hfn : ∀ f, Fence.wide.fn f := fun _ => trivial
  have HO := Lib.hid ho
  have HX := Lib.hid hx
  have HS := Lib.hid hs
  clear ho hx hs
  refine callsIn_of_wp_marks Tryd.func52 rfl trivial ?_ rfl
  simp only [Tryd.ntmps52, List.size_toArray, List.length_cons, List.length_nil, Nat.reduceAdd, Nat.reduceSub, Array.replicate_succ, Array.replicate_zero, List.push_toArray, List.append_toArray, List.nil_append, List.cons_append]
  gi_wp2_with (gi_at_call 53; refine (Clk.halves_in (n - 1) _).mono ?_; rintro e w' ⟨rfl, rfl⟩)
  obtain ⟨W0, hW0⟩ : ∃ W0, (w.alloc (.cells #[.int .i64 step] 3)).alloc (.cells #[.int .i64 x] 3) = W0 := ⟨_, rfl⟩
  have hB0 : Below w.heap.size w W0 := by rw [← hW0]; exact ((Below.refl _ w).alloc (Nat.le_refl _) _).alloc (by simp) _
  have hz : W0.heap.size = w.heap.size + 2 := by rw [← hW0]; simp
  have b3 : Boxed W0 w.heap.size 3 (.int .i64 step) := by rw [← hW0]; exact (Boxed.new w _ _).alloc _
  have b5 : Boxed W0 (w.heap.size + 1) 3 (.int .i64 x) := by
    rw [← hW0]
    have := Boxed.new (w.alloc (.cells #[.int .i64 step] 3)) 3 (.int .i64 x)
    rwa [World.size_alloc] at this
  rw [hW0]
  clear hW0
  refine wpIn_rangeFunc_ownF rfl h1 (gf := 68) (lb := #[]) rfl trivial (enters_of Tryd.func68 (by kernel_rfl) rfl)
    (Clk.halves_stops (n - 1) h2 (Below w.heap.size) W0) belowK_t (belowK_b (by omega)) (Below.refl _ _) (fun _ => rfl)
    (fun pre W => (Boxed W w.heap.size 3 (.int .i64 step) ∧ Boxed W (w.heap.size + 1) 3 (.int .i64 ((pre.map (·.1)).foldl (Clk.goB s er d x step) x))) ∧ Below w.heap.size w W)
    (fun _ _ _ => False)
    (OwnFrom.and (Own.from (fun q X Y row hq hg hr => ⟨boxed_own w.heap.size 3 (fun (_ : Unit) => .int .i64 step) () X Y row hq.1 hg hr, boxed_own (w.heap.size + 1) 3 (fun (_ : Unit) => _) () X Y row hq.2 hg hr⟩) _) (ownFrom_below (Nat.le_refl _) (by omega)))
    (fun _ _ _ _ _ hq _ _ => hq)
    ⟨⟨b3, b5⟩, hB0⟩
    (fun v => { tmps := #[.int .i64 step, .pointer (some ⟨bs, 0, none⟩), .pointer (some ⟨bc, 0, none⟩), .pointer (some ⟨w.heap.size, 0, none⟩), .int .i64 0, .pointer (some ⟨w.heap.size + 1, 0, none⟩), .int .i64 v.1, undef, .int .i64 x, .func (.func 68) #[] #[], .int .i64 v.1, undef, undef, undef, undef, undef, undef, undef, undef, undef, undef, undef, undef, undef, undef, undef], defers := [] }) ?assign ?body ?done ?stop
  case assign =>
    intro l v W K hK
    gi_wp2
    exact hK
  case body =>
    rintro l pre ⟨v, v0, v1⟩ W ⟨⟨q3, q5⟩, hB⟩ _
    have hTt := Clk.fold_tm s er d x step HX.out (pre.map (·.1))
    have hfold := Lib.hid (show ((pre ++ [(⟨v, v0, v1⟩ : Clk.Dist)]).map (·.1)).foldl (Clk.goB s er d x step) x = Clk.goB s er d x step ((pre.map (·.1)).foldl (Clk.goB s er d x step) x) v by simp)
    generalize (pre.map (·.1)).foldl (Clk.goB s er d x step) x = T at q5 hTt hfold
    rw [Clk.tmB_iff] at hTt
    obtain ⟨T0, T1⟩ := hTt
    have e3 := q3.cell
    have e5 := q5.cell
    have f5 := q5.frozen
    have es := (hB.cell (p := ⟨bs, 0, none⟩) hbs).trans cs
    have e0 := (hB.cell (p := ⟨bc, 0, none⟩) hbc).trans c0
    have e1 := (hB.cell (p := ⟨bc, 1, none⟩) hbc).trans c1
    have e2 := (hB.cell (p := ⟨bc, 2, none⟩) hbc).trans c2
    clear cs c0 c1 c2
    have hbsW : bs < W.heap.size := Nat.lt_of_lt_of_le hbs hB.size
    have hbcW : bc < W.heap.size := Nat.lt_of_lt_of_le hbc hB.size
    have hgo : ∀ W', Below W.heap.size W W' → Boxed (W'.setCell ⟨w.heap.size + 1, 0, none⟩ (.int .i64 (T + step * v))) w.heap.size 3 (.int .i64 step) ∧ Boxed (W'.setCell ⟨w.heap.size + 1, 0, none⟩ (.int .i64 (T + step * v))) (w.heap.size + 1) 3 (.int .i64 (T + step * v)) := fun W' hb' => by
      have r3 : Boxed W' w.heap.size 3 (.int .i64 step) := (hb'.block _ q3.lt).trans q3
      have r5 : Boxed W' (w.heap.size + 1) 3 (.int .i64 T) := (hb'.block _ q5.lt).trans q5
      exact ⟨r3.other (by omega) _, r5.set _⟩
    have hst : ∀ W', Below W.heap.size W W' → Boxed W' w.heap.size 3 (.int .i64 step) ∧ Boxed W' (w.heap.size + 1) 3 (.int .i64 T) := fun W' hb' =>
      ⟨(hb'.block _ q3.lt).trans q3, (hb'.block _ q5.lt).trans q5⟩
    have hq3 := q3.lt
    have hq5 := q5.lt
    have HGO := Lib.hid hgo
    have HST := Lib.hid hst
    have Q3 := Lib.hid q3
    have Q5 := Lib.hid q5
    clear hgo hst q3 q5
    have hw2 : IntKind.i64.wrap (step * v) = step * v := by rcases HS.out with h | h <;> subst h <;> refine IntWalk.i64_in _ (by omega)
    have hw : IntKind.i64.wrap (T + step * v) = T + step * v := by rcases HS.out with h | h <;> subst h <;> refine IntWalk.i64_in _ (by omega)
    cases hv : Clk.tmB (T + step * v) with
    | false =>
      have HV := Lib.hid hv
      gi_wp2_with (first | (gi_at_call 50; refine (CallsIn.inRound l (callsIn_wide.2 (Clk.valid_any _ _))).mono ?_; rintro e w2 ⟨rfl, rfl⟩))
      refine ⟨KeepsOthers.refl _, Below.refl _ _, ⟨Q3.out, ?_⟩, hB⟩
      rw [hfold.out, Clk.goB, if_neg (by rw [HV.out]; simp)]
      exact Q5.out
    | true =>
      have HV := Lib.hid hv
      cases hsh : Clk.shB s er d (T + step * v) x with
      | false =>
        have HSH := Lib.hid hsh
        gi_wp2_with (first | (gi_at_call 50; refine (CallsIn.inRound l (callsIn_wide.2 (Clk.valid_any _ _))).mono ?_; rintro e w2 ⟨rfl, rfl⟩) | (gi_at_call 51; refine (CallsIn.inRound l (callsIn_wide.2 (Clk.shows_any s er d (T + step * v) x _ HO.out HV.out HX.out))).mono ?_; rintro e w3 ⟨rfl, hb3⟩))
        refine ⟨keepsOthers_of_below hb3, hb3.mono hB.size, ⟨(HST.out _ hb3).1, ?_⟩, hB.trans (hb3.mono hB.size)⟩
        rw [hfold.out, Clk.goB, if_neg (by rw [HSH.out]; simp)]
        exact (HST.out _ hb3).2
      | true =>
        have HSH := Lib.hid hsh
        gi_wp2_with (first | (gi_at_call 50; refine (CallsIn.inRound l (callsIn_wide.2 (Clk.valid_any _ _))).mono ?_; rintro e w2 ⟨rfl, rfl⟩) | (gi_at_call 51; refine (CallsIn.inRound l (callsIn_wide.2 (Clk.shows_any s er d (T + step * v) x _ HO.out HV.out HX.out))).mono ?_; rintro e w3 ⟨rfl, hb3⟩; obtain ⟨hc, hf⟩ := bcell hb3))
        refine ⟨(keepsOthers_of_below hb3).trans (KeepsOthers.setCell _ _ _), (hb3.mono hB.size).setCell (p := ⟨w.heap.size + 1, 0, none⟩) (by show w.heap.size ≤ w.heap.size + 1; omega) _, ⟨(HGO.out _ hb3).1, ?_⟩, (hB.trans (hb3.mono hB.size)).setCell (p := ⟨w.heap.size + 1, 0, none⟩) (by show w.heap.size ≤ w.heap.size + 1; omega) _⟩
        rw [hfold.out, Clk.goB, if_pos (by rw [HV.out, HSH.out]; rfl)]
        exact (HGO.out _ hb3).2
  case done =>
    rintro D ys W hD hys ⟨⟨q3, q5⟩, hB⟩ hK
    rw [hys] at q5
    have e5 : W.cell? ⟨w.heap.size + 1, 0, none⟩ = some (.int .i64 (Clk.lastB s er d x step)) := q5.cell
    clear hys q5
    gi_wp2
    refine ⟨by simp, .inl ⟨_, _, rfl, run_takeDeferred hK, ?_⟩⟩
    exact ⟨_, results_tmp rfl _ _ _, rfl, hB.trans (belowK_b (w := w) (Nat.le_refl _) W D _ _ (by omega) hK rfl rfl)⟩
  case stop =>
    rintro D c pre W _ _ h _
    exact h.elim

end Go.Proofs.YtnbbleajbbgmjaaDoor
/- Contracts of clocks.Times and clocks.Meet: for every argument. -/
namespace Go.Proofs.YtnbbleajbbgmjaaDoor
open Go.RowKit Go.Shelf
set_option linter.unusedVariables false

theorem Clk.last_any (s er d x step : Int) (bs bc : Nat) (w : World) (ho : Clk.okB s er d = true) (hx : Clk.tmB x = true) (hs : step = 1 ∨ step = -1)
    (hbs : bs < w.heap.size) (hbc : bc < w.heap.size) (cs : w.cell? ⟨bs, 0, none⟩ = some (.int .i64 x)) (c0 : w.cell? ⟨bc, 0, none⟩ = some (.int .i64 s)) (c1 : w.cell? ⟨bc, 1, none⟩ = some (.int .i64 er)) (c2 : w.cell? ⟨bc, 2, none⟩ = some (.int .i64 d)) :
    Calls Tryd.prog 52 #[.int .i64 step, .pointer (some ⟨bs, 0, none⟩), .pointer (some ⟨bc, 0, none⟩)] w fun e w' => e = .returned (.int .i64 (Clk.lastB s er d x step)) ∧ Below w.heap.size w w' :=
  callsIn_wide.1 (Clk.last_in 5 (Nat.le_refl _) s er d x step bs bc w ho hx hs hbs hbc cs c0 c1 c2)

theorem Clk.times_any (s er d x : Int) (w : World) :
    Calls Tryd.prog 24 #[.agg #[.int .i64 s, .int .i64 er, .int .i64 d], .int .i64 x] w fun e w' => e = .returned (.tuple #[.agg #[.int .i64 (Clk.timLo s er d x), .int .i64 (Clk.timHi s er d x)], .bool (Clk.timOk s er d x), .int .i64 (Clk.timE s er d x)]) ∧ Below w.heap.size w w' := by
  have hmf : ∀ (fn : Fn) (first cap : Array Value) (w : World), (Instr.makeFunc fn first cap).run Tryd.prog w = .ok (.func fn first cap) w := fun _ _ _ _ => rfl
  cases h : Clk.okB s er d with
  | false =>
    have e0 := Lib.hid (show Clk.timOk s er d x = false by simp [Clk.timOk, h])
    have e1 := Lib.hid (show Clk.timLo s er d x = 0 by simp [Clk.timLo, e0.out])
    have e2 := Lib.hid (show Clk.timHi s er d x = 0 by simp [Clk.timHi, e0.out])
    have e3 := Lib.hid (show Clk.timE s er d x = 490 by simp [Clk.timE, h])
    have H := Lib.hid h
    clear h
    go_enter Tryd.func24, Tryd.ntmps24
    go_wp2_with (go_at_call 38; refine (Clk.check_no _ _ _ _ H.out).mono ?_; rintro e w1 ⟨rfl, hb⟩; obtain ⟨hc, hf⟩ := bcell hb)
    refine bodyPost_ret (v := .tuple #[.agg #[.int .i64 0, .int .i64 0], .bool false, .int .i64 490]) (by simp [results, Tryd.results24, go_sem, hc]) rfl ⟨by rw [e0.out, e1.out, e2.out, e3.out], ?_⟩
    have h0 : Below w.heap.size w w1 := ((((Below.refl _ _).alloc (Nat.le_refl _) _).alloc (by simp) _).alloc (by simp; omega) _).trans (hb.mono (by simp; omega))
    exact (h0.setCell (by simp; omega) _).setCell (by simp; omega) _
  | true =>
    have H := Lib.hid h
    clear h
    cases hx : Clk.tmB x with
    | false =>
      have e0 := Lib.hid (show Clk.timOk s er d x = false by simp [Clk.timOk, hx])
      have e1 := Lib.hid (show Clk.timLo s er d x = 0 by simp [Clk.timLo, e0.out])
      have e2 := Lib.hid (show Clk.timHi s er d x = 0 by simp [Clk.timHi, e0.out])
      have e3 := Lib.hid (show Clk.timE s er d x = 1 by simp [Clk.timE, H.out, hx])
      go_enter Tryd.func24, Tryd.ntmps24
      go_wp2_with (first | (go_at_call 38; refine (Clk.check_ok _ _ _ _ H.out).mono ?_; rintro e w1 ⟨rfl, hb⟩; obtain ⟨hc, hf⟩ := bcell hb) | (go_at_call 50; refine (Clk.valid_any _ _).mono ?_; rintro e w2 ⟨rfl, rfl⟩))
      refine bodyPost_ret (v := .tuple #[.agg #[.int .i64 0, .int .i64 0], .bool false, .int .i64 1]) (by simp [results, Tryd.results24, go_sem, hc]) rfl ⟨by rw [e0.out, e1.out, e2.out, e3.out], ?_⟩
      have h0 : Below w.heap.size w w1 := ((((Below.refl _ _).alloc (Nat.le_refl _) _).alloc (by simp) _).alloc (by simp; omega) _).trans (hb.mono (by simp; omega))
      exact (h0.setCell (by simp; omega) _).setCell (by simp; omega) _
    | true =>
      have e0 := Lib.hid (show Clk.timOk s er d x = true by simp [Clk.timOk, hx, H.out])
      have e1 := Lib.hid (show Clk.timLo s er d x = Clk.lastB s er d x (-1) by simp [Clk.timLo, e0.out])
      have e2 := Lib.hid (show Clk.timHi s er d x = Clk.lastB s er d x 1 by simp [Clk.timHi, e0.out])
      have e3 := Lib.hid (show Clk.timE s er d x = 0 by simp [Clk.timE, H.out, hx])
      have HX := Lib.hid hx
      go_enter Tryd.func24, Tryd.ntmps24
      go_wp2_with (first | (go_at_call 38; refine (Clk.check_ok _ _ _ _ H.out).mono ?_; rintro e w1 ⟨rfl, hb⟩; obtain ⟨hc, hf⟩ := bcell hb) | (go_at_call 50; refine (Clk.valid_any _ _).mono ?_; rintro e w2 ⟨rfl, rfl⟩))
      have hz1 : w.heap.size + 3 ≤ w1.heap.size := by have := hb.size; simp at this; omega
      have k0 : w1.cell? ⟨w.heap.size, 0, none⟩ = some (.int .i64 s) := (hc _ _ (by simp; omega)).trans (by simp [go_sem])
      have k1 : w1.cell? ⟨w.heap.size, 1, none⟩ = some (.int .i64 er) := (hc _ _ (by simp; omega)).trans (by simp [go_sem])
      have k2 : w1.cell? ⟨w.heap.size, 2, none⟩ = some (.int .i64 d) := (hc _ _ (by simp; omega)).trans (by simp [go_sem])
      have kx : w1.cell? ⟨w.heap.size + 1, 0, none⟩ = some (.int .i64 x) := (hc _ _ (by simp)).trans (by simp [go_sem])
      refine (Clk.last_any s er d x (-1) (w.heap.size + 1) w.heap.size w1 H.out HX.out (.inr rfl) (by omega) (by omega) kx k0 k1 k2).mono ?_
      rintro e w3 ⟨rfl, hb3⟩
      have hz3 : w.heap.size + 3 ≤ w3.heap.size := by have := hb3.size; omega
      obtain ⟨hc3, hf3⟩ := bcell hb3
      go_wp2_with fail
      refine (Clk.last_any s er d x 1 (w.heap.size + 1) w.heap.size w3 H.out HX.out (.inl rfl) (by omega) (by omega) ((hc3 _ _ (by omega)).trans kx) ((hc3 _ _ (by omega)).trans k0) ((hc3 _ _ (by omega)).trans k1) ((hc3 _ _ (by omega)).trans k2)).mono ?_
      rintro e w4 ⟨rfl, hb4⟩
      have hz4 : w.heap.size + 3 ≤ w4.heap.size := by have := hb4.size; omega
      obtain ⟨hc4, hf4⟩ := bcell hb4
      have r0 : w4.cell? ⟨w.heap.size + 1 + 1, 0, none⟩ = some (.int .i64 0) := (hc4 _ _ (by omega)).trans ((hc3 _ _ (by omega)).trans ((hc _ _ (by simp)).trans (by simp [go_sem])))
      have r1 : w4.cell? ⟨w.heap.size + 1 + 1, 1, none⟩ = some (.int .i64 0) := (hc4 _ _ (by omega)).trans ((hc3 _ _ (by omega)).trans ((hc _ _ (by simp)).trans (by simp [go_sem])))
      have g0 : w4.frozen? ⟨w.heap.size + 1 + 1, 0, none⟩ = false := (hf4 _ _ (by omega)).trans ((hf3 _ _ (by omega)).trans ((hf _ _ (by simp)).trans (by simp [go_sem])))
      have g1 : w4.frozen? ⟨w.heap.size + 1 + 1, 1, none⟩ = false := (hf4 _ _ (by omega)).trans ((hf3 _ _ (by omega)).trans ((hf _ _ (by simp)).trans (by simp [go_sem])))
      have h0 : Below w.heap.size w w4 := ((((((Below.refl _ _).alloc (Nat.le_refl _) _).alloc (by simp) _).alloc (by simp; omega) _).trans (hb.mono (by simp; omega))).trans (hb3.mono (by omega))).trans (hb4.mono (by omega))
      clear hc hf hc3 hf3 hc4 hf4 hb hb3 hb4 kx k0 k1 k2
      go_wp2_with fail
      refine bodyPost_ret (v := .tuple #[.agg #[.int .i64 (Clk.lastB s er d x (-1)), .int .i64 (Clk.lastB s er d x 1)], .bool true, .int .i64 0]) (by simp [results, Tryd.results24, go_sem, r0, r1]) rfl ⟨by rw [e0.out, e1.out, e2.out, e3.out], ?_⟩
      exact (h0.setCell (by simp; omega) _).setCell (by simp; omega) _
end Go.Proofs.YtnbbleajbbgmjaaDoor
/- Contract of clocks.Meet: for all ranges. -/
namespace Go.Proofs.YtnbbleajbbgmjaaDoor
open Go.RowKit Go.Shelf
set_option linter.unusedVariables false

theorem Clk.meet_yes (a b c d lo hi : Int) (hlo : (if a < c then c else a) = lo) (hhi : (if d < b then d else b) = hi) (h : lo ≤ hi) :
    Clk.meetOk a b c d = true ∧ Clk.meetLo a b c d = lo ∧ Clk.meetHi a b c d = hi := by
  have hk : Clk.meetOk a b c d = true := by simp [Clk.meetOk, hlo, hhi, h]
  exact ⟨hk, by simp [Clk.meetLo, hk, hlo], by simp [Clk.meetHi, hk, hhi]⟩
theorem Clk.meet_no (a b c d lo hi : Int) (hlo : (if a < c then c else a) = lo) (hhi : (if d < b then d else b) = hi) (h : hi < lo) :
    Clk.meetOk a b c d = false ∧ Clk.meetLo a b c d = 0 ∧ Clk.meetHi a b c d = 0 := by
  have hk : Clk.meetOk a b c d = false := by simp [Clk.meetOk, hlo, hhi, h]
  exact ⟨hk, by simp [Clk.meetLo, hk], by simp [Clk.meetHi, hk]⟩

/-- the contract's post -/
def Clk.MeetPost (a b c d : Int) (w : World) (e : Ending) (w' : World) : Prop := e = .returned (.tuple #[.agg #[.int .i64 (Clk.meetLo a b c d), .int .i64 (Clk.meetHi a b c d)], .bool (Clk.meetOk a b c d)]) ∧ Below w.heap.size w w'
theorem Clk.MeetPost.yes {a b c d lo hi : Int} {w w' : World} (h : Clk.meetOk a b c d = true ∧ Clk.meetLo a b c d = lo ∧ Clk.meetHi a b c d = hi) (hb : Below w.heap.size w w') :
    Clk.MeetPost a b c d w (.returned (.tuple #[.agg #[.int .i64 lo, .int .i64 hi], .bool true])) w' := ⟨by rw [h.1, h.2.1, h.2.2], hb⟩
theorem Clk.MeetPost.no {a b c d : Int} {w w' : World} (h : Clk.meetOk a b c d = false ∧ Clk.meetLo a b c d = 0 ∧ Clk.meetHi a b c d = 0) (hb : Below w.heap.size w w') :
    Clk.MeetPost a b c d w (.returned (.tuple #[.agg #[.int .i64 0, .int .i64 0], .bool false])) w' := ⟨by rw [h.1, h.2.1, h.2.2], hb⟩

set_option maxHeartbeats 4000000 in
theorem Clk.meet_any' (a b c d : Int) (w : World) :
    Calls Tryd.prog 25 #[.agg #[.int .i64 a, .int .i64 b], .agg #[.int .i64 c, .int .i64 d]] w (Clk.MeetPost a b c d w) := by
  by_cases h1 : a < c
  · have n1 : ¬ a = c := by omega
    by_cases h2 : d < b
    · by_cases h3 : c ≤ d
      · have H := Lib.hid (Clk.meet_yes a b c d c d (if_pos h1) (if_pos h2) h3)
        go_enter Tryd.func25, Tryd.ntmps25
        go_wp2
        exact bodyPost_ret (v := .tuple #[.agg #[.int .i64 c, .int .i64 d], .bool true]) (by simp [results, Tryd.results25, go_sem]) rfl (.yes H.out (below3 _ _ _ _))
      · have H := Lib.hid (Clk.meet_no a b c d c d (if_pos h1) (if_pos h2) (by omega))
        go_enter Tryd.func25, Tryd.ntmps25
        go_wp2
        exact bodyPost_ret (v := .tuple #[.agg #[.int .i64 0, .int .i64 0], .bool false]) (by simp [results, Tryd.results25, go_sem]) rfl (.no H.out (below3 _ _ _ _))
    · by_cases h3 : c ≤ b
      · have H := Lib.hid (Clk.meet_yes a b c d c b (if_pos h1) (if_neg h2) h3)
        go_enter Tryd.func25, Tryd.ntmps25
        go_wp2
        exact bodyPost_ret (v := .tuple #[.agg #[.int .i64 c, .int .i64 b], .bool true]) (by simp [results, Tryd.results25, go_sem]) rfl (.yes H.out (below3 _ _ _ _))
      · have H := Lib.hid (Clk.meet_no a b c d c b (if_pos h1) (if_neg h2) (by omega))
        go_enter Tryd.func25, Tryd.ntmps25
        go_wp2
        exact bodyPost_ret (v := .tuple #[.agg #[.int .i64 0, .int .i64 0], .bool false]) (by simp [results, Tryd.results25, go_sem]) rfl (.no H.out (below3 _ _ _ _))
  · by_cases h2 : d < b
    · have n2 : ¬ b = d := by omega
      by_cases h3 : a ≤ d
      · have H := Lib.hid (Clk.meet_yes a b c d a d (if_neg h1) (if_pos h2) h3)
        go_enter Tryd.func25, Tryd.ntmps25
        go_wp2
        all_goals exact bodyPost_ret (v := .tuple #[.agg #[.int .i64 a, .int .i64 d], .bool true]) (by simp [results, Tryd.results25, go_sem, *]) rfl (.yes H.out (below3 _ _ _ _))
      · have H := Lib.hid (Clk.meet_no a b c d a d (if_neg h1) (if_pos h2) (by omega))
        go_enter Tryd.func25, Tryd.ntmps25
        go_wp2
        all_goals exact bodyPost_ret (v := .tuple #[.agg #[.int .i64 0, .int .i64 0], .bool false]) (by simp [results, Tryd.results25, go_sem]) rfl (.no H.out (below3 _ _ _ _))
    · by_cases e1 : a = c
      · subst e1
        by_cases e2 : b = d
        · subst e2
          by_cases h3 : a ≤ b
          · have H := Lib.hid (Clk.meet_yes a b a b a b (if_neg h1) (if_neg h2) h3)
            go_enter Tryd.func25, Tryd.ntmps25
            go_wp2
            exact bodyPost_ret (v := .tuple #[.agg #[.int .i64 a, .int .i64 b], .bool true]) (by simp [results, Tryd.results25, go_sem]) rfl (.yes H.out (below3 _ _ _ _))
          · have H := Lib.hid (Clk.meet_no a b a b a b (if_neg h1) (if_neg h2) (by omega))
            go_enter Tryd.func25, Tryd.ntmps25
            go_wp2
            exact bodyPost_ret (v := .tuple #[.agg #[.int .i64 0, .int .i64 0], .bool false]) (by simp [results, Tryd.results25, go_sem]) rfl (.no H.out (below3 _ _ _ _))
        · have hh : True := trivial
          by_cases h3 : a ≤ b
          · have H := Lib.hid (Clk.meet_yes a b a d a b (if_neg h1) (if_neg h2) h3)
            go_enter Tryd.func25, Tryd.ntmps25
            go_wp2
            exact bodyPost_ret (v := .tuple #[.agg #[.int .i64 a, .int .i64 b], .bool true]) (by simp [results, Tryd.results25, go_sem]) rfl (.yes H.out (below3 _ _ _ _))
          · have H := Lib.hid (Clk.meet_no a b a d a b (if_neg h1) (if_neg h2) (by omega))
            go_enter Tryd.func25, Tryd.ntmps25
            go_wp2
            exact bodyPost_ret (v := .tuple #[.agg #[.int .i64 0, .int .i64 0], .bool false]) (by simp [results, Tryd.results25, go_sem]) rfl (.no H.out (below3 _ _ _ _))
      · have hh : True := trivial
        by_cases h3 : a ≤ b
        · have H := Lib.hid (Clk.meet_yes a b c d a b (if_neg h1) (if_neg h2) h3)
          go_enter Tryd.func25, Tryd.ntmps25
          go_wp2
          exact bodyPost_ret (v := .tuple #[.agg #[.int .i64 a, .int .i64 b], .bool true]) (by simp [results, Tryd.results25, go_sem]) rfl (.yes H.out (below3 _ _ _ _))
        · have H := Lib.hid (Clk.meet_no a b c d a b (if_neg h1) (if_neg h2) (by omega))
          go_enter Tryd.func25, Tryd.ntmps25
          go_wp2
          exact bodyPost_ret (v := .tuple #[.agg #[.int .i64 0, .int .i64 0], .bool false]) (by simp [results, Tryd.results25, go_sem]) rfl (.no H.out (below3 _ _ _ _))
theorem Clk.meet_any (a b c d : Int) (w : World) :
    Calls Tryd.prog 25 #[.agg #[.int .i64 a, .int .i64 b], .agg #[.int .i64 c, .int .i64 d]] w fun e w' => e = .returned (.tuple #[.agg #[.int .i64 (Clk.meetLo a b c d), .int .i64 (Clk.meetHi a b c d)], .bool (Clk.meetOk a b c d)]) ∧ Below w.heap.size w w' := Clk.meet_any' a b c d w
end Go.Proofs.YtnbbleajbbgmjaaDoor
