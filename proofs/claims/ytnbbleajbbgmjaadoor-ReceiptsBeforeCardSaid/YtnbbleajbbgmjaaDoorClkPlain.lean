/- Plain mathematics of clocks that drift: a clock shows a stamp on one interval of times, and halving finds its ends. No condition; no program in sight. -/
namespace Go.Proofs.YtnbbleajbbgmjaaDoor.Clk

/-- the distance between two numbers -/
def apart (a b : Int) : Int := if a < b then b - a else a - b
/-- is a clock valid? -/
def okB (s er d : Int) : Bool := decide (0 ≤ s) && decide (s ≤ 1048576) && decide (0 ≤ er) && decide (er ≤ 65536) && decide (0 ≤ d) && decide (d ≤ 999)
/-- is a number a true time? -/
def tmB (t : Int) : Bool := decide (0 ≤ t) && decide (t ≤ 1048576)
/-- can the clock show the stamp x at the time t? -/
def shB (s er d t x : Int) : Bool := decide (apart x t ≤ er + apart t s * d / 1000)

theorem okB_iff (s er d : Int) : okB s er d = true ↔ 0 ≤ s ∧ s ≤ 1048576 ∧ 0 ≤ er ∧ er ≤ 65536 ∧ 0 ≤ d ∧ d ≤ 999 := by
  simp [okB, and_assoc]
theorem tmB_iff (t : Int) : tmB t = true ↔ 0 ≤ t ∧ t ≤ 1048576 := by simp [tmB]
theorem shB_iff (s er d t x : Int) : shB s er d t x = true ↔ apart x t ≤ er + apart t s * d / 1000 := by simp [shB]
theorem apart_nn (a b : Int) : 0 ≤ apart a b := by unfold apart; split <;> omega
theorem apart_le (a b : Int) (ha : 0 ≤ a) (ha' : a ≤ 1048576) (hb : 0 ≤ b) (hb' : b ≤ 1048576) : apart a b ≤ 1048576 := by unfold apart; split <;> omega

theorem prod_bd (p d : Int) (hp : 0 ≤ p) (hp' : p ≤ 1048576) (hd : 0 ≤ d) (hd' : d ≤ 999) : 0 ≤ p * d ∧ p * d ≤ 1047527424 := by
  refine ⟨Int.mul_nonneg hp hd, ?_⟩
  have := Int.mul_le_mul hp' hd' hd (by omega)
  omega

/-- one step nearer costs at most one -/
theorem div_step (p q d : Int) (hq : q ≤ p + 1) (hd : 0 ≤ d) (hd' : d ≤ 999) : q * d / 1000 ≤ p * d / 1000 + 1 := by
  have h : q * d ≤ (p + 1) * d := Int.mul_le_mul_of_nonneg_right hq hd
  have h2 : (p + 1) * d = p * d + d := by rw [Int.add_mul, Int.one_mul]
  omega

/-- the clock shows the stamp at the time that is equal to it -/
theorem sh_self (s er d x : Int) (he : 0 ≤ er) (hd : 0 ≤ d) : shB s er d x x = true := by
  rw [shB_iff]
  have h1 : apart x x = 0 := by unfold apart; split <;> omega
  have h2 := apart_nn x s
  have h3 : 0 ≤ apart x s * d := Int.mul_nonneg h2 hd
  omega

/-- nearer to the stamp it shows it as well, above -/
theorem sh_up (s er d t x : Int) (hd : 0 ≤ d) (hd' : d ≤ 999) (h : shB s er d (t + 1) x = true) (hx : x ≤ t) : shB s er d t x = true := by
  rw [shB_iff] at h ⊢
  have h1 : apart x (t + 1) = apart x t + 1 := by unfold apart; split <;> split <;> omega
  have h2 : apart (t + 1) s ≤ apart t s + 1 := by unfold apart; split <;> split <;> omega
  have h3 := div_step (apart t s) (apart (t + 1) s) d h2 hd hd'
  omega
/-- nearer to the stamp it shows it as well, below -/
theorem sh_down (s er d t x : Int) (hd : 0 ≤ d) (hd' : d ≤ 999) (h : shB s er d (t - 1) x = true) (hx : t ≤ x) : shB s er d t x = true := by
  rw [shB_iff] at h ⊢
  have h1 : apart x (t - 1) = apart x t + 1 := by unfold apart; split <;> split <;> omega
  have h2 : apart (t - 1) s ≤ apart t s + 1 := by unfold apart; split <;> split <;> omega
  have h3 := div_step (apart t s) (apart (t - 1) s) d h2 hd hd'
  omega

theorem sh_up_to (s er d x : Int) (hd : 0 ≤ d) (hd' : d ≤ 999) (k : Nat) : ∀ t : Int, x ≤ t → shB s er d (t + k) x = true → shB s er d t x = true := by
  induction k with
  | zero => intro t _ h; simpa using h
  | succ k ih =>
    intro t hx h
    refine ih t hx (sh_up s er d (t + k) x hd hd' ?_ (by omega))
    rw [show t + (k : Int) + 1 = t + ((k + 1 : Nat) : Int) from by omega]
    exact h
theorem sh_down_to (s er d x : Int) (hd : 0 ≤ d) (hd' : d ≤ 999) (k : Nat) : ∀ t : Int, t ≤ x → shB s er d (t - k) x = true → shB s er d t x = true := by
  induction k with
  | zero => intro t _ h; simpa using h
  | succ k ih =>
    intro t hx h
    refine ih t hx (sh_down s er d (t - k) x hd hd' ?_ (by omega))
    rw [show t - (k : Int) - 1 = t - ((k + 1 : Nat) : Int) from by omega]
    exact h
theorem sh_above (s er d x t u : Int) (hd : 0 ≤ d) (hd' : d ≤ 999) (hx : x ≤ t) (htu : t ≤ u) (h : shB s er d u x = true) : shB s er d t x = true := by
  refine sh_up_to s er d x hd hd' (u - t).toNat t hx ?_
  rw [show t + ((u - t).toNat : Int) = u from by omega]
  exact h
theorem sh_below (s er d x t u : Int) (hd : 0 ≤ d) (hd' : d ≤ 999) (hx : t ≤ x) (htu : u ≤ t) (h : shB s er d u x = true) : shB s er d t x = true := by
  refine sh_down_to s er d x hd hd' (t - u).toNat t hx ?_
  rw [show t - ((t - u).toNat : Int) = u from by omega]
  exact h

/-- lo to hi are the times at which the clock can show the stamp -/
def IsTimes (s er d x lo hi : Int) : Prop := 0 ≤ lo ∧ lo ≤ x ∧ x ≤ hi ∧ hi ≤ 1048576 ∧ ∀ t, 0 ≤ t → t ≤ 1048576 → (shB s er d t x = true ↔ lo ≤ t ∧ t ≤ hi)

theorem IsTimes.unique {s er d x lo hi lo' hi' : Int} (h : IsTimes s er d x lo hi) (k : IsTimes s er d x lo' hi') : lo = lo' ∧ hi = hi' := by
  obtain ⟨a1, a2, a3, a4, a5⟩ := h
  obtain ⟨b1, b2, b3, b4, b5⟩ := k
  have p1 := (b5 lo (by omega) (by omega)).1 ((a5 lo (by omega) (by omega)).2 (by omega))
  have p2 := (b5 hi (by omega) (by omega)).1 ((a5 hi (by omega) (by omega)).2 (by omega))
  have p3 := (a5 lo' (by omega) (by omega)).1 ((b5 lo' (by omega) (by omega)).2 (by omega))
  have p4 := (a5 hi' (by omega) (by omega)).1 ((b5 hi' (by omega) (by omega)).2 (by omega))
  omega

/-- the two ends, each a last time that is shown -/
theorem isTimes_of (s er d x lo hi : Int) (hd : 0 ≤ d) (hd' : d ≤ 999) (h0 : 0 ≤ lo) (hl : lo ≤ x) (hx : x ≤ hi) (hm : hi ≤ 1048576)
    (hlo : shB s er d lo x = true) (hhi : shB s er d hi x = true) (nlo : lo = 0 ∨ shB s er d (lo - 1) x = false) (nhi : hi = 1048576 ∨ shB s er d (hi + 1) x = false) :
    IsTimes s er d x lo hi := by
  refine ⟨h0, hl, hx, hm, fun t t0 tm => ⟨fun ht => ⟨?_, ?_⟩, fun ⟨h1, h2⟩ => ?_⟩⟩
  · rcases Int.lt_or_le t lo with hlt | hge
    · rcases nlo with n | n
      · omega
      · have := sh_below s er d x (lo - 1) t hd hd' (by omega) (by omega) ht
        rw [this] at n; cases n
    · exact hge
  · rcases Int.lt_or_le hi t with hlt | hge
    · rcases nhi with n | n
      · omega
      · have := sh_above s er d x (hi + 1) t hd hd' (by omega) (by omega) ht
        rw [this] at n; cases n
    · exact hge
  · rcases Int.le_total x t with hxt | htx
    · exact sh_above s er d x t hi hd hd' hxt h2 hhi
    · exact sh_below s er d x t lo hd hd' htx h1 hlo

/-- one step of the search: go the distance k if it is allowed -/
def goB (s er d x step t k : Int) : Int := if (tmB (t + step * k) && shB s er d (t + step * k) x) = true then t + step * k else t
/-- the distances of halves: 2^(n-1) down to 1 -/
def halvesN : Nat → List Int
  | 0 => []
  | n + 1 => (2 ^ n : Int) :: halvesN n
/-- what 'last' finds -/
def lastB (s er d x step : Int) : Int := (halvesN 21).foldl (goB s er d x step) x

theorem go_up (s er d x : Int) (hd : 0 ≤ d) (hd' : d ≤ 999) (n : Nat) : ∀ t : Int, x ≤ t → tmB t = true → shB s er d t x = true →
    (∀ u : Int, tmB u = true → shB s er d u x = true → u < t + 2 ^ n) →
    ∀ r, (halvesN n).foldl (goB s er d x 1) t = r →
    x ≤ r ∧ tmB r = true ∧ shB s er d r x = true ∧ ∀ u : Int, tmB u = true → shB s er d u x = true → u ≤ r := by
  induction n with
  | zero =>
    rintro t h1 h2 h3 h4 r rfl
    refine ⟨h1, h2, h3, fun u hu hs => ?_⟩
    have := h4 u hu hs
    simp at this
    show u ≤ t
    omega
  | succ n ih =>
    intro t h1 h2 h3 h4 r hr
    have hr' : (halvesN n).foldl (goB s er d x 1) (goB s er d x 1 t (2 ^ n)) = r := hr
    clear hr
    revert hr'
    have hp : (0 : Int) < 2 ^ n := Int.pow_pos (by omega)
    have h2n : (2 : Int) ^ (n + 1) = 2 ^ n + 2 ^ n := by rw [Int.pow_succ]; omega
    by_cases h : (tmB (t + 1 * 2 ^ n) && shB s er d (t + 1 * 2 ^ n) x) = true
    · rw [show goB s er d x 1 t (2 ^ n) = t + 1 * 2 ^ n from if_pos h]
      rw [Bool.and_eq_true] at h
      rw [Int.one_mul] at h ⊢
      exact ih _ (by omega) h.1 h.2 (fun u hu hs => by have := h4 u hu hs; omega) r
    · rw [show goB s er d x 1 t (2 ^ n) = t from if_neg h]
      refine ih _ h1 h2 h3 (fun u hu hs => ?_) r
      rcases Int.lt_or_le u (t + 2 ^ n) with hlt | hge
      · exact hlt
      · exfalso
        apply h
        rw [Int.one_mul, Bool.and_eq_true]
        rw [tmB_iff] at h2 hu
        exact ⟨by rw [tmB_iff]; omega, sh_above s er d x _ u hd hd' (by omega) hge hs⟩
theorem go_down (s er d x : Int) (hd : 0 ≤ d) (hd' : d ≤ 999) (n : Nat) : ∀ t : Int, t ≤ x → tmB t = true → shB s er d t x = true →
    (∀ u : Int, tmB u = true → shB s er d u x = true → t - 2 ^ n < u) →
    ∀ r, (halvesN n).foldl (goB s er d x (-1)) t = r →
    r ≤ x ∧ tmB r = true ∧ shB s er d r x = true ∧ ∀ u : Int, tmB u = true → shB s er d u x = true → r ≤ u := by
  induction n with
  | zero =>
    rintro t h1 h2 h3 h4 r rfl
    refine ⟨h1, h2, h3, fun u hu hs => ?_⟩
    have := h4 u hu hs
    simp at this
    show t ≤ u
    omega
  | succ n ih =>
    intro t h1 h2 h3 h4 r hr
    have hr' : (halvesN n).foldl (goB s er d x (-1)) (goB s er d x (-1) t (2 ^ n)) = r := hr
    clear hr
    revert hr'
    have hp : (0 : Int) < 2 ^ n := Int.pow_pos (by omega)
    have h2n : (2 : Int) ^ (n + 1) = 2 ^ n + 2 ^ n := by rw [Int.pow_succ]; omega
    by_cases h : (tmB (t + (-1) * 2 ^ n) && shB s er d (t + (-1) * 2 ^ n) x) = true
    · rw [show goB s er d x (-1) t (2 ^ n) = t + (-1) * 2 ^ n from if_pos h]
      rw [Bool.and_eq_true] at h
      rw [Int.neg_one_mul] at h ⊢
      exact ih _ (by omega) h.1 h.2 (fun u hu hs => by have := h4 u hu hs; omega) r
    · rw [show goB s er d x (-1) t (2 ^ n) = t from if_neg h]
      refine ih _ h1 h2 h3 (fun u hu hs => ?_) r
      rcases Int.lt_or_le (t - 2 ^ n) u with hlt | hge
      · exact hlt
      · exfalso
        apply h
        rw [Int.neg_one_mul, Bool.and_eq_true]
        rw [tmB_iff] at h2 hu
        exact ⟨by rw [tmB_iff]; omega, sh_below s er d x _ u hd hd' (by omega) (by omega) hs⟩

theorem last_times (s er d x : Int) (ho : okB s er d = true) (hx : tmB x = true) : IsTimes s er d x (lastB s er d x (-1)) (lastB s er d x 1) := by
  rw [okB_iff] at ho
  obtain ⟨_, _, he, _, hd, hd'⟩ := ho
  have hs := sh_self s er d x he hd
  have hx' := (tmB_iff x).1 hx
  have hp : (2 : Int) ^ 21 = 2097152 := by decide
  have b1 : ∀ u : Int, tmB u = true → shB s er d u x = true → u < x + 2 ^ 21 := fun u hu _ => by
    rw [tmB_iff] at hu
    omega
  have b2 : ∀ u : Int, tmB u = true → shB s er d u x = true → x - 2 ^ 21 < u := fun u hu _ => by
    rw [tmB_iff] at hu
    omega
  obtain ⟨u1, u2, u3, u4⟩ := go_up s er d x hd hd' 21 x (Int.le_refl _) hx hs b1 _ rfl
  obtain ⟨v1, v2, v3, v4⟩ := go_down s er d x hd hd' 21 x (Int.le_refl _) hx hs b2 _ rfl
  change x ≤ lastB s er d x 1 at u1
  change tmB (lastB s er d x 1) = true at u2
  change shB s er d (lastB s er d x 1) x = true at u3
  change ∀ u : Int, tmB u = true → shB s er d u x = true → u ≤ lastB s er d x 1 at u4
  change lastB s er d x (-1) ≤ x at v1
  change tmB (lastB s er d x (-1)) = true at v2
  change shB s er d (lastB s er d x (-1)) x = true at v3
  change ∀ u : Int, tmB u = true → shB s er d u x = true → lastB s er d x (-1) ≤ u at v4
  rw [tmB_iff] at u2 v2
  refine isTimes_of s er d x _ _ hd hd' v2.1 v1 u1 u2.2 v3 u3 ?_ ?_
  · rcases Int.lt_or_le 0 (lastB s er d x (-1)) with hp | hn
    · refine .inr ?_
      rcases Bool.eq_false_or_eq_true (shB s er d (lastB s er d x (-1) - 1) x) with h | h
      · have := v4 _ (by rw [tmB_iff]; omega) h
        omega
      · exact h
    · exact .inl (by omega)
  · rcases Int.lt_or_le (lastB s er d x 1) 1048576 with hp | hn
    · refine .inr ?_
      rcases Bool.eq_false_or_eq_true (shB s er d (lastB s er d x 1 + 1) x) with h | h
      · have := u4 _ (by rw [tmB_iff]; omega) h
        omega
      · exact h
    · exact .inl (by omega)

/-- what Check returns -/
def chkE (s er d : Int) : Int := if okB s er d = true then 0 else 490
/-- what May returns -/
def mayB (s er d t x : Int) : Bool := okB s er d && (tmB t && tmB x) && shB s er d t x
def mayE (s er d t x : Int) : Int := if okB s er d = true then (if (tmB t && tmB x) = true then 0 else 1) else 490
/-- what Times returns -/
def timOk (s er d x : Int) : Bool := okB s er d && tmB x
def timLo (s er d x : Int) : Int := if timOk s er d x = true then lastB s er d x (-1) else 0
def timHi (s er d x : Int) : Int := if timOk s er d x = true then lastB s er d x 1 else 0
def timE (s er d x : Int) : Int := if okB s er d = true then (if tmB x = true then 0 else 1) else 490
/-- what Meet returns -/
def meetOk (a b c d : Int) : Bool := decide ((if a < c then c else a) ≤ (if d < b then d else b))
def meetLo (a b c d : Int) : Int := if meetOk a b c d = true then (if a < c then c else a) else 0
def meetHi (a b c d : Int) : Int := if meetOk a b c d = true then (if d < b then d else b) else 0

end Go.Proofs.YtnbbleajbbgmjaaDoor.Clk
