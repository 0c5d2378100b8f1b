
/- Plain mathematics of the field with 256 elements. No condition; no program in sight. -/
namespace Go.Proofs.YtideglpjgplpnaaDoor.Fld

/-- the product with 2 -/
def tw (a : UInt8) : UInt8 := if 128 ≤ a.toNat then (a <<< 1) ^^^ 27 else a <<< 1
/-- the product with the power n of 2 -/
def pw (a : UInt8) : Nat → UInt8
  | 0 => a
  | n + 1 => tw (pw a n)
/-- the sum of the products with the powers of 2 that b has below n -/
def acc (a b : UInt8) : Nat → UInt8
  | 0 => 0
  | n + 1 => acc a b n ^^^ (if b.toNat.testBit n = true then pw a n else 0)
def mul (a b : UInt8) : UInt8 := acc a b 8

theorem tw_hi (a : UInt8) (h : 128 ≤ a.toNat) : (tw a).toNat = (a.toNat * 2 % 256) ^^^ 27 := by
  rw [tw, if_pos h, UInt8.toNat_xor, UInt8.toNat_shiftLeft, Nat.shiftLeft_eq]
  rfl
theorem tw_lo (a : UInt8) (h : ¬ 128 ≤ a.toNat) : (tw a).toNat = a.toNat * 2 := by
  rw [tw, if_neg h, UInt8.toNat_shiftLeft, Nat.shiftLeft_eq]
  show a.toNat * 2 % 256 = a.toNat * 2
  omega

/-! ### sums -/
theorem xor_mid (a b c d : UInt8) : (a ^^^ b) ^^^ (c ^^^ d) = (a ^^^ c) ^^^ (b ^^^ d) := by
  rw [UInt8.xor_assoc, UInt8.xor_assoc]
  congr 1
  rw [← UInt8.xor_assoc, ← UInt8.xor_assoc, UInt8.xor_comm b c]
theorem xor_cancel (a b : UInt8) (h : a ^^^ b = 0) : a = b := by
  have h1 : (a ^^^ b) ^^^ b = b := by rw [h, UInt8.zero_xor]
  rw [UInt8.xor_assoc, UInt8.xor_self, UInt8.xor_zero] at h1
  exact h1

/-! ### a linear map that goes with tw is the product with its value at 1 -/
theorem tw_xor (a b : UInt8) : tw (a ^^^ b) = tw a ^^^ tw b := by
  have key : ∀ x : UInt8, tw x = (x <<< 1) ^^^ (if x.toNat.testBit 7 = true then 27 else 0) := fun x => by
    have hx : x.toNat < 256 := x.toNat_lt
    unfold tw
    rw [Nat.testBit_eq_decide_div_mod_eq]
    by_cases h : 128 ≤ x.toNat
    · rw [if_pos h, if_pos (by rw [decide_eq_true_eq]; omega)]
    · rw [if_neg h, if_neg (by rw [decide_eq_true_eq]; omega), UInt8.xor_zero]
  rw [key, key, key, UInt8.toNat_xor, Nat.testBit_xor, xor_mid]
  congr 1
  · apply UInt8.toNat_inj.1
    rw [UInt8.toNat_xor, UInt8.toNat_shiftLeft, UInt8.toNat_shiftLeft, UInt8.toNat_shiftLeft, UInt8.toNat_xor]
    show ((a.toNat ^^^ b.toNat) <<< 1) % 2 ^ 8 = (a.toNat <<< 1 % 2 ^ 8) ^^^ (b.toNat <<< 1 % 2 ^ 8)
    rw [← Nat.xor_mod_two_pow, Nat.shiftLeft_xor_distrib]
  · cases a.toNat.testBit 7 <;> cases b.toNat.testBit 7 <;> decide
theorem tw_zero : tw 0 = 0 := by decide
theorem pw_xor (a b : UInt8) (n : Nat) : pw (a ^^^ b) n = pw a n ^^^ pw b n := by
  induction n with
  | zero => rfl
  | succ n ih => rw [pw, ih, tw_xor]; rfl
theorem pw_zero (n : Nat) : pw 0 n = 0 := by
  induction n with
  | zero => rfl
  | succ n ih => rw [pw, ih, tw_zero]
theorem acc_xor_l (a b c : UInt8) (n : Nat) : acc (a ^^^ b) c n = acc a c n ^^^ acc b c n := by
  induction n with
  | zero => show (0 : UInt8) = 0 ^^^ 0; decide
  | succ n ih =>
    rw [acc, acc, acc, ih, xor_mid, pw_xor]
    congr 1
    split
    · rfl
    · decide
theorem acc_xor_r (a b c : UInt8) (n : Nat) : acc a (b ^^^ c) n = acc a b n ^^^ acc a c n := by
  induction n with
  | zero => show (0 : UInt8) = 0 ^^^ 0; decide
  | succ n ih =>
    rw [acc, acc, acc, ih, xor_mid, UInt8.toNat_xor, Nat.testBit_xor]
    congr 1
    cases b.toNat.testBit n <;> cases c.toNat.testBit n <;> simp
theorem mul_xor_l (a b c : UInt8) : mul (a ^^^ b) c = mul a c ^^^ mul b c := acc_xor_l a b c 8
theorem mul_xor_r (a b c : UInt8) : mul a (b ^^^ c) = mul a b ^^^ mul a c := acc_xor_r a b c 8
theorem mul_zero_l (b : UInt8) : mul 0 b = 0 := by
  have : ∀ n, acc 0 b n = 0 := fun n => by
    induction n with
    | zero => rfl
    | succ n ih => rw [acc, ih, pw_zero]; split <;> decide
  exact this 8
theorem mul_zero_r (a : UInt8) : mul a 0 = 0 := by
  have : ∀ n, acc a 0 n = 0 := fun n => by
    induction n with
    | zero => rfl
    | succ n ih => rw [acc, ih, show (0 : UInt8).toNat = 0 from rfl, Nat.zero_testBit, if_neg (by decide)]; decide
  exact this 8

/-- linear, and goes with tw -/
structure Lin (X : UInt8 → UInt8) : Prop where
  add : ∀ a b, X (a ^^^ b) = X a ^^^ X b
  two : ∀ a, X (tw a) = tw (X a)
theorem Lin.zero {X : UInt8 → UInt8} (h : Lin X) : X 0 = 0 := by
  have h1 := h.add 0 0
  rw [show (0 : UInt8) ^^^ 0 = 0 from rfl, UInt8.xor_self] at h1
  exact h1
theorem Lin.pw {X : UInt8 → UInt8} (h : Lin X) (a : UInt8) (n : Nat) : X (pw a n) = pw (X a) n := by
  induction n with
  | zero => rfl
  | succ n ih => rw [Fld.pw, h.two, ih]; rfl
theorem Lin.acc {X : UInt8 → UInt8} (h : Lin X) (a b : UInt8) (n : Nat) : X (acc a b n) = acc (X a) b n := by
  induction n with
  | zero => exact h.zero
  | succ n ih =>
    rw [Fld.acc, h.add, ih, Fld.acc]
    congr 1
    split
    · exact h.pw a n
    · exact h.zero
theorem lin_id : Lin (fun a => a) := ⟨fun _ _ => rfl, fun _ => rfl⟩
theorem lin_tw : Lin tw := ⟨tw_xor, fun _ => rfl⟩
theorem lin_mul (b : UInt8) : Lin (fun a => mul a b) := ⟨fun a c => mul_xor_l a c b, fun a => (lin_tw.acc a b 8).symm⟩
/-- 1 is the one -/
theorem one_mul (b : UInt8) : mul 1 b = b := by
  have H : ∀ n : Nat, n < 256 → mul 1 (UInt8.ofNat n) = UInt8.ofNat n := by decide +kernel
  have := H b.toNat b.toNat_lt
  rwa [UInt8.ofNat_toNat] at this
theorem Lin.eq {X : UInt8 → UInt8} (h : Lin X) (a : UInt8) : X a = mul (X 1) a := by
  have h1 := h.acc 1 a 8
  rw [show Fld.acc 1 a 8 = a from one_mul a] at h1
  exact h1
theorem mul_comm (a b : UInt8) : mul a b = mul b a := by
  have h := (lin_mul b).eq a
  rw [one_mul] at h
  exact h
theorem mul_one (a : UInt8) : mul a 1 = a := by rw [mul_comm, one_mul]
theorem mul_assoc (a b c : UInt8) : mul (mul a b) c = mul a (mul b c) := by
  have hX : Lin (fun x => mul (mul x b) c) := ⟨fun x y => by rw [mul_xor_l, mul_xor_l], fun x => by
    show mul (mul (tw x) b) c = tw (mul (mul x b) c)
    rw [(lin_mul b).two x, (lin_mul c).two]⟩
  have h := hX.eq a
  rw [one_mul] at h
  rw [h, mul_comm]

/-! ### inverses -/
/-- the two variables of Inv after n rounds -/
def invS (a : UInt8) : Nat → UInt8 × UInt8
  | 0 => (a, 1)
  | n + 1 => (mul (invS a n).1 (invS a n).1, mul (invS a n).2 (mul (invS a n).1 (invS a n).1))
def inv (a : UInt8) : UInt8 := if a = 0 then 0 else (invS a 7).2
def invE (a : UInt8) : Int := if a = 0 then 1 else 0
theorem mul_inv (a : UInt8) (h : a ≠ 0) : mul a (inv a) = 1 := by
  have H : ∀ n : Nat, n < 256 → UInt8.ofNat n ≠ 0 → mul (UInt8.ofNat n) (inv (UInt8.ofNat n)) = 1 := by decide +kernel
  have := H a.toNat a.toNat_lt
  rw [UInt8.ofNat_toNat] at this
  exact this h
theorem inv_ne (a : UInt8) (h : a ≠ 0) : inv a ≠ 0 := fun e => by
  have := mul_inv a h
  rw [e, mul_zero_r] at this
  exact absurd this (by decide)
theorem mul_eq_zero (a b : UInt8) (h : mul a b = 0) : a = 0 ∨ b = 0 := by
  by_cases ha : a = 0
  · exact .inl ha
  · refine .inr ?_
    have h1 : mul (inv a) (mul a b) = b := by rw [← mul_assoc, mul_comm (inv a) a, mul_inv a ha, one_mul]
    rw [h, mul_zero_r] at h1
    exact h1.symm
theorem inv_unique (a b : UInt8) (ha : a ≠ 0) (h : mul a b = 1) : b = inv a := by
  have h1 : mul (inv a) (mul a b) = b := by rw [← mul_assoc, mul_comm (inv a) a, mul_inv a ha, one_mul]
  rw [h, mul_one] at h1
  exact h1.symm
theorem inv_inv (a : UInt8) (h : a ≠ 0) : inv (inv a) = a :=
  (inv_unique (inv a) a (inv_ne a h) (by rw [mul_comm, mul_inv a h])).symm

/-- the power k -/
def pwr (a : UInt8) : Nat → UInt8
  | 0 => 1
  | k + 1 => mul (pwr a k) a
/-- the sum of the first k terms of a polynomial's value -/
def evs (l : List UInt8) (a : UInt8) : Nat → UInt8
  | 0 => 0
  | k + 1 => evs l a k ^^^ mul (l.getD k 0) (pwr a k)

end Go.Proofs.YtideglpjgplpnaaDoor.Fld
/- Plain mathematics of polynomials over the field with 256 elements: values, Newton's interpolation, and that it is the only one. No condition; no program in sight. -/
namespace Go.Proofs.YtideglpjgplpnaaDoor.Fld

theorem xor_right_self (a b : UInt8) : (a ^^^ b) ^^^ b = a := by rw [UInt8.xor_assoc, UInt8.xor_self, UInt8.xor_zero]
theorem zero_xor' (a : UInt8) : 0 ^^^ a = a := UInt8.zero_xor

/-- the value of a polynomial -/
def ev : List UInt8 → UInt8 → UInt8
  | [], _ => 0
  | c :: l, a => c ^^^ mul a (ev l a)

theorem evs_cons (c : UInt8) (l : List UInt8) (a : UInt8) : ∀ k, evs (c :: l) a (k + 1) = c ^^^ mul a (evs l a k)
  | 0 => by
    show (0 : UInt8) ^^^ mul c 1 = c ^^^ mul a 0
    rw [mul_one, mul_zero_r, UInt8.zero_xor, UInt8.xor_zero]
  | k + 1 => by
    rw [evs, evs_cons c l a k, evs, mul_xor_r]
    show c ^^^ mul a (evs l a k) ^^^ mul (l.getD k 0) (mul (pwr a k) a) = _
    rw [UInt8.xor_assoc, ← mul_assoc (l.getD k 0), mul_comm (mul (l.getD k 0) (pwr a k)) a]
theorem evs_eq (l : List UInt8) (a : UInt8) : evs l a l.length = ev l a := by
  induction l with
  | nil => rfl
  | cons c l ih => rw [List.length_cons, evs_cons, ih, ev]

theorem ev_snoc0 (l : List UInt8) (a : UInt8) : ev (l ++ [0]) a = ev l a := by
  induction l with
  | nil => show 0 ^^^ mul a 0 = 0; rw [mul_zero_r]; rfl
  | cons c l ih => rw [List.cons_append, ev, ih, ev]
theorem ev_pad (l : List UInt8) (n : Nat) (a : UInt8) : ev (l ++ List.replicate n 0) a = ev l a := by
  induction n with
  | zero => simp
  | succ n ih => rw [List.replicate_succ', ← List.append_assoc, ev_snoc0, ih]
theorem ev_map (f : UInt8) (l : List UInt8) (a : UInt8) : ev (l.map (mul f)) a = mul f (ev l a) := by
  induction l with
  | nil => exact (mul_zero_r f).symm
  | cons c l ih => rw [List.map_cons, ev, ih, ev, mul_xor_r, ← mul_assoc, ← mul_assoc, mul_comm a f]
theorem ev_zip : ∀ (l m : List UInt8) (a : UInt8), l.length = m.length → ev (List.zipWith (· ^^^ ·) l m) a = ev l a ^^^ ev m a
  | [], [], _, _ => by show (0 : UInt8) = 0 ^^^ 0; decide
  | c :: l, d :: m, a, h => by
    rw [List.zipWith_cons_cons, ev, ev_zip l m a (by simpa using h), ev, ev, mul_xor_r, xor_mid]

/-! ### Newton's steps -/
/-- the product with (t + x) -/
def nxt (x : UInt8) (z : List UInt8) : List UInt8 := List.zipWith (· ^^^ ·) (z.map (mul x) ++ [0]) (0 :: z)
/-- the sum with the multiple c of z -/
def lnew (c : UInt8) (l z : List UInt8) : List UInt8 := List.zipWith (· ^^^ ·) (l ++ [0]) (z.map (mul c))
def nstep (s : List UInt8 × List UInt8) (x y : UInt8) : List UInt8 × List UInt8 := (nxt x s.1, lnew (mul (y ^^^ ev s.2 x) (inv (ev s.1 x))) s.2 s.1)
/-- both variables after k points -/
def co (xs ys : List UInt8) : Nat → List UInt8 × List UInt8
  | 0 => ([1], [])
  | k + 1 => nstep (co xs ys k) (xs.getD k 0) (ys.getD k 0)

theorem nxt_len (x : UInt8) (z : List UInt8) : (nxt x z).length = z.length + 1 := by simp [nxt]
theorem co_len (xs ys : List UInt8) : ∀ k, (co xs ys k).1.length = k + 1 ∧ (co xs ys k).2.length = k
  | 0 => ⟨rfl, rfl⟩
  | k + 1 => by
    have ih := co_len xs ys k
    refine ⟨?_, ?_⟩
    · show (nxt _ _).length = _; rw [nxt_len, ih.1]
    · show (lnew _ _ _).length = _; simp [lnew, ih.1, ih.2]
theorem ev_nxt (x : UInt8) (z : List UInt8) (a : UInt8) : ev (nxt x z) a = mul (a ^^^ x) (ev z a) := by
  rw [nxt, ev_zip _ _ _ (by simp), ev_snoc0, ev_map, ev, UInt8.zero_xor, mul_xor_l, UInt8.xor_comm]
theorem ev_lnew (c : UInt8) (l z : List UInt8) (a : UInt8) (h : l.length + 1 = z.length) : ev (lnew c l z) a = ev l a ^^^ mul c (ev z a) := by
  rw [lnew, ev_zip _ _ _ (by simp [h]), ev_snoc0, ev_map]
theorem xor_ne (a b : UInt8) (h : a ≠ b) : a ^^^ b ≠ 0 := fun e => h (xor_cancel a b e)
theorem co_zero (xs ys : List UInt8) : ∀ k, (∀ j, j < k → ev (co xs ys k).1 (xs.getD j 0) = 0) ∧ (∀ t, (∀ j, j < k → xs.getD j 0 ≠ t) → ev (co xs ys k).1 t ≠ 0)
  | 0 => ⟨fun j hj => absurd hj (by omega), fun t _ => by show (1 : UInt8) ^^^ mul t 0 ≠ 0; rw [mul_zero_r]; decide⟩
  | k + 1 => by
    have ih := co_zero xs ys k
    refine ⟨fun j hj => ?_, fun t ht => ?_⟩
    · show ev (nxt _ _) _ = 0
      rw [ev_nxt]
      by_cases hjk : j = k
      · subst hjk; rw [UInt8.xor_self, mul_zero_l]
      · rw [ih.1 j (by omega), mul_zero_r]
    · show ev (nxt _ _) _ ≠ 0
      rw [ev_nxt]
      intro e
      rcases mul_eq_zero _ _ e with e | e
      · exact xor_ne _ _ (ht k (by omega)).symm e
      · exact ih.2 t (fun j hj => ht j (by omega)) e
theorem co_vals (xs ys : List UInt8) (n : Nat) (hd : ∀ i j, i < n → j < i → xs.getD j 0 ≠ xs.getD i 0) : ∀ k, k ≤ n → ∀ j, j < k → ev (co xs ys k).2 (xs.getD j 0) = ys.getD j 0
  | 0, _, j, hj => absurd hj (by omega)
  | k + 1, hk, j, hj => by
    have hl := co_len xs ys k
    have hz := co_zero xs ys k
    show ev (lnew _ _ _) _ = _
    rw [ev_lnew _ _ _ _ (by omega)]
    by_cases hjk : j = k
    · subst hjk
      have hne := hz.2 (xs.getD j 0) (fun i hi => hd j i (by omega) hi)
      rw [mul_assoc, mul_comm (inv _), mul_inv _ hne, mul_one, ← UInt8.xor_assoc, UInt8.xor_comm (ev _ _) (ys.getD j 0), xor_right_self]
    · rw [hz.1 j (by omega), mul_zero_r, UInt8.xor_zero]
      exact co_vals xs ys n hd k (by omega) j (by omega)

/-! ### a polynomial with as many zeros as coefficients is 0 -/
/-- the quotient by (t + r), from the top; the remainder is the value -/
def quo (r : UInt8) : List UInt8 → List UInt8
  | [] => []
  | [_] => []
  | _ :: d :: l => ev (d :: l) r :: quo r (d :: l)
theorem quo_len (r : UInt8) : ∀ l : List UInt8, (quo r l).length = l.length - 1
  | [] => rfl
  | [_] => rfl
  | c :: d :: l => by rw [quo, List.length_cons, quo_len r (d :: l)]; simp
theorem ev_quo (r a : UInt8) : ∀ l : List UInt8, ev l a = mul (a ^^^ r) (ev (quo r l) a) ^^^ ev l r
  | [] => by show (0 : UInt8) = mul _ 0 ^^^ 0; rw [mul_zero_r]; rfl
  | [c] => by show c ^^^ mul a 0 = mul _ 0 ^^^ (c ^^^ mul r 0); rw [mul_zero_r, mul_zero_r, mul_zero_r, UInt8.zero_xor]
  | c :: d :: l => by
    have ih := ev_quo r a (d :: l)
    rw [quo]
    generalize d :: l = m at ih ⊢
    rw [ev, ev, ev, ih]
    generalize ev (quo r m) a = q
    generalize ev m r = e
    -- c + a((a+r)q + e) = (a+r)(e + aq) + (c + re)
    have h1 : mul (a ^^^ r) (e ^^^ mul a q) = (mul a e ^^^ mul r e) ^^^ mul a (mul (a ^^^ r) q) := by
      rw [mul_xor_r, mul_xor_l a r e, ← mul_assoc, ← mul_assoc, mul_comm a (a ^^^ r)]
    rw [h1, mul_xor_r]
    generalize mul a (mul (a ^^^ r) q) = x
    generalize mul a e = y
    generalize mul r e = z
    rw [UInt8.xor_comm c z, ← UInt8.xor_assoc (y ^^^ z ^^^ x) z c, UInt8.xor_assoc (y ^^^ z) x z, UInt8.xor_comm x z, ← UInt8.xor_assoc (y ^^^ z) z x, xor_right_self, UInt8.xor_comm c, UInt8.xor_comm x y]
theorem zeros_quo (r : UInt8) : ∀ l : List UInt8, ev l r = 0 → (∀ c, c ∈ quo r l → c = 0) → ∀ c, c ∈ l → c = 0
  | [], _, _, c, hc => by cases hc
  | [d], h, _, c, hc => by
    have h' : d ^^^ mul r 0 = 0 := h
    rw [mul_zero_r, UInt8.xor_zero] at h'
    rw [List.mem_singleton] at hc
    rw [hc, h']
  | d :: e :: l, h, hq, c, hc => by
    rw [quo] at hq
    have h0 : ev (e :: l) r = 0 := hq _ (List.mem_cons_self ..)
    have ih := zeros_quo r (e :: l) h0 (fun c hc => hq c (List.mem_cons_of_mem _ hc))
    rcases List.mem_cons.1 hc with rfl | hc
    · rw [ev, h0, mul_zero_r, UInt8.xor_zero] at h
      exact h
    · exact ih c hc
theorem zero_of_zeros : ∀ (rs l : List UInt8), l.length ≤ rs.length → rs.Nodup → (∀ r, r ∈ rs → ev l r = 0) → ∀ c, c ∈ l → c = 0
  | [], l, hl, _, _, c, hc => by
    have : l = [] := by cases l with | nil => rfl | cons => simp at hl
    rw [this] at hc; cases hc
  | r :: rs, l, hl, hn, hz, c, hc => by
    obtain ⟨hr, hn⟩ := List.nodup_cons.1 hn
    have h0 := hz r (List.mem_cons_self ..)
    refine zeros_quo r l h0 (zero_of_zeros rs (quo r l) ?_ hn (fun s hs => ?_)) c hc
    · rw [quo_len]; simp at hl; omega
    · have h1 := hz s (List.mem_cons_of_mem _ hs)
      rw [ev_quo r s l, h0, UInt8.xor_zero] at h1
      rcases mul_eq_zero _ _ h1 with e | e
      · exact absurd (xor_cancel _ _ e) (fun e => hr (e ▸ hs))
      · exact e
/-- two polynomials of one length that agree at as many places are equal -/
theorem ev_inj : ∀ (l m : List UInt8), l.length = m.length → (∀ c, c ∈ List.zipWith (· ^^^ ·) l m → c = (0 : UInt8)) → l = m
  | [], [], _, _ => rfl
  | c :: l, d :: m, h, hz => by
    have h1 := hz (c ^^^ d) (by simp)
    rw [xor_cancel c d h1, ev_inj l m (by simpa using h) (fun x hx => hz x (by simp [hx]))]
theorem poly_unique (xs l m : List UInt8) (hx : xs.Nodup) (hl : l.length = xs.length) (hm : m.length = xs.length) (h : ∀ x, x ∈ xs → ev l x = ev m x) : l = m :=
  ev_inj l m (hl.trans hm.symm) (zero_of_zeros xs _ (by simp [hl, hm]) hx (fun r hr => by rw [ev_zip _ _ _ (hl.trans hm.symm), h r hr, UInt8.xor_self]))

/-! ### the polynomial through points -/
def coefs (xs ys : List UInt8) : List UInt8 := (co xs ys xs.length).2
theorem coefs_len (xs ys : List UInt8) : (coefs xs ys).length = xs.length := (co_len xs ys xs.length).2
theorem getD_ne_of_nodup (xs : List UInt8) (h : xs.Nodup) (i j : Nat) (hi : i < xs.length) (hj : j < i) : xs.getD j 0 ≠ xs.getD i 0 := by
  intro e
  rw [List.getD_eq_getElem?_getD, List.getD_eq_getElem?_getD, List.getElem?_eq_getElem (by omega), List.getElem?_eq_getElem hi, Option.getD_some, Option.getD_some] at e
  exact (List.pairwise_iff_getElem.1 h) j i (by omega) hi hj e
theorem coefs_vals (xs ys : List UInt8) (h : xs.Nodup) (j : Nat) (hj : j < xs.length) : ev (coefs xs ys) (xs.getD j 0) = ys.getD j 0 :=
  co_vals xs ys xs.length (fun i j hi hj => getD_ne_of_nodup xs h i j hi hj) xs.length (Nat.le_refl _) j hj
/-- whatever has these values and no more coefficients is the polynomial through the points -/
theorem coefs_unique (xs ys l : List UInt8) (h : xs.Nodup) (hl : l.length ≤ xs.length) (hv : ∀ j, j < xs.length → ev l (xs.getD j 0) = ys.getD j 0) : coefs xs ys = l ++ List.replicate (xs.length - l.length) 0 := by
  refine poly_unique xs _ _ h (coefs_len xs ys) (by simp; omega) (fun x hx => ?_)
  obtain ⟨j, hj, rfl⟩ := List.getElem_of_mem hx
  have e : xs[j] = xs.getD j 0 := by rw [List.getD_eq_getElem?_getD, List.getElem?_eq_getElem hj, Option.getD_some]
  rw [e, ev_pad, coefs_vals xs ys h j hj, hv j hj]

end Go.Proofs.YtideglpjgplpnaaDoor.Fld
/- Plain facts on the lists that field.Coefficients writes element by element. No condition; no program in sight. -/
namespace Go.Proofs.YtideglpjgplpnaaDoor.Fld

theorem ext_getD {a b : List UInt8} (hl : a.length = b.length) (h : ∀ j, a.getD j 0 = b.getD j 0) : a = b := by
  apply List.ext_getElem hl
  intro i h1 h2
  have := h i
  rw [List.getD_eq_getElem?_getD, List.getD_eq_getElem?_getD, List.getElem?_eq_getElem h1, List.getElem?_eq_getElem h2] at this
  exact this
theorem getD_set (a : List UInt8) (i j : Nat) (v : UInt8) (hi : i < a.length) : (a.set i v).getD j 0 = if j = i then v else a.getD j 0 := by
  rw [List.getD_eq_getElem?_getD, List.getD_eq_getElem?_getD, List.getElem?_set]
  by_cases h : j = i
  · subst h; simp [hi]
  · rw [if_neg h, if_neg (fun e => h e.symm)]
theorem getD_take (a : List UInt8) (k j : Nat) : (a.take k).getD j 0 = if j < k then a.getD j 0 else 0 := by
  rw [List.getD_eq_getElem?_getD, List.getD_eq_getElem?_getD, List.getElem?_take]
  by_cases h : j < k <;> simp [h]
theorem getD_long (a : List UInt8) (j : Nat) (h : a.length ≤ j) : a.getD j 0 = 0 := by
  rw [List.getD_eq_getElem?_getD, List.getElem?_eq_none h]
  rfl
theorem getD_zip (f : UInt8 → UInt8 → UInt8) (h0 : f 0 0 = 0) (a b : List UInt8) (hl : a.length = b.length) (j : Nat) : (List.zipWith f a b).getD j 0 = f (a.getD j 0) (b.getD j 0) := by
  by_cases h : j < a.length
  · rw [List.getD_eq_getElem?_getD, List.getD_eq_getElem?_getD, List.getD_eq_getElem?_getD, List.getElem?_zipWith, List.getElem?_eq_getElem h, List.getElem?_eq_getElem (by omega)]
    rfl
  · rw [getD_long _ _ (by simp; omega), getD_long a j (by omega), getD_long b j (by omega), h0]
theorem getD_map (x : UInt8) (a : List UInt8) (j : Nat) : (a.map (mul x)).getD j 0 = mul x (a.getD j 0) := by
  rw [List.getD_eq_getElem?_getD, List.getD_eq_getElem?_getD, List.getElem?_map]
  cases a[j]? with
  | none => exact (mul_zero_r x).symm
  | some v => rfl
theorem getD_snoc0 (a : List UInt8) (j : Nat) : (a ++ [0]).getD j 0 = a.getD j 0 := by
  rw [List.getD_eq_getElem?_getD, List.getD_eq_getElem?_getD, List.getElem?_append]
  by_cases h : j < a.length
  · rw [if_pos h]
  · rw [if_neg h, List.getElem?_eq_none (l := a) (by omega)]
    cases hj : j - a.length with
    | zero => rfl
    | succ n => rfl
theorem getD_cons0 (a : List UInt8) (j : Nat) : ((0 : UInt8) :: a).getD j 0 = if j = 0 then 0 else a.getD (j - 1) 0 := by
  cases j with
  | zero => rfl
  | succ n => rfl

/-! ### the sum with a multiple -/
/-- the first j elements of a, then those of b -/
def part (a b : List UInt8) (j : Nat) : List UInt8 := a.take j ++ b.drop j
theorem part_zero (a b : List UInt8) : part a b 0 = b := by simp [part]
theorem part_all (a b : List UInt8) (hl : a.length = b.length) : part a b b.length = a := by simp [part, ← hl]
theorem part_len (a b : List UInt8) (j : Nat) (hl : a.length = b.length) : (part a b j).length = b.length := by simp [part]; omega
theorem part_getD (a b : List UInt8) (j i : Nat) (hl : a.length = b.length) (hj : j ≤ b.length) : (part a b j).getD i 0 = if i < j then a.getD i 0 else b.getD i 0 := by
  rw [part, List.getD_eq_getElem?_getD, List.getD_eq_getElem?_getD, List.getD_eq_getElem?_getD, List.getElem?_append]
  have e : (a.take j).length = j := by simp; omega
  rw [e]
  by_cases h : i < j
  · rw [if_pos h, if_pos h, List.getElem?_take, if_pos h]
  · rw [if_neg h, if_neg h, List.getElem?_drop, show j + (i - j) = i by omega]
theorem part_set (a b : List UInt8) (j : Nat) (hl : a.length = b.length) (hj : j < b.length) : (part a b j).set j (a.getD j 0) = part a b (j + 1) := by
  refine ext_getD (by rw [List.length_set, part_len _ _ _ hl, part_len _ _ _ hl]) fun i => ?_
  rw [getD_set _ _ _ _ (by rw [part_len _ _ _ hl]; exact hj), part_getD _ _ _ _ hl (by omega), part_getD _ _ _ _ hl (by omega)]
  by_cases h : i = j
  · subst h; rw [if_pos rfl, if_pos (by omega)]
  · rw [if_neg h]
    by_cases h2 : i < j
    · rw [if_pos h2, if_pos (by omega)]
    · rw [if_neg h2, if_neg (by omega)]
/-- the list while the multiple is being added -/
def lpart (c : UInt8) (l z : List UInt8) (j : Nat) : List UInt8 := part (lnew c l z) (l ++ [0]) j
theorem lnew_len (c : UInt8) (l z : List UInt8) (h : z.length = l.length + 1) : (lnew c l z).length = l.length + 1 := by simp [lnew, h]
theorem lnew_getD (c : UInt8) (l z : List UInt8) (h : z.length = l.length + 1) (j : Nat) : (lnew c l z).getD j 0 = l.getD j 0 ^^^ mul c (z.getD j 0) := by
  rw [lnew, getD_zip _ (by decide) _ _ (by simp [h]), getD_snoc0, getD_map]
theorem lpart_zero (c : UInt8) (l z : List UInt8) : lpart c l z 0 = l ++ [0] := part_zero _ _
theorem lpart_all (c : UInt8) (l z : List UInt8) (h : z.length = l.length + 1) : lpart c l z (l.length + 1) = lnew c l z := by
  have := part_all (lnew c l z) (l ++ [0]) (by rw [lnew_len _ _ _ h]; simp)
  rw [List.length_append] at this
  exact this
theorem lpart_len (c : UInt8) (l z : List UInt8) (h : z.length = l.length + 1) (j : Nat) : (lpart c l z j).length = l.length + 1 := by
  rw [lpart, part_len _ _ _ (by rw [lnew_len _ _ _ h]; simp)]; simp
theorem lpart_getD (c : UInt8) (l z : List UInt8) (h : z.length = l.length + 1) (j : Nat) (hj : j < l.length + 1) : (lpart c l z j).getD j 0 = l.getD j 0 := by
  rw [lpart, part_getD _ _ _ _ (by rw [lnew_len _ _ _ h]; simp) (by simp; omega), if_neg (by omega), getD_snoc0]
theorem lpart_set (c : UInt8) (l z : List UInt8) (h : z.length = l.length + 1) (j : Nat) (hj : j < l.length + 1) : (lpart c l z j).set j (l.getD j 0 ^^^ mul c (z.getD j 0)) = lpart c l z (j + 1) := by
  have := part_set (lnew c l z) (l ++ [0]) j (by rw [lnew_len _ _ _ h]; simp) (by simp; omega)
  rw [lnew_getD _ _ _ h] at this
  exact this

/-! ### the product with (t + x) -/
theorem nxt_getD (x : UInt8) (z : List UInt8) (j : Nat) : (nxt x z).getD j 0 = mul x (z.getD j 0) ^^^ (if j = 0 then 0 else z.getD (j - 1) 0) := by
  rw [nxt, getD_zip _ (by decide) _ _ (by simp), getD_snoc0, getD_map, getD_cons0]
/-- the list after k rounds -/
def nxtp (x : UInt8) (z : List UInt8) (k : Nat) : List UInt8 := (List.range (z.length + 1)).map fun j => (nxt x (z.take k)).getD j 0
theorem nxtp_len (x : UInt8) (z : List UInt8) (k : Nat) : (nxtp x z k).length = z.length + 1 := by simp [nxtp]
theorem nxtp_getD (x : UInt8) (z : List UInt8) (k j : Nat) : (nxtp x z k).getD j 0 = (nxt x (z.take k)).getD j 0 := by
  by_cases h : j < z.length + 1
  · rw [nxtp, List.getD_eq_getElem?_getD, List.getElem?_map, List.getElem?_range h]
    rfl
  · rw [getD_long _ _ (by rw [nxtp_len]; omega), getD_long _ _ (by rw [nxt_len]; simp; omega)]
theorem nxtp_val (x : UInt8) (z : List UInt8) (k j : Nat) : (nxtp x z k).getD j 0 = mul x (if j < k then z.getD j 0 else 0) ^^^ (if j = 0 then 0 else if j - 1 < k then z.getD (j - 1) 0 else 0) := by
  rw [nxtp_getD, nxt_getD, getD_take, getD_take]
theorem xor_00 : (0 : UInt8) ^^^ 0 = 0 := by decide
theorem nxtp_zero (x : UInt8) (z : List UInt8) : nxtp x z 0 = List.replicate (z.length + 1) 0 := by
  refine ext_getD (by simp [nxtp_len]) fun j => ?_
  have e : (List.replicate (z.length + 1) (0 : UInt8)).getD j 0 = 0 := by
    rw [List.getD_eq_getElem?_getD, List.getElem?_replicate]
    split <;> rfl
  rw [nxtp_val, e, if_neg (Nat.not_lt_zero _), if_neg (Nat.not_lt_zero _), mul_zero_r, ite_self, xor_00]
theorem nxtp_all (x : UInt8) (z : List UInt8) : nxtp x z z.length = nxt x z := by
  refine ext_getD (by simp [nxtp_len, nxt_len]) fun j => ?_
  rw [nxtp_getD, List.take_length]
theorem nxtp_next (x : UInt8) (z : List UInt8) (k : Nat) : (nxtp x z k).getD (k + 1) 0 = 0 := by
  rw [nxtp_val, if_neg (by omega), if_neg (by omega), if_neg (by omega), mul_zero_r, xor_00]
theorem nxtp_set (x : UInt8) (z : List UInt8) (k : Nat) (hk : k < z.length) :
    ((nxtp x z k).set k ((nxtp x z k).getD k 0 ^^^ mul (z.getD k 0) x)).set (k + 1) ((nxtp x z k).getD (k + 1) 0 ^^^ z.getD k 0) = nxtp x z (k + 1) := by
  refine ext_getD (by simp [nxtp_len]) fun j => ?_
  rw [getD_set _ _ _ _ (by rw [List.length_set, nxtp_len]; omega), getD_set _ _ _ _ (by rw [nxtp_len]; omega), nxtp_next x z k, nxtp_val x z (k + 1)]
  by_cases h1 : j = k + 1
  · subst h1
    rw [if_pos rfl, if_neg (by omega), if_neg (by omega), if_pos (by omega), mul_zero_r, Nat.add_sub_cancel]
  · rw [if_neg h1]
    by_cases h2 : j = k
    · subst h2
      rw [if_pos rfl, nxtp_val, if_neg (Nat.lt_irrefl j), if_pos (Nat.lt_succ_self j), mul_zero_r, UInt8.zero_xor, UInt8.xor_comm, mul_comm]
      by_cases h0 : j = 0
      · rw [if_pos h0, if_pos h0]
      · rw [if_neg h0, if_neg h0, if_pos (show j - 1 < j by omega), if_pos (show j - 1 < j + 1 by omega)]
    · rw [if_neg h2, nxtp_val]
      have e1 : (j < k) = (j < k + 1) := propext ⟨fun _ => by omega, fun _ => by omega⟩
      by_cases h0 : j = 0
      · rw [if_pos h0, if_pos h0]
        simp only [e1]
      · have e2 : (j - 1 < k) = (j - 1 < k + 1) := propext ⟨fun _ => by omega, fun _ => by omega⟩
        rw [if_neg h0, if_neg h0]
        simp only [e1, e2]
end Go.Proofs.YtideglpjgplpnaaDoor.Fld
/- Plain mathematics of shares: which lists are alike, splitting, joining, explaining, refreshing. No condition; no program in sight. -/
namespace Go.Proofs.YtideglpjgplpnaaDoor.Shr

/-- a share -/
structure S where
  ep : Int
  ix : Int
  th : Int
  mn : Int
  d : List UInt8
instance : Inhabited S := ⟨⟨0, 0, 0, 0, []⟩⟩

/-- the first share's numbers are in range -/
def headOk (a : S) : Prop := 1 ≤ a.th ∧ a.th ≤ a.mn ∧ a.mn ≤ 8 ∧ a.d.length ≤ 64
/-- the index of the share before number k -/
def last (l : List S) (k : Nat) : Int := if k = 0 then 0 else l[k - 1]!.ix
/-- share number k is alike -/
def okAt (l : List S) (k : Nat) : Prop := l[k]!.th = l[0]!.th ∧ l[k]!.mn = l[0]!.mn ∧ l[k]!.d.length = l[0]!.d.length ∧ last l k < l[k]!.ix ∧ l[k]!.ix ≤ l[k]!.mn
instance (a : S) : Decidable (headOk a) := inferInstanceAs (Decidable (_ ∧ _ ∧ _ ∧ _))
instance (l : List S) (k : Nat) : Decidable (okAt l k) := inferInstanceAs (Decidable (_ ∧ _ ∧ _ ∧ _ ∧ _))
def alike (l : List S) : Prop := 0 < l.length ∧ headOk l[0]! ∧ ∀ k, k < l.length → okAt l k
instance (l : List S) : Decidable (alike l) := inferInstanceAs (Decidable (_ ∧ _ ∧ _))
def alikeB (l : List S) : Bool := decide (alike l)
/-- the epoch of share number k is right -/
def epAt (l : List S) (k : Nat) : Prop := l[k]!.ep = l[0]!.ep ∧ 0 ≤ l[k]!.ep ∧ l[k]!.ep ≤ 1048576
instance (l : List S) (k : Nat) : Decidable (epAt l k) := inferInstanceAs (Decidable (_ ∧ _ ∧ _))
def epsB (l : List S) : Bool := decide (∀ k, k < l.length → epAt l k)
/-- what Check answers -/
def chkE (l : List S) : Int := if alikeB l = true then (if epsB l = true then 0 else 61) else 60

theorem alikeB_len (l : List S) (h : alikeB l = true) : 0 < l.length := (of_decide_eq_true h).1
theorem chkE_ok (l : List S) (h : chkE l = 0) : alikeB l = true ∧ epsB l = true := by
  unfold chkE at h
  by_cases h1 : alikeB l = true
  · rw [if_pos h1] at h
    by_cases h2 : epsB l = true
    · exact ⟨h1, h2⟩
    · rw [if_neg h2] at h; exact absurd h (by decide)
  · rw [if_neg h1] at h; exact absurd h (by decide)
theorem chkE_cases (l : List S) : chkE l = 0 ∨ chkE l = 60 ∨ chkE l = 61 := by
  unfold chkE
  split
  · split
    · exact .inl rfl
    · exact .inr (.inr rfl)
  · exact .inr (.inl rfl)


/-! ### splitting -/
/-- what Split answers: its error -/
def spE (ns : Nat) (ep th mn : Int) (nc : Nat) : Int :=
  if 64 < ns then 1 else if th < 1 ∨ mn < th ∨ 8 < mn then 60 else if ep < 0 ∨ 1048576 < ep then 61 else if (nc : Int) ≠ (ns : Int) * (th - 1) then 1 else 0
/-- the polynomial of byte number k -/
def line (sec coins : List UInt8) (t k : Nat) : List UInt8 := sec.getD k 0 :: (coins.drop (k * (t - 1))).take (t - 1)
/-- the data of share number i -/
def dat (sec coins : List UInt8) (t i : Nat) : List UInt8 := (List.range sec.length).map fun k => Fld.ev (line sec coins t k) (UInt8.ofNat i)
/-- the shares -/
def spl (sec : List UInt8) (ep : Int) (t mn : Nat) (coins : List UInt8) : List S := (List.range mn).map fun i => ⟨ep, ((i + 1 : Nat) : Int), (t : Int), (mn : Int), dat sec coins t (i + 1)⟩
theorem line_len (sec coins : List UInt8) (t k : Nat) (ht : 1 ≤ t) (hc : coins.length = sec.length * (t - 1)) (hk : k < sec.length) : (line sec coins t k).length = t := by
  rw [line, List.length_cons, List.length_take, List.length_drop, hc]
  have : (k + 1) * (t - 1) ≤ sec.length * (t - 1) := Nat.mul_le_mul (by omega) (Nat.le_refl _)
  rw [Nat.add_mul, Nat.one_mul] at this
  omega
theorem spl_len (sec : List UInt8) (ep : Int) (t mn : Nat) (coins : List UInt8) : (spl sec ep t mn coins).length = mn := by simp [spl]
theorem dat_len (sec coins : List UInt8) (t i : Nat) : (dat sec coins t i).length = sec.length := by simp [dat]
theorem spl_take (sec : List UInt8) (ep : Int) (t mn : Nat) (coins : List UInt8) (k : Nat) (hk : k < mn) : (spl sec ep t mn coins).take (k + 1) = (spl sec ep t mn coins).take k ++ [⟨ep, ((k + 1 : Nat) : Int), (t : Int), (mn : Int), dat sec coins t (k + 1)⟩] := by
  rw [List.take_succ_eq_append_getElem (by rw [spl_len]; exact hk)]
  simp [spl]
theorem spl_take_all (sec : List UInt8) (ep : Int) (t mn : Nat) (coins : List UInt8) : (spl sec ep t mn coins).take mn = spl sec ep t mn coins := List.take_of_length_le (by rw [spl_len]; exact Nat.le_refl _)

end Go.Proofs.YtideglpjgplpnaaDoor.Shr
/- Plain mathematics of the reference's interpolation (Lagrange's form): it is the polynomial through the points. No condition; no program in sight. -/
namespace Go.Proofs.YtideglpjgplpnaaDoor.Fld

/-- a quotient -/
def ovr (a b : UInt8) : UInt8 := mul a (inv b)
/-- the reference's n after k rounds -/
def thn (xs ys : List UInt8) (t : UInt8) (i : Nat) : Nat → UInt8
  | 0 => ys.getD i 0
  | k + 1 => if k = i then thn xs ys t i k else mul (thn xs ys t i k) (ovr (t ^^^ xs.getD k 0) (xs.getD i 0 ^^^ xs.getD k 0))
/-- its y after i rounds -/
def thy (xs ys : List UInt8) (t : UInt8) : Nat → UInt8
  | 0 => 0
  | i + 1 => thy xs ys t i ^^^ thn xs ys t i xs.length
/-- the product of a polynomial and the one with the coefficients a and b -/
def tim (l : List UInt8) (a b : UInt8) : List UInt8 := List.zipWith (· ^^^ ·) (l.map (mul a) ++ [0]) (0 :: l.map (mul b))
/-- the reference's one after k rounds -/
def one (xs ys : List UInt8) (i : Nat) : Nat → List UInt8
  | 0 => [ys.getD i 0]
  | k + 1 => if k = i then one xs ys i k else tim (one xs ys i k) (mul (ovr 1 (xs.getD i 0 ^^^ xs.getD k 0)) (xs.getD k 0)) (ovr 1 (xs.getD i 0 ^^^ xs.getD k 0))
/-- its l after i rounds -/
def lag (xs ys : List UInt8) : Nat → List UInt8
  | 0 => List.replicate xs.length 0
  | i + 1 => List.zipWith (· ^^^ ·) (lag xs ys i) (one xs ys i xs.length)

theorem tim_len (l : List UInt8) (a b : UInt8) : (tim l a b).length = l.length + 1 := by simp [tim]
theorem ev_cons0 (l : List UInt8) (t : UInt8) : ev (0 :: l) t = mul t (ev l t) := by rw [ev, UInt8.zero_xor]
theorem ev_tim (l : List UInt8) (a b t : UInt8) : ev (tim l a b) t = mul (a ^^^ mul t b) (ev l t) := by
  rw [tim, ev_zip _ _ _ (by simp), ev_snoc0, ev_map, ev_cons0, ev_map, mul_xor_l, mul_assoc]
theorem one_len (xs ys : List UInt8) (i : Nat) : ∀ k, (one xs ys i k).length = if k ≤ i then k + 1 else k
  | 0 => by simp [one]
  | k + 1 => by
    have ih := one_len xs ys i k
    unfold one
    by_cases h : k = i
    · rw [if_pos h, ih, if_pos (by omega), if_neg (by omega)]
    · rw [if_neg h, tim_len, ih]
      by_cases h2 : k ≤ i
      · rw [if_pos h2, if_pos (by omega)]
      · rw [if_neg h2, if_neg (by omega)]
theorem one_len_all (xs ys : List UInt8) (i : Nat) (hi : i < xs.length) : (one xs ys i xs.length).length = xs.length := by rw [one_len, if_neg (by omega)]
theorem lag_len (xs ys : List UInt8) : ∀ i, i ≤ xs.length → (lag xs ys i).length = xs.length
  | 0, _ => by simp [lag]
  | i + 1, h => by rw [lag, List.length_zipWith, lag_len xs ys i (by omega), one_len_all xs ys i (by omega), Nat.min_self]
theorem ev_one (xs ys : List UInt8) (t : UInt8) (i : Nat) : ∀ k, ev (one xs ys i k) t = thn xs ys t i k
  | 0 => by show ys.getD i 0 ^^^ mul t 0 = ys.getD i 0; rw [mul_zero_r, UInt8.xor_zero]
  | k + 1 => by
    have ih := ev_one xs ys t i k
    unfold one thn
    by_cases h : k = i
    · rw [if_pos h, if_pos h, ih]
    · rw [if_neg h, if_neg h, ev_tim, ih, mul_comm _ (thn xs ys t i k)]
      congr 1
      rw [ovr, one_mul, ovr, mul_comm (inv _) (xs.getD k 0), ← mul_xor_l, UInt8.xor_comm]
theorem ev_rep (n : Nat) (t : UInt8) : ev (List.replicate n 0) t = 0 := by
  induction n with
  | zero => rfl
  | succ n ih => rw [List.replicate_succ, ev_cons0, ih, mul_zero_r]
theorem ev_lag (xs ys : List UInt8) (t : UInt8) : ∀ i, i ≤ xs.length → ev (lag xs ys i) t = thy xs ys t i
  | 0, _ => ev_rep _ _
  | i + 1, h => by rw [lag, ev_zip _ _ _ (by rw [lag_len xs ys i (by omega), one_len_all xs ys i (by omega)]), ev_lag xs ys t i (by omega), ev_one]; rfl
theorem thn_other (xs ys : List UInt8) (i j : Nat) (hij : j ≠ i) : ∀ k, j < k → thn xs ys (xs.getD j 0) i k = 0
  | 0, h => absurd h (by omega)
  | k + 1, h => by
    unfold thn
    by_cases hk : k = j
    · subst hk
      rw [if_neg hij, UInt8.xor_self, ovr, mul_zero_l, mul_zero_r]
    · have ih := thn_other xs ys i j hij k (by omega)
      rw [ih, mul_zero_l, ite_self]
theorem thn_same (xs ys : List UInt8) (hn : xs.Nodup) (i : Nat) (hi : i < xs.length) : ∀ k, k ≤ xs.length → thn xs ys (xs.getD i 0) i k = ys.getD i 0
  | 0, _ => rfl
  | k + 1, h => by
    have ih := thn_same xs ys hn i hi k (by omega)
    unfold thn
    by_cases hk : k = i
    · rw [if_pos hk, ih]
    · have hne : xs.getD i 0 ^^^ xs.getD k 0 ≠ 0 := by
        apply xor_ne
        rcases Nat.lt_or_gt_of_ne hk with h2 | h2
        · exact (getD_ne_of_nodup xs hn i k hi h2).symm
        · exact getD_ne_of_nodup xs hn k i (by omega) h2
      rw [if_neg hk, ih, ovr, mul_inv _ hne, mul_one]
theorem thy_at (xs ys : List UInt8) (hn : xs.Nodup) (j : Nat) (hj : j < xs.length) : ∀ i, i ≤ xs.length → thy xs ys (xs.getD j 0) i = if j < i then ys.getD j 0 else 0
  | 0, _ => by rw [if_neg (by omega)]; rfl
  | i + 1, h => by
    rw [thy, thy_at xs ys hn j hj i (by omega)]
    by_cases h1 : j = i
    · subst h1
      rw [if_neg (by omega), if_pos (by omega), thn_same xs ys hn j hj _ (Nat.le_refl _), UInt8.zero_xor]
    · rw [thn_other xs ys i j h1 _ hj, UInt8.xor_zero]
      by_cases h2 : j < i
      · rw [if_pos h2, if_pos (by omega)]
      · rw [if_neg h2, if_neg (by omega)]
/-- the reference's coefficients are the program's -/
theorem lag_eq (xs ys : List UInt8) (hn : xs.Nodup) : lag xs ys xs.length = coefs xs ys := by
  have h1 := coefs_unique xs ys (lag xs ys xs.length) hn (by rw [lag_len xs ys _ (Nat.le_refl _)]; exact Nat.le_refl _) (fun j hj => by
    rw [ev_lag xs ys _ _ (Nat.le_refl _), thy_at xs ys hn j hj _ (Nat.le_refl _), if_pos hj])
  rw [lag_len xs ys _ (Nat.le_refl _), Nat.sub_self, List.replicate_zero, List.append_nil] at h1
  exact h1.symm
/-- the reference's value is the program's -/
theorem thy_eq (xs ys : List UInt8) (hn : xs.Nodup) (t : UInt8) : thy xs ys t xs.length = ev (coefs xs ys) t := by
  rw [← lag_eq xs ys hn, ev_lag xs ys t _ (Nat.le_refl _)]
end Go.Proofs.YtideglpjgplpnaaDoor.Fld
