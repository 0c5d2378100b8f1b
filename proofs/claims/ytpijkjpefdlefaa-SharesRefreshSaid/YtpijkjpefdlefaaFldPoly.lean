/- Plain mathematics of polynomials over the field with 256 elements: values, Newton's interpolation, and that it is the only one. No condition; no program in sight. -/
import Derived.Test.YtpijkjpefdlefaaFldPlain
namespace Go.Proofs.Ytpijkjpefdlefaa.Fld

theorem xor_right_self (a b : UInt8) : (a ^^^ b) ^^^ b = a := by rw [UInt8.xor_assoc, UInt8.xor_self, UInt8.xor_zero]
theorem zero_xor' (a : UInt8) : 0 ^^^ a = a := UInt8.zero_xor

/-- the value of a polynomial -/
def ev : List UInt8 → UInt8 → UInt8
  | [], _ => 0
  | c :: l, a => c ^^^ mul a (ev l a)

theorem evs_cons (c : UInt8) (l : List UInt8) (a : UInt8) : ∀ k, evs (c :: l) a (k + 1) = c ^^^ mul a (evs l a k)
  | 0 => by
    show (0 : UInt8) ^^^ mul c 1 = c ^^^ mul a 0
    rw [mul_one, mul_zero_r, UInt8.zero_xor, UInt8.xor_zero]
  | k + 1 => by
    rw [evs, evs_cons c l a k, evs, mul_xor_r]
    show c ^^^ mul a (evs l a k) ^^^ mul (l.getD k 0) (mul (pwr a k) a) = _
    rw [UInt8.xor_assoc, ← mul_assoc (l.getD k 0), mul_comm (mul (l.getD k 0) (pwr a k)) a]
theorem evs_eq (l : List UInt8) (a : UInt8) : evs l a l.length = ev l a := by
  induction l with
  | nil => rfl
  | cons c l ih => rw [List.length_cons, evs_cons, ih, ev]

theorem ev_snoc0 (l : List UInt8) (a : UInt8) : ev (l ++ [0]) a = ev l a := by
  induction l with
  | nil => show 0 ^^^ mul a 0 = 0; rw [mul_zero_r]; rfl
  | cons c l ih => rw [List.cons_append, ev, ih, ev]
theorem ev_pad (l : List UInt8) (n : Nat) (a : UInt8) : ev (l ++ List.replicate n 0) a = ev l a := by
  induction n with
  | zero => simp
  | succ n ih => rw [List.replicate_succ', ← List.append_assoc, ev_snoc0, ih]
theorem ev_map (f : UInt8) (l : List UInt8) (a : UInt8) : ev (l.map (mul f)) a = mul f (ev l a) := by
  induction l with
  | nil => exact (mul_zero_r f).symm
  | cons c l ih => rw [List.map_cons, ev, ih, ev, mul_xor_r, ← mul_assoc, ← mul_assoc, mul_comm a f]
theorem ev_zip : ∀ (l m : List UInt8) (a : UInt8), l.length = m.length → ev (List.zipWith (· ^^^ ·) l m) a = ev l a ^^^ ev m a
  | [], [], _, _ => by show (0 : UInt8) = 0 ^^^ 0; decide
  | c :: l, d :: m, a, h => by
    rw [List.zipWith_cons_cons, ev, ev_zip l m a (by simpa using h), ev, ev, mul_xor_r, xor_mid]

/-! ### Newton's steps -/
/-- the product with (t + x) -/
def nxt (x : UInt8) (z : List UInt8) : List UInt8 := List.zipWith (· ^^^ ·) (z.map (mul x) ++ [0]) (0 :: z)
/-- the sum with the multiple c of z -/
def lnew (c : UInt8) (l z : List UInt8) : List UInt8 := List.zipWith (· ^^^ ·) (l ++ [0]) (z.map (mul c))
def nstep (s : List UInt8 × List UInt8) (x y : UInt8) : List UInt8 × List UInt8 := (nxt x s.1, lnew (mul (y ^^^ ev s.2 x) (inv (ev s.1 x))) s.2 s.1)
/-- both variables after k points -/
def co (xs ys : List UInt8) : Nat → List UInt8 × List UInt8
  | 0 => ([1], [])
  | k + 1 => nstep (co xs ys k) (xs.getD k 0) (ys.getD k 0)

theorem nxt_len (x : UInt8) (z : List UInt8) : (nxt x z).length = z.length + 1 := by simp [nxt]
theorem co_len (xs ys : List UInt8) : ∀ k, (co xs ys k).1.length = k + 1 ∧ (co xs ys k).2.length = k
  | 0 => ⟨rfl, rfl⟩
  | k + 1 => by
    have ih := co_len xs ys k
    refine ⟨?_, ?_⟩
    · show (nxt _ _).length = _; rw [nxt_len, ih.1]
    · show (lnew _ _ _).length = _; simp [lnew, ih.1, ih.2]
theorem ev_nxt (x : UInt8) (z : List UInt8) (a : UInt8) : ev (nxt x z) a = mul (a ^^^ x) (ev z a) := by
  rw [nxt, ev_zip _ _ _ (by simp), ev_snoc0, ev_map, ev, UInt8.zero_xor, mul_xor_l, UInt8.xor_comm]
theorem ev_lnew (c : UInt8) (l z : List UInt8) (a : UInt8) (h : l.length + 1 = z.length) : ev (lnew c l z) a = ev l a ^^^ mul c (ev z a) := by
  rw [lnew, ev_zip _ _ _ (by simp [h]), ev_snoc0, ev_map]
theorem xor_ne (a b : UInt8) (h : a ≠ b) : a ^^^ b ≠ 0 := fun e => h (xor_cancel a b e)
theorem co_zero (xs ys : List UInt8) : ∀ k, (∀ j, j < k → ev (co xs ys k).1 (xs.getD j 0) = 0) ∧ (∀ t, (∀ j, j < k → xs.getD j 0 ≠ t) → ev (co xs ys k).1 t ≠ 0)
  | 0 => ⟨fun j hj => absurd hj (by omega), fun t _ => by show (1 : UInt8) ^^^ mul t 0 ≠ 0; rw [mul_zero_r]; decide⟩
  | k + 1 => by
    have ih := co_zero xs ys k
    refine ⟨fun j hj => ?_, fun t ht => ?_⟩
    · show ev (nxt _ _) _ = 0
      rw [ev_nxt]
      by_cases hjk : j = k
      · subst hjk; rw [UInt8.xor_self, mul_zero_l]
      · rw [ih.1 j (by omega), mul_zero_r]
    · show ev (nxt _ _) _ ≠ 0
      rw [ev_nxt]
      intro e
      rcases mul_eq_zero _ _ e with e | e
      · exact xor_ne _ _ (ht k (by omega)).symm e
      · exact ih.2 t (fun j hj => ht j (by omega)) e
theorem co_vals (xs ys : List UInt8) (n : Nat) (hd : ∀ i j, i < n → j < i → xs.getD j 0 ≠ xs.getD i 0) : ∀ k, k ≤ n → ∀ j, j < k → ev (co xs ys k).2 (xs.getD j 0) = ys.getD j 0
  | 0, _, j, hj => absurd hj (by omega)
  | k + 1, hk, j, hj => by
    have hl := co_len xs ys k
    have hz := co_zero xs ys k
    show ev (lnew _ _ _) _ = _
    rw [ev_lnew _ _ _ _ (by omega)]
    by_cases hjk : j = k
    · subst hjk
      have hne := hz.2 (xs.getD j 0) (fun i hi => hd j i (by omega) hi)
      rw [mul_assoc, mul_comm (inv _), mul_inv _ hne, mul_one, ← UInt8.xor_assoc, UInt8.xor_comm (ev _ _) (ys.getD j 0), xor_right_self]
    · rw [hz.1 j (by omega), mul_zero_r, UInt8.xor_zero]
      exact co_vals xs ys n hd k (by omega) j (by omega)

/-! ### a polynomial with as many zeros as coefficients is 0 -/
/-- the quotient by (t + r), from the top; the remainder is the value -/
def quo (r : UInt8) : List UInt8 → List UInt8
  | [] => []
  | [_] => []
  | _ :: d :: l => ev (d :: l) r :: quo r (d :: l)
theorem quo_len (r : UInt8) : ∀ l : List UInt8, (quo r l).length = l.length - 1
  | [] => rfl
  | [_] => rfl
  | c :: d :: l => by rw [quo, List.length_cons, quo_len r (d :: l)]; simp
theorem ev_quo (r a : UInt8) : ∀ l : List UInt8, ev l a = mul (a ^^^ r) (ev (quo r l) a) ^^^ ev l r
  | [] => by show (0 : UInt8) = mul _ 0 ^^^ 0; rw [mul_zero_r]; rfl
  | [c] => by show c ^^^ mul a 0 = mul _ 0 ^^^ (c ^^^ mul r 0); rw [mul_zero_r, mul_zero_r, mul_zero_r, UInt8.zero_xor]
  | c :: d :: l => by
    have ih := ev_quo r a (d :: l)
    rw [quo]
    generalize d :: l = m at ih ⊢
    rw [ev, ev, ev, ih]
    generalize ev (quo r m) a = q
    generalize ev m r = e
    -- c + a((a+r)q + e) = (a+r)(e + aq) + (c + re)
    have h1 : mul (a ^^^ r) (e ^^^ mul a q) = (mul a e ^^^ mul r e) ^^^ mul a (mul (a ^^^ r) q) := by
      rw [mul_xor_r, mul_xor_l a r e, ← mul_assoc, ← mul_assoc, mul_comm a (a ^^^ r)]
    rw [h1, mul_xor_r]
    generalize mul a (mul (a ^^^ r) q) = x
    generalize mul a e = y
    generalize mul r e = z
    rw [UInt8.xor_comm c z, ← UInt8.xor_assoc (y ^^^ z ^^^ x) z c, UInt8.xor_assoc (y ^^^ z) x z, UInt8.xor_comm x z, ← UInt8.xor_assoc (y ^^^ z) z x, xor_right_self, UInt8.xor_comm c, UInt8.xor_comm x y]
theorem zeros_quo (r : UInt8) : ∀ l : List UInt8, ev l r = 0 → (∀ c, c ∈ quo r l → c = 0) → ∀ c, c ∈ l → c = 0
  | [], _, _, c, hc => by cases hc
  | [d], h, _, c, hc => by
    have h' : d ^^^ mul r 0 = 0 := h
    rw [mul_zero_r, UInt8.xor_zero] at h'
    rw [List.mem_singleton] at hc
    rw [hc, h']
  | d :: e :: l, h, hq, c, hc => by
    rw [quo] at hq
    have h0 : ev (e :: l) r = 0 := hq _ (List.mem_cons_self ..)
    have ih := zeros_quo r (e :: l) h0 (fun c hc => hq c (List.mem_cons_of_mem _ hc))
    rcases List.mem_cons.1 hc with rfl | hc
    · rw [ev, h0, mul_zero_r, UInt8.xor_zero] at h
      exact h
    · exact ih c hc
theorem zero_of_zeros : ∀ (rs l : List UInt8), l.length ≤ rs.length → rs.Nodup → (∀ r, r ∈ rs → ev l r = 0) → ∀ c, c ∈ l → c = 0
  | [], l, hl, _, _, c, hc => by
    have : l = [] := by cases l with | nil => rfl | cons => simp at hl
    rw [this] at hc; cases hc
  | r :: rs, l, hl, hn, hz, c, hc => by
    obtain ⟨hr, hn⟩ := List.nodup_cons.1 hn
    have h0 := hz r (List.mem_cons_self ..)
    refine zeros_quo r l h0 (zero_of_zeros rs (quo r l) ?_ hn (fun s hs => ?_)) c hc
    · rw [quo_len]; simp at hl; omega
    · have h1 := hz s (List.mem_cons_of_mem _ hs)
      rw [ev_quo r s l, h0, UInt8.xor_zero] at h1
      rcases mul_eq_zero _ _ h1 with e | e
      · exact absurd (xor_cancel _ _ e) (fun e => hr (e ▸ hs))
      · exact e
/-- two polynomials of one length that agree at as many places are equal -/
theorem ev_inj : ∀ (l m : List UInt8), l.length = m.length → (∀ c, c ∈ List.zipWith (· ^^^ ·) l m → c = (0 : UInt8)) → l = m
  | [], [], _, _ => rfl
  | c :: l, d :: m, h, hz => by
    have h1 := hz (c ^^^ d) (by simp)
    rw [xor_cancel c d h1, ev_inj l m (by simpa using h) (fun x hx => hz x (by simp [hx]))]
theorem poly_unique (xs l m : List UInt8) (hx : xs.Nodup) (hl : l.length = xs.length) (hm : m.length = xs.length) (h : ∀ x, x ∈ xs → ev l x = ev m x) : l = m :=
  ev_inj l m (hl.trans hm.symm) (zero_of_zeros xs _ (by simp [hl, hm]) hx (fun r hr => by rw [ev_zip _ _ _ (hl.trans hm.symm), h r hr, UInt8.xor_self]))

/-! ### the polynomial through points -/
def coefs (xs ys : List UInt8) : List UInt8 := (co xs ys xs.length).2
theorem coefs_len (xs ys : List UInt8) : (coefs xs ys).length = xs.length := (co_len xs ys xs.length).2
theorem getD_ne_of_nodup (xs : List UInt8) (h : xs.Nodup) (i j : Nat) (hi : i < xs.length) (hj : j < i) : xs.getD j 0 ≠ xs.getD i 0 := by
  intro e
  rw [List.getD_eq_getElem?_getD, List.getD_eq_getElem?_getD, List.getElem?_eq_getElem (by omega), List.getElem?_eq_getElem hi, Option.getD_some, Option.getD_some] at e
  exact (List.pairwise_iff_getElem.1 h) j i (by omega) hi hj e
theorem coefs_vals (xs ys : List UInt8) (h : xs.Nodup) (j : Nat) (hj : j < xs.length) : ev (coefs xs ys) (xs.getD j 0) = ys.getD j 0 :=
  co_vals xs ys xs.length (fun i j hi hj => getD_ne_of_nodup xs h i j hi hj) xs.length (Nat.le_refl _) j hj
/-- whatever has these values and no more coefficients is the polynomial through the points -/
theorem coefs_unique (xs ys l : List UInt8) (h : xs.Nodup) (hl : l.length ≤ xs.length) (hv : ∀ j, j < xs.length → ev l (xs.getD j 0) = ys.getD j 0) : coefs xs ys = l ++ List.replicate (xs.length - l.length) 0 := by
  refine poly_unique xs _ _ h (coefs_len xs ys) (by simp; omega) (fun x hx => ?_)
  obtain ⟨j, hj, rfl⟩ := List.getElem_of_mem hx
  have e : xs[j] = xs.getD j 0 := by rw [List.getD_eq_getElem?_getD, List.getElem?_eq_getElem hj, Option.getD_some]
  rw [e, ev_pad, coefs_vals xs ys h j hj, hv j hj]

end Go.Proofs.Ytpijkjpefdlefaa.Fld
