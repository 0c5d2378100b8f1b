/- Plain mathematics: fewer shares are explained by every secret. No condition; no program in sight. -/
import Derived.Test.YtpijkjpefdlefaaShL6
namespace Go.Proofs.Ytpijkjpefdlefaa

theorem List_getD_append_left (l m : List UInt8) (j : Nat) (h : j < l.length) : (l ++ m).getD j 0 = l.getD j 0 := by
  rw [List.getD_eq_getElem?_getD, List.getD_eq_getElem?_getD, List.getElem?_append_left h]
/-- the polynomial with which a byte is explained: its value at 0, and at the shares -/
theorem Shr.exC_vals (l : List Shr.S) (hg : Shr.Good l) (t k : Nat) (y : UInt8) (hlt : l.length < t) (ht : t ≤ 8) : Fld.ev (Shr.exC l t k y) 0 = y ∧ ∀ j, j < l.length → Fld.ev (Shr.exC l t k y) l[j]!.bx = l[j]!.d.getD k 0 := by
  have hnd := hg.exX_nodup (t - l.length - 1) (by omega)
  have hv := Fld.coefs_vals (Shr.exX l (t - l.length - 1)) (Shr.exY l k y (t - l.length - 1)) hnd
  have hxl : (Shr.ptX l).length = l.length := by simp [Shr.ptX]
  have hyl : (Shr.ptY l k).length = l.length := by simp [Shr.ptY]
  constructor
  · have h := hv l.length (by rw [Shr.exX_len]; omega)
    have e1 : (Shr.exX l (t - l.length - 1)).getD l.length 0 = 0 := by
      rw [Shr.exX, List_getD_append_left _ _ _ (by simp [hxl]), List.getD_eq_getElem?_getD, List.getElem?_append_right (by omega), hxl, Nat.sub_self]
      rfl
    have e2 : (Shr.exY l k y (t - l.length - 1)).getD l.length 0 = y := by
      rw [Shr.exY, List_getD_append_left _ _ _ (by simp [hyl]), List.getD_eq_getElem?_getD, List.getElem?_append_right (by omega), hyl, Nat.sub_self]
      rfl
    rw [e1, e2] at h
    exact h
  · intro j hj
    have h := hv j (by rw [Shr.exX_len]; omega)
    have e1 : (Shr.exX l (t - l.length - 1)).getD j 0 = l[j]!.bx := by
      rw [Shr.exX, List.append_assoc, List_getD_append_left _ _ _ (by omega), List.getD_eq_getElem?_getD, List.getElem?_eq_getElem (by omega), Option.getD_some, Shr.ptX_at]
    have e2 : (Shr.exY l k y (t - l.length - 1)).getD j 0 = l[j]!.d.getD k 0 := by
      rw [Shr.exY, List.append_assoc, List_getD_append_left _ _ _ (by omega), Shr.ptY, List.getD_eq_getElem?_getD, List.getElem?_map, List.getElem?_eq_getElem hj, getElem!_pos l j hj]
      rfl
    rw [e1, e2] at h
    exact h
theorem Fld.cons_of_zero (l : List UInt8) (y : UInt8) (h : 0 < l.length) (hv : Fld.ev l 0 = y) : y :: l.drop 1 = l := by
  cases l with
  | nil => simp at h
  | cons c l => rw [Fld.ev_zero] at hv; rw [hv]; rfl
/-- the coins of byte number k -/
theorem Shr.exV_part (l : List Shr.S) (t : Nat) (sec : List UInt8) (h : l.length < t) (n : Nat) : ∀ m k, k < m → m ≤ n → ((Shr.exV l t sec m).drop (k * (t - 1))).take (t - 1) = (Shr.exC l t k (sec.getD k 0)).drop 1
  | 0, k, hk, _ => absurd hk (by omega)
  | m + 1, k, hk, hm => by
    have hl := Shr.exV_len l t sec h m
    have hc : ((Shr.exC l t m (sec.getD m 0)).drop 1).length = t - 1 := by rw [List.length_drop, Shr.exC_len l t m _ h]
    rw [Shr.exV_succ]
    by_cases hkm : k = m
    · subst hkm
      rw [List.drop_append_of_le_length (by omega), List.drop_of_length_le (by omega), List.nil_append, List.take_of_length_le (by omega)]
    · have h1 : (k + 1) * (t - 1) ≤ m * (t - 1) := Nat.mul_le_mul (by omega) (Nat.le_refl _)
      rw [Nat.add_mul, Nat.one_mul] at h1
      rw [List.drop_append_of_le_length (by omega), List.take_append_of_le_length (by rw [List.length_drop]; omega)]
      exact Shr.exV_part l t sec h n m k (by omega) (by omega)
theorem Shr.line_expl (l : List Shr.S) (hg : Shr.Good l) (t : Nat) (sec : List UInt8) (hlt : l.length < t) (ht : t ≤ 8) (k : Nat) (hk : k < sec.length) : Shr.line sec (Shr.exV l t sec sec.length) t k = Shr.exC l t k (sec.getD k 0) := by
  rw [Shr.line, Shr.exV_part l t sec hlt sec.length sec.length k hk (Nat.le_refl _)]
  exact Fld.cons_of_zero _ _ (by rw [Shr.exC_len l t k _ hlt]; omega) (Shr.exC_vals l hg t k _ hlt ht).1
/-- a share that is explained is a share of the other secret -/
theorem Shr.dat_expl (l : List Shr.S) (hg : Shr.Good l) (t : Nat) (sec : List UInt8) (hlt : l.length < t) (ht : t ≤ 8) (hd : l[0]!.d.length = sec.length) (j : Nat) (hj : j < l.length) (i : Nat) (hi : l[j]!.ix = (i : Int)) : Shr.dat sec (Shr.exV l t sec sec.length) t i = l[j]!.d := by
  have hdj := hg.len_at j hj
  have hbx : l[j]!.bx = UInt8.ofNat i := by rw [Shr.S.bx, hi, Int.toNat_natCast]
  refine Fld.ext_getD (by rw [Shr.dat_len, hdj, hd]) fun k => ?_
  by_cases hk : k < sec.length
  · rw [Shr.dat_getD _ _ _ _ _ hk, Shr.line_expl l hg t sec hlt ht k hk, ← hbx, (Shr.exC_vals l hg t k _ hlt ht).2 j hj]
  · rw [Fld.getD_long _ _ (by rw [Shr.dat_len]; omega), Fld.getD_long _ _ (by omega)]
/-- the chosen shares of the other secret are the same -/
theorem Shr.sel_expl (sec coins other : List UInt8) (ep : Int) (t mn : Nat) (is : List Nat) (hne : 0 < is.length) (hg : Shr.Good (Shr.sel sec coins ep t mn is)) (hlt : is.length < t) (ht : t ≤ 8) (hl : other.length = sec.length) :
    Shr.sel other (Shr.exV (Shr.sel sec coins ep t mn is) t other other.length) ep t mn is = Shr.sel sec coins ep t mn is := by
  have hsl := Shr.sel_len sec coins ep t mn is
  have hat := Shr.sel_at sec coins ep t mn is
  have hkey : ∀ j (hj : j < is.length), Shr.dat other (Shr.exV (Shr.sel sec coins ep t mn is) t other other.length) t is[j] = Shr.dat sec coins t is[j] := fun j hj => by
    have h := Shr.dat_expl _ hg t other (by rw [hsl]; exact hlt) ht (by rw [hat 0 hne, hl]; exact Shr.dat_len _ _ _ _) j (by rw [hsl]; exact hj) is[j] (by rw [hat j hj]; rfl)
    rw [h, hat j hj]
    rfl
  refine List.ext_getElem (by simp [Shr.sel]) fun j h1 h2 => ?_
  have hj : j < is.length := by simpa [Shr.sel] using h1
  simp only [Shr.sel, List.getElem_map, Shr.mkS] at *
  rw [hkey j hj]
end Go.Proofs.Ytpijkjpefdlefaa
