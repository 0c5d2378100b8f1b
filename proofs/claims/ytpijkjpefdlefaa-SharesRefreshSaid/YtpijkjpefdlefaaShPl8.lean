/- Plain mathematics of refreshed shares: they are shares of the same secret, and shares of two epochs do not go together. No condition; no program in sight. -/
import Derived.Test.YtpijkjpefdlefaaShPl7
import Derived.Test.YtpijkjpefdlefaaShW12
namespace Go.Proofs.Ytpijkjpefdlefaa
set_option linter.unusedVariables false

theorem Shr.addD_xorL (a b : List UInt8) (h : a.length = b.length) : Shr.addD a b = Shr.xorL a b := by
  refine Fld.ext_getD (by rw [Shr.addD_len, Shr.xorL_len a b h]) fun k => ?_
  rw [Shr.xorL_getD a b h]
  by_cases hk : k < a.length
  · rw [Shr.addD, List.getD_eq_getElem?_getD, List.getElem?_map, List.getElem?_range hk]; rfl
  · rw [Fld.getD_long _ _ (by rw [Shr.addD_len]; omega), Fld.getD_long _ _ (by omega), Fld.getD_long _ _ (by omega)]; rfl
theorem Shr.xorL_zeros (a : List UInt8) : Shr.xorL a (List.replicate a.length 0) = a := by
  refine Fld.ext_getD (by rw [Shr.xorL_len _ _ (by simp)]) fun k => ?_
  rw [Shr.xorL_getD _ _ (by simp)]
  have e : (List.replicate a.length (0 : UInt8)).getD k 0 = 0 := by
    rw [List.getD_eq_getElem?_getD, List.getElem?_replicate]
    split <;> rfl
  rw [e, UInt8.xor_zero]
/-- refreshed shares are shares of the same secret, of the next epoch -/
theorem Shr.refV_spl (sec co m : List UInt8) (ep : Int) (t mn : Nat) (h1 : 1 ≤ t) (h2 : 0 < mn) (hc : co.length = sec.length * (t - 1)) (hm : m.length = sec.length * (t - 1)) :
    Shr.refV (Shr.spl sec ep t mn co) m = Shr.spl sec (ep + 1) t mn (Shr.xorL co m) := by
  have hl := Shr.spl_len sec ep t mn co
  have hz : Shr.zer (Shr.spl sec ep t mn co) m = Shr.spl (List.replicate sec.length 0) 0 t mn m := by
    rw [Shr.zer, hl, Shr.tt, Shr.spl_at _ _ _ _ _ 0 h2]
    show Shr.spl (List.replicate (Shr.dat sec co t 1).length 0) 0 ((t : Int).toNat) mn m = _
    rw [Shr.dat_len, Int.toNat_natCast]
  refine List.ext_getElem (by rw [Shr.refV_len, hl, Shr.spl_len]) fun i hi1 hi2 => ?_
  rw [Shr.refV_len, hl] at hi1
  have e1 : (Shr.refV (Shr.spl sec ep t mn co) m)[i] = (Shr.refV (Shr.spl sec ep t mn co) m)[i]! := (getElem!_pos _ i (by rw [Shr.refV_len, hl]; exact hi1)).symm
  have e2 : (Shr.spl sec (ep + 1) t mn (Shr.xorL co m))[i] = (Shr.spl sec (ep + 1) t mn (Shr.xorL co m))[i]! := (getElem!_pos _ i (by rw [Shr.spl_len]; exact hi1)).symm
  rw [e1, e2, Shr.spl_at _ _ _ _ _ i hi1, getElem!_pos _ i (by rw [Shr.refV_len, hl]; exact hi1)]
  simp only [Shr.refV, List.getElem_map, List.getElem_range]
  rw [hz, Shr.spl_at _ _ _ _ _ i hi1, Shr.spl_at _ _ _ _ _ i hi1]
  simp only [Shr.mkS]
  rw [Shr.addD_xorL _ _ (by rw [Shr.dat_len, Shr.dat_len, List.length_replicate]), ← Shr.dat_xor sec _ co m t (i + 1) (by rw [List.length_replicate]) h1 hc (by rw [List.length_replicate]; exact hm), Shr.xorL_zeros]
/-- the shares of a secret are let by -/
theorem Shr.spl_chk (sec co : List UInt8) (ep : Int) (t mn : Nat) (h1 : 1 ≤ t) (h2 : t ≤ mn) (h3 : mn ≤ 8) (h4 : sec.length ≤ 64) (h5 : 0 ≤ ep) (h6 : ep ≤ 1048576) : Shr.chkE (Shr.spl sec ep t mn co) = 0 := by
  rw [Shr.spl_sel]
  refine Shr.sel_chk sec co ep t mn _ (by simp; omega) ?_ (fun i hi => ?_) h1 h2 h3 h4 h5 h6
  · rw [List.pairwise_map]
    exact List.Pairwise.imp (fun h => by omega) List.pairwise_lt_range
  · obtain ⟨j, hj, rfl⟩ := List.mem_map.1 hi
    have := List.mem_range.1 hj
    omega

/-! ### shares of two epochs together -/
theorem Shr.ixs_iff (m : UInt8) (i : Nat) : ∀ k, i ∈ Shr.ixs m k ↔ 1 ≤ i ∧ i ≤ k ∧ m.toNat.testBit (i - 1) = true
  | 0 => by
    constructor
    · intro h; cases h
    · rintro ⟨h1, h2, _⟩; omega
  | k + 1 => by
    rw [Shr.ixs, List.mem_append, Shr.ixs_iff m i k]
    constructor
    · rintro (⟨h1, h2, h3⟩ | h)
      · exact ⟨h1, by omega, h3⟩
      · split at h
        · rename_i hb
          rw [List.mem_singleton] at h
          subst h
          exact ⟨by omega, by omega, by rw [Nat.add_sub_cancel]; exact hb⟩
        · cases h
    · rintro ⟨h1, h2, h3⟩
      by_cases hik : i = k + 1
      · subst hik
        rw [Nat.add_sub_cancel] at h3
        exact .inr (by rw [if_pos h3]; exact List.mem_singleton.2 rfl)
      · exact .inl ⟨h1, by omega, h3⟩
theorem Shr.not_bit (m : UInt8) (i : Nat) (hi : i < 8) : (~~~m).toNat.testBit i = !(m.toNat.testBit i) := by
  have H : ∀ n : Nat, n < 256 → ∀ k : Nat, k < 8 → (~~~(UInt8.ofNat n)).toNat.testBit k = !((UInt8.ofNat n).toNat.testBit k) := by decide +kernel
  have := H m.toNat m.toNat_lt i hi
  rwa [UInt8.ofNat_toNat] at this
theorem filter_one (i : Nat) : ∀ (is : List Nat), is.Pairwise (· < ·) → is.filter (fun j => decide (j = i)) = if i ∈ is then [i] else []
  | [], _ => rfl
  | a :: is, h => by
    obtain ⟨h1, h2⟩ := List.pairwise_cons.1 h
    have ih := filter_one i is h2
    by_cases ha : a = i
    · subst ha
      have hn : a ∉ is := fun hm => by have := h1 a hm; omega
      rw [List.filter_cons_of_pos (by simp), ih, if_neg hn, if_pos (List.mem_cons_self ..)]
    · rw [List.filter_cons_of_neg (by simp [ha]), ih]
      by_cases hm : i ∈ is
      · rw [if_pos hm, if_pos (List.mem_cons_of_mem _ hm)]
      · rw [if_neg hm, if_neg (fun h => by rcases List.mem_cons.1 h with h | h; exact ha h.symm; exact hm h)]
theorem Shr.sel_filter (sec co : List UInt8) (ep : Int) (t mn i : Nat) (is : List Nat) (h : is.Pairwise (· < ·)) : (Shr.sel sec co ep t mn is).filter (fun s => decide (s.ix = (i : Int))) = if i ∈ is then [Shr.mkS sec co ep t mn i] else [] := by
  have e : (Shr.sel sec co ep t mn is).filter (fun s => decide (s.ix = (i : Int))) = (is.filter (fun j => decide (j = i))).map (Shr.mkS sec co ep t mn) := by
    rw [Shr.sel, List.filter_map]
    congr 1
    refine List.filter_congr fun j _ => ?_
    show decide (((j : Nat) : Int) = (i : Int)) = decide (j = i)
    rw [decide_eq_decide]
    omega
  rw [e, filter_one i is h]
  split <;> rfl
/-- share number i, old or young -/
def Shr.mixS (sec c1 c2 : List UInt8) (e1 e2 : Int) (t mn : Nat) (m : UInt8) (i : Nat) : Shr.S := if m.toNat.testBit (i - 1) = true then Shr.mkS sec c1 e1 t mn i else Shr.mkS sec c2 e2 t mn i
def Shr.mix (sec c1 c2 : List UInt8) (e1 e2 : Int) (t mn : Nat) (m : UInt8) (k : Nat) : List Shr.S := (List.range k).map fun i => Shr.mixS sec c1 c2 e1 e2 t mn m (i + 1)
theorem Shr.mix_succ (sec c1 c2 : List UInt8) (e1 e2 : Int) (t mn : Nat) (m : UInt8) (k : Nat) : Shr.mix sec c1 c2 e1 e2 t mn m (k + 1) = Shr.mix sec c1 c2 e1 e2 t mn m k ++ [Shr.mixS sec c1 c2 e1 e2 t mn m (k + 1)] := by
  rw [Shr.mix, List.range_succ, List.map_append]; rfl
/-- of all old and young shares one alone has number i -/
theorem Shr.mix_filter (sec c1 c2 : List UInt8) (e1 e2 : Int) (t mn i : Nat) (m : UInt8) (h3 : mn ≤ 8) (hi : 1 ≤ i) (hi2 : i ≤ mn) :
    (Shr.sel sec c1 e1 t mn (Shr.ixs m mn) ++ Shr.sel sec c2 e2 t mn (Shr.ixs (~~~m) mn)).filter (fun s => decide (s.ix = (i : Int))) = [Shr.mixS sec c1 c2 e1 e2 t mn m i] := by
  rw [List.filter_append, Shr.sel_filter _ _ _ _ _ _ _ (Shr.ixs_rise m mn), Shr.sel_filter _ _ _ _ _ _ _ (Shr.ixs_rise _ mn)]
  have h1 := Shr.ixs_iff m i mn
  have h2 := Shr.ixs_iff (~~~m) i mn
  rw [Shr.not_bit m (i - 1) (by omega)] at h2
  cases hb : m.toNat.testBit (i - 1) with
  | true =>
    rw [hb] at h1 h2
    rw [if_pos (h1.2 ⟨hi, hi2, rfl⟩), if_neg (fun h => by have := (h2.1 h).2.2; cases this), Shr.mixS, if_pos hb]
    rfl
  | false =>
    rw [hb] at h1 h2
    rw [if_neg (fun h => by have := (h1.1 h).2.2; cases this), if_pos (h2.2 ⟨hi, hi2, rfl⟩), Shr.mixS, if_neg (by rw [hb]; decide)]
    rfl
theorem Shr.mix_at (sec c1 c2 : List UInt8) (e1 e2 : Int) (t mn : Nat) (m : UInt8) (n k : Nat) (hk : k < n) : (Shr.mix sec c1 c2 e1 e2 t mn m n)[k]! = Shr.mixS sec c1 c2 e1 e2 t mn m (k + 1) := by
  rw [getElem!_pos _ k (by rw [Shr.mix]; simpa using hk)]
  simp [Shr.mix]
theorem Shr.mixS_th (sec c1 c2 : List UInt8) (e1 e2 : Int) (t mn : Nat) (m : UInt8) (i : Nat) : (Shr.mixS sec c1 c2 e1 e2 t mn m i).th = (t : Int) ∧ (Shr.mixS sec c1 c2 e1 e2 t mn m i).mn = (mn : Int) ∧ (Shr.mixS sec c1 c2 e1 e2 t mn m i).ix = (i : Int) ∧ (Shr.mixS sec c1 c2 e1 e2 t mn m i).d.length = sec.length := by
  unfold Shr.mixS
  split <;> exact ⟨rfl, rfl, rfl, Shr.dat_len _ _ _ _⟩
/-- shares of two epochs are refused together -/
theorem Shr.mix_join (sec c1 c2 : List UInt8) (e1 e2 : Int) (t mn : Nat) (m : UInt8) (h1 : 1 ≤ t) (h2 : t ≤ mn) (h3 : mn ≤ 8) (h4 : sec.length ≤ 64) (hne : e1 ≠ e2) (ho : Shr.ixs m mn ≠ []) (hy : Shr.ixs (~~~m) mn ≠ []) : Shr.joinE (Shr.mix sec c1 c2 e1 e2 t mn m mn) = 61 := by
  have hl : (Shr.mix sec c1 c2 e1 e2 t mn m mn).length = mn := by simp [Shr.mix]
  have hat := Shr.mix_at sec c1 c2 e1 e2 t mn m mn
  have ha : Shr.alikeB (Shr.mix sec c1 c2 e1 e2 t mn m mn) = true := by
    refine Shr.alike_yes _ (by rw [hl]; omega) ?_ fun k hk => ?_
    · rw [hat 0 (by omega)]
      obtain ⟨a, b, c, d⟩ := Shr.mixS_th sec c1 c2 e1 e2 t mn m (0 + 1)
      unfold Shr.headOk
      rw [a, b, d]
      exact ⟨by omega, by omega, by omega, h4⟩
    · rw [hl] at hk
      unfold Shr.okAt
      rw [hat k hk, hat 0 (by omega)]
      obtain ⟨a, b, c, d⟩ := Shr.mixS_th sec c1 c2 e1 e2 t mn m (k + 1)
      obtain ⟨a', b', c', d'⟩ := Shr.mixS_th sec c1 c2 e1 e2 t mn m (0 + 1)
      rw [a, b, c, d, a', b', d']
      refine ⟨rfl, rfl, rfl, ?_, by omega⟩
      unfold Shr.last
      by_cases h0 : k = 0
      · rw [if_pos h0]; omega
      · rw [if_neg h0, hat (k - 1) (by omega), (Shr.mixS_th sec c1 c2 e1 e2 t mn m (k - 1 + 1)).2.2.1]; omega
  obtain ⟨i, hi⟩ := List.exists_mem_of_ne_nil _ ho
  obtain ⟨j, hj⟩ := List.exists_mem_of_ne_nil _ hy
  obtain ⟨i1, i2, i3⟩ := (Shr.ixs_iff m i mn).1 hi
  obtain ⟨j1, j2, j3⟩ := (Shr.ixs_iff (~~~m) j mn).1 hj
  rw [Shr.not_bit m (j - 1) (by omega)] at j3
  have hei : (Shr.mix sec c1 c2 e1 e2 t mn m mn)[i - 1]!.ep = e1 := by
    rw [hat (i - 1) (by omega), Nat.sub_add_cancel i1, Shr.mixS, if_pos i3]; rfl
  have hej : (Shr.mix sec c1 c2 e1 e2 t mn m mn)[j - 1]!.ep = e2 := by
    rw [hat (j - 1) (by omega), Nat.sub_add_cancel j1, Shr.mixS, if_neg (by intro h; rw [h] at j3; cases j3)]; rfl
  have hc : Shr.chkE (Shr.mix sec c1 c2 e1 e2 t mn m mn) = 61 := by
    by_cases h : (Shr.mix sec c1 c2 e1 e2 t mn m mn)[0]!.ep = e1
    · exact Shr.eps_bad _ ha (j - 1) (by rw [hl]; omega) (fun hb => hne (by rw [← h, ← hb.1, hej]))
    · exact Shr.eps_bad _ ha (i - 1) (by rw [hl]; omega) (fun hb => h (by rw [← hb.1, hei]))
  rw [Shr.joinE, if_pos (by rw [hc]; decide), hc]
end Go.Proofs.Ytpijkjpefdlefaa
