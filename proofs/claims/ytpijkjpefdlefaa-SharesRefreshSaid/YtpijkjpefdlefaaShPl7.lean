/- Shares of sums, in plain Lean. -/
import Derived.Test.YtpijkjpefdlefaaShPl5
namespace Go.Proofs.Ytpijkjpefdlefaa
set_option linter.unusedVariables false

/-- bytes, added -/
def Shr.xorL (a b : List UInt8) : List UInt8 := List.zipWith (· ^^^ ·) a b
theorem Shr.xorL_len (a b : List UInt8) (h : a.length = b.length) : (Shr.xorL a b).length = a.length := by simp [Shr.xorL]; omega
theorem Shr.xorL_getD (a b : List UInt8) (h : a.length = b.length) (k : Nat) : (Shr.xorL a b).getD k 0 = a.getD k 0 ^^^ b.getD k 0 := by
  by_cases hk : k < a.length
  · have hk2 : k < b.length := by omega
    rw [List.getD_eq_getElem?_getD, List.getD_eq_getElem?_getD, List.getD_eq_getElem?_getD, List.getElem?_eq_getElem (by rw [Shr.xorL_len a b h]; exact hk), List.getElem?_eq_getElem hk, List.getElem?_eq_getElem hk2]
    simp [Shr.xorL]
  · rw [Fld.getD_long _ _ (by rw [Shr.xorL_len a b h]; omega), Fld.getD_long _ _ (by omega), Fld.getD_long _ _ (by omega)]
    rfl
theorem Shr.line_xor (a b p q : List UInt8) (t k : Nat) (h : a.length = b.length) : Shr.line (Shr.xorL a b) (Shr.xorL p q) t k = Shr.xorL (Shr.line a p t k) (Shr.line b q t k) := by
  rw [Shr.line, Shr.line, Shr.line, Shr.xorL_getD a b h]
  simp only [Shr.xorL, List.drop_zipWith, List.take_zipWith, List.zipWith_cons_cons]
theorem Shr.dat_xor (a b p q : List UInt8) (t i : Nat) (h : a.length = b.length) (ht : 1 ≤ t) (hp : p.length = a.length * (t - 1)) (hq : q.length = b.length * (t - 1)) : Shr.dat (Shr.xorL a b) (Shr.xorL p q) t i = Shr.xorL (Shr.dat a p t i) (Shr.dat b q t i) := by
  refine List.ext_getElem (by rw [Shr.dat_len, Shr.xorL_len _ _ h, Shr.xorL_len _ _ (by rw [Shr.dat_len, Shr.dat_len, h]), Shr.dat_len]) fun j h1 h2 => ?_
  rw [Shr.dat_len, Shr.xorL_len _ _ h] at h1
  simp only [Shr.dat, Shr.xorL, List.getElem_map, List.getElem_range, List.getElem_zipWith]
  have e := Shr.line_xor a b p q t j h
  rw [Shr.xorL, Shr.xorL] at e
  rw [e]
  exact Fld.ev_zip _ _ _ (by rw [Shr.line_len a p t j ht hp h1, Shr.line_len b q t j ht hq (by omega)])
/-- the sum of two splits is the split of the sum -/
theorem Shr.spl_xor (a b p q : List UInt8) (ep : Int) (t mn : Nat) (h : a.length = b.length) (ht : 1 ≤ t) (hp : p.length = a.length * (t - 1)) (hq : q.length = b.length * (t - 1)) (i : Nat) (hi : i < mn) :
    (Shr.spl (Shr.xorL a b) ep t mn (Shr.xorL p q))[i]! = { (Shr.spl a ep t mn p)[i]! with d := Shr.xorL (Shr.spl a ep t mn p)[i]!.d (Shr.spl b ep t mn q)[i]!.d } := by
  rw [Shr.spl_at _ _ _ _ _ i hi, Shr.spl_at _ _ _ _ _ i hi, Shr.spl_at _ _ _ _ _ i hi]
  simp only [Shr.mkS]
  rw [Shr.dat_xor a b p q t (i + 1) h ht hp hq]
/-- all shares together lead back -/
theorem Shr.all_join (sec coins : List UInt8) (t mn : Nat) (h1 : 1 ≤ t) (h2 : t ≤ mn) (h3 : mn ≤ 8) (h4 : sec.length ≤ 64) (hc : coins.length = sec.length * (t - 1)) : Shr.joinE (Shr.spl sec 0 t mn coins) = 0 ∧ Shr.joinV (Shr.spl sec 0 t mn coins) = sec ∧ (Shr.spl sec 0 t mn coins)[0]!.d.length = sec.length := by
  have hl : ((List.range mn).map (· + 1)).length = mn := by simp
  have hr : ((List.range mn).map (· + 1)).Pairwise (· < ·) := by
    rw [List.pairwise_map]
    exact List.Pairwise.imp (fun h => by omega) List.pairwise_lt_range
  have hb : ∀ i, i ∈ (List.range mn).map (· + 1) → 1 ≤ i ∧ i ≤ mn := fun i hi => by
    obtain ⟨j, hj, rfl⟩ := List.mem_map.1 hi
    have := List.mem_range.1 hj
    omega
  rw [Shr.spl_sel]
  have hne : 0 < ((List.range mn).map (· + 1)).length := by omega
  have c := Shr.sel_chk sec coins 0 t mn _ hne hr hb h1 h2 h3 h4 (by omega) (by omega)
  refine ⟨?_, Shr.sel_joinV sec coins 0 t mn _ hne hr (fun i hi => by have := hb i hi; omega) h1 hc (by omega), ?_⟩
  · rw [Shr.sel_join _ _ _ _ _ _ hne c, if_neg (by omega)]
  · rw [Shr.sel_at _ _ _ _ _ _ 0 hne]; exact Shr.dat_len _ _ _ _
end Go.Proofs.Ytpijkjpefdlefaa
