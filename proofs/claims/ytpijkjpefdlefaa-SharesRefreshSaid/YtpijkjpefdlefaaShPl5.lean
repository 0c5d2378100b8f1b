/- Plain mathematics: chosen shares of a split secret lead back to it. No condition; no program in sight. -/
import Derived.Test.YtpijkjpefdlefaaShSome
namespace Go.Proofs.Ytpijkjpefdlefaa

/-- share number i of a split secret -/
def Shr.mkS (sec coins : List UInt8) (ep : Int) (t mn i : Nat) : Shr.S := ⟨ep, (i : Int), (t : Int), (mn : Int), Shr.dat sec coins t i⟩
/-- the shares with these numbers -/
def Shr.sel (sec coins : List UInt8) (ep : Int) (t mn : Nat) (is : List Nat) : List Shr.S := is.map (Shr.mkS sec coins ep t mn)
/-- the numbers that a mask chooses -/
def Shr.ixs (m : UInt8) : Nat → List Nat
  | 0 => []
  | k + 1 => Shr.ixs m k ++ (if m.toNat.testBit k = true then [k + 1] else [])

section
variable (sec coins : List UInt8) (ep : Int) (t mn : Nat)
theorem Shr.spl_sel : Shr.spl sec ep t mn coins = Shr.sel sec coins ep t mn ((List.range mn).map (· + 1)) := by
  rw [Shr.spl, Shr.sel, List.map_map]
  rfl
theorem Shr.spl_at (k : Nat) (hk : k < mn) : (Shr.spl sec ep t mn coins)[k]! = Shr.mkS sec coins ep t mn (k + 1) := by
  rw [getElem!_pos _ k (by rw [Shr.spl_len]; exact hk)]
  simp [Shr.spl, Shr.mkS]
theorem Shr.pickN_sel (m : UInt8) : ∀ k, k ≤ mn → Shr.pickN (Shr.spl sec ep t mn coins) m k = Shr.sel sec coins ep t mn (Shr.ixs m k)
  | 0, _ => rfl
  | k + 1, h => by
    rw [Shr.pickN, Shr.pickN_sel m k (by omega), Shr.ixs, Shr.sel, Shr.sel, List.map_append, Shr.spl_at _ _ _ _ _ k (by omega)]
    congr 1
    split <;> rfl
theorem Shr.pick_sel (m : UInt8) : Shr.pick (Shr.spl sec ep t mn coins) m = Shr.sel sec coins ep t mn (Shr.ixs m mn) := by
  rw [Shr.pick, Shr.spl_len, Shr.pickN_sel _ _ _ _ _ _ mn (Nat.le_refl _)]
theorem Shr.ixs_mem (m : UInt8) : ∀ k, ∀ i, i ∈ Shr.ixs m k → 1 ≤ i ∧ i ≤ k
  | 0, i, h => by cases h
  | k + 1, i, h => by
    rw [Shr.ixs] at h
    rcases List.mem_append.1 h with h | h
    · have := Shr.ixs_mem m k i h; omega
    · split at h
      · rw [List.mem_singleton] at h; omega
      · cases h
theorem Shr.ixs_rise (m : UInt8) : ∀ k, (Shr.ixs m k).Pairwise (· < ·)
  | 0 => List.Pairwise.nil
  | k + 1 => by
    rw [Shr.ixs, List.pairwise_append]
    refine ⟨Shr.ixs_rise m k, ?_, fun a ha b hb => ?_⟩
    · split <;> simp
    · have := Shr.ixs_mem m k a ha
      split at hb
      · rw [List.mem_singleton] at hb; omega
      · cases hb
theorem Shr.sel_len (is : List Nat) : (Shr.sel sec coins ep t mn is).length = is.length := by simp [Shr.sel]
theorem Shr.sel_at (is : List Nat) (k : Nat) (hk : k < is.length) : (Shr.sel sec coins ep t mn is)[k]! = Shr.mkS sec coins ep t mn is[k] := by
  rw [getElem!_pos _ k (by rw [Shr.sel_len]; exact hk)]
  simp [Shr.sel]

/-- numbers in order: the shares are let by -/
theorem Shr.sel_chk (is : List Nat) (hne : 0 < is.length) (hr : is.Pairwise (· < ·)) (hb : ∀ i, i ∈ is → 1 ≤ i ∧ i ≤ mn) (h1 : 1 ≤ t) (h2 : t ≤ mn) (h3 : mn ≤ 8) (h4 : sec.length ≤ 64) (h5 : 0 ≤ ep) (h6 : ep ≤ 1048576) : Shr.chkE (Shr.sel sec coins ep t mn is) = 0 := by
  have hat := Shr.sel_at sec coins ep t mn is
  refine Shr.eps_yes _ (Shr.alike_yes _ (by rw [Shr.sel_len]; exact hne) ?_ fun k hk => ?_) fun k hk => ?_
  · rw [hat 0 hne]
    exact ⟨by show (1 : Int) ≤ t; omega, by show (t : Int) ≤ mn; omega, by show (mn : Int) ≤ 8; omega, by show (Shr.dat sec coins t _).length ≤ 64; rw [Shr.dat_len]; exact h4⟩
  · rw [Shr.sel_len] at hk
    have hk1 := hb is[k] (List.getElem_mem hk)
    unfold Shr.okAt
    rw [hat k hk, hat 0 hne]
    refine ⟨rfl, rfl, by show (Shr.dat _ _ _ _).length = (Shr.dat _ _ _ _).length; rw [Shr.dat_len, Shr.dat_len], ?_, by show ((is[k] : Nat) : Int) ≤ mn; omega⟩
    unfold Shr.last
    by_cases h0 : k = 0
    · rw [if_pos h0]; show (0 : Int) < (is[k] : Int); omega
    · rw [if_neg h0, hat (k - 1) (by omega)]
      have := (List.pairwise_iff_getElem.1 hr) (k - 1) k (by omega) hk (by omega)
      show ((is[k - 1] : Nat) : Int) < (is[k] : Int)
      omega
  · rw [Shr.sel_len] at hk
    unfold Shr.epAt
    rw [hat k hk, hat 0 hne]
    exact ⟨rfl, h5, h6⟩
/-- a number that does not rise: they are not -/
theorem Shr.sel_bad (is : List Nat) (k : Nat) (hk : k + 1 < is.length) (h : is[k + 1] ≤ is[k]) : Shr.chkE (Shr.sel sec coins ep t mn is) = 60 := by
  have hat := Shr.sel_at sec coins ep t mn is
  have : Shr.alikeB (Shr.sel sec coins ep t mn is) = false := Shr.alike_bad _ (k + 1) (by rw [Shr.sel_len]; exact hk) fun h2 => by
    have h3 := h2.2.2.2.1
    rw [Shr.last_succ, hat k (by omega), hat (k + 1) hk] at h3
    have h4 : ((is[k] : Nat) : Int) < (is[k + 1] : Int) := h3
    omega
  rw [Shr.chkE, this]
  rfl
theorem Shr.sel_join (is : List Nat) (hne : 0 < is.length) (hc : Shr.chkE (Shr.sel sec coins ep t mn is) = 0) : Shr.joinE (Shr.sel sec coins ep t mn is) = if is.length < t then 60 else 0 := by
  rw [Shr.joinE, if_neg (by simp [hc]), Shr.sel_len, Shr.sel_at sec coins ep t mn is 0 hne]
  show (if (is.length : Int) < (t : Int) then (60 : Int) else 0) = _
  by_cases h : is.length < t
  · rw [if_pos h, if_pos (by omega)]
  · rw [if_neg h, if_neg (by omega)]
theorem Shr.sel_tt (is : List Nat) (hne : 0 < is.length) : Shr.tt (Shr.sel sec coins ep t mn is) = t := by
  rw [Shr.tt, Shr.sel_at sec coins ep t mn is 0 hne]
  show (t : Int).toNat = t
  omega
theorem Shr.dat_getD (i k : Nat) (hk : k < sec.length) : (Shr.dat sec coins t i).getD k 0 = Fld.ev (Shr.line sec coins t k) (UInt8.ofNat i) := by
  rw [Shr.dat, List.getD_eq_getElem?_getD, List.getElem?_map, List.getElem?_range hk]
  rfl
theorem Fld.ev_zero (c : UInt8) (l : List UInt8) : Fld.ev (c :: l) 0 = c := by rw [Fld.ev, Fld.mul_zero_l, UInt8.xor_zero]
theorem Shr.ofNat_inj {a b : Nat} (ha : a < 256) (hb : b < 256) (h : UInt8.ofNat a = UInt8.ofNat b) : a = b := by
  have := congrArg UInt8.toNat h
  rwa [UInt8.toNat_ofNat', UInt8.toNat_ofNat', Nat.mod_eq_of_lt (by omega), Nat.mod_eq_of_lt (by omega)] at this
/-- through as many points of a line as it has coefficients goes the line alone -/
theorem Shr.sel_coefs (js : List Nat) (hr : js.Pairwise (· < ·)) (hb : ∀ i, i ∈ js → i ≤ 8) (k : Nat) (hk : k < sec.length) (ht : 1 ≤ t) (hc : coins.length = sec.length * (t - 1)) (hl : js.length = t) :
    Fld.ptsB (Shr.ptX (Shr.sel sec coins ep t mn js)) (Shr.ptY (Shr.sel sec coins ep t mn js) k) = true ∧ Fld.coefs (Shr.ptX (Shr.sel sec coins ep t mn js)) (Shr.ptY (Shr.sel sec coins ep t mn js) k) = Shr.line sec coins t k := by
  have eX : Shr.ptX (Shr.sel sec coins ep t mn js) = js.map UInt8.ofNat := by
    rw [Shr.ptX, Shr.sel, List.map_map]
    refine List.map_congr_left fun i _ => ?_
    show UInt8.ofNat ((i : Int).toNat) = _
    rw [Int.toNat_natCast]
  have eY : Shr.ptY (Shr.sel sec coins ep t mn js) k = js.map fun i => Fld.ev (Shr.line sec coins t k) (UInt8.ofNat i) := by
    rw [Shr.ptY, Shr.sel, List.map_map]
    refine List.map_congr_left fun i _ => ?_
    exact Shr.dat_getD sec coins t i k hk
  have hnd : (js.map UInt8.ofNat).Nodup := by
    rw [List.Nodup, List.pairwise_map]
    refine List.Pairwise.imp_of_mem ?_ hr
    intro a b ha hb' hab e
    have := Shr.ofNat_inj (by have := hb a ha; omega) (by have := hb b hb'; omega) e
    omega
  rw [eX, eY]
  refine ⟨decide_eq_true ⟨hnd, by simp⟩, ?_⟩
  have hll := Shr.line_len sec coins t k ht hc hk
  rw [Fld.coefs_unique _ _ (Shr.line sec coins t k) hnd (by simp; omega) (fun j hj => ?_)]
  · rw [List.length_map, hll, hl, Nat.sub_self]; simp
  · rw [List.length_map] at hj
    rw [List.getD_eq_getElem?_getD, List.getD_eq_getElem?_getD, List.getElem?_map, List.getElem?_map, List.getElem?_eq_getElem hj]
    rfl
theorem Shr.sel_joinV (is : List Nat) (hne : 0 < is.length) (hr : is.Pairwise (· < ·)) (hb : ∀ i, i ∈ is → i ≤ 8) (ht : 1 ≤ t) (hc : coins.length = sec.length * (t - 1)) (hl : t ≤ is.length) : Shr.joinV (Shr.sel sec coins ep t mn is) = sec := by
  have hd0 : (Shr.sel sec coins ep t mn is)[0]!.d.length = sec.length := by rw [Shr.sel_at sec coins ep t mn is 0 hne]; exact Shr.dat_len sec coins t _
  rw [Shr.joinV, hd0]
  refine Fld.ext_getD (by simp) fun k => ?_
  by_cases hk : k < sec.length
  · rw [List.getD_eq_getElem?_getD, List.getElem?_map, List.getElem?_range hk]
    show Shr.joinB _ k = _
    have e : (Shr.sel sec coins ep t mn is).take t = Shr.sel sec coins ep t mn (is.take t) := by rw [Shr.sel, Shr.sel, List.map_take]
    obtain ⟨hp, hco⟩ := Shr.sel_coefs sec coins ep t mn (is.take t) (hr.sublist (List.take_sublist _ _)) (fun i hi => hb i (List.mem_of_mem_take hi)) k hk ht hc (by rw [List.length_take]; omega)
    rw [Shr.joinB, Shr.sel_tt sec coins ep t mn is hne, e, Fld.thrV, if_pos hp, hco, Shr.line, Fld.ev_zero]
  · rw [Fld.getD_long _ _ (by simp; omega), Fld.getD_long _ _ (by omega)]
end
end Go.Proofs.Ytpijkjpefdlefaa
