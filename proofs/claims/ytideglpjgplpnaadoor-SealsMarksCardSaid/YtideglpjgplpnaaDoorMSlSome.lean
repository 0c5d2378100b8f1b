import Derived.Test.YtideglpjgplpnaaDoorMShW8
import Derived.Test.YtideglpjgplpnaaDoorMSlSP
/- Contract of 'some' of the statements about sealed bodies: the shares that a mask chooses. -/
namespace Go.Proofs.YtideglpjgplpnaaDoor
open Go.RowKit Go.Shelf
set_option linter.unusedVariables false

/-- the shares that a mask chooses among the first k -/
def Shr.pickN (l : List Shr.S) (m : UInt8) : Nat → List Shr.S
  | 0 => []
  | k + 1 => Shr.pickN l m k ++ (if m.toNat.testBit k = true then [l[k]!] else [])
def Shr.pick (l : List Shr.S) (m : UInt8) : List Shr.S := Shr.pickN l m l.length
/-- chosen shares are handed back -/
def Shr.RetO (w : World) (xs : List Shr.C) (l : List Shr.S) (e : Ending) (w' : World) : Prop := ∃ v ys, e = .returned v ∧ Shr.Own w' w.heap.size v ys.length ys ∧ Shr.vals ys = l ∧ (∀ y, y ∈ ys → y ∈ xs) ∧ Below w.heap.size w w'

set_option maxRecDepth 100000 in
set_option maxHeartbeats 1000000 in
theorem Sl.some_any (A : Option Addr) (n c : Nat) (m : UInt8) (xs : List Shr.C) (w : World) (hr : Shr.Rds w A n xs) (hn : n ≤ 8) (hlt : ∀ x, x ∈ xs → ∀ b off, x.A = some ⟨b, off, none⟩ → b < w.heap.size) :
    Calls Tryd.prog 17 #[.slice A n c, B8 m] w (Shr.RetO w xs (Shr.pick (Shr.vals xs) m)) := by
  have hmm : m.toNat < 256 := m.toNat_lt
  have HR := Lib.hid hr
  have HLT := Lib.hid hlt
  have HL := Lib.hid hr.len
  clear hr hlt
  go_enter Tryd.func17, Tryd.ntmps17
  go_wp2_with fail
  go_loopw [5, 9] (fun v i wr => ∃ (k : Nat) (ys : List Shr.C), k ≤ n ∧ i = .int .i64 k ∧ ys.length ≤ k ∧ Shr.Own wr w.heap.size v ys.length ys ∧ Shr.vals ys = Shr.pickN (Shr.vals xs) m k ∧ (∀ y, y ∈ ys → y ∈ xs) ∧ Below w.heap.size w wr) (fun _ i _ => n - (intOf i).toNat)
  case atStart => exact ⟨0, [], by omega, rfl, Nat.le_refl _, Shr.Own.nil _ _, rfl, fun _ h => by (cases h), Below.refl _ _⟩
  case round =>
    obtain ⟨k, ys, hk, rfl, hyl, hO, hv, hsub, hB⟩ := hrel
    have HO := Lib.hid hO
    have HV := Lib.hid hv
    have HSUB := Lib.hid hsub
    have HB := Lib.hid hB
    clear hO hv hsub hB
    by_cases hlt : k < n
    · obtain ⟨b, off, rfl, hbw, f0, f1, f2, f3, f4⟩ := (HR.out.keep HB.out).at k hlt
      have hk8 : k < 8 := by omega
      have hT := Fld.bit_test m k hk8
      rw [show (((2 ^ k : Nat) : Nat) : Int) = (2 : Int) ^ k by rw [Int.natCast_pow]; rfl] at hT
      have hmem : xs[k]! ∈ xs := by rw [getElem!_pos xs k (by rw [HL.out]; exact hlt)]; exact List.getElem_mem _
      have hvk := Shr.vals_at xs k (by rw [HL.out]; exact hlt)
      have HX := Lib.hid (show (xs[k]!).Ok wr ∧ Far (xs[k]!).A u5.ownBlock ∧ (∀ b off, (xs[k]!).A = some ⟨b, off, none⟩ → b < wr.heap.size) from ⟨(HR.out.mem k hlt).keep HB.out, fun b off e e2 => by have h1 := HLT.out _ hmem b off e; have h2 := own_ge HO.out.row e2.symm; omega, fun b off e => Nat.lt_of_lt_of_le (HLT.out _ hmem b off e) HB.out.size⟩)
      have HMEM := Lib.hid hmem
      cases ht : m.toNat.testBit k with
      | true =>
        have HP := Lib.hid (show Shr.pickN (Shr.vals xs) m (k + 1) = Shr.pickN (Shr.vals xs) m k ++ [(xs[k]!).s] by rw [Shr.pickN, if_pos ht, hvk])
        have hT2 := hT.trans ht
        clear hT ht hvk hmem
        generalize xs[k]! = x at f0 f1 f2 f3 f4 HX HMEM HP
        have HXC := Lib.hid (show x.cells = [.int .i64 x.s.ep, .int .i64 x.s.ix, .int .i64 x.s.th, .int .i64 x.s.mn, .slice x.A x.s.d.length x.c] from rfl)
        go_wp2_with (at_builtin; refine wpList_append_rd rfl _ _ rfl elS rfl (HO.out.row.alloc _) rfl (rd_new wr 43 5 [.int .i64 x.s.ep, .int .i64 x.s.ix, .int .i64 x.s.th, .int .i64 x.s.mn, .slice x.A x.s.d.length x.c] rfl) (by simp [Value.oneCell']) (fun h => by (cases h)) (by simp only [maxLen]; omega) (by omega) (by have := HB.out.size; simp; omega) ?_; intro v4 w4 hG; have HG := Lib.hid hG; clear hG)
        have HO4 := Lib.hid (HO.out.grow HX.out (by rw [HXC.out]; exact HG.out))
        have HB4 := Lib.hid ((HB.out.alloc HB.out.size (.cells #[.int .i64 x.s.ep, .int .i64 x.s.ix, .int .i64 x.s.th, .int .i64 x.s.mn, .slice x.A x.s.d.length x.c] 43)).grown HG.out.grown (by have := HB.out.size; simp; omega) (fun g e => own_ge HO.out.row e))
        have HV4 := Lib.hid (show Shr.vals (ys ++ [x]) = Shr.pickN (Shr.vals xs) m (k + 1) by rw [HP.out, ← HV.out, Shr.vals, List.map_append]; rfl)
        clear HG
        go_wp2_with fail
        go_roundw
        case rel => exact ⟨k + 1, ys ++ [x], by omega, by go_num, by simp; omega, by rw [List.length_append]; exact HO4.out, HV4.out, fun y hy => by (rcases List.mem_append.1 hy with h | h; exact HSUB.out y h; rw [List.mem_singleton] at h; subst h; exact HMEM.out), HB4.out⟩
        case measure => simp [intOf]; omega
      | false =>
        have HP := Lib.hid (show Shr.pickN (Shr.vals xs) m (k + 1) = Shr.pickN (Shr.vals xs) m k by rw [Shr.pickN, if_neg (by rw [ht]; decide), List.append_nil])
        have hT2 := hT.trans ht
        clear hT ht hvk hmem f0 f1 f2 f3 f4
        go_wp2_with fail
        go_roundw
        case rel => exact ⟨k + 1, ys, by omega, by go_num, by omega, HO.out, by rw [HP.out, HV.out], HSUB.out, HB.out⟩
        case measure => simp [intOf]; omega
    · obtain rfl : k = n := by omega
      go_wp2_with fail
      go_ret
      exact ⟨_, ys, rfl, HO.out, by rw [HV.out, Shr.pick, Shr.vals_len, HL.out], HSUB.out, HB.out⟩
end Go.Proofs.YtideglpjgplpnaaDoor
/- Plain mathematics: chosen shares of a split secret lead back to it. No condition; no program in sight. -/
namespace Go.Proofs.YtideglpjgplpnaaDoor

/-- share number i of a split secret -/
def Shr.mkS (sec coins : List UInt8) (ep : Int) (t mn i : Nat) : Shr.S := ⟨ep, (i : Int), (t : Int), (mn : Int), Shr.dat sec coins t i⟩
/-- the shares with these numbers -/
def Shr.sel (sec coins : List UInt8) (ep : Int) (t mn : Nat) (is : List Nat) : List Shr.S := is.map (Shr.mkS sec coins ep t mn)
/-- the numbers that a mask chooses -/
def Shr.ixs (m : UInt8) : Nat → List Nat
  | 0 => []
  | k + 1 => Shr.ixs m k ++ (if m.toNat.testBit k = true then [k + 1] else [])

section
variable (sec coins : List UInt8) (ep : Int) (t mn : Nat)
theorem Shr.spl_sel : Shr.spl sec ep t mn coins = Shr.sel sec coins ep t mn ((List.range mn).map (· + 1)) := by
  rw [Shr.spl, Shr.sel, List.map_map]
  rfl
theorem Shr.spl_at (k : Nat) (hk : k < mn) : (Shr.spl sec ep t mn coins)[k]! = Shr.mkS sec coins ep t mn (k + 1) := by
  rw [getElem!_pos _ k (by rw [Shr.spl_len]; exact hk)]
  simp [Shr.spl, Shr.mkS]
theorem Shr.pickN_sel (m : UInt8) : ∀ k, k ≤ mn → Shr.pickN (Shr.spl sec ep t mn coins) m k = Shr.sel sec coins ep t mn (Shr.ixs m k)
  | 0, _ => rfl
  | k + 1, h => by
    rw [Shr.pickN, Shr.pickN_sel m k (by omega), Shr.ixs, Shr.sel, Shr.sel, List.map_append, Shr.spl_at _ _ _ _ _ k (by omega)]
    congr 1
    split <;> rfl
theorem Shr.pick_sel (m : UInt8) : Shr.pick (Shr.spl sec ep t mn coins) m = Shr.sel sec coins ep t mn (Shr.ixs m mn) := by
  rw [Shr.pick, Shr.spl_len, Shr.pickN_sel _ _ _ _ _ _ mn (Nat.le_refl _)]
theorem Shr.ixs_mem (m : UInt8) : ∀ k, ∀ i, i ∈ Shr.ixs m k → 1 ≤ i ∧ i ≤ k
  | 0, i, h => by cases h
  | k + 1, i, h => by
    rw [Shr.ixs] at h
    rcases List.mem_append.1 h with h | h
    · have := Shr.ixs_mem m k i h; omega
    · split at h
      · rw [List.mem_singleton] at h; omega
      · cases h
theorem Shr.ixs_rise (m : UInt8) : ∀ k, (Shr.ixs m k).Pairwise (· < ·)
  | 0 => List.Pairwise.nil
  | k + 1 => by
    rw [Shr.ixs, List.pairwise_append]
    refine ⟨Shr.ixs_rise m k, ?_, fun a ha b hb => ?_⟩
    · split <;> simp
    · have := Shr.ixs_mem m k a ha
      split at hb
      · rw [List.mem_singleton] at hb; omega
      · cases hb
theorem Shr.sel_len (is : List Nat) : (Shr.sel sec coins ep t mn is).length = is.length := by simp [Shr.sel]
theorem Shr.sel_at (is : List Nat) (k : Nat) (hk : k < is.length) : (Shr.sel sec coins ep t mn is)[k]! = Shr.mkS sec coins ep t mn is[k] := by
  rw [getElem!_pos _ k (by rw [Shr.sel_len]; exact hk)]
  simp [Shr.sel]

/-- numbers in order: the shares are let by -/
theorem Shr.sel_chk (is : List Nat) (hne : 0 < is.length) (hr : is.Pairwise (· < ·)) (hb : ∀ i, i ∈ is → 1 ≤ i ∧ i ≤ mn) (h1 : 1 ≤ t) (h2 : t ≤ mn) (h3 : mn ≤ 8) (h4 : sec.length ≤ 64) (h5 : 0 ≤ ep) (h6 : ep ≤ 1048576) : Shr.chkE (Shr.sel sec coins ep t mn is) = 0 := by
  have hat := Shr.sel_at sec coins ep t mn is
  refine Shr.eps_yes _ (Shr.alike_yes _ (by rw [Shr.sel_len]; exact hne) ?_ fun k hk => ?_) fun k hk => ?_
  · rw [hat 0 hne]
    exact ⟨by show (1 : Int) ≤ t; omega, by show (t : Int) ≤ mn; omega, by show (mn : Int) ≤ 8; omega, by show (Shr.dat sec coins t _).length ≤ 64; rw [Shr.dat_len]; exact h4⟩
  · rw [Shr.sel_len] at hk
    have hk1 := hb is[k] (List.getElem_mem hk)
    unfold Shr.okAt
    rw [hat k hk, hat 0 hne]
    refine ⟨rfl, rfl, by show (Shr.dat _ _ _ _).length = (Shr.dat _ _ _ _).length; rw [Shr.dat_len, Shr.dat_len], ?_, by show ((is[k] : Nat) : Int) ≤ mn; omega⟩
    unfold Shr.last
    by_cases h0 : k = 0
    · rw [if_pos h0]; show (0 : Int) < (is[k] : Int); omega
    · rw [if_neg h0, hat (k - 1) (by omega)]
      have := (List.pairwise_iff_getElem.1 hr) (k - 1) k (by omega) hk (by omega)
      show ((is[k - 1] : Nat) : Int) < (is[k] : Int)
      omega
  · rw [Shr.sel_len] at hk
    unfold Shr.epAt
    rw [hat k hk, hat 0 hne]
    exact ⟨rfl, h5, h6⟩
/-- a number that does not rise: they are not -/
theorem Shr.sel_bad (is : List Nat) (k : Nat) (hk : k + 1 < is.length) (h : is[k + 1] ≤ is[k]) : Shr.chkE (Shr.sel sec coins ep t mn is) = 60 := by
  have hat := Shr.sel_at sec coins ep t mn is
  have : Shr.alikeB (Shr.sel sec coins ep t mn is) = false := Shr.alike_bad _ (k + 1) (by rw [Shr.sel_len]; exact hk) fun h2 => by
    have h3 := h2.2.2.2.1
    rw [Shr.last_succ, hat k (by omega), hat (k + 1) hk] at h3
    have h4 : ((is[k] : Nat) : Int) < (is[k + 1] : Int) := h3
    omega
  rw [Shr.chkE, this]
  rfl
theorem Shr.sel_join (is : List Nat) (hne : 0 < is.length) (hc : Shr.chkE (Shr.sel sec coins ep t mn is) = 0) : Shr.joinE (Shr.sel sec coins ep t mn is) = if is.length < t then 60 else 0 := by
  rw [Shr.joinE, if_neg (by simp [hc]), Shr.sel_len, Shr.sel_at sec coins ep t mn is 0 hne]
  show (if (is.length : Int) < (t : Int) then (60 : Int) else 0) = _
  by_cases h : is.length < t
  · rw [if_pos h, if_pos (by omega)]
  · rw [if_neg h, if_neg (by omega)]
theorem Shr.sel_tt (is : List Nat) (hne : 0 < is.length) : Shr.tt (Shr.sel sec coins ep t mn is) = t := by
  rw [Shr.tt, Shr.sel_at sec coins ep t mn is 0 hne]
  show (t : Int).toNat = t
  omega
theorem Shr.dat_getD (i k : Nat) (hk : k < sec.length) : (Shr.dat sec coins t i).getD k 0 = Fld.ev (Shr.line sec coins t k) (UInt8.ofNat i) := by
  rw [Shr.dat, List.getD_eq_getElem?_getD, List.getElem?_map, List.getElem?_range hk]
  rfl
theorem Fld.ev_zero (c : UInt8) (l : List UInt8) : Fld.ev (c :: l) 0 = c := by rw [Fld.ev, Fld.mul_zero_l, UInt8.xor_zero]
theorem Shr.ofNat_inj {a b : Nat} (ha : a < 256) (hb : b < 256) (h : UInt8.ofNat a = UInt8.ofNat b) : a = b := by
  have := congrArg UInt8.toNat h
  rwa [UInt8.toNat_ofNat', UInt8.toNat_ofNat', Nat.mod_eq_of_lt (by omega), Nat.mod_eq_of_lt (by omega)] at this
/-- through as many points of a line as it has coefficients goes the line alone -/
theorem Shr.sel_coefs (js : List Nat) (hr : js.Pairwise (· < ·)) (hb : ∀ i, i ∈ js → i ≤ 8) (k : Nat) (hk : k < sec.length) (ht : 1 ≤ t) (hc : coins.length = sec.length * (t - 1)) (hl : js.length = t) :
    Fld.ptsB (Shr.ptX (Shr.sel sec coins ep t mn js)) (Shr.ptY (Shr.sel sec coins ep t mn js) k) = true ∧ Fld.coefs (Shr.ptX (Shr.sel sec coins ep t mn js)) (Shr.ptY (Shr.sel sec coins ep t mn js) k) = Shr.line sec coins t k := by
  have eX : Shr.ptX (Shr.sel sec coins ep t mn js) = js.map UInt8.ofNat := by
    rw [Shr.ptX, Shr.sel, List.map_map]
    refine List.map_congr_left fun i _ => ?_
    show UInt8.ofNat ((i : Int).toNat) = _
    rw [Int.toNat_natCast]
  have eY : Shr.ptY (Shr.sel sec coins ep t mn js) k = js.map fun i => Fld.ev (Shr.line sec coins t k) (UInt8.ofNat i) := by
    rw [Shr.ptY, Shr.sel, List.map_map]
    refine List.map_congr_left fun i _ => ?_
    exact Shr.dat_getD sec coins t i k hk
  have hnd : (js.map UInt8.ofNat).Nodup := by
    rw [List.Nodup, List.pairwise_map]
    refine List.Pairwise.imp_of_mem ?_ hr
    intro a b ha hb' hab e
    have := Shr.ofNat_inj (by have := hb a ha; omega) (by have := hb b hb'; omega) e
    omega
  rw [eX, eY]
  refine ⟨decide_eq_true ⟨hnd, by simp⟩, ?_⟩
  have hll := Shr.line_len sec coins t k ht hc hk
  rw [Fld.coefs_unique _ _ (Shr.line sec coins t k) hnd (by simp; omega) (fun j hj => ?_)]
  · rw [List.length_map, hll, hl, Nat.sub_self]; simp
  · rw [List.length_map] at hj
    rw [List.getD_eq_getElem?_getD, List.getD_eq_getElem?_getD, List.getElem?_map, List.getElem?_map, List.getElem?_eq_getElem hj]
    rfl
theorem Shr.sel_joinV (is : List Nat) (hne : 0 < is.length) (hr : is.Pairwise (· < ·)) (hb : ∀ i, i ∈ is → i ≤ 8) (ht : 1 ≤ t) (hc : coins.length = sec.length * (t - 1)) (hl : t ≤ is.length) : Shr.joinV (Shr.sel sec coins ep t mn is) = sec := by
  have hd0 : (Shr.sel sec coins ep t mn is)[0]!.d.length = sec.length := by rw [Shr.sel_at sec coins ep t mn is 0 hne]; exact Shr.dat_len sec coins t _
  rw [Shr.joinV, hd0]
  refine Fld.ext_getD (by simp) fun k => ?_
  by_cases hk : k < sec.length
  · rw [List.getD_eq_getElem?_getD, List.getElem?_map, List.getElem?_range hk]
    show Shr.joinB _ k = _
    have e : (Shr.sel sec coins ep t mn is).take t = Shr.sel sec coins ep t mn (is.take t) := by rw [Shr.sel, Shr.sel, List.map_take]
    obtain ⟨hp, hco⟩ := Shr.sel_coefs sec coins ep t mn (is.take t) (hr.sublist (List.take_sublist _ _)) (fun i hi => hb i (List.mem_of_mem_take hi)) k hk ht hc (by rw [List.length_take]; omega)
    rw [Shr.joinB, Shr.sel_tt sec coins ep t mn is hne, e, Fld.thrV, if_pos hp, hco, Shr.line, Fld.ev_zero]
  · rw [Fld.getD_long _ _ (by simp; omega), Fld.getD_long _ _ (by omega)]
end
end Go.Proofs.YtideglpjgplpnaaDoor
/- Plain mathematics: fewer shares are explained by every secret. No condition; no program in sight. -/
namespace Go.Proofs.YtideglpjgplpnaaDoor

theorem List_getD_append_left (l m : List UInt8) (j : Nat) (h : j < l.length) : (l ++ m).getD j 0 = l.getD j 0 := by
  rw [List.getD_eq_getElem?_getD, List.getD_eq_getElem?_getD, List.getElem?_append_left h]
/-- the polynomial with which a byte is explained: its value at 0, and at the shares -/
theorem Shr.exC_vals (l : List Shr.S) (hg : Shr.Good l) (t k : Nat) (y : UInt8) (hlt : l.length < t) (ht : t ≤ 8) : Fld.ev (Shr.exC l t k y) 0 = y ∧ ∀ j, j < l.length → Fld.ev (Shr.exC l t k y) l[j]!.bx = l[j]!.d.getD k 0 := by
  have hnd := hg.exX_nodup (t - l.length - 1) (by omega)
  have hv := Fld.coefs_vals (Shr.exX l (t - l.length - 1)) (Shr.exY l k y (t - l.length - 1)) hnd
  have hxl : (Shr.ptX l).length = l.length := by simp [Shr.ptX]
  have hyl : (Shr.ptY l k).length = l.length := by simp [Shr.ptY]
  constructor
  · have h := hv l.length (by rw [Shr.exX_len]; omega)
    have e1 : (Shr.exX l (t - l.length - 1)).getD l.length 0 = 0 := by
      rw [Shr.exX, List_getD_append_left _ _ _ (by simp [hxl]), List.getD_eq_getElem?_getD, List.getElem?_append_right (by omega), hxl, Nat.sub_self]
      rfl
    have e2 : (Shr.exY l k y (t - l.length - 1)).getD l.length 0 = y := by
      rw [Shr.exY, List_getD_append_left _ _ _ (by simp [hyl]), List.getD_eq_getElem?_getD, List.getElem?_append_right (by omega), hyl, Nat.sub_self]
      rfl
    rw [e1, e2] at h
    exact h
  · intro j hj
    have h := hv j (by rw [Shr.exX_len]; omega)
    have e1 : (Shr.exX l (t - l.length - 1)).getD j 0 = l[j]!.bx := by
      rw [Shr.exX, List.append_assoc, List_getD_append_left _ _ _ (by omega), List.getD_eq_getElem?_getD, List.getElem?_eq_getElem (by omega), Option.getD_some, Shr.ptX_at]
    have e2 : (Shr.exY l k y (t - l.length - 1)).getD j 0 = l[j]!.d.getD k 0 := by
      rw [Shr.exY, List.append_assoc, List_getD_append_left _ _ _ (by omega), Shr.ptY, List.getD_eq_getElem?_getD, List.getElem?_map, List.getElem?_eq_getElem hj, getElem!_pos l j hj]
      rfl
    rw [e1, e2] at h
    exact h
theorem Fld.cons_of_zero (l : List UInt8) (y : UInt8) (h : 0 < l.length) (hv : Fld.ev l 0 = y) : y :: l.drop 1 = l := by
  cases l with
  | nil => simp at h
  | cons c l => rw [Fld.ev_zero] at hv; rw [hv]; rfl
/-- the coins of byte number k -/
theorem Shr.exV_part (l : List Shr.S) (t : Nat) (sec : List UInt8) (h : l.length < t) (n : Nat) : ∀ m k, k < m → m ≤ n → ((Shr.exV l t sec m).drop (k * (t - 1))).take (t - 1) = (Shr.exC l t k (sec.getD k 0)).drop 1
  | 0, k, hk, _ => absurd hk (by omega)
  | m + 1, k, hk, hm => by
    have hl := Shr.exV_len l t sec h m
    have hc : ((Shr.exC l t m (sec.getD m 0)).drop 1).length = t - 1 := by rw [List.length_drop, Shr.exC_len l t m _ h]
    rw [Shr.exV_succ]
    by_cases hkm : k = m
    · subst hkm
      rw [List.drop_append_of_le_length (by omega), List.drop_of_length_le (by omega), List.nil_append, List.take_of_length_le (by omega)]
    · have h1 : (k + 1) * (t - 1) ≤ m * (t - 1) := Nat.mul_le_mul (by omega) (Nat.le_refl _)
      rw [Nat.add_mul, Nat.one_mul] at h1
      rw [List.drop_append_of_le_length (by omega), List.take_append_of_le_length (by rw [List.length_drop]; omega)]
      exact Shr.exV_part l t sec h n m k (by omega) (by omega)
theorem Shr.line_expl (l : List Shr.S) (hg : Shr.Good l) (t : Nat) (sec : List UInt8) (hlt : l.length < t) (ht : t ≤ 8) (k : Nat) (hk : k < sec.length) : Shr.line sec (Shr.exV l t sec sec.length) t k = Shr.exC l t k (sec.getD k 0) := by
  rw [Shr.line, Shr.exV_part l t sec hlt sec.length sec.length k hk (Nat.le_refl _)]
  exact Fld.cons_of_zero _ _ (by rw [Shr.exC_len l t k _ hlt]; omega) (Shr.exC_vals l hg t k _ hlt ht).1
/-- a share that is explained is a share of the other secret -/
theorem Shr.dat_expl (l : List Shr.S) (hg : Shr.Good l) (t : Nat) (sec : List UInt8) (hlt : l.length < t) (ht : t ≤ 8) (hd : l[0]!.d.length = sec.length) (j : Nat) (hj : j < l.length) (i : Nat) (hi : l[j]!.ix = (i : Int)) : Shr.dat sec (Shr.exV l t sec sec.length) t i = l[j]!.d := by
  have hdj := hg.len_at j hj
  have hbx : l[j]!.bx = UInt8.ofNat i := by rw [Shr.S.bx, hi, Int.toNat_natCast]
  refine Fld.ext_getD (by rw [Shr.dat_len, hdj, hd]) fun k => ?_
  by_cases hk : k < sec.length
  · rw [Shr.dat_getD _ _ _ _ _ hk, Shr.line_expl l hg t sec hlt ht k hk, ← hbx, (Shr.exC_vals l hg t k _ hlt ht).2 j hj]
  · rw [Fld.getD_long _ _ (by rw [Shr.dat_len]; omega), Fld.getD_long _ _ (by omega)]
/-- the chosen shares of the other secret are the same -/
theorem Shr.sel_expl (sec coins other : List UInt8) (ep : Int) (t mn : Nat) (is : List Nat) (hne : 0 < is.length) (hg : Shr.Good (Shr.sel sec coins ep t mn is)) (hlt : is.length < t) (ht : t ≤ 8) (hl : other.length = sec.length) :
    Shr.sel other (Shr.exV (Shr.sel sec coins ep t mn is) t other other.length) ep t mn is = Shr.sel sec coins ep t mn is := by
  have hsl := Shr.sel_len sec coins ep t mn is
  have hat := Shr.sel_at sec coins ep t mn is
  have hkey : ∀ j (hj : j < is.length), Shr.dat other (Shr.exV (Shr.sel sec coins ep t mn is) t other other.length) t is[j] = Shr.dat sec coins t is[j] := fun j hj => by
    have h := Shr.dat_expl _ hg t other (by rw [hsl]; exact hlt) ht (by rw [hat 0 hne, hl]; exact Shr.dat_len _ _ _ _) j (by rw [hsl]; exact hj) is[j] (by rw [hat j hj]; rfl)
    rw [h, hat j hj]
    rfl
  refine List.ext_getElem (by simp [Shr.sel]) fun j h1 h2 => ?_
  have hj : j < is.length := by simpa [Shr.sel] using h1
  simp only [Shr.sel, List.getElem_map, Shr.mkS] at *
  rw [hkey j hj]
end Go.Proofs.YtideglpjgplpnaaDoor
/- Plain laws of sealings: enough of the shares open the body; fewer explain every other body. No condition; no program in sight. -/
namespace Go.Proofs.YtideglpjgplpnaaDoor
open Go.RowKit Go.Shelf
set_option linter.unusedVariables false
set_option linter.unusedSectionVars false

theorem Sl.mem_pickN (l : List Shr.S) (m : UInt8) : ∀ k, k ≤ l.length → ∀ x, x ∈ Shr.pickN l m k → x ∈ l
  | 0, _, x, h => by cases h
  | k + 1, hk, x, h => by
    rw [Shr.pickN, List.mem_append] at h
    rcases h with h | h
    · exact Sl.mem_pickN l m k (by omega) x h
    · split at h
      · rw [List.mem_singleton] at h
        subst h
        rw [getElem!_pos l k (by omega)]
        exact List.getElem_mem _
      · cases h
theorem Sl.mem_pick {l : List Shr.S} {m : UInt8} {x : Shr.S} (h : x ∈ Shr.pick l m) : x ∈ l := Sl.mem_pickN l m _ (Nat.le_refl _) x h
theorem Sl.pick_alt (body key coins : List UInt8) (t m : Nat) (mask : UInt8) : Sl.alt (Sl.selW body key t m coins) (Shr.pick (Sl.selS key t m coins) mask) = [] :=
  Sl.alt_none fun x hx => Sl.sel_bad (Sl.mem_pick hx)
theorem Sl.pk_sel (key coins : List UInt8) (t m : Nat) (mask : UInt8) : Shr.pick (Sl.selS key t m coins) mask = Shr.sel key coins 0 t m (Shr.ixs mask m) := Shr.pick_sel key coins 0 t m mask
/-- what a sealing was made of -/
structure Sl.Mk (body key coins : List UInt8) (t m : Nat) : Prop where
  b1 : 1 ≤ body.length
  b64 : body.length ≤ 64
  k : key.length = body.length
  t1 : 1 ≤ t
  tm : t ≤ m
  m8 : m ≤ 8
  c : coins.length = body.length * (t - 1)
section
variable {body key coins : List UInt8} {t m : Nat} (h : Sl.Mk body key coins t m) (mask : UInt8)
include h
theorem Sl.Mk.ok : Sl.chk (Sl.selW body key t m coins) = 0 := Sl.sel_good body key t m coins h.b1 h.b64 h.t1 h.tm h.m8
theorem Sl.Mk.dl : (Sl.selW body key t m coins).d.length = body.length := Sl.xorl_len _ _
theorem Sl.Mk.chk (hne : 0 < (Shr.ixs mask m).length) : Shr.chkE (Shr.sel key coins 0 t m (Shr.ixs mask m)) = 0 :=
  Shr.sel_chk key coins 0 t m _ hne (Shr.ixs_rise mask m) (Shr.ixs_mem mask m) h.t1 h.tm h.m8 (by have := h.k; have := h.b64; omega) (by decide) (by decide)
theorem Sl.Mk.d0 (hne : 0 < (Shr.ixs mask m).length) : (Shr.sel key coins 0 t m (Shr.ixs mask m))[0]!.d.length = body.length := by
  rw [Shr.sel_at key coins 0 t m _ 0 hne, ← h.k]
  exact Shr.dat_len key coins t _
theorem Sl.Mk.join (hne : 0 < (Shr.ixs mask m).length) : Shr.joinE (Shr.sel key coins 0 t m (Shr.ixs mask m)) = if (Shr.ixs mask m).length < t then 60 else 0 :=
  Shr.sel_join key coins 0 t m _ hne (h.chk mask hne)
/-- enough shares open the body -/
theorem Sl.Mk.opn (hp : t ≤ (Shr.pick (Sl.selS key t m coins) mask).length) : Sl.opnE (Sl.selW body key t m coins) (Shr.pick (Sl.selS key t m coins) mask) = 0 ∧ Sl.opnV (Sl.selW body key t m coins) (Shr.pick (Sl.selS key t m coins) mask) = body := by
  have ha := Sl.pick_alt body key coins t m mask
  rw [Sl.pk_sel] at hp ha ⊢
  rw [Shr.sel_len] at hp
  have ht := h.t1
  have hne : 0 < (Shr.ixs mask m).length := by omega
  have hj := h.join mask hne
  rw [if_neg (by omega)] at hj
  have hv : Shr.joinV (Shr.sel key coins 0 t m (Shr.ixs mask m)) = key := Shr.sel_joinV key coins 0 t m _ hne (Shr.ixs_rise mask m) (fun i hi => by have := (Shr.ixs_mem mask m i hi).2; have := h.m8; omega) ht (by rw [h.c, h.k]) hp
  have hx : Sl.xorl (Sl.selW body key t m coins).d key = body := Sl.xorl_self body key h.k.symm
  have he : Sl.opnE (Sl.selW body key t m coins) (Shr.sel key coins 0 t m (Shr.ixs mask m)) = 0 := by
    unfold Sl.opnE
    rw [if_neg (by rw [h.ok]; simp), if_neg (by rw [ha]; simp), if_neg (by rw [hj]; simp), if_neg (by rw [h.d0 mask hne, h.dl]; simp), if_neg (by rw [hv, hx]; exact fun e => e rfl)]
  exact ⟨he, by unfold Sl.opnV; rw [he, if_pos rfl, hv, hx]⟩
/-- fewer do not -/
theorem Sl.Mk.few (hp : (Shr.pick (Sl.selS key t m coins) mask).length < t) : Sl.opnE (Sl.selW body key t m coins) (Shr.pick (Sl.selS key t m coins) mask) = 60 := by
  have ha := Sl.pick_alt body key coins t m mask
  rw [Sl.pk_sel] at hp ha ⊢
  rw [Shr.sel_len] at hp
  have hj : Shr.joinE (Shr.sel key coins 0 t m (Shr.ixs mask m)) = 60 := by
    by_cases hne : 0 < (Shr.ixs mask m).length
    · rw [h.join mask hne, if_pos hp]
    · rw [List.length_eq_zero_iff.1 (show (Shr.ixs mask m).length = 0 by omega)]
      rfl
  unfold Sl.opnE
  rw [if_neg (by rw [h.ok]; simp), if_neg (by rw [ha]; simp), if_pos (by rw [hj]; decide), hj]
theorem Sl.Mk.twin_no (hp : t ≤ (Shr.pick (Sl.selS key t m coins) mask).length) : Sl.twE (Sl.selW body key t m coins) (Shr.pick (Sl.selS key t m coins) mask) body.length = 60 := by
  rw [Sl.pk_sel] at hp ⊢
  rw [Shr.sel_len] at hp
  have ht := h.t1
  have hne : 0 < (Shr.ixs mask m).length := by omega
  have hx : Shr.explE (Shr.sel key coins 0 t m (Shr.ixs mask m)) body.length = 60 := by
    unfold Shr.explE
    rw [if_neg (by rw [h.chk mask hne]; simp), if_pos ?_]
    rw [Shr.sel_len, Shr.sel_at key coins 0 t m _ 0 hne]
    show (t : Int) ≤ _
    omega
  unfold Sl.twE
  rw [if_neg (by rw [h.ok]; simp), if_neg (by rw [h.dl]; simp), hx]
/-- the key and the coins of another body -/
def Sl.tk (body key other : List UInt8) : List UInt8 := Sl.xorl (Sl.xorl body key) other
theorem Sl.Mk.twin_yes {other : List UInt8} (ho : other.length = body.length) (hp : (Shr.pick (Sl.selS key t m coins) mask).length < t) (h0 : 0 < (Shr.pick (Sl.selS key t m coins) mask).length) :
    Sl.twE (Sl.selW body key t m coins) (Shr.pick (Sl.selS key t m coins) mask) other.length = 0 ∧ Sl.twK (Sl.selW body key t m coins) (Shr.pick (Sl.selS key t m coins) mask) other = Sl.tk body key other ∧
    (Sl.twC (Sl.selW body key t m coins) (Shr.pick (Sl.selS key t m coins) mask) other).length = other.length * (t - 1) ∧
    Shr.pick (Sl.selS (Sl.tk body key other) t m (Sl.twC (Sl.selW body key t m coins) (Shr.pick (Sl.selS key t m coins) mask) other)) mask = Shr.pick (Sl.selS key t m coins) mask := by
  have e1 := Sl.pk_sel key coins t m mask
  rw [Sl.pk_sel (Sl.tk body key other), e1]
  rw [e1, Shr.sel_len] at hp h0
  have hx : Shr.explE (Shr.sel key coins 0 t m (Shr.ixs mask m)) other.length = 0 := by
    unfold Shr.explE
    rw [if_neg (by rw [h.chk mask h0]; simp), if_neg ?_, if_neg (by rw [h.d0 mask h0, ho]; simp)]
    rw [Shr.sel_len, Shr.sel_at key coins 0 t m _ 0 h0]
    show ¬ ((t : Int) ≤ _)
    omega
  have he : Sl.twE (Sl.selW body key t m coins) (Shr.sel key coins 0 t m (Shr.ixs mask m)) other.length = 0 := by
    unfold Sl.twE
    rw [if_neg (by rw [h.ok]; simp), if_neg (by rw [h.dl]; omega), hx]
  have hk : Sl.twK (Sl.selW body key t m coins) (Shr.sel key coins 0 t m (Shr.ixs mask m)) other = Sl.tk body key other := by
    unfold Sl.twK
    rw [he, if_pos rfl]
    rfl
  have hkl : (Sl.tk body key other).length = body.length := by rw [Sl.tk, Sl.xorl_len, Sl.xorl_len]
  have hc : Sl.twC (Sl.selW body key t m coins) (Shr.sel key coins 0 t m (Shr.ixs mask m)) other = Shr.exV (Shr.sel key coins 0 t m (Shr.ixs mask m)) t (Sl.tk body key other) (Sl.tk body key other).length := by
    unfold Sl.twC
    rw [he, if_pos rfl]
    show Shr.exV _ (Shr.tt _) (Sl.tk body key other) (Sl.tk body key other).length = _
    rw [Shr.sel_tt key coins 0 t m _ h0]
  refine ⟨he, hk, ?_, ?_⟩
  · rw [hc, Shr.exV_len _ _ _ (by rw [Shr.sel_len]; exact hp), hkl, ho]
  · rw [hc]
    exact Shr.sel_expl key coins (Sl.tk body key other) 0 t m _ h0 (Shr.good _ (h.chk mask h0)) hp (by have := h.tm; have := h.m8; omega) (by rw [hkl, h.k])
theorem Sl.xorl_getD (a b : List UInt8) (i : Nat) (hi : i < a.length) : (Sl.xorl a b).getD i 0 = a.getD i 0 ^^^ b.getD i 0 := by
  rw [List.getD_eq_getElem?_getD, List.getElem?_eq_getElem (by rw [Sl.xorl_len]; exact hi)]
  simp [Sl.xorl]
omit h in
theorem Sl.tk_data (body key other : List UInt8) (ho : other.length = body.length) (hk : key.length = body.length) : Sl.xorl other (Sl.tk body key other) = Sl.xorl body key := by
  apply List.ext_getElem
  · rw [Sl.xorl_len, Sl.xorl_len, ho]
  · intro i h1 h2
    rw [Sl.xorl_len] at h1 h2
    have e1 : ∀ (l : List UInt8) (hl : i < l.length), l[i] = l.getD i 0 := fun l hl => by rw [List.getD_eq_getElem?_getD, List.getElem?_eq_getElem hl]; rfl
    rw [e1, e1]
    have a1 : (Sl.xorl other (Sl.tk body key other)).getD i 0 = other.getD i 0 ^^^ (Sl.tk body key other).getD i 0 := by
      rw [List.getD_eq_getElem?_getD, List.getElem?_eq_getElem (by rw [Sl.xorl_len]; exact h1)]
      simp [Sl.xorl]
    have a2 : (Sl.tk body key other).getD i 0 = (Sl.xorl body key).getD i 0 ^^^ other.getD i 0 := by
      rw [Sl.tk, List.getD_eq_getElem?_getD, List.getElem?_eq_getElem (by rw [Sl.xorl_len, Sl.xorl_len]; exact h2)]
      simp [Sl.xorl]
    rw [a1, a2, UInt8.xor_comm ((Sl.xorl body key).getD i 0), ← UInt8.xor_assoc, UInt8.xor_self, UInt8.zero_xor]
end
/-- a chosen share's number, and its marks in two sealings that share it -/
theorem Sl.pick_marks {key coins key2 coins2 body body2 : List UInt8} {t m : Nat} {mask : UInt8} (he : Shr.pick (Sl.selS key2 t m coins2) mask = Shr.pick (Sl.selS key t m coins) mask) {x : Shr.S} (hx : x ∈ Shr.pick (Sl.selS key t m coins) mask) :
    1 ≤ x.ix ∧ x.ix ≤ m ∧ (Sl.selW body key t m coins).ms.getD (x.ix - 1).toNat [] = (Sl.selW body2 key2 t m coins2).ms.getD (x.ix - 1).toNat [] := by
  rw [Sl.pk_sel, Sl.pk_sel] at he
  rw [Sl.pk_sel] at hx
  obtain ⟨i, hi, rfl⟩ := List.mem_map.1 hx
  obtain ⟨i1, i2⟩ := Shr.ixs_mem mask m i hi
  have hme : Shr.mkS key2 coins2 0 t m i = Shr.mkS key coins 0 t m i := by
    unfold Shr.sel at he
    exact List.map_inj_left.1 he i hi
  have hm : ∀ (body key coins : List UInt8), (Sl.selW body key t m coins).ms.getD (i - 1) [] = Sl.mark (Shr.mkS key coins 0 t m i) := fun body key coins => by
    show ((Sl.selS key t m coins).map Sl.mark).getD (i - 1) [] = _
    have h1 := Shr.spl_at key coins 0 t m (i - 1) (by omega)
    have hl : i - 1 < (Shr.spl key 0 t m coins).length := by rw [Shr.spl_len]; omega
    rw [getElem!_pos (Shr.spl key 0 t m coins) (i - 1) hl, show i - 1 + 1 = i by omega] at h1
    rw [List.getD_eq_getElem?_getD, List.getElem?_map]
    show ((Shr.spl key 0 t m coins)[i - 1]?.map Sl.mark).getD [] = _
    rw [List.getElem?_eq_getElem hl, h1]
    rfl
  have hix : (Shr.mkS key coins 0 t m i).ix = (i : Int) := rfl
  rw [hix, show ((i : Int) - 1).toNat = i - 1 by omega, hm, hm, hme]
  exact ⟨by omega, by omega, rfl⟩
end Go.Proofs.YtideglpjgplpnaaDoor
