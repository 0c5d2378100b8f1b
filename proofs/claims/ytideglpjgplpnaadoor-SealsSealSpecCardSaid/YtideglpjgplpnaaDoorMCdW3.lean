import Derived.BigQuiet
import Derived.Deep.CutRange
import Derived.Test.YtideglpjgplpnaaDoorMCdW1
/- Contracts of codec.formed and codec.Check. -/
namespace Go.Proofs.YtideglpjgplpnaaDoor
open Go.RowKit
set_option linter.unusedVariables false

/-- what formed answers -/
def Cd.fdD (t : Cd.T) : Int := match t.fd with | some d => (d : Int) | none => 0
def Cd.fdB (t : Cd.T) : Bool := t.fd.isSome
/-- what Check answers -/
def Cd.chkE (t : Cd.T) : Int := match t.fd with | none => 1 | some d => if 16 < d then 2 else 0
theorem Cd.fd_eq (k n : Int) (s : List UInt8) (l : List Cd.T) : (Cd.T.mk k n s l).fd = if k = 1 then (if (s.isEmpty && ((l.length : Int) == 0)) = true then some 0 else none) else if k = 2 then (if ((n == 0) && ((l.length : Int) == 0)) = true then some 0 else none) else if k = 3 then (if ((n == 0) && s.isEmpty) = true then (Cd.T.fds l).map (· + 1) else none) else none := by
  have h1 : (s.isEmpty = true) = (s = []) := by cases s <;> simp
  have h2 : (((l.length : Int) == 0) = true) = (l = []) := by cases l <;> simp; omega
  have h3 : ((n == 0) = true) = (n = 0) := by simp
  rw [Cd.T.fd]
  simp only [Bool.and_eq_true, h1, h2, h3]
theorem Cd.T.hgts_take : ∀ (l : List Cd.T) (j : Nat), Cd.T.hgts (l.take j) ≤ Cd.T.hgts l
  | [], j => by rw [List.take_nil]; exact Nat.le_refl _
  | x :: l, 0 => Nat.zero_le _
  | x :: l, j + 1 => by
    rw [List.take_succ_cons, Cd.T.hgts, Cd.T.hgts]
    have := Cd.T.hgts_take l j
    omega
theorem below_two (w : World) (o1 o2 : Obj) : Below w.heap.size w ((w.alloc o1).alloc o2) := ((Below.refl _ _).alloc (Nat.le_refl _) _).alloc (by simp) _
theorem flat4 : ∀ (xss : List (List Value)), (∀ xs ∈ xss, xs.length = 4) → ∀ (i j : Nat), j < 4 → xss.flatten[i * 4 + j]? = (xss[i]?).bind (·[j]?)
  | [], _, i, j, _ => by simp
  | xs :: xss, h, 0, j, hj => by
    have hl := h xs (List.mem_cons_self ..)
    rw [List.flatten_cons, Nat.zero_mul, Nat.zero_add, List.getElem?_append_left (by omega)]
    rfl
  | xs :: xss, h, i + 1, j, hj => by
    have hl := h xs (List.mem_cons_self ..)
    rw [List.flatten_cons, List.getElem?_append_right (by omega), hl, show (i + 1) * 4 + j - 4 = i * 4 + j by omega, flat4 xss (fun ys hy => h ys (List.mem_cons_of_mem _ hy)) i j hj]
    rfl
/-- the four cells of element number i -/
theorem Cd.cell4 {w : World} {A : Option Addr} {l : List Cd.T} {xss : List (List Value)} (hl : xss.length = l.length) (hx : ∀ i, i < l.length → Cd.Cell w l[i]! xss[i]!) (hr : Rd w w.heap.size 4 A l.length xss.flatten) (i : Nat) (hi : i < l.length) :
    ∃ b off v0 v1 v2 Av nv cv, A = some ⟨b, off, none⟩ ∧ b < w.heap.size ∧ xss[i]! = [.int .i64 v0, .int .i64 v1, .string v2, .slice Av nv cv] ∧ w.cell? ⟨b, off + i * 4, none⟩ = some (.int .i64 v0) ∧ w.cell? ⟨b, off + i * 4 + 1, none⟩ = some (.int .i64 v1) ∧ w.cell? ⟨b, off + i * 4 + 2, none⟩ = some (.string v2) ∧ w.cell? ⟨b, off + i * 4 + 3, none⟩ = some (.slice Av nv cv) := by
  obtain ⟨b, off, e, hb, hc⟩ := hr.2 (by omega)
  have h4 := (hx i hi).len
  have hi2 : i < xss.length := by omega
  obtain ⟨v0, v1, v2, Av, nv, cv, hv⟩ : ∃ v0 v1 v2 Av nv cv, xss[i]! = [.int .i64 v0, .int .i64 v1, .string v2, .slice Av nv cv] := by
    have h := hx i hi
    generalize xss[i]! = cs at h
    generalize l[i]! = t at h
    cases h
    exact ⟨_, _, _, _, _, _, rfl⟩
  have key : ∀ j, j < 4 → xss.flatten[i * 4 + j]? = [.int .i64 v0, .int .i64 v1, .string v2, .slice Av nv cv][j]? := fun j hj => by
    have hall : ∀ xs ∈ xss, xs.length = 4 := fun xs hxs => by
      obtain ⟨m, hm, rfl⟩ := List.getElem_of_mem hxs
      have := (hx m (by omega)).len
      rwa [getElem!_pos xss m hm] at this
    have h := flat4 xss hall i j hj
    rw [h, List.getElem?_eq_getElem hi2, ← hv, getElem!_pos xss i hi2]
    rfl
  refine ⟨b, off, v0, v1, v2, Av, nv, cv, e, hb, hv, ?_, ?_, ?_, ?_⟩
  · exact hc (i * 4 + 0) (.int .i64 v0) (key 0 (by omega))
  · exact hc (i * 4 + 1) (.int .i64 v1) (key 1 (by omega))
  · exact hc (i * 4 + 2) (.string v2) (key 2 (by omega))
  · exact hc (i * 4 + 3) (.slice Av nv cv) (key 3 (by omega))

set_option maxRecDepth 100000 in
set_option maxHeartbeats 8000000 in
theorem Cd.formed_step (h : Nat) (IH0 : ∀ (t : Cd.T) (cs : List Value) (w : World), t.hgt ≤ h → h ≤ 1000000 → Cd.Cell w t cs → Calls Tryd.prog 95 #[.agg cs.toArray] w fun e w' => e = .returned (.tuple #[.int .i64 (Cd.fdD t), .bool (Cd.fdB t)]) ∧ Below w.heap.size w w')
    (t : Cd.T) (cs : List Value) (w : World) (hh : t.hgt ≤ h + 1) (hb : h + 1 ≤ 1000000) (hc : Cd.Cell w t cs) :
    Calls Tryd.prog 95 #[.agg cs.toArray] w fun e w' => e = .returned (.tuple #[.int .i64 (Cd.fdD t), .bool (Cd.fdB t)]) ∧ Below w.heap.size w w' := by
    have IH := Lib.hid (fun t cs w h1 h2 => IH0 t cs w h1 (by omega) h2)
    clear IH0
    cases hc with
    | mk k n s l A c xss hl hx hr hn hm hs =>
    rw [Cd.T.hgt] at hh
    have HFD := Lib.hid (Cd.fd_eq k n s l)
    have HX := Lib.hid hx
    have HR := Lib.hid hr
    have HLX := Lib.hid hl
    have HHG := Lib.hid hh
    clear hx hr hl hn hs hh
    unfold maxLen at hm
    go_enter Tryd.func95, Tryd.ntmps95
    go_upto_region 1 with fail
    go_cut [4] from 9 to 35 (fun s4 wx => s4 = .pointer (some ⟨w.heap.size + 1, 0, none⟩) ∧ wx = ((w.alloc (.cells #[.int .i64 k, .int .i64 n, .string ⟨s.toArray⟩, .slice A l.length c] 77)).alloc (.cells #[.bool false, .bool (s.isEmpty && ((l.length : Int) == 0)), .bool ((n == 0) && ((l.length : Int) == 0)), .bool ((n == 0) && s.isEmpty)] 141)))
    case first =>
      cases bs : s.isEmpty <;> cases bn : (n == 0) <;> cases bl : ((l.length : Int) == 0) <;> (
        go_wp2_with fail
        go_meet
        exact ⟨rfl, by rw [bs, bn, bl]; rfl⟩)
    case rest =>
      obtain ⟨rfl, rfl⟩ := hcut
      generalize (s.isEmpty && ((l.length : Int) == 0)) = u1 at HFD ⊢
      generalize ((n == 0) && ((l.length : Int) == 0)) = u2 at HFD ⊢
      generalize ((n == 0) && s.isEmpty) = u3 at HFD ⊢
      by_cases k1 : k = 1
      · subst k1
        cases u1 with
        | true =>
          have HV := Lib.hid (show Cd.fdD (.mk 1 n s l) = 0 ∧ Cd.fdB (.mk 1 n s l) = true by unfold Cd.fdD Cd.fdB; rw [HFD.out]; exact ⟨rfl, rfl⟩)
          go_wp2_with fail
          go_ret2
          exact ⟨by rw [HV.out.1, HV.out.2]; rfl, below_two _ _ _⟩
        | false =>
          have HV := Lib.hid (show Cd.fdD (.mk 1 n s l) = 0 ∧ Cd.fdB (.mk 1 n s l) = false by unfold Cd.fdD Cd.fdB; rw [HFD.out]; exact ⟨rfl, rfl⟩)
          go_wp2_with fail
          go_ret2
          exact ⟨by rw [HV.out.1, HV.out.2]; rfl, below_two _ _ _⟩
      · by_cases k2 : k = 2
        · subst k2
          cases u2 with
          | true =>
            have HV := Lib.hid (show Cd.fdD (.mk 2 n s l) = 0 ∧ Cd.fdB (.mk 2 n s l) = true by unfold Cd.fdD Cd.fdB; rw [HFD.out]; exact ⟨rfl, rfl⟩)
            go_wp2_with fail
            go_ret2
            exact ⟨by rw [HV.out.1, HV.out.2]; rfl, below_two _ _ _⟩
          | false =>
            have HV := Lib.hid (show Cd.fdD (.mk 2 n s l) = 0 ∧ Cd.fdB (.mk 2 n s l) = false by unfold Cd.fdD Cd.fdB; rw [HFD.out]; exact ⟨rfl, rfl⟩)
            go_wp2_with fail
            go_ret2
            exact ⟨by rw [HV.out.1, HV.out.2]; rfl, below_two _ _ _⟩
        · by_cases k3 : k = 3
          · subst k3
            cases u3 with
            | false =>
              have HV := Lib.hid (show Cd.fdD (.mk 3 n s l) = 0 ∧ Cd.fdB (.mk 3 n s l) = false by unfold Cd.fdD Cd.fdB; rw [HFD.out]; exact ⟨rfl, rfl⟩)
              go_wp2_with fail
              go_ret2
              exact ⟨by rw [HV.out.1, HV.out.2]; rfl, below_two _ _ _⟩
            | true =>
              have HV := Lib.hid (show (Cd.T.mk 3 n s l).fd = (Cd.T.fds l).map (· + 1) by rw [HFD.out]; rfl)
              have HB0 := Lib.hid (below_two w (.cells #[.int .i64 3, .int .i64 n, .string ⟨s.toArray⟩, .slice A l.length c] 77) (.cells #[.bool false, .bool u1, .bool u2, .bool true] 141))
              go_wp2_with fail
              go_loopw [2, 57] (fun d i wr => ∃ j m : Nat, j ≤ l.length ∧ i = .int .i64 j ∧ d = .int .i64 m ∧ Cd.T.fds (l.take j) = some m ∧ Below w.heap.size w wr) (fun _ i _ => l.length - (intOf i).toNat)
              case atStart => exact ⟨0, 0, by omega, rfl, rfl, rfl, HB0.out⟩
              case round =>
                obtain ⟨j, m, hj, rfl, rfl, hm2, hB⟩ := hrel
                have HM := Lib.hid hm2
                have HB := Lib.hid hB
                have hzr := hB.size
                have hmb : m ≤ 1000000 := by have h1 := Cd.T.fds_hgt _ _ hm2; have h2 := Cd.T.hgts_take l j; have h3 := HHG.out; omega
                clear hm2 hB
                by_cases hlt : j < l.length
                · obtain ⟨b, off, v0, v1, v2, Av, nv, cv, rfl, hbw, hv, e0, e1, e2, e3⟩ := Cd.cell4 HLX.out (fun i hi => (HX.out i hi).keep HB.out) ((HR.out.below HB.out (Nat.le_refl _)).more hzr) j hlt
                  have HT := Lib.hid (show Cd.T.fds (l.take (j + 1)) = match Cd.T.fds (l.take j), (l[j]!).fd with | some a, some b => some (max a b) | _, _ => none by
                    rw [List.take_succ_eq_append_getElem hlt, Cd.T.fds_snoc, getElem!_pos l j hlt]
                    rfl)
                  rw [HM.out] at HT
                  have hmem : l[j]! ∈ l := by rw [getElem!_pos l j hlt]; exact List.getElem_mem _
                  have HBD := Lib.hid (fun hx : (l[j]!).fd = none => Cd.T.fds_bad hx hmem)
                  have HH := Lib.hid (show (l[j]!).hgt ≤ h by have h1 := Cd.T.hgts_mem hmem; have h2 := HHG.out; omega)
                  have HC := Lib.hid (show Cd.Cell (wr.alloc (.cells #[.int .i64 v0, .int .i64 v1, .string v2, .slice Av nv cv] 77)) l[j]! [.int .i64 v0, .int .i64 v1, .string v2, .slice Av nv cv] by rw [← hv]; exact ((HX.out j hlt).keep HB.out).keep ((Below.refl _ _).alloc (Nat.le_refl _) _))
                  have HB1 := Lib.hid (HB.out.alloc hzr (.cells #[.int .i64 v0, .int .i64 v1, .string v2, .slice Av nv cv] 77))
                  clear hv hmem
                  generalize l[j]! = x at HT HBD HH HC
                  go_wp2_with fail
                  refine (IH.out x [.int .i64 v0, .int .i64 v1, .string v2, .slice Av nv cv] _ HH.out HC.out).mono ?_
                  rintro e w5 ⟨rfl, hb5⟩
                  have HB5 := Lib.hid (HB1.out.trans (hb5.mono HB1.out.size))
                  clear hb5 e0 e1 e2 e3
                  cases hfd : x.fd with
                  | none =>
                    have hf1 : Cd.fdD x = 0 := by unfold Cd.fdD; rw [hfd]
                    have hf2 : Cd.fdB x = false := by unfold Cd.fdB; rw [hfd]; rfl
                    rw [hf1, hf2]
                    have HE := Lib.hid (show Cd.fdD (.mk 3 n s l) = 0 ∧ Cd.fdB (.mk 3 n s l) = false by unfold Cd.fdD Cd.fdB; rw [HV.out, HBD.out hfd]; exact ⟨rfl, rfl⟩)
                    clear hf1 hf2
                    go_wp2_with fail
                    go_ret2
                    exact ⟨by rw [HE.out.1, HE.out.2]; rfl, HB5.out⟩
                  | some a =>
                    have hf1 : Cd.fdD x = (a : Int) := by unfold Cd.fdD; rw [hfd]
                    have hf2 : Cd.fdB x = true := by unfold Cd.fdB; rw [hfd]; rfl
                    rw [hf1, hf2]
                    rw [hfd] at HT
                    clear hf1 hf2
                    go_wp2_with fail
                    exact ⟨⟨j + 1, max m a, by omega, by go_num, congrArg (Value.int .i64) (by split <;> omega), HT.out, HB5.out⟩, by simp [intOf]; omega⟩
                · obtain rfl : j = l.length := by omega
                  have HE := Lib.hid (show Cd.fdD (.mk 3 n s l) = (m : Int) + 1 ∧ Cd.fdB (.mk 3 n s l) = true by
                    have h := HM.out
                    rw [List.take_length] at h
                    unfold Cd.fdD Cd.fdB
                    rw [HV.out, h]
                    exact ⟨by simp, rfl⟩)
                  go_wp2_with fail
                  go_ret2
                  exact ⟨by rw [HE.out.1, HE.out.2]; rfl, HB.out⟩
          · have HV := Lib.hid (show Cd.fdD (.mk k n s l) = 0 ∧ Cd.fdB (.mk k n s l) = false by unfold Cd.fdD Cd.fdB; rw [HFD.out, if_neg k1, if_neg k2, if_neg k3]; exact ⟨rfl, rfl⟩)
            by_cases k4 : k < 1
            · have d1 : decide (k < 1) = true := decide_eq_true k4
              go_wp2_with fail
              go_ret2
              exact ⟨by rw [HV.out.1, HV.out.2]; rfl, below_two _ _ _⟩
            · have k5 : 3 < k := by omega
              have d1 : decide (k < 1) = false := decide_eq_false k4
              have d2 : decide (3 < k) = true := decide_eq_true k5
              go_wp2_with fail
              go_ret2
              exact ⟨by rw [HV.out.1, HV.out.2]; rfl, below_two _ _ _⟩

theorem Cd.formed_any : ∀ (h : Nat) (t : Cd.T) (cs : List Value) (w : World), t.hgt ≤ h → h ≤ 1000000 → Cd.Cell w t cs →
    Calls Tryd.prog 95 #[.agg cs.toArray] w fun e w' => e = .returned (.tuple #[.int .i64 (Cd.fdD t), .bool (Cd.fdB t)]) ∧ Below w.heap.size w w' := by
  intro h
  induction h with
  | zero => intro t cs w hh; cases t; rw [Cd.T.hgt] at hh; omega
  | succ h ih => exact Cd.formed_step h ih

set_option maxHeartbeats 1000000 in
theorem Cd.check_any (t : Cd.T) (cs : List Value) (w : World) (hh : t.hgt ≤ 1000000) (hc : Cd.Cell w t cs) :
    Calls Tryd.prog 77 #[.agg cs.toArray] w fun e w' => e = .returned (.int .i64 (Cd.chkE t)) ∧ Below w.heap.size w w' := by
  obtain ⟨v0, v1, v2, Av, nv, cv, rfl⟩ : ∃ v0 v1 v2 Av nv cv, cs = [.int .i64 v0, .int .i64 v1, .string v2, .slice Av nv cv] := by cases hc; exact ⟨_, _, _, _, _, _, rfl⟩
  have HC := Lib.hid (hc.keep ((Below.refl _ _).alloc (Nat.le_refl _) (.cells #[.int .i64 v0, .int .i64 v1, .string v2, .slice Av nv cv] 77)))
  have HF := Lib.hid (fun w h => Cd.formed_any 1000000 t [.int .i64 v0, .int .i64 v1, .string v2, .slice Av nv cv] w hh (Nat.le_refl _) h)
  clear hc
  go_enter Tryd.func77, Tryd.ntmps77
  go_wp2_with fail
  refine (HF.out _ HC.out).mono ?_
  rintro e w1 ⟨rfl, hb1⟩
  have HB1 := Lib.hid (((Below.refl w.heap.size w).alloc (Nat.le_refl _) (.cells #[.int .i64 v0, .int .i64 v1, .string v2, .slice Av nv cv] 77)).trans (hb1.mono (by simp)))
  clear hb1
  cases hf : t.fd with
  | none =>
    have h1 : Cd.fdD t = 0 := by unfold Cd.fdD; rw [hf]
    have h2 : Cd.fdB t = false := by unfold Cd.fdB; rw [hf]; rfl
    have HE := Lib.hid (show Cd.chkE t = 1 by unfold Cd.chkE; rw [hf])
    rw [h1, h2]
    clear h1 h2
    go_wp2_with fail
    go_ret
    exact ⟨by rw [HE.out]; rfl, HB1.out⟩
  | some d =>
    have h1 : Cd.fdD t = (d : Int) := by unfold Cd.fdD; rw [hf]
    have h2 : Cd.fdB t = true := by unfold Cd.fdB; rw [hf]; rfl
    rw [h1, h2]
    clear h1 h2
    by_cases hd : 16 < d
    · have HE := Lib.hid (show Cd.chkE t = 2 by unfold Cd.chkE; rw [hf]; exact if_pos hd)
      have d1 : decide ((16 : Int) < (d : Int)) = true := decide_eq_true (by omega)
      go_wp2_with fail
      go_ret
      exact ⟨by rw [HE.out]; rfl, HB1.out⟩
    · have HE := Lib.hid (show Cd.chkE t = 0 by unfold Cd.chkE; rw [hf]; exact if_neg hd)
      have d1 : decide ((16 : Int) < (d : Int)) = false := decide_eq_false (by omega)
      go_wp2_with fail
      go_ret
      exact ⟨by rw [HE.out]; rfl, HB1.out⟩
end Go.Proofs.YtideglpjgplpnaaDoor
/- Plain values that read in memory below a block, their numbers in range; the table of writers. No condition; no program in sight. -/
namespace Go.Proofs.YtideglpjgplpnaaDoor
open Go.RowKit
set_option linter.unusedVariables false

/-- the four cells read as the value; its lists lie below block B; its numbers are of 64 bits -/
inductive Cd.CellB (w : World) (B : Nat) : Cd.T → List Value → Prop where
  | mk (k n : Int) (s : List UInt8) (l : List Cd.T) (A : Option Addr) (c : Nat) (xss : List (List Value)) (hl : xss.length = l.length) (hx : ∀ i, i < l.length → Cd.CellB w B l[i]! xss[i]!) (hr : Rd w B 4 A l.length xss.flatten) (hn : A = none → c = 0) (hm : l.length ≤ maxLen) (hs : s.length ≤ maxLen)
    (hk : -9223372036854775808 ≤ k ∧ k ≤ 9223372036854775807) (hi : -9223372036854775808 ≤ n ∧ n ≤ 9223372036854775807) :
    Cd.CellB w B (.mk k n s l) [.int .i64 k, .int .i64 n, .string ⟨s.toArray⟩, .slice A l.length c]
section
variable {w w' : World} {B B' : Nat} {t : Cd.T} {cs : List Value}
theorem Cd.CellB.keep (h : Cd.CellB w B t cs) (hb : Below B w w') : Cd.CellB w' B t cs := by
  induction h with
  | mk k n s l A c xss hl hx hr hn hm hs hk hi ih => exact .mk k n s l A c xss hl (fun i hi => ih i hi) (hr.below hb (Nat.le_refl _)) hn hm hs hk hi
theorem Cd.CellB.more (h : Cd.CellB w B t cs) (hB : B ≤ B') : Cd.CellB w B' t cs := by
  induction h with
  | mk k n s l A c xss hl hx hr hn hm hs hk hi ih => exact .mk k n s l A c xss hl (fun i hi => ih i hi) (hr.more hB) hn hm hs hk hi
theorem Cd.CellB.len (h : Cd.CellB w B t cs) : cs.length = 4 := by cases h; rfl
theorem Cd.CellB.cell (h : Cd.CellB w B t cs) (hB : B ≤ w.heap.size) : Cd.Cell w t cs := by
  induction h with
  | mk k n s l A c xss hl hx hr hn hm hs hk hi ih => exact .mk k n s l A c xss hl (fun i hi => ih i hi) (hr.more hB) hn hm hs
theorem Cd.CellB.under {C : Nat} (h : Cd.CellB w B t cs) (hb : Below C w w') (hC : B ≤ C) : Cd.CellB w' B t cs := h.keep (hb.mono hC)
theorem Cd.CellB.spell (h : Cd.CellB w B t cs) : ∃ A c, cs = [.int .i64 t.k, .int .i64 t.n, .string ⟨t.s.toArray⟩, .slice A t.l.length c] := by cases h; exact ⟨_, _, rfl⟩
end
/-- the four cells of element number i -/
theorem Cd.cellB4 {w : World} {B : Nat} {A : Option Addr} {l : List Cd.T} {xss : List (List Value)} (hl : xss.length = l.length) (hx : ∀ i, i < l.length → Cd.CellB w B l[i]! xss[i]!) (hr : Rd w B 4 A l.length xss.flatten) (i : Nat) (hi : i < l.length) :
    ∃ b off Av cv, A = some ⟨b, off, none⟩ ∧ b < B ∧ Cd.CellB w B l[i]! [.int .i64 l[i]!.k, .int .i64 l[i]!.n, .string ⟨l[i]!.s.toArray⟩, .slice Av l[i]!.l.length cv] ∧ w.cell? ⟨b, off + i * 4, none⟩ = some (.int .i64 l[i]!.k) ∧ w.cell? ⟨b, off + i * 4 + 1, none⟩ = some (.int .i64 l[i]!.n) ∧ w.cell? ⟨b, off + i * 4 + 2, none⟩ = some (.string ⟨l[i]!.s.toArray⟩) ∧ w.cell? ⟨b, off + i * 4 + 3, none⟩ = some (.slice Av l[i]!.l.length cv) := by
  obtain ⟨b, off, e, hb, hc⟩ := hr.2 (by omega)
  have h4 := (hx i hi).len
  have hi2 : i < xss.length := by omega
  obtain ⟨Av, cv, hv⟩ := (hx i hi).spell
  have key : ∀ j, j < 4 → xss.flatten[i * 4 + j]? = [Value.int .i64 l[i]!.k, .int .i64 l[i]!.n, .string ⟨l[i]!.s.toArray⟩, .slice Av l[i]!.l.length cv][j]? := fun j hj => by
    have hall : ∀ xs ∈ xss, xs.length = 4 := fun xs hxs => by
      obtain ⟨m, hm, rfl⟩ := List.getElem_of_mem hxs
      have := (hx m (by omega)).len
      rwa [getElem!_pos xss m hm] at this
    have h := flat4 xss hall i j hj
    rw [h, List.getElem?_eq_getElem hi2, ← hv, getElem!_pos xss i hi2]
    rfl
  have hcc := hx i hi
  rw [hv] at hcc
  refine ⟨b, off, Av, cv, e, hb, hcc, ?_, ?_, ?_, ?_⟩
  · exact hc (i * 4 + 0) _ (key 0 (by omega))
  · exact hc (i * 4 + 1) _ (key 1 (by omega))
  · exact hc (i * 4 + 2) _ (key 2 (by omega))
  · exact hc (i * 4 + 3) _ (key 3 (by omega))
/-- what a well-formed value can be -/
theorem Cd.T.fd_cases {t : Cd.T} (h : t.fd.isSome = true) : (t.k = 1 ∧ t.s = [] ∧ t.l = []) ∨ (t.k = 2 ∧ t.n = 0 ∧ t.l = []) ∨ (t.k = 3 ∧ t.n = 0 ∧ t.s = [] ∧ (Cd.T.fds t.l).isSome = true) := by
  cases t with
  | mk k n s l =>
    rw [Cd.T.fd] at h
    split at h
    · split at h
      · exact .inl ⟨‹_›, ‹_ ∧ _›⟩
      · cases h
    · split at h
      · split at h
        · exact .inr (.inl ⟨‹_›, ‹_ ∧ _›⟩)
        · cases h
      · split at h
        · split at h
          · refine .inr (.inr ⟨‹_›, (‹_ ∧ _› : _ ∧ _).1, (‹_ ∧ _› : _ ∧ _).2, ?_⟩)
            show (Cd.T.fds l).isSome = true
            cases hf : Cd.T.fds l with
            | none => rw [hf] at h; cases h
            | some b => rfl
          · cases h
        · cases h
theorem Cd.T.fds_all {l : List Cd.T} (h : (Cd.T.fds l).isSome = true) {x : Cd.T} (hx : x ∈ l) : x.fd.isSome = true := by
  cases hf : x.fd with
  | some a => rfl
  | none => rw [Cd.T.fds_bad hf hx] at h; cases h
theorem Cd.T.encs_take : ∀ (l : List Cd.T) (j : Nat), j < l.length → (Cd.T.encs (l.take j)).length + (l[j]!).enc.length ≤ (Cd.T.encs l).length
  | [], j, h => by simp at h
  | x :: l, 0, h => by
    rw [List.take_zero, Cd.T.encs, Cd.T.encs]
    simp
  | x :: l, j + 1, h => by
    have ih := Cd.T.encs_take l j (by simpa using h)
    rw [List.take_succ_cons, Cd.T.encs, Cd.T.encs, List.length_append, List.length_append]
    have e : (x :: l)[j + 1]! = l[j]! := by simp
    rw [e]
    omega
theorem Cd.enc_1 {t : Cd.T} (h : t.k = 1) : t.enc = 1 :: Cd.num (Cd.uns t.n) := by
  cases t with | mk k n s l => rw [Cd.T.enc]; exact if_pos h
theorem Cd.enc_2 {t : Cd.T} (h : t.k = 2) : t.enc = 2 :: (Cd.num t.s.length ++ t.s) := by
  cases t with
  | mk k n s l =>
    have h' : k = 2 := h
    rw [Cd.T.enc, if_neg (by omega)]; exact if_pos h'
theorem Cd.enc_3 {t : Cd.T} (h : t.k = 3) : t.enc = 3 :: (Cd.num t.l.length ++ Cd.T.encs t.l) := by
  cases t with
  | mk k n s l =>
    have h' : k = 3 := h
    rw [Cd.T.enc, if_neg (by omega), if_neg (by omega)]; rfl

/-- the table of writers: its variable, its three closures -/
structure Cd.Tab (w : World) (B bw bt : Nat) : Prop where
  lw : bw < B
  lt : bt < B
  pw : w.cell? ⟨bw, 0, none⟩ = some (.pointer (some ⟨bt, 0, none⟩))
  c1 : w.cell? ⟨bt, 1, none⟩ = some (.func (.func 96) #[] #[])
  c2 : w.cell? ⟨bt, 2, none⟩ = some (.func (.func 99) #[] #[])
  c3 : w.cell? ⟨bt, 3, none⟩ = some (.func (.func 100) #[] #[.pointer (some ⟨bw, 0, none⟩)])
theorem Cd.Tab.keep {w w' : World} {B bw bt : Nat} (h : Cd.Tab w B bw bt) (hb : Below B w w') : Cd.Tab w' B bw bt :=
  ⟨h.lw, h.lt, (hb.cell (p := ⟨bw, 0, none⟩) h.lw).trans h.pw, (hb.cell (p := ⟨bt, 1, none⟩) h.lt).trans h.c1, (hb.cell (p := ⟨bt, 2, none⟩) h.lt).trans h.c2, (hb.cell (p := ⟨bt, 3, none⟩) h.lt).trans h.c3⟩
theorem Cd.Tab.more {w : World} {B B' bw bt : Nat} (h : Cd.Tab w B bw bt) (hB : B ≤ B') : Cd.Tab w B' bw bt := ⟨Nat.lt_of_lt_of_le h.lw hB, Nat.lt_of_lt_of_le h.lt hB, h.pw, h.c1, h.c2, h.c3⟩
end Go.Proofs.YtideglpjgplpnaaDoor
/- A submission as a value of the codec: plain words. -/
namespace Go.Proofs.YtideglpjgplpnaaDoor
open Go.RowKit
set_option linter.unusedVariables false

/-- a number, numbers as a list, a submission -/
def Rc.int (n : Int) : Cd.T := .mk 1 n [] []
def Rc.ints (l : List Int) : Cd.T := .mk 3 0 [] (l.map Rc.int)
def Rc.sub (no comp puz : Int) (grid : List Int) : Cd.T := .mk 3 0 [] [Rc.int no, Rc.int comp, Rc.int puz, Rc.ints grid]
theorem Rc.int_fd (n : Int) : (Rc.int n).fd = some 0 := by simp [Rc.int, Cd.T.fd]
theorem Rc.int_hgt (n : Int) : (Rc.int n).hgt = 1 := by simp [Rc.int, Cd.T.hgt, Cd.T.hgts]
theorem Rc.int_len (n : Int) : (Rc.int n).enc.length ≤ 11 := by
  have h := Cd.num_len (Cd.uns n)
  rw [Rc.int, Cd.enc_1 rfl, List.length_cons]
  show (Cd.num (Cd.uns n)).length + 1 ≤ _
  omega
theorem Rc.ints_fds (l : List Int) : Cd.T.fds (l.map Rc.int) = some 0 := by
  induction l with
  | nil => rfl
  | cons x l ih => rw [List.map_cons, Cd.T.fds, Rc.int_fd, ih]; rfl
theorem Rc.ints_hgts (l : List Int) : Cd.T.hgts (l.map Rc.int) ≤ 1 := by
  induction l with
  | nil => simp [Cd.T.hgts]
  | cons x l ih => rw [List.map_cons, Cd.T.hgts, Rc.int_hgt]; omega
theorem Rc.ints_encs (l : List Int) : (Cd.T.encs (l.map Rc.int)).length ≤ 11 * l.length := by
  induction l with
  | nil => simp [Cd.T.encs]
  | cons x l ih =>
    have h := Rc.int_len x
    rw [List.map_cons, Cd.T.encs, List.length_append, List.length_cons]
    omega
theorem Rc.ints_fd (l : List Int) : (Rc.ints l).fd = some 1 := by
  rw [Rc.ints, Cd.T.fd]
  simp [Rc.ints_fds]
theorem Rc.ints_len (l : List Int) : (Rc.ints l).enc.length ≤ 11 * l.length + 11 := by
  have h1 := Cd.num_len (l.map Rc.int).length
  have h2 := Rc.ints_encs l
  rw [Rc.ints, Cd.enc_3 rfl]
  simp only [Cd.T.l, List.length_cons, List.length_append]
  omega
theorem Rc.sub_chk (no comp puz : Int) (grid : List Int) : Cd.chkE (Rc.sub no comp puz grid) = 0 := by
  have h : (Rc.sub no comp puz grid).fd = some 2 := by
    rw [Rc.sub, Cd.T.fd]
    simp [Cd.T.fds, Rc.int_fd, Rc.ints_fd]
  unfold Cd.chkE
  rw [h]
  rfl
theorem Rc.sub_small (no comp puz : Int) (grid : List Int) (hg : grid.length ≤ 1000) : (Rc.sub no comp puz grid).hgt ≤ 1000000 ∧ (Rc.sub no comp puz grid).enc.length ≤ 90000000 := by
  constructor
  · have h := Rc.ints_hgts grid
    simp only [Rc.sub, Cd.T.hgt, Cd.T.hgts, Rc.int_hgt, Rc.ints]
    omega
  · have h1 := Rc.int_len no
    have h2 := Rc.int_len comp
    have h3 := Rc.int_len puz
    have h4 := Rc.ints_len grid
    have h5 := Cd.num_len ([Rc.int no, Rc.int comp, Rc.int puz, Rc.ints grid] : List Cd.T).length
    rw [Rc.sub, Cd.enc_3 rfl]
    simp only [Cd.T.l, Cd.T.encs, List.length_cons, List.length_append, List.length_nil] at h5 ⊢
    omega
end Go.Proofs.YtideglpjgplpnaaDoor
