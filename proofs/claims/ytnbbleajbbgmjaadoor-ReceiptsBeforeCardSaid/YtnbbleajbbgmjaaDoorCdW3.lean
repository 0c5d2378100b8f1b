/- Contracts of codec.formed and codec.Check. -/
import Derived.BigQuiet
import Derived.Deep.CutRange
import Derived.Test.YtnbbleajbbgmjaaDoorCdT
namespace Go.Proofs.YtnbbleajbbgmjaaDoor
open Go.RowKit
set_option linter.unusedVariables false

/-- what formed answers -/
def Cd.fdD (t : Cd.T) : Int := match t.fd with | some d => (d : Int) | none => 0
def Cd.fdB (t : Cd.T) : Bool := t.fd.isSome
/-- what Check answers -/
def Cd.chkE (t : Cd.T) : Int := match t.fd with | none => 1 | some d => if 16 < d then 2 else 0
theorem Cd.fd_eq (k n : Int) (s : List UInt8) (l : List Cd.T) : (Cd.T.mk k n s l).fd = if k = 1 then (if (s.isEmpty && ((l.length : Int) == 0)) = true then some 0 else none) else if k = 2 then (if ((n == 0) && ((l.length : Int) == 0)) = true then some 0 else none) else if k = 3 then (if ((n == 0) && s.isEmpty) = true then (Cd.T.fds l).map (· + 1) else none) else none := by
  have h1 : (s.isEmpty = true) = (s = []) := by cases s <;> simp
  have h2 : (((l.length : Int) == 0) = true) = (l = []) := by cases l <;> simp; omega
  have h3 : ((n == 0) = true) = (n = 0) := by simp
  rw [Cd.T.fd]
  simp only [Bool.and_eq_true, h1, h2, h3]
theorem Cd.T.hgts_take : ∀ (l : List Cd.T) (j : Nat), Cd.T.hgts (l.take j) ≤ Cd.T.hgts l
  | [], j => by rw [List.take_nil]; exact Nat.le_refl _
  | x :: l, 0 => Nat.zero_le _
  | x :: l, j + 1 => by
    rw [List.take_succ_cons, Cd.T.hgts, Cd.T.hgts]
    have := Cd.T.hgts_take l j
    omega
theorem below_two (w : World) (o1 o2 : Obj) : Below w.heap.size w ((w.alloc o1).alloc o2) := ((Below.refl _ _).alloc (Nat.le_refl _) _).alloc (by simp) _
theorem flat4 : ∀ (xss : List (List Value)), (∀ xs ∈ xss, xs.length = 4) → ∀ (i j : Nat), j < 4 → xss.flatten[i * 4 + j]? = (xss[i]?).bind (·[j]?)
  | [], _, i, j, _ => by simp
  | xs :: xss, h, 0, j, hj => by
    have hl := h xs (List.mem_cons_self ..)
    rw [List.flatten_cons, Nat.zero_mul, Nat.zero_add, List.getElem?_append_left (by omega)]
    rfl
  | xs :: xss, h, i + 1, j, hj => by
    have hl := h xs (List.mem_cons_self ..)
    rw [List.flatten_cons, List.getElem?_append_right (by omega), hl, show (i + 1) * 4 + j - 4 = i * 4 + j by omega, flat4 xss (fun ys hy => h ys (List.mem_cons_of_mem _ hy)) i j hj]
    rfl
/-- the four cells of element number i -/
theorem Cd.cell4 {w : World} {A : Option Addr} {l : List Cd.T} {xss : List (List Value)} (hl : xss.length = l.length) (hx : ∀ i, i < l.length → Cd.Cell w l[i]! xss[i]!) (hr : Rd w w.heap.size 4 A l.length xss.flatten) (i : Nat) (hi : i < l.length) :
    ∃ b off v0 v1 v2 Av nv cv, A = some ⟨b, off, none⟩ ∧ b < w.heap.size ∧ xss[i]! = [.int .i64 v0, .int .i64 v1, .string v2, .slice Av nv cv] ∧ w.cell? ⟨b, off + i * 4, none⟩ = some (.int .i64 v0) ∧ w.cell? ⟨b, off + i * 4 + 1, none⟩ = some (.int .i64 v1) ∧ w.cell? ⟨b, off + i * 4 + 2, none⟩ = some (.string v2) ∧ w.cell? ⟨b, off + i * 4 + 3, none⟩ = some (.slice Av nv cv) := by
  obtain ⟨b, off, e, hb, hc⟩ := hr.2 (by omega)
  have h4 := (hx i hi).len
  have hi2 : i < xss.length := by omega
  obtain ⟨v0, v1, v2, Av, nv, cv, hv⟩ : ∃ v0 v1 v2 Av nv cv, xss[i]! = [.int .i64 v0, .int .i64 v1, .string v2, .slice Av nv cv] := by
    have h := hx i hi
    generalize xss[i]! = cs at h
    generalize l[i]! = t at h
    cases h
    exact ⟨_, _, _, _, _, _, rfl⟩
  have key : ∀ j, j < 4 → xss.flatten[i * 4 + j]? = [.int .i64 v0, .int .i64 v1, .string v2, .slice Av nv cv][j]? := fun j hj => by
    have hall : ∀ xs ∈ xss, xs.length = 4 := fun xs hxs => by
      obtain ⟨m, hm, rfl⟩ := List.getElem_of_mem hxs
      have := (hx m (by omega)).len
      rwa [getElem!_pos xss m hm] at this
    have h := flat4 xss hall i j hj
    rw [h, List.getElem?_eq_getElem hi2, ← hv, getElem!_pos xss i hi2]
    rfl
  refine ⟨b, off, v0, v1, v2, Av, nv, cv, e, hb, hv, ?_, ?_, ?_, ?_⟩
  · exact hc (i * 4 + 0) (.int .i64 v0) (key 0 (by omega))
  · exact hc (i * 4 + 1) (.int .i64 v1) (key 1 (by omega))
  · exact hc (i * 4 + 2) (.string v2) (key 2 (by omega))
  · exact hc (i * 4 + 3) (.slice Av nv cv) (key 3 (by omega))

set_option maxRecDepth 100000 in
set_option maxHeartbeats 8000000 in
theorem Cd.formed_step (h : Nat) (IH0 : ∀ (t : Cd.T) (cs : List Value) (w : World), t.hgt ≤ h → h ≤ 1000000 → Cd.Cell w t cs → Calls Tryd.prog 70 #[.agg cs.toArray] w fun e w' => e = .returned (.tuple #[.int .i64 (Cd.fdD t), .bool (Cd.fdB t)]) ∧ Below w.heap.size w w')
    (t : Cd.T) (cs : List Value) (w : World) (hh : t.hgt ≤ h + 1) (hb : h + 1 ≤ 1000000) (hc : Cd.Cell w t cs) :
    Calls Tryd.prog 70 #[.agg cs.toArray] w fun e w' => e = .returned (.tuple #[.int .i64 (Cd.fdD t), .bool (Cd.fdB t)]) ∧ Below w.heap.size w w' := by
    have IH := Lib.hid (fun t cs w h1 h2 => IH0 t cs w h1 (by omega) h2)
    clear IH0
    cases hc with
    | mk k n s l A c xss hl hx hr hn hm hs =>
    rw [Cd.T.hgt] at hh
    have HFD := Lib.hid (Cd.fd_eq k n s l)
    have HX := Lib.hid hx
    have HR := Lib.hid hr
    have HLX := Lib.hid hl
    have HHG := Lib.hid hh
    clear hx hr hl hn hs hh
    unfold maxLen at hm
    go_enter Tryd.func70, Tryd.ntmps70
    go_upto_region 1 with fail
    go_cut [4] from 9 to 35 (fun s4 wx => s4 = .pointer (some ⟨w.heap.size + 1, 0, none⟩) ∧ wx = ((w.alloc (.cells #[.int .i64 k, .int .i64 n, .string ⟨s.toArray⟩, .slice A l.length c] 62)).alloc (.cells #[.bool false, .bool (s.isEmpty && ((l.length : Int) == 0)), .bool ((n == 0) && ((l.length : Int) == 0)), .bool ((n == 0) && s.isEmpty)] 125)))
    case first =>
      cases bs : s.isEmpty <;> cases bn : (n == 0) <;> cases bl : ((l.length : Int) == 0) <;> (
        go_wp2_with fail
        go_meet
        exact ⟨rfl, by rw [bs, bn, bl]; rfl⟩)
    case rest =>
      obtain ⟨rfl, rfl⟩ := hcut
      generalize (s.isEmpty && ((l.length : Int) == 0)) = u1 at HFD ⊢
      generalize ((n == 0) && ((l.length : Int) == 0)) = u2 at HFD ⊢
      generalize ((n == 0) && s.isEmpty) = u3 at HFD ⊢
      by_cases k1 : k = 1
      · subst k1
        cases u1 with
        | true =>
          have HV := Lib.hid (show Cd.fdD (.mk 1 n s l) = 0 ∧ Cd.fdB (.mk 1 n s l) = true by unfold Cd.fdD Cd.fdB; rw [HFD.out]; exact ⟨rfl, rfl⟩)
          go_wp2_with fail
          go_ret2
          exact ⟨by rw [HV.out.1, HV.out.2]; rfl, below_two _ _ _⟩
        | false =>
          have HV := Lib.hid (show Cd.fdD (.mk 1 n s l) = 0 ∧ Cd.fdB (.mk 1 n s l) = false by unfold Cd.fdD Cd.fdB; rw [HFD.out]; exact ⟨rfl, rfl⟩)
          go_wp2_with fail
          go_ret2
          exact ⟨by rw [HV.out.1, HV.out.2]; rfl, below_two _ _ _⟩
      · by_cases k2 : k = 2
        · subst k2
          cases u2 with
          | true =>
            have HV := Lib.hid (show Cd.fdD (.mk 2 n s l) = 0 ∧ Cd.fdB (.mk 2 n s l) = true by unfold Cd.fdD Cd.fdB; rw [HFD.out]; exact ⟨rfl, rfl⟩)
            go_wp2_with fail
            go_ret2
            exact ⟨by rw [HV.out.1, HV.out.2]; rfl, below_two _ _ _⟩
          | false =>
            have HV := Lib.hid (show Cd.fdD (.mk 2 n s l) = 0 ∧ Cd.fdB (.mk 2 n s l) = false by unfold Cd.fdD Cd.fdB; rw [HFD.out]; exact ⟨rfl, rfl⟩)
            go_wp2_with fail
            go_ret2
            exact ⟨by rw [HV.out.1, HV.out.2]; rfl, below_two _ _ _⟩
        · by_cases k3 : k = 3
          · subst k3
            cases u3 with
            | false =>
              have HV := Lib.hid (show Cd.fdD (.mk 3 n s l) = 0 ∧ Cd.fdB (.mk 3 n s l) = false by unfold Cd.fdD Cd.fdB; rw [HFD.out]; exact ⟨rfl, rfl⟩)
              go_wp2_with fail
              go_ret2
              exact ⟨by rw [HV.out.1, HV.out.2]; rfl, below_two _ _ _⟩
            | true =>
              have HV := Lib.hid (show (Cd.T.mk 3 n s l).fd = (Cd.T.fds l).map (· + 1) by rw [HFD.out]; rfl)
              have HB0 := Lib.hid (below_two w (.cells #[.int .i64 3, .int .i64 n, .string ⟨s.toArray⟩, .slice A l.length c] 62) (.cells #[.bool false, .bool u1, .bool u2, .bool true] 125))
              go_wp2_with fail
              go_loopw [2, 57] (fun d i wr => ∃ j m : Nat, j ≤ l.length ∧ i = .int .i64 j ∧ d = .int .i64 m ∧ Cd.T.fds (l.take j) = some m ∧ Below w.heap.size w wr) (fun _ i _ => l.length - (intOf i).toNat)
              case atStart => exact ⟨0, 0, by omega, rfl, rfl, rfl, HB0.out⟩
              case round =>
                obtain ⟨j, m, hj, rfl, rfl, hm2, hB⟩ := hrel
                have HM := Lib.hid hm2
                have HB := Lib.hid hB
                have hzr := hB.size
                have hmb : m ≤ 1000000 := by have h1 := Cd.T.fds_hgt _ _ hm2; have h2 := Cd.T.hgts_take l j; have h3 := HHG.out; omega
                clear hm2 hB
                by_cases hlt : j < l.length
                · obtain ⟨b, off, v0, v1, v2, Av, nv, cv, rfl, hbw, hv, e0, e1, e2, e3⟩ := Cd.cell4 HLX.out (fun i hi => (HX.out i hi).keep HB.out) ((HR.out.below HB.out (Nat.le_refl _)).more hzr) j hlt
                  have HT := Lib.hid (show Cd.T.fds (l.take (j + 1)) = match Cd.T.fds (l.take j), (l[j]!).fd with | some a, some b => some (max a b) | _, _ => none by
                    rw [List.take_succ_eq_append_getElem hlt, Cd.T.fds_snoc, getElem!_pos l j hlt]
                    rfl)
                  rw [HM.out] at HT
                  have hmem : l[j]! ∈ l := by rw [getElem!_pos l j hlt]; exact List.getElem_mem _
                  have HBD := Lib.hid (fun hx : (l[j]!).fd = none => Cd.T.fds_bad hx hmem)
                  have HH := Lib.hid (show (l[j]!).hgt ≤ h by have h1 := Cd.T.hgts_mem hmem; have h2 := HHG.out; omega)
                  have HC := Lib.hid (show Cd.Cell (wr.alloc (.cells #[.int .i64 v0, .int .i64 v1, .string v2, .slice Av nv cv] 62)) l[j]! [.int .i64 v0, .int .i64 v1, .string v2, .slice Av nv cv] by rw [← hv]; exact ((HX.out j hlt).keep HB.out).keep ((Below.refl _ _).alloc (Nat.le_refl _) _))
                  have HB1 := Lib.hid (HB.out.alloc hzr (.cells #[.int .i64 v0, .int .i64 v1, .string v2, .slice Av nv cv] 62))
                  clear hv hmem
                  generalize l[j]! = x at HT HBD HH HC
                  go_wp2_with fail
                  refine (IH.out x [.int .i64 v0, .int .i64 v1, .string v2, .slice Av nv cv] _ HH.out HC.out).mono ?_
                  rintro e w5 ⟨rfl, hb5⟩
                  have HB5 := Lib.hid (HB1.out.trans (hb5.mono HB1.out.size))
                  clear hb5 e0 e1 e2 e3
                  cases hfd : x.fd with
                  | none =>
                    have hf1 : Cd.fdD x = 0 := by unfold Cd.fdD; rw [hfd]
                    have hf2 : Cd.fdB x = false := by unfold Cd.fdB; rw [hfd]; rfl
                    rw [hf1, hf2]
                    have HE := Lib.hid (show Cd.fdD (.mk 3 n s l) = 0 ∧ Cd.fdB (.mk 3 n s l) = false by unfold Cd.fdD Cd.fdB; rw [HV.out, HBD.out hfd]; exact ⟨rfl, rfl⟩)
                    clear hf1 hf2
                    go_wp2_with fail
                    go_ret2
                    exact ⟨by rw [HE.out.1, HE.out.2]; rfl, HB5.out⟩
                  | some a =>
                    have hf1 : Cd.fdD x = (a : Int) := by unfold Cd.fdD; rw [hfd]
                    have hf2 : Cd.fdB x = true := by unfold Cd.fdB; rw [hfd]; rfl
                    rw [hf1, hf2]
                    rw [hfd] at HT
                    clear hf1 hf2
                    go_wp2_with fail
                    exact ⟨⟨j + 1, max m a, by omega, by go_num, congrArg (Value.int .i64) (by split <;> omega), HT.out, HB5.out⟩, by simp [intOf]; omega⟩
                · obtain rfl : j = l.length := by omega
                  have HE := Lib.hid (show Cd.fdD (.mk 3 n s l) = (m : Int) + 1 ∧ Cd.fdB (.mk 3 n s l) = true by
                    have h := HM.out
                    rw [List.take_length] at h
                    unfold Cd.fdD Cd.fdB
                    rw [HV.out, h]
                    exact ⟨by simp, rfl⟩)
                  go_wp2_with fail
                  go_ret2
                  exact ⟨by rw [HE.out.1, HE.out.2]; rfl, HB.out⟩
          · have HV := Lib.hid (show Cd.fdD (.mk k n s l) = 0 ∧ Cd.fdB (.mk k n s l) = false by unfold Cd.fdD Cd.fdB; rw [HFD.out, if_neg k1, if_neg k2, if_neg k3]; exact ⟨rfl, rfl⟩)
            by_cases k4 : k < 1
            · have d1 : decide (k < 1) = true := decide_eq_true k4
              go_wp2_with fail
              go_ret2
              exact ⟨by rw [HV.out.1, HV.out.2]; rfl, below_two _ _ _⟩
            · have k5 : 3 < k := by omega
              have d1 : decide (k < 1) = false := decide_eq_false k4
              have d2 : decide (3 < k) = true := decide_eq_true k5
              go_wp2_with fail
              go_ret2
              exact ⟨by rw [HV.out.1, HV.out.2]; rfl, below_two _ _ _⟩

theorem Cd.formed_any : ∀ (h : Nat) (t : Cd.T) (cs : List Value) (w : World), t.hgt ≤ h → h ≤ 1000000 → Cd.Cell w t cs →
    Calls Tryd.prog 70 #[.agg cs.toArray] w fun e w' => e = .returned (.tuple #[.int .i64 (Cd.fdD t), .bool (Cd.fdB t)]) ∧ Below w.heap.size w w' := by
  intro h
  induction h with
  | zero => intro t cs w hh; cases t; rw [Cd.T.hgt] at hh; omega
  | succ h ih => exact Cd.formed_step h ih

set_option maxHeartbeats 1000000 in
theorem Cd.check_any (t : Cd.T) (cs : List Value) (w : World) (hh : t.hgt ≤ 1000000) (hc : Cd.Cell w t cs) :
    Calls Tryd.prog 57 #[.agg cs.toArray] w fun e w' => e = .returned (.int .i64 (Cd.chkE t)) ∧ Below w.heap.size w w' := by
  obtain ⟨v0, v1, v2, Av, nv, cv, rfl⟩ : ∃ v0 v1 v2 Av nv cv, cs = [.int .i64 v0, .int .i64 v1, .string v2, .slice Av nv cv] := by cases hc; exact ⟨_, _, _, _, _, _, rfl⟩
  have HC := Lib.hid (hc.keep ((Below.refl _ _).alloc (Nat.le_refl _) (.cells #[.int .i64 v0, .int .i64 v1, .string v2, .slice Av nv cv] 62)))
  have HF := Lib.hid (fun w h => Cd.formed_any 1000000 t [.int .i64 v0, .int .i64 v1, .string v2, .slice Av nv cv] w hh (Nat.le_refl _) h)
  clear hc
  go_enter Tryd.func57, Tryd.ntmps57
  go_wp2_with fail
  refine (HF.out _ HC.out).mono ?_
  rintro e w1 ⟨rfl, hb1⟩
  have HB1 := Lib.hid (((Below.refl w.heap.size w).alloc (Nat.le_refl _) (.cells #[.int .i64 v0, .int .i64 v1, .string v2, .slice Av nv cv] 62)).trans (hb1.mono (by simp)))
  clear hb1
  cases hf : t.fd with
  | none =>
    have h1 : Cd.fdD t = 0 := by unfold Cd.fdD; rw [hf]
    have h2 : Cd.fdB t = false := by unfold Cd.fdB; rw [hf]; rfl
    have HE := Lib.hid (show Cd.chkE t = 1 by unfold Cd.chkE; rw [hf])
    rw [h1, h2]
    clear h1 h2
    go_wp2_with fail
    go_ret
    exact ⟨by rw [HE.out]; rfl, HB1.out⟩
  | some d =>
    have h1 : Cd.fdD t = (d : Int) := by unfold Cd.fdD; rw [hf]
    have h2 : Cd.fdB t = true := by unfold Cd.fdB; rw [hf]; rfl
    rw [h1, h2]
    clear h1 h2
    by_cases hd : 16 < d
    · have HE := Lib.hid (show Cd.chkE t = 2 by unfold Cd.chkE; rw [hf]; exact if_pos hd)
      have d1 : decide ((16 : Int) < (d : Int)) = true := decide_eq_true (by omega)
      go_wp2_with fail
      go_ret
      exact ⟨by rw [HE.out]; rfl, HB1.out⟩
    · have HE := Lib.hid (show Cd.chkE t = 0 by unfold Cd.chkE; rw [hf]; exact if_neg hd)
      have d1 : decide ((16 : Int) < (d : Int)) = false := decide_eq_false (by omega)
      go_wp2_with fail
      go_ret
      exact ⟨by rw [HE.out]; rfl, HB1.out⟩
end Go.Proofs.YtnbbleajbbgmjaaDoor
