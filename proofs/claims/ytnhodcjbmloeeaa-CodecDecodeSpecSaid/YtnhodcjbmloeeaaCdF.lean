/- Contract of few; a boxed value that is kept; small facts for the laws. -/
import Derived.Test.YtnhodcjbmloeeaaCdL7
import Derived.Test.YtnhodcjbmloeeaaCdOpen
import Derived.Test.YtnhodcjbmloeeaaCdR5
namespace Go.Proofs.Ytnhodcjbmloeeaa
open Go.RowKit Go.Shelf
set_option linter.unusedVariables false

theorem Cd.Vals.keep {w w' : World} {A : Option Addr} {c : Nat} {l : List Cd.T} {xss : List (List Value)} (h : Cd.Vals w A c l xss) (hb : Below w.heap.size w w') : Cd.Vals w' A c l xss :=
  ⟨h.nil, h.le, h.mx, h.xlen, fun i hi => ((h.cells i hi).keep hb).more hb.size, (h.rd.below hb (Nat.le_refl _)).more hb.size⟩
/-- what few answers -/
def Cd.RetQ (w : World) (l : List Cd.T) (e : Ending) (w' : World) : Prop := ∃ b : Bool, e = .returned (.bool b) ∧ (b = true → ∀ x ∈ l, x.hgt ≤ 22 ∧ x.enc.length ≤ 42000) ∧ Below w.heap.size w w'

set_option maxRecDepth 100000 in
set_option maxHeartbeats 4000000 in
theorem Cd.fews_any (A : Option Addr) (c : Nat) (l : List Cd.T) (xss : List (List Value)) (w : World) (hv : Cd.Vals w A c l xss) :
    Calls Try.prog 11 #[.slice A l.length c] w (Cd.RetQ w l) := by
  have HV := Lib.hid hv
  have hm : l.length ≤ 9223372036854775807 := by have h1 := hv.le; have h2 := hv.mx; unfold maxLen at h2; omega
  clear hv
  go_enter Try.func11, Try.ntmps11
  go_wp2_with fail
  go_loopw [7] (fun i wr => ∃ j : Nat, j ≤ l.length ∧ i = .int .i64 j ∧ (∀ x ∈ l.take j, x.hgt ≤ 22 ∧ x.enc.length ≤ 42000) ∧ Below w.heap.size w wr) (fun i _ => l.length - (intOf i).toNat)
  case atStart => exact ⟨0, by omega, rfl, by simp, Below.refl _ _⟩
  case round =>
    obtain ⟨j, hj, rfl, hall, hB⟩ := hrel
    have HAL := Lib.hid hall
    have HB := Lib.hid hB
    have HVr := Lib.hid (HV.out.keep hB)
    clear hall hB
    by_cases hlt : j < l.length
    · obtain ⟨b, off, Av, cv, rfl, hbw, hcv, e0, e1, e2, e3⟩ := Cd.cellB4 HVr.out.xlen HVr.out.cells HVr.out.rd j hlt
      have HT := Lib.hid (show l.take (j + 1) = l.take j ++ [l[j]!] by rw [List.take_succ_eq_append_getElem hlt, getElem!_pos l j hlt])
      have HC := Lib.hid (hcv.cell (Nat.le_refl _))
      clear hcv
      generalize l[j]! = x at HT HC e0 e1 e2 e3
      go_wp2_with fail
      have HBA := Lib.hid ((Below.refl wr.heap.size wr).alloc (Nat.le_refl _) (.cells #[.int .i64 x.k, .int .i64 x.n, .string ⟨x.s.toArray⟩, .slice Av x.l.length cv] 24))
      have HF := Lib.hid (Cd.few_any x _ _ 20 (by omega) (by omega) (HC.out.keep HBA.out))
      ((with_reducible refine HF.out.mono ?_); rintro e w5 ⟨v, rfl, hv, hb5⟩)
      have HV5 := Lib.hid hv
      have HB5 := Lib.hid (HB.out.trans ((HBA.out.trans (hb5.mono HBA.out.size)).mono HB.out.size))
      clear hv hb5 e0 e1 e2 e3
      cases v with
      | false =>
        go_wp2_with fail
        go_ret
        exact ⟨false, rfl, (fun h => by cases h), HB5.out⟩
      | true =>
        have HA2 := Lib.hid (show ∀ y ∈ l.take (j + 1), y.hgt ≤ 22 ∧ y.enc.length ≤ 42000 by
          intro y hy
          rw [HT.out] at hy
          rcases List.mem_append.1 hy with hy | hy
          · exact HAL.out y hy
          · rw [List.mem_singleton.1 hy]
            have := HV5.out rfl
            omega)
        go_wp2_with fail
        exact ⟨⟨j + 1, by omega, by go_num, HA2.out, HB5.out⟩, by simp [intOf]; omega⟩
    · obtain rfl : j = l.length := by omega
      have HE := Lib.hid (show ∀ x ∈ l, x.hgt ≤ 22 ∧ x.enc.length ≤ 42000 by have h := HAL.out; rw [List.take_length] at h; exact h)
      go_wp2_with fail
      go_ret
      exact ⟨true, rfl, fun _ => HE.out, HB.out⟩

/-- a value in a variable of the call's own -/
structure Cd.Bx (w : World) (g : Nat) (t : Cd.T) (A : Option Addr) (c : Nat) : Prop where
  has : Has w g 24 [.int .i64 t.k, .int .i64 t.n, .string ⟨t.s.toArray⟩, .slice A t.l.length c]
  cell : Cd.CellB w w.heap.size t [.int .i64 t.k, .int .i64 t.n, .string ⟨t.s.toArray⟩, .slice A t.l.length c]
section
variable {w w' : World} {g : Nat} {t : Cd.T} {A : Option Addr} {c : Nat}
theorem Cd.Bx.keep (h : Cd.Bx w g t A c) (hb : Below w.heap.size w w') : Cd.Bx w' g t A c := ⟨h.has.keep hb, (h.cell.keep hb).more hb.size⟩
theorem Cd.Bx.facts (h : Cd.Bx w g t A c) : g < w.heap.size ∧ w.cell? ⟨g, 0, none⟩ = some (.int .i64 t.k) ∧ w.cell? ⟨g, 1, none⟩ = some (.int .i64 t.n) ∧ w.cell? ⟨g, 2, none⟩ = some (.string ⟨t.s.toArray⟩) ∧ w.cell? ⟨g, 3, none⟩ = some (.slice A t.l.length c) :=
  ⟨h.has.lt, h.has.cell 0, h.has.cell 1, h.has.cell 2, h.has.cell 3⟩
theorem Cd.Bx.new (h : Cd.CellB w w.heap.size t [.int .i64 t.k, .int .i64 t.n, .string ⟨t.s.toArray⟩, .slice A t.l.length c]) : Cd.Bx (w.alloc (.cells #[.int .i64 t.k, .int .i64 t.n, .string ⟨t.s.toArray⟩, .slice A t.l.length c] 24)) w.heap.size t A c :=
  ⟨Has.new w _ _, (h.keep ((Below.refl _ _).alloc (Nat.le_refl _) _)).more (by simp)⟩
/-- the one value that few is handed -/
theorem Cd.vals1 (h : Cd.CellB w w.heap.size t [.int .i64 t.k, .int .i64 t.n, .string ⟨t.s.toArray⟩, .slice A t.l.length c]) : Cd.Vals (w.alloc (.cells #[.int .i64 t.k, .int .i64 t.n, .string ⟨t.s.toArray⟩, .slice A t.l.length c] 24)) (some ⟨w.heap.size, 0, none⟩) 1 [t] [[.int .i64 t.k, .int .i64 t.n, .string ⟨t.s.toArray⟩, .slice A t.l.length c]] :=
  ⟨(fun e => by cases e), Nat.le_refl _, by decide, rfl, fun i hi => by
    obtain rfl : i = 0 := by simpa using hi
    exact (h.keep ((Below.refl _ _).alloc (Nat.le_refl _) _)).more (by simp), rd_new w _ 4 _ rfl⟩
end
/-- the two values that few is handed -/
theorem Cd.vals2 {w : World} {t u : Cd.T} {A A' : Option Addr} {c c' : Nat} (h : Cd.CellB w w.heap.size t [.int .i64 t.k, .int .i64 t.n, .string ⟨t.s.toArray⟩, .slice A t.l.length c]) (h' : Cd.CellB w w.heap.size u [.int .i64 u.k, .int .i64 u.n, .string ⟨u.s.toArray⟩, .slice A' u.l.length c']) :
    Cd.Vals (w.alloc (.cells #[.int .i64 t.k, .int .i64 t.n, .string ⟨t.s.toArray⟩, .slice A t.l.length c, .int .i64 u.k, .int .i64 u.n, .string ⟨u.s.toArray⟩, .slice A' u.l.length c'] 24)) (some ⟨w.heap.size, 0, none⟩) 2 [t, u] [[.int .i64 t.k, .int .i64 t.n, .string ⟨t.s.toArray⟩, .slice A t.l.length c], [.int .i64 u.k, .int .i64 u.n, .string ⟨u.s.toArray⟩, .slice A' u.l.length c']] :=
  ⟨(fun e => by cases e), Nat.le_refl _, by decide, rfl, fun i hi => by
    match i, hi with
    | 0, _ => exact (h.keep ((Below.refl _ _).alloc (Nat.le_refl _) _)).more (by simp)
    | 1, _ => exact (h'.keep ((Below.refl _ _).alloc (Nat.le_refl _) _)).more (by simp), by
    have hh := Has.new w 24 [.int .i64 t.k, .int .i64 t.n, .string ⟨t.s.toArray⟩, .slice A t.l.length c, .int .i64 u.k, .int .i64 u.n, .string ⟨u.s.toArray⟩, .slice A' u.l.length c']
    exact ⟨rfl, fun _ => ⟨w.heap.size, 0, rfl, hh.lt, fun j v hv => by rw [Nat.zero_add, hh.cell j]; exact hv⟩⟩⟩
mutual
/-- a well-formed value is as high as it is deep -/
theorem Cd.fd_high : ∀ (t : Cd.T) (d : Nat), t.fd = some d → t.hgt ≤ d + 1
  | .mk k n s l, d, h => by
    have hc := Cd.T.fd_cases (t := .mk k n s l) (by rw [h]; rfl)
    simp only [Cd.T.k, Cd.T.n, Cd.T.s, Cd.T.l] at hc
    rw [Cd.T.hgt]
    rcases hc with ⟨_, _, rfl⟩ | ⟨_, _, rfl⟩ | ⟨rfl, rfl, rfl, hfs⟩
    · simp [Cd.T.hgts]
    · simp [Cd.T.hgts]
    · rw [Cd.fd_eq] at h
      cases hfl : Cd.T.fds l with
      | none => rw [hfl] at hfs; cases hfs
      | some d0 =>
        rw [hfl] at h
        have hd0 : d = d0 + 1 := by simpa using h.symm
        have := Cd.fds_high l d0 hfl
        omega
theorem Cd.fds_high : ∀ (l : List Cd.T) (d : Nat), Cd.T.fds l = some d → Cd.T.hgts l ≤ d + 1
  | [], d, h => by rw [Cd.T.hgts]; omega
  | x :: l, d, h => by
    rw [Cd.T.fds] at h
    rw [Cd.T.hgts]
    cases hx : x.fd with
    | none => rw [hx] at h; cases h
    | some a =>
      cases hl : Cd.T.fds l with
      | none => rw [hx, hl] at h; cases h
      | some b =>
        rw [hx, hl] at h
        have h1 := Cd.fd_high x a hx
        have h2 := Cd.fds_high l b hl
        have hab : max a b = d := by simpa using h
        omega
end
/-- what decoding finds is the value of the bytes -/
theorem Cd.dec_some {b : List UInt8} {t : Cd.T} (h : Cd.dec b = some t) : Cd.chkE t = 0 ∧ Cd.out t = b ∧ t.enc = b ∧ t.hgt ≤ 17 := by
  unfold Cd.dec at h
  cases hd : Cd.dv 16 b with
  | none => rw [hd] at h; cases h
  | some p =>
    obtain ⟨u, r⟩ := p
    rw [hd] at h
    have h : (if r = [] then some u else none) = some t := h
    split at h
    · rename_i hr
      subst hr
      injection h with h
      subst h
      obtain ⟨he, ⟨d, hf, hd16⟩, _⟩ := Cd.dv_some 16 b u [] hd
      rw [List.append_nil] at he
      have hc : Cd.chkE u = 0 := by
        unfold Cd.chkE
        rw [hf]
        exact if_neg (by omega)
      refine ⟨hc, by unfold Cd.out; rw [if_pos hc, he], he.symm, ?_⟩
      have := Cd.fd_high u d hf
      omega
    · cases h
end Go.Proofs.Ytnhodcjbmloeeaa
