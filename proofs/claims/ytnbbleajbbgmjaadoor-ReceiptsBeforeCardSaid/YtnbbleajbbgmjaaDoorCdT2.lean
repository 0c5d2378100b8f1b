/- Plain values that read in memory below a block, their numbers in range; the table of writers. No condition; no program in sight. -/
import Derived.Test.YtnbbleajbbgmjaaDoorCdW3
namespace Go.Proofs.YtnbbleajbbgmjaaDoor
open Go.RowKit
set_option linter.unusedVariables false

/-- the four cells read as the value; its lists lie below block B; its numbers are of 64 bits -/
inductive Cd.CellB (w : World) (B : Nat) : Cd.T → List Value → Prop where
  | mk (k n : Int) (s : List UInt8) (l : List Cd.T) (A : Option Addr) (c : Nat) (xss : List (List Value)) (hl : xss.length = l.length) (hx : ∀ i, i < l.length → Cd.CellB w B l[i]! xss[i]!) (hr : Rd w B 4 A l.length xss.flatten) (hn : A = none → c = 0) (hm : l.length ≤ maxLen) (hs : s.length ≤ maxLen)
    (hk : -9223372036854775808 ≤ k ∧ k ≤ 9223372036854775807) (hi : -9223372036854775808 ≤ n ∧ n ≤ 9223372036854775807) :
    Cd.CellB w B (.mk k n s l) [.int .i64 k, .int .i64 n, .string ⟨s.toArray⟩, .slice A l.length c]
section
variable {w w' : World} {B B' : Nat} {t : Cd.T} {cs : List Value}
theorem Cd.CellB.keep (h : Cd.CellB w B t cs) (hb : Below B w w') : Cd.CellB w' B t cs := by
  induction h with
  | mk k n s l A c xss hl hx hr hn hm hs hk hi ih => exact .mk k n s l A c xss hl (fun i hi => ih i hi) (hr.below hb (Nat.le_refl _)) hn hm hs hk hi
theorem Cd.CellB.more (h : Cd.CellB w B t cs) (hB : B ≤ B') : Cd.CellB w B' t cs := by
  induction h with
  | mk k n s l A c xss hl hx hr hn hm hs hk hi ih => exact .mk k n s l A c xss hl (fun i hi => ih i hi) (hr.more hB) hn hm hs hk hi
theorem Cd.CellB.len (h : Cd.CellB w B t cs) : cs.length = 4 := by cases h; rfl
theorem Cd.CellB.cell (h : Cd.CellB w B t cs) (hB : B ≤ w.heap.size) : Cd.Cell w t cs := by
  induction h with
  | mk k n s l A c xss hl hx hr hn hm hs hk hi ih => exact .mk k n s l A c xss hl (fun i hi => ih i hi) (hr.more hB) hn hm hs
theorem Cd.CellB.under {C : Nat} (h : Cd.CellB w B t cs) (hb : Below C w w') (hC : B ≤ C) : Cd.CellB w' B t cs := h.keep (hb.mono hC)
theorem Cd.CellB.spell (h : Cd.CellB w B t cs) : ∃ A c, cs = [.int .i64 t.k, .int .i64 t.n, .string ⟨t.s.toArray⟩, .slice A t.l.length c] := by cases h; exact ⟨_, _, rfl⟩
end
/-- the four cells of element number i -/
theorem Cd.cellB4 {w : World} {B : Nat} {A : Option Addr} {l : List Cd.T} {xss : List (List Value)} (hl : xss.length = l.length) (hx : ∀ i, i < l.length → Cd.CellB w B l[i]! xss[i]!) (hr : Rd w B 4 A l.length xss.flatten) (i : Nat) (hi : i < l.length) :
    ∃ b off Av cv, A = some ⟨b, off, none⟩ ∧ b < B ∧ Cd.CellB w B l[i]! [.int .i64 l[i]!.k, .int .i64 l[i]!.n, .string ⟨l[i]!.s.toArray⟩, .slice Av l[i]!.l.length cv] ∧ w.cell? ⟨b, off + i * 4, none⟩ = some (.int .i64 l[i]!.k) ∧ w.cell? ⟨b, off + i * 4 + 1, none⟩ = some (.int .i64 l[i]!.n) ∧ w.cell? ⟨b, off + i * 4 + 2, none⟩ = some (.string ⟨l[i]!.s.toArray⟩) ∧ w.cell? ⟨b, off + i * 4 + 3, none⟩ = some (.slice Av l[i]!.l.length cv) := by
  obtain ⟨b, off, e, hb, hc⟩ := hr.2 (by omega)
  have h4 := (hx i hi).len
  have hi2 : i < xss.length := by omega
  obtain ⟨Av, cv, hv⟩ := (hx i hi).spell
  have key : ∀ j, j < 4 → xss.flatten[i * 4 + j]? = [Value.int .i64 l[i]!.k, .int .i64 l[i]!.n, .string ⟨l[i]!.s.toArray⟩, .slice Av l[i]!.l.length cv][j]? := fun j hj => by
    have hall : ∀ xs ∈ xss, xs.length = 4 := fun xs hxs => by
      obtain ⟨m, hm, rfl⟩ := List.getElem_of_mem hxs
      have := (hx m (by omega)).len
      rwa [getElem!_pos xss m hm] at this
    have h := flat4 xss hall i j hj
    rw [h, List.getElem?_eq_getElem hi2, ← hv, getElem!_pos xss i hi2]
    rfl
  have hcc := hx i hi
  rw [hv] at hcc
  refine ⟨b, off, Av, cv, e, hb, hcc, ?_, ?_, ?_, ?_⟩
  · exact hc (i * 4 + 0) _ (key 0 (by omega))
  · exact hc (i * 4 + 1) _ (key 1 (by omega))
  · exact hc (i * 4 + 2) _ (key 2 (by omega))
  · exact hc (i * 4 + 3) _ (key 3 (by omega))
/-- what a well-formed value can be -/
theorem Cd.T.fd_cases {t : Cd.T} (h : t.fd.isSome = true) : (t.k = 1 ∧ t.s = [] ∧ t.l = []) ∨ (t.k = 2 ∧ t.n = 0 ∧ t.l = []) ∨ (t.k = 3 ∧ t.n = 0 ∧ t.s = [] ∧ (Cd.T.fds t.l).isSome = true) := by
  cases t with
  | mk k n s l =>
    rw [Cd.T.fd] at h
    split at h
    · split at h
      · exact .inl ⟨‹_›, ‹_ ∧ _›⟩
      · cases h
    · split at h
      · split at h
        · exact .inr (.inl ⟨‹_›, ‹_ ∧ _›⟩)
        · cases h
      · split at h
        · split at h
          · refine .inr (.inr ⟨‹_›, (‹_ ∧ _› : _ ∧ _).1, (‹_ ∧ _› : _ ∧ _).2, ?_⟩)
            show (Cd.T.fds l).isSome = true
            cases hf : Cd.T.fds l with
            | none => rw [hf] at h; cases h
            | some b => rfl
          · cases h
        · cases h
theorem Cd.T.fds_all {l : List Cd.T} (h : (Cd.T.fds l).isSome = true) {x : Cd.T} (hx : x ∈ l) : x.fd.isSome = true := by
  cases hf : x.fd with
  | some a => rfl
  | none => rw [Cd.T.fds_bad hf hx] at h; cases h
theorem Cd.T.encs_take : ∀ (l : List Cd.T) (j : Nat), j < l.length → (Cd.T.encs (l.take j)).length + (l[j]!).enc.length ≤ (Cd.T.encs l).length
  | [], j, h => by simp at h
  | x :: l, 0, h => by
    rw [List.take_zero, Cd.T.encs, Cd.T.encs]
    simp
  | x :: l, j + 1, h => by
    have ih := Cd.T.encs_take l j (by simpa using h)
    rw [List.take_succ_cons, Cd.T.encs, Cd.T.encs, List.length_append, List.length_append]
    have e : (x :: l)[j + 1]! = l[j]! := by simp
    rw [e]
    omega
theorem Cd.enc_1 {t : Cd.T} (h : t.k = 1) : t.enc = 1 :: Cd.num (Cd.uns t.n) := by
  cases t with | mk k n s l => rw [Cd.T.enc]; exact if_pos h
theorem Cd.enc_2 {t : Cd.T} (h : t.k = 2) : t.enc = 2 :: (Cd.num t.s.length ++ t.s) := by
  cases t with
  | mk k n s l =>
    have h' : k = 2 := h
    rw [Cd.T.enc, if_neg (by omega)]; exact if_pos h'
theorem Cd.enc_3 {t : Cd.T} (h : t.k = 3) : t.enc = 3 :: (Cd.num t.l.length ++ Cd.T.encs t.l) := by
  cases t with
  | mk k n s l =>
    have h' : k = 3 := h
    rw [Cd.T.enc, if_neg (by omega), if_neg (by omega)]; rfl

/-- the table of writers: its variable, its three closures -/
structure Cd.Tab (w : World) (B bw bt : Nat) : Prop where
  lw : bw < B
  lt : bt < B
  pw : w.cell? ⟨bw, 0, none⟩ = some (.pointer (some ⟨bt, 0, none⟩))
  c1 : w.cell? ⟨bt, 1, none⟩ = some (.func (.func 71) #[] #[])
  c2 : w.cell? ⟨bt, 2, none⟩ = some (.func (.func 74) #[] #[])
  c3 : w.cell? ⟨bt, 3, none⟩ = some (.func (.func 75) #[] #[.pointer (some ⟨bw, 0, none⟩)])
theorem Cd.Tab.keep {w w' : World} {B bw bt : Nat} (h : Cd.Tab w B bw bt) (hb : Below B w w') : Cd.Tab w' B bw bt :=
  ⟨h.lw, h.lt, (hb.cell (p := ⟨bw, 0, none⟩) h.lw).trans h.pw, (hb.cell (p := ⟨bt, 1, none⟩) h.lt).trans h.c1, (hb.cell (p := ⟨bt, 2, none⟩) h.lt).trans h.c2, (hb.cell (p := ⟨bt, 3, none⟩) h.lt).trans h.c3⟩
theorem Cd.Tab.more {w : World} {B B' bw bt : Nat} (h : Cd.Tab w B bw bt) (hB : B ≤ B') : Cd.Tab w B' bw bt := ⟨Nat.lt_of_lt_of_le h.lw hB, Nat.lt_of_lt_of_le h.lt hB, h.pw, h.c1, h.c2, h.c3⟩
end Go.Proofs.YtnbbleajbbgmjaaDoor
