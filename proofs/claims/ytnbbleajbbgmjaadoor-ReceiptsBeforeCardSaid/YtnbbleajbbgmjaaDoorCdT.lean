/- Plain values of package codec: well-formed ones, their depth, their encoding; how they read in memory. No condition; no program in sight. -/
import Derived.Test.YtnbbleajbbgmjaaDoorCdW2
namespace Go.Proofs.YtnbbleajbbgmjaaDoor
open Go.RowKit
set_option linter.unusedVariables false

/-- a value -/
inductive Cd.T where
  | mk (k n : Int) (s : List UInt8) (l : List Cd.T)
instance : Inhabited Cd.T := ⟨.mk 0 0 [] []⟩
def Cd.T.k : Cd.T → Int | .mk k _ _ _ => k
def Cd.T.n : Cd.T → Int | .mk _ n _ _ => n
def Cd.T.s : Cd.T → List UInt8 | .mk _ _ s _ => s
def Cd.T.l : Cd.T → List Cd.T | .mk _ _ _ l => l

mutual
/-- the depth of a well-formed value -/
def Cd.T.fd : Cd.T → Option Nat
  | .mk k n s l =>
    if k = 1 then (if s = [] ∧ l = [] then some 0 else none)
    else if k = 2 then (if n = 0 ∧ l = [] then some 0 else none)
    else if k = 3 then (if n = 0 ∧ s = [] then (Cd.T.fds l).map (· + 1) else none)
    else none
/-- the greatest depth of well-formed values -/
def Cd.T.fds : List Cd.T → Option Nat
  | [] => some 0
  | x :: l => match x.fd, Cd.T.fds l with
    | some a, some b => some (max a b)
    | _, _ => none
end
mutual
/-- how high a value is built -/
def Cd.T.hgt : Cd.T → Nat
  | .mk _ _ _ l => Cd.T.hgts l + 1
def Cd.T.hgts : List Cd.T → Nat
  | [] => 0
  | x :: l => max x.hgt (Cd.T.hgts l)
end
mutual
/-- the encoding -/
def Cd.T.enc : Cd.T → List UInt8
  | .mk k n s l => if k = 1 then 1 :: Cd.num (Cd.uns n) else if k = 2 then 2 :: (Cd.num s.length ++ s) else 3 :: (Cd.num l.length ++ Cd.T.encs l)
def Cd.T.encs : List Cd.T → List UInt8
  | [] => []
  | x :: l => x.enc ++ Cd.T.encs l
end
theorem Cd.T.hgts_mem {x : Cd.T} : ∀ {l : List Cd.T}, x ∈ l → x.hgt ≤ Cd.T.hgts l
  | [], h => by cases h
  | y :: l, h => by
    rw [Cd.T.hgts]
    rcases List.mem_cons.1 h with rfl | h
    · exact Nat.le_max_left _ _
    · exact Nat.le_trans (Cd.T.hgts_mem h) (Nat.le_max_right _ _)
theorem Cd.T.fds_snoc (x : Cd.T) : ∀ l : List Cd.T, Cd.T.fds (l ++ [x]) = match Cd.T.fds l, x.fd with | some a, some b => some (max a b) | _, _ => none
  | [] => by
    show Cd.T.fds [x] = _
    rw [Cd.T.fds, Cd.T.fds]
    cases x.fd with
    | none => rfl
    | some b => simp [Cd.T.fds]
  | y :: l => by
    rw [List.cons_append, Cd.T.fds, Cd.T.fds, Cd.T.fds_snoc x l]
    cases y.fd <;> cases Cd.T.fds l <;> cases x.fd <;> simp [Nat.max_assoc]
theorem Cd.T.fds_bad {x : Cd.T} (hx : x.fd = none) : ∀ {l : List Cd.T}, x ∈ l → Cd.T.fds l = none
  | [], h => by cases h
  | y :: l, h => by
    rw [Cd.T.fds]
    rcases List.mem_cons.1 h with rfl | h
    · rw [hx]
    · rw [Cd.T.fds_bad hx h]; cases y.fd <;> rfl
theorem Cd.T.encs_snoc (x : Cd.T) : ∀ l : List Cd.T, Cd.T.encs (l ++ [x]) = Cd.T.encs l ++ x.enc
  | [] => by simp [Cd.T.encs]
  | y :: l => by rw [List.cons_append, Cd.T.encs, Cd.T.encs, Cd.T.encs_snoc x l, List.append_assoc]
mutual
theorem Cd.T.fd_hgt : ∀ (x : Cd.T) (d : Nat), x.fd = some d → d ≤ x.hgt
  | .mk k n s l, d, h => by
    rw [Cd.T.fd] at h
    rw [Cd.T.hgt]
    split at h
    · split at h
      · injection h with h; omega
      · cases h
    · split at h
      · split at h
        · injection h with h; omega
        · cases h
      · split at h
        · split at h
          · cases hl : Cd.T.fds l with
            | none => rw [hl] at h; cases h
            | some b =>
              rw [hl] at h
              have h2 := Cd.T.fds_hgt l b hl
              simp only [Option.map_some, Option.some.injEq] at h
              omega
          · cases h
        · cases h
theorem Cd.T.fds_hgt : ∀ (l : List Cd.T) (d : Nat), Cd.T.fds l = some d → d ≤ Cd.T.hgts l
  | [], d, h => by
    rw [Cd.T.fds] at h
    injection h with h; omega
  | x :: l, d, h => by
    rw [Cd.T.fds] at h
    rw [Cd.T.hgts]
    cases hx : x.fd with
    | none => rw [hx] at h; cases h
    | some a =>
      cases hl : Cd.T.fds l with
      | none => rw [hx, hl] at h; cases h
      | some b =>
        rw [hx, hl] at h
        have h1 := Cd.T.fd_hgt x a hx
        have h2 := Cd.T.fds_hgt l b hl
        simp only [Option.some.injEq] at h
        omega
end

/-- the four cells read as the value -/
inductive Cd.Cell (w : World) : Cd.T → List Value → Prop where
  | mk (k n : Int) (s : List UInt8) (l : List Cd.T) (A : Option Addr) (c : Nat) (xss : List (List Value)) (hl : xss.length = l.length) (hx : ∀ i, i < l.length → Cd.Cell w l[i]! xss[i]!) (hr : Rd w w.heap.size 4 A l.length xss.flatten) (hn : A = none → c = 0) (hm : l.length ≤ maxLen) (hs : s.length ≤ maxLen) :
    Cd.Cell w (.mk k n s l) [.int .i64 k, .int .i64 n, .string ⟨s.toArray⟩, .slice A l.length c]
theorem Cd.Cell.keep {w w' : World} {t : Cd.T} {cs : List Value} (h : Cd.Cell w t cs) (hb : Below w.heap.size w w') : Cd.Cell w' t cs := by
  induction h with
  | mk k n s l A c xss hl hx hr hn hm hs ih => exact .mk k n s l A c xss hl (fun i hi => ih i hi) ((hr.below hb (Nat.le_refl _)).more hb.size) hn hm hs
theorem Cd.Cell.len {w : World} {t : Cd.T} {cs : List Value} (h : Cd.Cell w t cs) : cs.length = 4 := by cases h; rfl
end Go.Proofs.YtnbbleajbbgmjaaDoor
