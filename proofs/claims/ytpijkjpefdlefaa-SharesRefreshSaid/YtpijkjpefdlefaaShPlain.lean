/- Plain mathematics of shares: which lists are alike, splitting, joining, explaining, refreshing. No condition; no program in sight. -/
import Derived.Test.YtpijkjpefdlefaaFldStep
namespace Go.Proofs.Ytpijkjpefdlefaa.Shr

/-- a share -/
structure S where
  ep : Int
  ix : Int
  th : Int
  mn : Int
  d : List UInt8
instance : Inhabited S := ⟨⟨0, 0, 0, 0, []⟩⟩

/-- the first share's numbers are in range -/
def headOk (a : S) : Prop := 1 ≤ a.th ∧ a.th ≤ a.mn ∧ a.mn ≤ 8 ∧ a.d.length ≤ 64
/-- the index of the share before number k -/
def last (l : List S) (k : Nat) : Int := if k = 0 then 0 else l[k - 1]!.ix
/-- share number k is alike -/
def okAt (l : List S) (k : Nat) : Prop := l[k]!.th = l[0]!.th ∧ l[k]!.mn = l[0]!.mn ∧ l[k]!.d.length = l[0]!.d.length ∧ last l k < l[k]!.ix ∧ l[k]!.ix ≤ l[k]!.mn
instance (a : S) : Decidable (headOk a) := inferInstanceAs (Decidable (_ ∧ _ ∧ _ ∧ _))
instance (l : List S) (k : Nat) : Decidable (okAt l k) := inferInstanceAs (Decidable (_ ∧ _ ∧ _ ∧ _ ∧ _))
def alike (l : List S) : Prop := 0 < l.length ∧ headOk l[0]! ∧ ∀ k, k < l.length → okAt l k
instance (l : List S) : Decidable (alike l) := inferInstanceAs (Decidable (_ ∧ _ ∧ _))
def alikeB (l : List S) : Bool := decide (alike l)
/-- the epoch of share number k is right -/
def epAt (l : List S) (k : Nat) : Prop := l[k]!.ep = l[0]!.ep ∧ 0 ≤ l[k]!.ep ∧ l[k]!.ep ≤ 1048576
instance (l : List S) (k : Nat) : Decidable (epAt l k) := inferInstanceAs (Decidable (_ ∧ _ ∧ _))
def epsB (l : List S) : Bool := decide (∀ k, k < l.length → epAt l k)
/-- what Check answers -/
def chkE (l : List S) : Int := if alikeB l = true then (if epsB l = true then 0 else 61) else 60

theorem alikeB_len (l : List S) (h : alikeB l = true) : 0 < l.length := (of_decide_eq_true h).1
theorem chkE_ok (l : List S) (h : chkE l = 0) : alikeB l = true ∧ epsB l = true := by
  unfold chkE at h
  by_cases h1 : alikeB l = true
  · rw [if_pos h1] at h
    by_cases h2 : epsB l = true
    · exact ⟨h1, h2⟩
    · rw [if_neg h2] at h; exact absurd h (by decide)
  · rw [if_neg h1] at h; exact absurd h (by decide)
theorem chkE_cases (l : List S) : chkE l = 0 ∨ chkE l = 60 ∨ chkE l = 61 := by
  unfold chkE
  split
  · split
    · exact .inl rfl
    · exact .inr (.inr rfl)
  · exact .inr (.inl rfl)


/-! ### splitting -/
/-- what Split answers: its error -/
def spE (ns : Nat) (ep th mn : Int) (nc : Nat) : Int :=
  if 64 < ns then 1 else if th < 1 ∨ mn < th ∨ 8 < mn then 60 else if ep < 0 ∨ 1048576 < ep then 61 else if (nc : Int) ≠ (ns : Int) * (th - 1) then 1 else 0
/-- the polynomial of byte number k -/
def line (sec coins : List UInt8) (t k : Nat) : List UInt8 := sec.getD k 0 :: (coins.drop (k * (t - 1))).take (t - 1)
/-- the data of share number i -/
def dat (sec coins : List UInt8) (t i : Nat) : List UInt8 := (List.range sec.length).map fun k => Fld.ev (line sec coins t k) (UInt8.ofNat i)
/-- the shares -/
def spl (sec : List UInt8) (ep : Int) (t mn : Nat) (coins : List UInt8) : List S := (List.range mn).map fun i => ⟨ep, ((i + 1 : Nat) : Int), (t : Int), (mn : Int), dat sec coins t (i + 1)⟩
theorem line_len (sec coins : List UInt8) (t k : Nat) (ht : 1 ≤ t) (hc : coins.length = sec.length * (t - 1)) (hk : k < sec.length) : (line sec coins t k).length = t := by
  rw [line, List.length_cons, List.length_take, List.length_drop, hc]
  have : (k + 1) * (t - 1) ≤ sec.length * (t - 1) := Nat.mul_le_mul (by omega) (Nat.le_refl _)
  rw [Nat.add_mul, Nat.one_mul] at this
  omega
theorem spl_len (sec : List UInt8) (ep : Int) (t mn : Nat) (coins : List UInt8) : (spl sec ep t mn coins).length = mn := by simp [spl]
theorem dat_len (sec coins : List UInt8) (t i : Nat) : (dat sec coins t i).length = sec.length := by simp [dat]
theorem spl_take (sec : List UInt8) (ep : Int) (t mn : Nat) (coins : List UInt8) (k : Nat) (hk : k < mn) : (spl sec ep t mn coins).take (k + 1) = (spl sec ep t mn coins).take k ++ [⟨ep, ((k + 1 : Nat) : Int), (t : Int), (mn : Int), dat sec coins t (k + 1)⟩] := by
  rw [List.take_succ_eq_append_getElem (by rw [spl_len]; exact hk)]
  simp [spl]
theorem spl_take_all (sec : List UInt8) (ep : Int) (t mn : Nat) (coins : List UInt8) : (spl sec ep t mn coins).take mn = spl sec ep t mn coins := List.take_of_length_le (by rw [spl_len]; exact Nat.le_refl _)

end Go.Proofs.Ytpijkjpefdlefaa.Shr
