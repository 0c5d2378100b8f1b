/- Plain mathematics of joining, explaining and refreshing shares. No condition; no program in sight. -/
import Derived.Test.YtpijkjpefdlefaaShW7
namespace Go.Proofs.Ytpijkjpefdlefaa

/-- the threshold of shares, as a number -/
def Shr.tt (l : List Shr.S) : Nat := l[0]!.th.toNat
/-- what Join answers: its error -/
def Shr.joinE (l : List Shr.S) : Int := if Shr.chkE l ≠ 0 then Shr.chkE l else if (l.length : Int) < l[0]!.th then 60 else 0
/-- byte number k of what Join answers -/
def Shr.joinB (l : List Shr.S) (k : Nat) : UInt8 := Fld.thrV (Shr.ptX (l.take (Shr.tt l))) (Shr.ptY (l.take (Shr.tt l)) k) 0
def Shr.joinV (l : List Shr.S) : List UInt8 := (List.range l[0]!.d.length).map (Shr.joinB l)

/-- what is known of shares that Check lets by -/
structure Shr.Good (l : List Shr.S) : Prop where
  pos : 0 < l.length
  th1 : 1 ≤ l[0]!.th
  thm : l[0]!.th ≤ l[0]!.mn
  mn8 : l[0]!.mn ≤ 8
  d64 : l[0]!.d.length ≤ 64
  ok : ∀ k, k < l.length → Shr.okAt l k
  ep : ∀ k, k < l.length → Shr.epAt l k
theorem Shr.good (l : List Shr.S) (h : Shr.chkE l = 0) : Shr.Good l := by
  obtain ⟨h1, h2⟩ := Shr.chkE_ok l h
  obtain ⟨a, ⟨b, c, d, e⟩, f⟩ := of_decide_eq_true h1
  exact ⟨a, b, c, d, e, f, of_decide_eq_true h2⟩
/-- the indexes rise -/
theorem Shr.Good.rise {l : List Shr.S} (h : Shr.Good l) : ∀ k, k < l.length → 1 ≤ l[k]!.ix ∧ l[k]!.ix ≤ l[0]!.mn ∧ ∀ j, j < k → l[j]!.ix < l[k]!.ix
  | 0, hk => by
    have h0 := h.ok 0 hk
    unfold Shr.okAt Shr.last at h0
    simp only [if_pos] at h0
    exact ⟨by omega, by omega, fun j hj => absurd hj (by omega)⟩
  | k + 1, hk => by
    have ih := h.rise k (by omega)
    have h1 := h.ok (k + 1) hk
    unfold Shr.okAt Shr.last at h1
    rw [if_neg (by omega), Nat.add_sub_cancel] at h1
    refine ⟨by omega, by omega, fun j hj => ?_⟩
    by_cases hjk : j = k
    · subst hjk; omega
    · have := ih.2.2 j (by omega); omega
theorem Shr.Good.len_at {l : List Shr.S} (h : Shr.Good l) (k : Nat) (hk : k < l.length) : l[k]!.d.length = l[0]!.d.length := (h.ok k hk).2.2.1
theorem Shr.mem_at {xs : List Shr.C} {x : Shr.C} (hx : x ∈ xs) : ∃ k, k < xs.length ∧ (Shr.vals xs)[k]! = x.s := by
  obtain ⟨k, hk, rfl⟩ := List.getElem_of_mem hx
  exact ⟨k, hk, by rw [Shr.vals_at xs k hk, getElem!_pos xs k hk]⟩
theorem Shr.Good.ix_of {xs : List Shr.C} (h : Shr.Good (Shr.vals xs)) (x : Shr.C) (hx : x ∈ xs) : 0 ≤ x.s.ix ∧ x.s.ix ≤ 255 := by
  obtain ⟨k, hk, e⟩ := Shr.mem_at hx
  have := h.rise k (by rw [Shr.vals_len]; exact hk)
  rw [e] at this
  have := h.mn8
  omega
theorem Shr.Good.dl_of {xs : List Shr.C} (h : Shr.Good (Shr.vals xs)) (x : Shr.C) (hx : x ∈ xs) : x.s.d.length = (Shr.vals xs)[0]!.d.length := by
  obtain ⟨k, hk, e⟩ := Shr.mem_at hx
  have := h.len_at k (by rw [Shr.vals_len]; exact hk)
  rwa [e] at this
theorem Shr.vals_take (xs : List Shr.C) (k : Nat) : Shr.vals (xs.take k) = (Shr.vals xs).take k := by rw [Shr.vals, Shr.vals, List.map_take]
theorem Shr.Good.few {l : List Shr.S} (h : Shr.Good l) : l.length ≤ 8 := by
  have hk := h.rise
  have : ∀ k, k < l.length → ((k : Int) + 1 ≤ l[k]!.ix) := fun k => by
    induction k with
    | zero => intro h0; have := (hk 0 h0).1; omega
    | succ k ih =>
      intro h1
      have := ih (by omega)
      have := (hk (k + 1) h1).2.2 k (by omega)
      omega
  have hp := h.pos
  have h1 := this (l.length - 1) (by omega)
  have h2 := (hk (l.length - 1) (by omega)).2.1
  have := h.mn8
  omega
end Go.Proofs.Ytpijkjpefdlefaa
