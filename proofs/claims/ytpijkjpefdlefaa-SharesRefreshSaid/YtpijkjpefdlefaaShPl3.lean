/- Plain mathematics of explaining shares: the points with which a secret is explained are points. No condition; no program in sight. -/
import Derived.Test.YtpijkjpefdlefaaShW8
namespace Go.Proofs.Ytpijkjpefdlefaa

def Shr.explE (l : List Shr.S) (ns : Nat) : Int := if Shr.chkE l ≠ 0 then Shr.chkE l else if l[0]!.th ≤ (l.length : Int) then 60 else if ns ≠ l[0]!.d.length then 1 else 0
/-- the places: those of the shares, 0, and j more -/
def Shr.exX (l : List Shr.S) (j : Nat) : List UInt8 := Shr.ptX l ++ [0] ++ (List.range j).map fun i => UInt8.ofNat (9 + i)
/-- the values there -/
def Shr.exY (l : List Shr.S) (k : Nat) (b : UInt8) (j : Nat) : List UInt8 := Shr.ptY l k ++ [b] ++ List.replicate j 0
def Shr.exC (l : List Shr.S) (t k : Nat) (b : UInt8) : List UInt8 := Fld.coefs (Shr.exX l (t - l.length - 1)) (Shr.exY l k b (t - l.length - 1))
/-- the coins of the first k bytes -/
def Shr.exV (l : List Shr.S) (t : Nat) (sec : List UInt8) (k : Nat) : List UInt8 := (List.range k).flatMap fun i => (Shr.exC l t i (sec.getD i 0)).drop 1
def Shr.explV (l : List Shr.S) (sec : List UInt8) : List UInt8 := Shr.exV l (Shr.tt l) sec sec.length

theorem Shr.exX_len (l : List Shr.S) (j : Nat) : (Shr.exX l j).length = l.length + 1 + j := by simp [Shr.exX, Shr.ptX]; omega
theorem Shr.exY_len (l : List Shr.S) (k : Nat) (b : UInt8) (j : Nat) : (Shr.exY l k b j).length = l.length + 1 + j := by simp [Shr.exY, Shr.ptY]; omega
theorem Shr.exX_snoc (l : List Shr.S) (j : Nat) : Shr.exX l (j + 1) = Shr.exX l j ++ [UInt8.ofNat (9 + j)] := by simp [Shr.exX, List.range_succ]
theorem Shr.exY_snoc (l : List Shr.S) (k : Nat) (b : UInt8) (j : Nat) : Shr.exY l k b (j + 1) = Shr.exY l k b j ++ [0] := by simp [Shr.exY, List.replicate_succ']
theorem Shr.exX_zero (l : List Shr.S) : Shr.exX l 0 = Shr.ptX l ++ [0] := by simp [Shr.exX]
theorem Shr.exY_zero (l : List Shr.S) (k : Nat) (b : UInt8) : Shr.exY l k b 0 = Shr.ptY l k ++ [b] := by simp [Shr.exY]
theorem Shr.exC_len (l : List Shr.S) (t k : Nat) (b : UInt8) (h : l.length < t) : (Shr.exC l t k b).length = t := by rw [Shr.exC, Fld.coefs_len, Shr.exX_len]; omega
theorem Shr.exV_succ (l : List Shr.S) (t : Nat) (sec : List UInt8) (k : Nat) : Shr.exV l t sec (k + 1) = Shr.exV l t sec k ++ (Shr.exC l t k (sec.getD k 0)).drop 1 := by
  rw [Shr.exV, List.range_succ, List.flatMap_append, List.flatMap_singleton]; rfl
theorem Shr.exV_len (l : List Shr.S) (t : Nat) (sec : List UInt8) (h : l.length < t) : ∀ k, (Shr.exV l t sec k).length = k * (t - 1)
  | 0 => by simp [Shr.exV]
  | k + 1 => by rw [Shr.exV_succ, List.length_append, Shr.exV_len l t sec h k, List.length_drop, Shr.exC_len _ _ _ _ h, Nat.add_mul, Nat.one_mul]
theorem Shr.ptX_at (l : List Shr.S) (i : Nat) (hi : i < (Shr.ptX l).length) : (Shr.ptX l)[i] = l[i]!.bx := by
  have hi' : i < l.length := by simpa [Shr.ptX] using hi
  rw [getElem!_pos l i hi']
  simp [Shr.ptX]
theorem Shr.Good.bx {l : List Shr.S} (h : Shr.Good l) (k : Nat) (hk : k < l.length) : (l[k]!.bx.toNat : Int) = l[k]!.ix := by
  have h1 := h.rise k hk
  have := h.mn8
  rw [Shr.S.bx, UInt8.toNat_ofNat', Nat.mod_eq_of_lt (by omega)]
  omega
theorem Shr.Good.nodup {l : List Shr.S} (h : Shr.Good l) : (Shr.ptX l).Nodup := by
  rw [List.Nodup, List.pairwise_iff_getElem]
  intro i j hi hj hij e
  rw [Shr.ptX_at, Shr.ptX_at] at e
  have hi' : i < l.length := by simpa [Shr.ptX] using hi
  have hj' : j < l.length := by simpa [Shr.ptX] using hj
  have h1 := h.bx i hi'
  have h2 := h.bx j hj'
  have h3 := (h.rise j hj').2.2 i hij
  rw [e] at h1
  omega
theorem Shr.Good.bx_mem {l : List Shr.S} (h : Shr.Good l) {a : UInt8} (ha : a ∈ Shr.ptX l) : 1 ≤ a.toNat ∧ a.toNat ≤ 8 := by
  obtain ⟨k, hk, rfl⟩ := List.getElem_of_mem ha
  rw [Shr.ptX_at]
  have hk' : k < l.length := by simpa [Shr.ptX] using hk
  have h1 := h.bx k hk'
  have h2 := h.rise k hk'
  have := h.mn8
  omega
theorem Shr.Good.exX_nodup {l : List Shr.S} (h : Shr.Good l) (j : Nat) (hj : j ≤ 8) : (Shr.exX l j).Nodup := by
  rw [Shr.exX, List.nodup_append, List.nodup_append]
  refine ⟨⟨h.nodup, by simp, fun a ha b hb e => ?_⟩, ?_, fun a ha b hb e => ?_⟩
  · rw [List.mem_singleton] at hb
    have := h.bx_mem ha
    rw [e, hb] at this
    exact absurd this.1 (by decide)
  · rw [List.Nodup, List.pairwise_map]
    refine List.Pairwise.imp_of_mem ?_ (List.nodup_range (n := j))
    intro a b ha hb hab e
    have ha' := List.mem_range.1 ha
    have hb' := List.mem_range.1 hb
    have := congrArg UInt8.toNat e
    rw [UInt8.toNat_ofNat', UInt8.toNat_ofNat', Nat.mod_eq_of_lt (by omega), Nat.mod_eq_of_lt (by omega)] at this
    omega
  · obtain ⟨i, hi, rfl⟩ := List.mem_map.1 hb
    have hi' := List.mem_range.1 hi
    have e2 : a.toNat = 9 + i := by rw [e, UInt8.toNat_ofNat', Nat.mod_eq_of_lt (by omega)]
    rcases List.mem_append.1 ha with ha | ha
    · have := h.bx_mem ha; omega
    · rw [List.mem_singleton] at ha
      rw [ha] at e2
      have : (0 : UInt8).toNat = 0 := rfl
      omega
theorem Shr.Good.ex_pts {l : List Shr.S} (h : Shr.Good l) (j : Nat) (hj : j ≤ 8) (k : Nat) (b : UInt8) : Fld.ptsB (Shr.exX l j) (Shr.exY l k b j) = true :=
  decide_eq_true ⟨h.exX_nodup j hj, by rw [Shr.exX_len, Shr.exY_len]⟩
end Go.Proofs.Ytpijkjpefdlefaa
