/- The law CodecLists returns true. -/
import Derived.Test.YtnhodcjbmloeeaaCdG
import Derived.Test.YtnhodcjbmloeeaaCdD3
namespace Go.Proofs.Ytnhodcjbmloeeaa
open Go.RowKit Go.Shelf
set_option linter.unusedVariables false

theorem own_other {w w' : World} {base e size n : Nat} {v : Value} {xs : List Value} {row : Option Nat} (h : w.ownsRow base e size v n xs) (hG : w.grownBy w' row) (hr : ∀ g, v.ownBlock = some g → row ≠ some g) : w'.ownsRow base e size v n xs := by
  refine ⟨h.1, ?_⟩
  rcases h.2 with h0 | ⟨g, c, cur, hv, h1, hh, h2⟩
  · exact .inl h0
  · refine .inr ⟨g, c, cur, hv, h1, (hG.block g (Array.getElem?_eq_some_iff.1 hh).1 (fun e => hr g ?_ e.symm)).trans hh, h2⟩
    rw [hv]
    rfl
/-- so many zeros -/
def Cd.zs : Nat → List Value
  | 0 => []
  | j + 1 => Cd.zs j ++ [.int .i64 1, .int .i64 0, .string ⟨#[]⟩, .slice none 0 0]
/-- two rows of the call's own: bytes, zeros -/
structure Cd.Tw (w w' : World) (v3 v4 : Value) (l3 : List UInt8) (j : Nat) : Prop where
  below : Below w.heap.size w w'
  o3 : w'.ownsRow w.heap.size 5 1 v3 l3.length (l3.map fun a => Value.int .u8 (a.toNat : Int))
  o4 : w'.ownsRow w.heap.size 24 4 v4 j (Cd.zs j)
  ne : ∀ g, v3.ownBlock = some g → v4.ownBlock ≠ some g
theorem Cd.Tw.keep {w w1 w2 : World} {v3 v4 : Value} {l3 : List UInt8} {j : Nat} (h : Cd.Tw w w1 v3 v4 l3 j) (hb : Below w1.heap.size w1 w2) : Cd.Tw w w2 v3 v4 l3 j :=
  ⟨h.below.trans (hb.mono h.below.size), own_below h.o3 hb, own_below h.o4 hb, h.ne⟩
theorem Cd.Tw.grow3 {w w1 w2 : World} {v3 v3' v4 : Value} {l3 l : List UInt8} {j : Nat} (h : Cd.Tw w w1 v3 v4 l3 j) (hG : Grew w1 w.heap.size 5 1 v3 (l3.length + l.length) ((l3.map fun a => Value.int .u8 (a.toNat : Int)) ++ l.map fun a => Value.int .u8 (a.toNat : Int)) v3' w2) : Cd.Tw w w2 v3' v4 (l3 ++ l) j := by
  refine ⟨h.below.trans ((Below.refl _ _).grown hG.grown h.below.size (fun g e => own_ge h.o3 e)), by rw [List.length_append, List.map_append]; exact hG.own, own_other h.o4 hG.grown (fun g e e3 => h.ne g e3 e), fun g e e4 => ?_⟩
  have h4 := (h.o4.lt g e4).2
  rcases hG.at_ with e3 | e3
  · rw [e3] at e; exact h.ne g e e4
  · rw [e3] at e; injection e with e; omega
theorem Cd.Tw.grow4 {w w1 w2 : World} {v3 v4 v4' : Value} {l3 : List UInt8} {j : Nat} (h : Cd.Tw w w1 v3 v4 l3 j) (hG : Grew w1 w.heap.size 24 4 v4 (j + 1) (Cd.zs j ++ [.int .i64 1, .int .i64 0, .string ⟨#[]⟩, .slice none 0 0]) v4' w2) : Cd.Tw w w2 v3 v4' l3 (j + 1) := by
  refine ⟨h.below.trans ((Below.refl _ _).grown hG.grown h.below.size (fun g e => own_ge h.o4 e)), own_other h.o3 hG.grown (fun g e e4 => h.ne g e e4), hG.own, fun g e e4 => ?_⟩
  have h3 := (h.o3.lt g e).2
  rcases hG.at_ with e5 | e5
  · rw [e5] at e4; exact h.ne g e e4
  · rw [e5] at e4; injection e4 with e4; omega
theorem Cd.zs_len (j : Nat) : (Cd.zs j).length = j * 4 := by
  induction j with
  | zero => rfl
  | succ j ih => rw [Cd.zs, List.length_append, ih]; simp; omega
theorem Cd.zs_flat (j : Nat) : Cd.zs j = (List.replicate j [Value.int .i64 1, .int .i64 0, .string ⟨#[]⟩, .slice none 0 0]).flatten := by
  induction j with
  | zero => rfl
  | succ j ih => rw [Cd.zs, ih, List.replicate_succ']; simp
/-- the zeros read as values -/
theorem Cd.zs_vals {w : World} {base : Nat} {A : Option Addr} {c j : Nat} (h : w.ownsRow base 24 4 (.slice A j c) j (Cd.zs j)) : Cd.Vals w A c (List.replicate j (.mk 1 0 [] [])) (List.replicate j [.int .i64 1, .int .i64 0, .string ⟨#[]⟩, .slice none 0 0]) := by
  refine ⟨own_nil h, by simpa using (own_caps h).1, (own_caps h).2, by simp, fun i hi => ?_, by rw [← Cd.zs_flat, List.length_replicate]; exact rd_of_own h⟩
  have hi2 : i < j := by simpa using hi
  rw [getElem!_pos _ i (by simpa using hi2), getElem!_pos _ i (by simpa using hi2), List.getElem_replicate, List.getElem_replicate]
  exact Cd.cell_int w _ 0 (by omega)
theorem Cd.Vals.list {w : World} {A : Option Addr} {c : Nat} {l : List Cd.T} {xss : List (List Value)} (h : Cd.Vals w A c l xss) : Cd.CellB w w.heap.size (.mk 3 0 [] l) [.int .i64 3, .int .i64 0, .string ⟨([] : List UInt8).toArray⟩, .slice A l.length c] :=
  .mk 3 0 [] l A c xss h.xlen h.cells h.rd h.nil (Nat.le_trans h.le h.mx) (by simp) (by omega) (by omega)
theorem Cd.chk_list (l : List Cd.T) : Cd.chkE (.mk 3 0 [] l) = match Cd.T.fds l with | none => 1 | some m => if 16 < m + 1 then 2 else 0 := by
  unfold Cd.chkE
  rw [Cd.fd_eq]
  cases Cd.T.fds l <;> simp
theorem Cd.fds_ge {x : Cd.T} {d : Nat} (hx : x.fd = some d) : ∀ {l : List Cd.T} {m : Nat}, x ∈ l → Cd.T.fds l = some m → d ≤ m
  | [], m, h, _ => by cases h
  | y :: l, m, h, hm => by
    rw [Cd.T.fds] at hm
    cases hy : y.fd with
    | none => rw [hy] at hm; cases hm
    | some a =>
      cases hl : Cd.T.fds l with
      | none => rw [hy, hl] at hm; cases hm
      | some b =>
        rw [hy, hl] at hm
        have hab : max a b = m := by simpa using hm
        rcases List.mem_cons.1 h with rfl | h
        · rw [hx] at hy; injection hy with hy; omega
        · have := Cd.fds_ge hx h hl; omega
/-- a list with an element that cannot be encoded cannot be -/
theorem Cd.chk_bad {l : List Cd.T} {x : Cd.T} (hx : x ∈ l) (h : Cd.chkE x ≠ 0) : Cd.chkE (.mk 3 0 [] l) ≠ 0 := by
  rw [Cd.chk_list]
  unfold Cd.chkE at h
  cases hf : x.fd with
  | none => rw [Cd.T.fds_bad hf hx]; simp
  | some d =>
    rw [hf] at h
    have h : (if 16 < d then (2 : Int) else 0) ≠ 0 := h
    have hd : 16 < d := by
      by_cases hd : 16 < d
      · exact hd
      · rw [if_neg hd] at h; exact absurd rfl h
    cases hl : Cd.T.fds l with
    | none => simp
    | some m =>
      have := Cd.fds_ge hf hx hl
      show (if 16 < m + 1 then (2 : Int) else 0) ≠ 0
      rw [if_pos (by omega)]
      decide
/-- a list whose elements can be encoded is at most too deep -/
theorem Cd.chk_good {l : List Cd.T} (h : ∀ x ∈ l, Cd.chkE x = 0) : Cd.chkE (.mk 3 0 [] l) = 0 ∨ Cd.chkE (.mk 3 0 [] l) = 2 := by
  rw [Cd.chk_list]
  have h2 := Cd.fds_some_of (l := l) (fun x hx => Cd.chk_some (h x hx))
  cases hl : Cd.T.fds l with
  | none => rw [hl] at h2; cases h2
  | some m =>
    show (if 16 < m + 1 then (2 : Int) else 0) = 0 ∨ (if 16 < m + 1 then (2 : Int) else 0) = 2
    split
    · exact .inr rfl
    · exact .inl rfl
theorem Cd.small_list {l : List Cd.T} (hl : l.length ≤ 20) (h : ∀ x ∈ l, x.hgt ≤ 22 ∧ x.enc.length ≤ 42000) : (Cd.T.mk 3 0 [] l).hgt ≤ 1000000 ∧ (Cd.T.mk 3 0 [] l).enc.length ≤ 90000000 ∧ (Cd.T.encs l).length ≤ 840000 := by
  have key : ∀ l : List Cd.T, (∀ x ∈ l, x.hgt ≤ 22 ∧ x.enc.length ≤ 42000) → Cd.T.hgts l ≤ 22 ∧ (Cd.T.encs l).length ≤ 42000 * l.length := by
    intro l
    induction l with
    | nil => intro _; simp [Cd.T.hgts, Cd.T.encs]
    | cons x l ih =>
      intro h
      have h1 := h x (List.mem_cons_self ..)
      have h2 := ih (fun y hy => h y (List.mem_cons_of_mem _ hy))
      rw [Cd.T.hgts, Cd.T.encs, List.length_append, List.length_cons]
      omega
  have hk := key l h
  have hn := Cd.num_len l.length
  rw [Cd.T.hgt, Cd.enc_3 rfl]
  simp only [Cd.T.l, List.length_cons, List.length_append]
  omega
/-- the sizes of the list and of that of as many zeros -/
theorem Cd.zero_list (n : Nat) : Cd.chkE (.mk 3 0 [] (List.replicate n (.mk 1 0 [] []))) = 0 ∧ (Cd.out (.mk 3 0 [] (List.replicate n (.mk 1 0 [] [])))).length = 1 + (Cd.num n).length + 2 * n ∧ (Cd.T.mk 3 0 [] (List.replicate n (.mk 1 0 [] []))).hgt ≤ 1000000 := by
  have hf : Cd.T.fds (List.replicate n (.mk 1 0 [] [])) = some 0 := by
    induction n with
    | zero => rfl
    | succ n ih => rw [List.replicate_succ, Cd.T.fds, ih]; simp [Cd.T.fd]
  have he : (Cd.T.encs (List.replicate n (.mk 1 0 [] []))).length = 2 * n := by
    induction n with
    | zero => rfl
    | succ n ih =>
      rw [List.replicate_succ, Cd.T.encs, List.length_append, ih (by
        have h := hf
        rw [List.replicate_succ, Cd.T.fds] at h
        cases hl : Cd.T.fds (List.replicate n (.mk 1 0 [] [])) with
        | none => rw [hl] at h; simp [Cd.T.fd] at h
        | some m => rw [hl] at h; simp [Cd.T.fd] at h; rw [h]), Cd.enc_1 rfl]
      have : (Cd.num (Cd.uns 0)).length = 1 := by decide +kernel
      simp only [Cd.T.n, List.length_cons, this]
      omega
  have hh : Cd.T.hgts (List.replicate n (.mk 1 0 [] [])) ≤ 1 := by
    clear hf he
    induction n with
    | zero => simp [Cd.T.hgts]
    | succ n ih => rw [List.replicate_succ, Cd.T.hgts, Cd.T.hgt, Cd.T.hgts]; omega
  have hc : Cd.chkE (.mk 3 0 [] (List.replicate n (.mk 1 0 [] []))) = 0 := by rw [Cd.chk_list, hf]; rfl
  refine ⟨hc, ?_, by rw [Cd.T.hgt]; omega⟩
  unfold Cd.out
  rw [if_pos hc, Cd.enc_3 rfl]
  simp only [Cd.T.l, List.length_cons, List.length_append, List.length_replicate, he]
  omega
end Go.Proofs.Ytnhodcjbmloeeaa
