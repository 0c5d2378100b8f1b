/- Plain decoding of values is the inverse of encoding. No condition; no program in sight. -/
import Derived.Test.YtnhodcjbmloeeaaCdP
import Derived.Test.YtnhodcjbmloeeaaCdR7
namespace Go.Proofs.Ytnhodcjbmloeeaa
open Go.RowKit
set_option linter.unusedVariables false

theorem Cd.dv_int (g : Nat) (r : List UInt8) : Cd.dv g (1 :: r) = match Cd.dn r with | none => none | some (u, r) => some (.mk 1 (Cd.sgn u) [] [], r) := by
  cases g <;> rfl
theorem Cd.dv_text (g : Nat) (r : List UInt8) : Cd.dv g (2 :: r) = match Cd.dl r with | none => none | some (n, r) => some (.mk 2 0 (r.take n) [], r.drop n) := by
  cases g <;> rfl
theorem Cd.dv_list (g : Nat) (r : List UInt8) : Cd.dv (g + 1) (3 :: r) = match Cd.dl r with | none => none | some (n, r) => match Cd.dvs (Cd.dv g) n r with | none => none | some (l, r) => some (.mk 3 0 [] l, r) := rfl
theorem Cd.enc_pos (t : Cd.T) : 1 ≤ t.enc.length := by
  cases t with
  | mk k n s l =>
    rw [Cd.T.enc]
    split
    · simp
    · split <;> simp
theorem Cd.encs_ge : ∀ l : List Cd.T, l.length ≤ (Cd.T.encs l).length
  | [] => Nat.le_refl _
  | x :: l => by
    have h1 := Cd.enc_pos x
    have h2 := Cd.encs_ge l
    rw [Cd.T.encs, List.length_append, List.length_cons]
    omega
mutual
theorem Cd.dv_enc : ∀ (t : Cd.T) (g d : Nat) (r : List UInt8), t.fd = some d → d ≤ g → t.rng → Cd.dv g (t.enc ++ r) = some (t, r)
  | .mk k n s l, g, d, r, hf, hd, hr => by
    rw [Cd.T.rng] at hr
    obtain ⟨hn, hs, hl, hrl⟩ := hr
    have hc := Cd.T.fd_cases (t := .mk k n s l) (by rw [hf]; rfl)
    simp only [Cd.T.k, Cd.T.n, Cd.T.s, Cd.T.l] at hc
    unfold maxLen at hs hl
    rcases hc with ⟨rfl, rfl, rfl⟩ | ⟨rfl, rfl, rfl⟩ | ⟨rfl, rfl, rfl, hfs⟩
    · rw [Cd.enc_1 rfl, List.cons_append, Cd.dv_int]
      have h := Cd.dn_num (Cd.uns n) r (Cd.uns_lt n hn)
      simp only [Cd.T.n]
      rw [h]
      show some (Cd.T.mk 1 (Cd.sgn (Cd.uns n)) [] [], r) = _
      rw [Cd.sgn_uns]
    · rw [Cd.enc_2 rfl, List.cons_append, Cd.dv_text]
      simp only [Cd.T.s]
      have h := Cd.dl_num s.length (s ++ r) (by simp) (by omega)
      rw [List.append_assoc, h]
      show some (Cd.T.mk 2 0 ((s ++ r).take s.length) [], (s ++ r).drop s.length) = _
      rw [List.take_left, List.drop_left]
    · rw [Cd.fd_eq] at hf
      cases hfl : Cd.T.fds l with
      | none => rw [hfl] at hfs; cases hfs
      | some d0 =>
        rw [hfl] at hf
        have hd0 : d = d0 + 1 := by simpa using hf.symm
        cases g with
        | zero => omega
        | succ g =>
          rw [Cd.enc_3 rfl, List.cons_append, Cd.dv_list]
          simp only [Cd.T.l]
          have hge := Cd.encs_ge l
          have h := Cd.dl_num l.length (Cd.T.encs l ++ r) (by simp; omega) (by omega)
          rw [List.append_assoc, h]
          show (match Cd.dvs (Cd.dv g) l.length (Cd.T.encs l ++ r) with | none => none | some (l, r) => some (Cd.T.mk 3 0 [] l, r)) = _
          rw [Cd.dvs_enc l g d0 r hfl (by omega) hrl]
theorem Cd.dvs_enc : ∀ (l : List Cd.T) (g d : Nat) (r : List UInt8), Cd.T.fds l = some d → d ≤ g → Cd.T.rngs l → Cd.dvs (Cd.dv g) l.length (Cd.T.encs l ++ r) = some (l, r)
  | [], g, d, r, _, _, _ => rfl
  | x :: l, g, d, r, hf, hd, hr => by
    rw [Cd.T.rngs] at hr
    rw [Cd.T.fds] at hf
    cases hx : x.fd with
    | none => rw [hx] at hf; cases hf
    | some a =>
      cases hl : Cd.T.fds l with
      | none => rw [hx, hl] at hf; cases hf
      | some b =>
        rw [hx, hl] at hf
        have hab : max a b = d := by simpa using hf
        rw [Cd.T.encs, List.append_assoc, List.length_cons, Cd.dvs, Cd.dv_enc x g a _ hx (by omega) hr.1]
        show (match Cd.dvs (Cd.dv g) l.length (Cd.T.encs l ++ r) with | none => none | some (l, r) => some (x :: l, r)) = _
        rw [Cd.dvs_enc l g b r hl (by omega) hr.2]
end
/-- what decoding finds -/
structure Cd.Fnd (g : Nat) (b : List UInt8) (t : Cd.T) (r : List UInt8) : Prop where
  enc : b = t.enc ++ r
  fd : ∃ d, t.fd = some d ∧ d ≤ g
  rng : b.length ≤ maxLen → t.rng
theorem Cd.dvs_some {g : Nat} {f : List UInt8 → Option (Cd.T × List UInt8)} (hf : ∀ b t r, f b = some (t, r) → Cd.Fnd g b t r) : ∀ (n : Nat) (b : List UInt8) (l : List Cd.T) (r : List UInt8), Cd.dvs f n b = some (l, r) →
    l.length = n ∧ b = Cd.T.encs l ++ r ∧ (∃ d, Cd.T.fds l = some d ∧ d ≤ g) ∧ (b.length ≤ maxLen → Cd.T.rngs l)
  | 0, b, l, r, h => by
    have h : some (([] : List Cd.T), b) = some (l, r) := h
    injection h with h
    injection h with h1 h2
    subst h1 h2
    exact ⟨rfl, rfl, ⟨0, rfl, Nat.zero_le _⟩, fun _ => by rw [Cd.T.rngs]; trivial⟩
  | n + 1, b, l, r, h => by
    rw [Cd.dvs] at h
    cases h1 : f b with
    | none => rw [h1] at h; cases h
    | some p =>
      obtain ⟨t, r1⟩ := p
      rw [h1] at h
      have h : (match Cd.dvs f n r1 with | none => none | some (l, r) => some (t :: l, r)) = some (l, r) := h
      cases h2 : Cd.dvs f n r1 with
      | none => rw [h2] at h; cases h
      | some q =>
        obtain ⟨m, r2⟩ := q
        rw [h2] at h
        have h : some (t :: m, r2) = some (l, r) := h
        injection h with h
        injection h with e1 e2
        subst e1 e2
        have hF := hf b t r1 h1
        obtain ⟨d, hd, hdg⟩ := hF.fd
        obtain ⟨hl, hb, ⟨d2, hd2, hdg2⟩, hr⟩ := Cd.dvs_some hf n r1 m r2 h2
        refine ⟨by rw [List.length_cons, hl], by rw [Cd.T.encs, List.append_assoc, ← hb]; exact hF.enc, ⟨max d d2, by rw [Cd.T.fds, hd, hd2], by omega⟩, fun hlen => ?_⟩
        rw [Cd.T.rngs]
        have hle : b.length = t.enc.length + r1.length := by rw [hF.enc, List.length_append]
        exact ⟨hF.rng hlen, hr (by omega)⟩
theorem Cd.dv_some : ∀ (g : Nat) (b : List UInt8) (t : Cd.T) (r : List UInt8), Cd.dv g b = some (t, r) → Cd.Fnd g b t r
  | g, [], t, r, h => by cases g <;> cases h
  | g, c :: b, t, r, h => by
    by_cases c1 : c.toNat = 1
    · have ec : c = 1 := UInt8.toNat_inj.1 c1
      subst ec
      rw [Cd.dv_int] at h
      cases hd : Cd.dn b with
      | none => rw [hd] at h; cases h
      | some p =>
        obtain ⟨u, r1⟩ := p
        rw [hd] at h
        have h : some (Cd.T.mk 1 (Cd.sgn u) [] [], r1) = some (t, r) := h
        injection h with h
        injection h with e1 e2
        subst e1 e2
        obtain ⟨hb, hu⟩ := Cd.dn_some hd
        refine ⟨?_, ⟨0, by simp [Cd.T.fd], Nat.zero_le _⟩, fun _ => ?_⟩
        · rw [Cd.enc_1 rfl]
          simp only [Cd.T.n]
          rw [Cd.uns_sgn, hb]
          rfl
        · rw [Cd.T.rng]
          exact ⟨Cd.sgn_in u hu, by simp, by simp, by rw [Cd.T.rngs]; trivial⟩
    · by_cases c2 : c.toNat = 2
      · have ec : c = 2 := UInt8.toNat_inj.1 c2
        subst ec
        rw [Cd.dv_text] at h
        cases hd : Cd.dl b with
        | none => rw [hd] at h; cases h
        | some p =>
          obtain ⟨n, r1⟩ := p
          rw [hd] at h
          have h : some (Cd.T.mk 2 0 (r1.take n) [], r1.drop n) = some (t, r) := h
          injection h with h
          injection h with e1 e2
          subst e1 e2
          obtain ⟨hb, hn, hu⟩ := Cd.dl_some hd
          refine ⟨?_, ⟨0, by simp [Cd.T.fd], Nat.zero_le _⟩, fun hlen => ?_⟩
          · rw [Cd.enc_2 rfl]
            simp only [Cd.T.s]
            rw [List.length_take, Nat.min_eq_left hn, List.cons_append, List.append_assoc, List.take_append_drop, ← hb]
          · rw [Cd.T.rng]
            refine ⟨by omega, ?_, by simp, by rw [Cd.T.rngs]; trivial⟩
            have h1 : b.length = (Cd.num n).length + r1.length := by rw [hb, List.length_append]
            rw [List.length_cons] at hlen
            rw [List.length_take]
            omega
      · by_cases c3 : c.toNat = 3
        · have ec : c = 3 := UInt8.toNat_inj.1 c3
          subst ec
          cases g with
          | zero => cases h
          | succ g =>
            rw [Cd.dv_list] at h
            cases hd : Cd.dl b with
            | none => rw [hd] at h; cases h
            | some p =>
              obtain ⟨n, r1⟩ := p
              rw [hd] at h
              have h : (match Cd.dvs (Cd.dv g) n r1 with | none => none | some (l, r) => some (Cd.T.mk 3 0 [] l, r)) = some (t, r) := h
              cases h2 : Cd.dvs (Cd.dv g) n r1 with
              | none => rw [h2] at h; cases h
              | some q =>
                obtain ⟨l, r2⟩ := q
                rw [h2] at h
                have h : some (Cd.T.mk 3 0 [] l, r2) = some (t, r) := h
                injection h with h
                injection h with e1 e2
                subst e1 e2
                obtain ⟨hb, hn, hu⟩ := Cd.dl_some hd
                obtain ⟨hl, hb2, ⟨d, hfd, hdg⟩, hr⟩ := Cd.dvs_some (fun b t r h => Cd.dv_some g b t r h) n r1 l r2 h2
                refine ⟨?_, ⟨d + 1, by rw [Cd.fd_eq]; simp [hfd], by omega⟩, fun hlen => ?_⟩
                · rw [Cd.enc_3 rfl]
                  simp only [Cd.T.l]
                  rw [hl, List.cons_append, List.append_assoc, ← hb2, ← hb]
                · rw [Cd.T.rng]
                  have h1 : b.length = (Cd.num n).length + r1.length := by rw [hb, List.length_append]
                  rw [List.length_cons] at hlen
                  exact ⟨by omega, by simp, by omega, hr (by omega)⟩
        · exfalso
          cases g with
          | zero =>
            have h : (if c.toNat = 1 then (match Cd.dn b with | none => none | some (u, r) => some (Cd.T.mk 1 (Cd.sgn u) [] [], r)) else if c.toNat = 2 then (match Cd.dl b with | none => none | some (n, r) => some (Cd.T.mk 2 0 (r.take n) [], r.drop n)) else none) = some (t, r) := h
            rw [if_neg c1, if_neg c2] at h
            cases h
          | succ g =>
            have h : (if c.toNat = 1 then (match Cd.dn b with | none => none | some (u, r) => some (Cd.T.mk 1 (Cd.sgn u) [] [], r)) else if c.toNat = 2 then (match Cd.dl b with | none => none | some (n, r) => some (Cd.T.mk 2 0 (r.take n) [], r.drop n)) else if c.toNat = 3 then (match Cd.dl b with | none => none | some (n, r) => match Cd.dvs (Cd.dv g) n r with | none => none | some (l, r) => some (Cd.T.mk 3 0 [] l, r)) else none) = some (t, r) := h
            rw [if_neg c1, if_neg c2, if_neg c3] at h
            cases h
/-- any other first byte -/
theorem Cd.dv_bad (g : Nat) (c : UInt8) (b : List UInt8) (c1 : c.toNat ≠ 1) (c2 : c.toNat ≠ 2) (c3 : c.toNat ≠ 3) : Cd.dv g (c :: b) = none := by
  cases h : Cd.dv g (c :: b) with
  | none => rfl
  | some p =>
    obtain ⟨t, r⟩ := p
    have hF := (Cd.dv_some g _ t r h).enc
    cases t with
    | mk k n s l =>
      rw [Cd.T.enc] at hF
      split at hF
      · injection hF with e; subst e; exact absurd rfl c1
      · split at hF
        · injection hF with e; subst e; exact absurd rfl c2
        · injection hF with e; subst e; exact absurd rfl c3
end Go.Proofs.Ytnhodcjbmloeeaa
