import Derived.Test.YtideglpjgplpnaaDoorMSlMx
/- Twin, as the laws want it; marks of a sealing. -/
namespace Go.Proofs.YtideglpjgplpnaaDoor
open Go.RowKit Go.Shelf
set_option linter.unusedVariables false
set_option linter.unusedSimpArgs false

theorem Sl.mkA {W : World} {s : Sl.W} {Ad : Option Addr} {cd : Nat} {Am : Option Addr} {cA : Nat} (h : Sl.Ok s W Ad cd Am cA) (hm : 0 < s.ms.length) : ∃ bm om, Am = some ⟨bm, om, none⟩ := by
  obtain ⟨bm, om, e, _⟩ := h.mark 0 hm
  exact ⟨bm, om, e⟩
theorem Sl.mkAt {W : World} {s : Sl.W} {Ad : Option Addr} {cd bm om cA : Nat} (h : Sl.Ok s W Ad cd (some ⟨bm, om, none⟩) cA) (j : Nat) (hj : j < s.ms.length) : W.rangeAt bm (om + j * 32) ((s.ms.getD j []).map Dg.b8) ∧ (s.ms.getD j []).length = 32 := by
  obtain ⟨bm', om', e, _, hr, h32⟩ := h.mark j hj
  injection e with e
  injection e with e1 e2
  subst e1 e2
  exact ⟨hr, h32⟩
section
variable {W W' : World} {body key coins : List UInt8} {t m : Nat} {s : Sl.W} {l : List Shr.S} {xs ys : List Shr.C} {Ad : Option Addr} {cd : Nat} {Am : Option Addr} {cA : Nat}
theorem Sl.Lies.msl (h : Sl.Lies W body key coins t m s l xs Ad cd Am cA) : s.ms.length = m := by
  rw [← h.se]
  show ((Sl.selS key t m coins).map Sl.mark).length = m
  rw [List.length_map]
  exact Shr.spl_len ..
theorem Sl.Lies.dl (h : Sl.Lies W body key coins t m s l xs Ad cd Am cA) : s.d.length = body.length := by
  rw [← h.se]
  exact h.mkd.dl
theorem Sl.Lies.twin_no (h : Sl.Lies W body key coins t m s l xs Ad cd Am cA) {mask : UInt8} (hy : Shr.vals ys = Shr.pick l mask) (hs : ∀ y ∈ ys, y ∈ xs) {A : Option Addr} {c : Nat} (hr : Shr.Rds W A ys.length ys) {other : List UInt8} {Ao : Option Addr} {co : Nat} (ho : RdB W Ao body.length other) (hp : t ≤ ys.length) :
    Calls Tryd.prog 26 #[.agg (Sl.row s Ad cd Am cA).toArray, .slice A ys.length c, .slice Ao body.length co] W fun e w' => ∃ A8 n8 c8 A9 n9 c9, e = .returned (.tuple #[.slice A8 n8 c8, .slice A9 n9 c9, .int .i64 60]) ∧ Below W.heap.size W w' := by
  have h8 := h.plen hy
  have h1 := Sl.twin_any A ys.length c ys s Ad cd Am cA Ao body.length co other W (h.rdy hs (by omega) hr) ho (by have := h.mkd.b64; unfold maxLen; omega)
  have he : Sl.twE s (Shr.vals ys) body.length = 60 := by
    rw [← Shr.vals_len, hy, ← h.le] at hp
    rw [hy, ← h.le, ← h.se]
    exact h.mkd.twin_no mask hp
  rw [he] at h1
  refine h1.mono ?_
  rintro e w' ⟨A8, c8, A9, c9, he, _, _, _, _, _, _, hb⟩
  exact ⟨A8, _, c8, A9, _, c9, he, hb⟩
/-- the key and the coins of another body -/
theorem Sl.Lies.twin_yes (h : Sl.Lies W body key coins t m s l xs Ad cd Am cA) {mask : UInt8} (hy : Shr.vals ys = Shr.pick l mask) (hs : ∀ y ∈ ys, y ∈ xs) {A : Option Addr} {c : Nat} (hr : Shr.Rds W A ys.length ys) {other : List UInt8} {Ao : Option Addr} {co : Nat} (ho : RdB W Ao body.length other) (hp : ys.length < t) (h0 : 0 < ys.length) :
    ∃ k cn, Sl.Mk other k cn t m ∧ k.length = body.length ∧ Sl.xorl other k = s.d ∧ Shr.pick (Sl.selS k t m cn) mask = Shr.vals ys ∧
    (∀ x ∈ ys, 1 ≤ x.s.ix ∧ x.s.ix ≤ m ∧ s.ms.getD (x.s.ix - 1).toNat [] = (Sl.selW other k t m cn).ms.getD (x.s.ix - 1).toNat []) ∧
    Calls Tryd.prog 26 #[.agg (Sl.row s Ad cd Am cA).toArray, .slice A ys.length c, .slice Ao body.length co] W fun e w' => ∃ A8 c8 A9 c9, e = .returned (.tuple #[.slice A8 body.length c8, .slice A9 cn.length c9, .int .i64 0]) ∧ RdB w' A8 body.length k ∧ RdB w' A9 cn.length cn ∧ (A8 = none → c8 = 0) ∧ (A9 = none → c9 = 0) ∧ cn.length ≤ c9 ∧ c9 ≤ maxLen ∧ Below W.heap.size W w' := by
  have h8 := h.plen hy
  have hol := ho.len
  have h1 := Sl.twin_any A ys.length c ys s Ad cd Am cA Ao body.length co other W (h.rdy hs (by omega) hr) ho (by have := h.mkd.b64; unfold maxLen; omega)
  rw [← Shr.vals_len, hy, ← h.le] at hp h0
  obtain ⟨e1, e2, e3, e4⟩ := h.mkd.twin_yes mask hol hp h0
  rw [h.se, h.le, ← hy] at e1 e2 e3 e4
  have hkl : (Sl.tk body key other).length = body.length := by rw [Sl.tk, Sl.xorl_len, Sl.xorl_len]
  have hd : Sl.xorl other (Sl.tk body key other) = s.d := by
    rw [← h.se]
    exact Sl.tk_data body key other hol h.mkd.k
  refine ⟨Sl.tk body key other, Sl.twC s (Shr.vals ys) other, ⟨by rw [hol]; exact h.mkd.b1, by rw [hol]; exact h.mkd.b64, by rw [hkl, hol], h.mkd.t1, h.mkd.tm, h.mkd.m8, e3⟩, hkl, hd, e4, fun x hx => ?_, ?_⟩
  · have hx2 : x.s ∈ Shr.pick (Sl.selS key t m coins) mask := by rw [h.le, ← hy]; exact List.mem_map.2 ⟨x, hx, rfl⟩
    have h5 := Sl.pick_marks (body := body) (body2 := other) (key2 := Sl.tk body key other) (coins2 := Sl.twC s (Shr.vals ys) other) (by rw [e4, hy, ← h.le]) hx2
    rw [h.se] at h5
    exact h5
  · rw [← hol, e1, e2] at h1
    rw [← hol]
    refine h1.mono ?_
    rintro e w' ⟨A8, c8, A9, c9, he, q1, q2, q3, q4, q5, q6, hb⟩
    rw [hkl, ← hol] at he q1
    exact ⟨A8, c8, A9, c9, he, q1, q2, q3, q4, q5, q6, hb⟩
end
end Go.Proofs.YtideglpjgplpnaaDoor
