import Derived.Test.YtideglpjgplpnaaDoorMFldPlain
import Derived.Test.YtideglpjgplpnaaDoorMUtil
import Derived.BigQuiet
import Derived.Test.YtideglpjgplpnaaDoorMFldW5
/- Slices of shares that read as a list: what each cell holds; how it is kept. No condition; no program in sight. -/
namespace Go.Proofs.YtideglpjgplpnaaDoor
open Go.RowKit

/-- a share with the place and capacity of its data -/
structure Shr.C where
  s : Shr.S
  A : Option Addr
  c : Nat
instance : Inhabited Shr.C := ⟨⟨default, none, 0⟩⟩
def Shr.C.n (x : Shr.C) : Nat := x.s.d.length
/-- its five cells -/
def Shr.C.cells (x : Shr.C) : List Value := [.int .i64 x.s.ep, .int .i64 x.s.ix, .int .i64 x.s.th, .int .i64 x.s.mn, .slice x.A x.s.d.length x.c]
/-- it reads in w -/
structure Shr.C.Ok (x : Shr.C) (w : World) : Prop where
  rd : RdB w x.A x.s.d.length x.s.d
  len : x.s.d.length ≤ maxLen
  nil : x.A = none → x.c = 0
/-- the slice at A with n shares reads as xs -/
structure Shr.Rds (w : World) (A : Option Addr) (n : Nat) (xs : List Shr.C) : Prop where
  rd : Rd w w.heap.size 5 A n (xs.flatMap Shr.C.cells)
  len : xs.length = n
  ok : ∀ x, x ∈ xs → x.Ok w
/-- the shares themselves -/
def Shr.vals (xs : List Shr.C) : List Shr.S := xs.map Shr.C.s

theorem Shr.C.Ok.keep {x : Shr.C} {w w' : World} (h : x.Ok w) (hb : Below w.heap.size w w') : x.Ok w' := ⟨h.rd.keep hb, h.len, h.nil⟩
theorem Shr.flat_len (xs : List Shr.C) : (xs.flatMap Shr.C.cells).length = xs.length * 5 := by
  induction xs with
  | nil => rfl
  | cons x xs ih => rw [List.flatMap_cons, List.length_append, ih, List.length_cons]; simp [Shr.C.cells]; omega
theorem Shr.flat_at : ∀ (xs : List Shr.C) (k j : Nat), k < xs.length → j < 5 → (xs.flatMap Shr.C.cells)[k * 5 + j]? = (xs[k]!).cells[j]?
  | [], k, j, hk, _ => by simp at hk
  | x :: xs, 0, j, hk, hj => by
    rw [List.flatMap_cons, List.getElem?_append_left (by simp [Shr.C.cells]; omega)]
    simp
  | x :: xs, k + 1, j, hk, hj => by
    rw [List.flatMap_cons, List.getElem?_append_right (by simp [Shr.C.cells]; omega)]
    have e : (k + 1) * 5 + j - x.cells.length = k * 5 + j := by simp [Shr.C.cells]; omega
    rw [e, Shr.flat_at xs k j (by simpa using hk) hj]
    simp
theorem Shr.vals_len (xs : List Shr.C) : (Shr.vals xs).length = xs.length := by simp [Shr.vals]
theorem Shr.vals_at (xs : List Shr.C) (k : Nat) (hk : k < xs.length) : (Shr.vals xs)[k]! = (xs[k]!).s := by
  rw [Shr.vals, getElem!_pos (xs.map Shr.C.s) k (by simpa using hk), getElem!_pos xs k hk, List.getElem_map]

section
variable {w w' : World} {A : Option Addr} {n : Nat} {xs : List Shr.C}
theorem Shr.Rds.keep (h : Shr.Rds w A n xs) (hb : Below w.heap.size w w') : Shr.Rds w' A n xs :=
  ⟨(h.rd.below hb (Nat.le_refl _)).more hb.size, h.len, fun x hx => (h.ok x hx).keep hb⟩
theorem Shr.Rds.drew (h : Shr.Rds w A n xs) : Shr.Rds w.drew A n xs := ⟨h.rd, h.len, fun x hx => ⟨(h.ok x hx).rd, (h.ok x hx).len, (h.ok x hx).nil⟩⟩
theorem Shr.Rds.drewN (h : Shr.Rds w A n xs) (k : Nat) : Shr.Rds (w.drewN k) A n xs := ⟨h.rd, h.len, fun x hx => ⟨(h.ok x hx).rd, (h.ok x hx).len, (h.ok x hx).nil⟩⟩
theorem Shr.Rds.alloc (h : Shr.Rds w A n xs) (o : Obj) : Shr.Rds (w.alloc o) A n xs := h.keep ((Below.refl _ _).alloc (Nat.le_refl _) _)
theorem Shr.Rds.nil : Shr.Rds w A 0 [] := ⟨Rd.none_, rfl, fun _ h => by cases h⟩
theorem Shr.Rds.mem (h : Shr.Rds w A n xs) (k : Nat) (hk : k < n) : (xs[k]!).Ok w := by
  have hk' : k < xs.length := by rw [h.len]; exact hk
  rw [getElem!_pos xs k hk']
  exact h.ok _ (List.getElem_mem hk')
/-- the five cells of share number k -/
theorem Shr.Rds.at (h : Shr.Rds w A n xs) (k : Nat) (hk : k < n) : ∃ b off, A = some ⟨b, off, none⟩ ∧ b < w.heap.size ∧
    w.cell? ⟨b, off + k * 5, none⟩ = some (.int .i64 (xs[k]!).s.ep) ∧ w.cell? ⟨b, off + k * 5 + 1, none⟩ = some (.int .i64 (xs[k]!).s.ix) ∧ w.cell? ⟨b, off + k * 5 + 2, none⟩ = some (.int .i64 (xs[k]!).s.th) ∧
    w.cell? ⟨b, off + k * 5 + 3, none⟩ = some (.int .i64 (xs[k]!).s.mn) ∧ w.cell? ⟨b, off + k * 5 + 4, none⟩ = some (.slice (xs[k]!).A (xs[k]!).s.d.length (xs[k]!).c) := by
  obtain ⟨b, off, e, hb, hc⟩ := h.rd.2 (by omega)
  have hk' : k < xs.length := by rw [h.len]; exact hk
  refine ⟨b, off, e, hb, ?_, ?_, ?_, ?_, ?_⟩
  · exact hc (k * 5 + 0) _ ((Shr.flat_at xs k 0 hk' (by omega)).trans rfl)
  · exact hc (k * 5 + 1) _ ((Shr.flat_at xs k 1 hk' (by omega)).trans rfl)
  · exact hc (k * 5 + 2) _ ((Shr.flat_at xs k 2 hk' (by omega)).trans rfl)
  · exact hc (k * 5 + 3) _ ((Shr.flat_at xs k 3 hk' (by omega)).trans rfl)
  · exact hc (k * 5 + 4) _ ((Shr.flat_at xs k 4 hk' (by omega)).trans rfl)
theorem Shr.Rds.first (h : Shr.Rds w A n xs) (hn : 0 < n) : ∃ b off, A = some ⟨b, off, none⟩ ∧ b < w.heap.size ∧
    w.cell? ⟨b, off, none⟩ = some (.int .i64 (xs[0]!).s.ep) ∧ w.cell? ⟨b, off + 1, none⟩ = some (.int .i64 (xs[0]!).s.ix) ∧ w.cell? ⟨b, off + 2, none⟩ = some (.int .i64 (xs[0]!).s.th) ∧
    w.cell? ⟨b, off + 3, none⟩ = some (.int .i64 (xs[0]!).s.mn) ∧ w.cell? ⟨b, off + 4, none⟩ = some (.slice (xs[0]!).A (xs[0]!).s.d.length (xs[0]!).c) := by
  have := h.at 0 hn
  simpa using this
theorem Shr.Rds.at2 {b off : Nat} (h : Shr.Rds w (some ⟨b, off, none⟩) n xs) (k : Nat) (hk : k < n) : b < w.heap.size ∧
    w.cell? ⟨b, off + k * 5, none⟩ = some (.int .i64 (xs[k]!).s.ep) ∧ w.cell? ⟨b, off + k * 5 + 1, none⟩ = some (.int .i64 (xs[k]!).s.ix) ∧ w.cell? ⟨b, off + k * 5 + 2, none⟩ = some (.int .i64 (xs[k]!).s.th) ∧
    w.cell? ⟨b, off + k * 5 + 3, none⟩ = some (.int .i64 (xs[k]!).s.mn) ∧ w.cell? ⟨b, off + k * 5 + 4, none⟩ = some (.slice (xs[k]!).A (xs[k]!).s.d.length (xs[k]!).c) := by
  obtain ⟨b', off', e, h1⟩ := h.at k hk
  injection e with e
  injection e with e1 e2
  subst e1 e2
  exact h1
theorem Shr.Rds.first2 {b off : Nat} (h : Shr.Rds w (some ⟨b, off, none⟩) n xs) (hn : 0 < n) : b < w.heap.size ∧
    w.cell? ⟨b, off, none⟩ = some (.int .i64 (xs[0]!).s.ep) ∧ w.cell? ⟨b, off + 1, none⟩ = some (.int .i64 (xs[0]!).s.ix) ∧ w.cell? ⟨b, off + 2, none⟩ = some (.int .i64 (xs[0]!).s.th) ∧
    w.cell? ⟨b, off + 3, none⟩ = some (.int .i64 (xs[0]!).s.mn) ∧ w.cell? ⟨b, off + 4, none⟩ = some (.slice (xs[0]!).A (xs[0]!).s.d.length (xs[0]!).c) := by
  have := h.at2 0 hn
  simpa using this
/-- a slice of shares that the call owns -/
theorem Shr.Rds.of_own {base e cap : Nat} (h : w.ownsRow base e 5 (.slice A n cap) n (xs.flatMap Shr.C.cells)) (ok : ∀ x, x ∈ xs → x.Ok w) : Shr.Rds w A n xs :=
  ⟨rd_of_own h, by have := h.1; rw [Shr.flat_len] at this; omega, ok⟩
/-- its first m shares -/
theorem Shr.Rds.take (h : Shr.Rds w A n xs) (m : Nat) (hm : m ≤ n) : Shr.Rds w A m (xs.take m) := by
  refine ⟨⟨by rw [Shr.flat_len, List.length_take, h.len]; omega, fun hp => ?_⟩, by rw [List.length_take, h.len]; omega, fun x hx => h.ok x (List.mem_of_mem_take hx)⟩
  obtain ⟨b, off, e, hb, hc⟩ := h.rd.2 (by omega)
  refine ⟨b, off, e, hb, fun j u hu => hc j u ?_⟩
  have e2 : xs.flatMap Shr.C.cells = (xs.take m).flatMap Shr.C.cells ++ (xs.drop m).flatMap Shr.C.cells := by rw [← List.flatMap_append, List.take_append_drop]
  rw [e2, List.getElem?_append_left (List.getElem?_eq_some_iff.1 hu).1]
  exact hu
end
end Go.Proofs.YtideglpjgplpnaaDoor
/- Contracts of shares.alike and shares.Check. -/
namespace Go.Proofs.YtideglpjgplpnaaDoor
open Go.RowKit Go.Shelf
set_option linter.unusedVariables false

/-- the facts on the first share that decide -/
theorem Shr.alike_no (l : List Shr.S) (h : ¬ (0 < l.length ∧ Shr.headOk l[0]!)) : Shr.alikeB l = false := decide_eq_false fun h2 => h ⟨h2.1, h2.2.1⟩

theorem Shr.alike_bad (l : List Shr.S) (k : Nat) (hk : k < l.length) (h : ¬ Shr.okAt l k) : Shr.alikeB l = false := decide_eq_false fun h2 => h (h2.2.2 k hk)
theorem Shr.alike_yes (l : List Shr.S) (h0 : 0 < l.length) (h1 : Shr.headOk l[0]!) (h : ∀ k, k < l.length → Shr.okAt l k) : Shr.alikeB l = true := decide_eq_true ⟨h0, h1, h⟩
theorem Shr.last_succ (l : List Shr.S) (k : Nat) : Shr.last l (k + 1) = l[k]!.ix := by simp [Shr.last]

set_option maxRecDepth 100000 in
set_option maxHeartbeats 2000000 in
theorem Shr.alike_any (A : Option Addr) (n c : Nat) (xs : List Shr.C) (w : World) (hr : Shr.Rds w A n xs) (hn : n ≤ maxLen) :
    Calls Tryd.prog 82 #[.slice A n c] w fun e w' => e = .returned (.bool (Shr.alikeB (Shr.vals xs))) ∧ Below w.heap.size w w' := by
  unfold maxLen at hn
  by_cases h0 : n = 0
  · subst h0
    have HN := Lib.hid (Shr.alike_no (Shr.vals xs) (fun h => by have := h.1; rw [Shr.vals_len, hr.len] at this; omega))
    have d : (((0 : Nat) : Int) == 0) = true := rfl
    go_enter Tryd.func82, Tryd.ntmps82
    go_wp2_with fail
    go_quiet (fail)
    go_wp2
    go_ret
    exact ⟨by rw [HN.out]; rfl, below_drewN (Below.refl _ _) _⟩
  · have hpos : 0 < n := by omega
    obtain ⟨b, off, rfl, hb, e0, e1, e2, e3, e4⟩ := hr.first hpos
    have d0 : ((n : Int) == 0) = false := by simp; omega
    have hl0 := (hr.mem 0 hpos).len
    have HV0 := Lib.hid (Shr.vals_at xs 0 (by rw [hr.len]; exact hpos))
    by_cases hh : Shr.headOk (xs[0]!).s
    · have HY := Lib.hid (Shr.alike_yes (Shr.vals xs) (by rw [Shr.vals_len, hr.len]; exact hpos) (by rw [HV0.out]; exact hh))
      have HBAD := Lib.hid (fun k hk => Shr.alike_bad (Shr.vals xs) k hk)
      have HL := Lib.hid hr.len
      have HR := Lib.hid hr
      obtain ⟨g1, g2, g3, g4⟩ := hh
      obtain ⟨t0, ht0⟩ : ∃ t0, t0 = (xs[0]!).s := ⟨_, rfl⟩
      rw [← ht0] at e0 e1 e2 e3 e4 g1 g2 g3 g4
      generalize (xs[0]!).A = A0 at e4
      generalize (xs[0]!).c = c0 at e4
      have d1 : decide (t0.th < 1) = false := decide_eq_false (by omega)
      have d2 : decide (t0.mn < t0.th) = false := decide_eq_false (by omega)
      have d3 : decide (8 < t0.mn) = false := decide_eq_false (by omega)
      have d4 : decide ((64 : Int) < (t0.d.length : Int)) = false := decide_eq_false (by omega)
      clear hr ht0
      go_enter Tryd.func82, Tryd.ntmps82
      go_wp2_with fail
      go_quiet (fail)
      clear d1 d2 d3 d4
      go_wp2_with fail
      clear e0 e1 e2 e3 e4
      go_loopw [3, 44] (fun la i wr => ∃ k : Nat, k ≤ n ∧ la = .int .i64 (Shr.last (Shr.vals xs) k) ∧ i = .int .i64 k ∧ (∀ j, j < k → Shr.okAt (Shr.vals xs) j) ∧ Below w.heap.size w wr) (fun _ i _ => n - (intOf i).toNat)
      case atStart => exact ⟨0, by omega, rfl, rfl, fun j hj => absurd hj (by omega), below_drewN (Below.refl _ _) _⟩
      case round =>
        obtain ⟨k, hk, rfl, rfl, hall, hB⟩ := hrel
        have HALL := Lib.hid hall
        have HB := Lib.hid hB
        clear hall hB
        by_cases hlt : k < n
        · obtain ⟨hbw, e0, e1, e2, e3, e4⟩ := (HR.out.keep HB.out).at2 k hlt
          obtain ⟨_, f0, f1, f2, f3, f4⟩ := (HR.out.keep HB.out).first2 hpos
          have hlk := (HR.out.mem k hlt).len
          unfold maxLen at hlk hl0
          have HVK := Lib.hid (Shr.vals_at xs k (by rw [HL.out]; exact hlt))
          have hG : (∀ (sk s0 : Shr.S) (la : Int), sk = (xs[k]!).s → s0 = (xs[0]!).s → la = Shr.last (Shr.vals xs) k → (sk.th = s0.th ∧ sk.mn = s0.mn ∧ sk.d.length = s0.d.length ∧ la < sk.ix ∧ sk.ix ≤ sk.mn) → ∀ j, j < k + 1 → Shr.okAt (Shr.vals xs) j) := by
            rintro _ _ _ rfl rfl rfl h j hj
            by_cases hjk : j = k
            · subst hjk; unfold Shr.okAt; rw [HVK.out, HV0.out]; exact h
            · exact HALL.out j (by omega)
          have hF : (∀ (sk s0 : Shr.S) (la : Int), sk = (xs[k]!).s → s0 = (xs[0]!).s → la = Shr.last (Shr.vals xs) k → ¬ (sk.th = s0.th ∧ sk.mn = s0.mn ∧ sk.d.length = s0.d.length ∧ la < sk.ix ∧ sk.ix ≤ sk.mn) → Shr.alikeB (Shr.vals xs) = false) := by
            rintro _ _ _ rfl rfl rfl h
            refine HBAD.out k (by rw [Shr.vals_len, HL.out]; exact hlt) (fun h2 => h ?_)
            unfold Shr.okAt at h2
            rw [HVK.out, HV0.out] at h2
            exact h2
          have HLS0 := Lib.hid (show Shr.last (Shr.vals xs) (k + 1) = (xs[k]!).s.ix by rw [Shr.last_succ, HVK.out])
          obtain ⟨sk, hsk⟩ : ∃ sk, sk = (xs[k]!).s := ⟨_, rfl⟩
          obtain ⟨s0, hs0⟩ : ∃ s0, s0 = (xs[0]!).s := ⟨_, rfl⟩
          obtain ⟨la, hla⟩ : ∃ la, la = Shr.last (Shr.vals xs) k := ⟨_, rfl⟩
          have HG := Lib.hid (hG sk s0 la hsk hs0 hla)
          have HF := Lib.hid (hF sk s0 la hsk hs0 hla)
          rw [← hsk] at e0 e1 e2 e3 e4 hlk HLS0
          rw [← hs0] at f0 f1 f2 f3 f4 hl0
          generalize (xs[0]!).A = A0 at f4
          generalize (xs[0]!).c = c0 at f4
          generalize (xs[k]!).A = Ak at e4
          generalize (xs[k]!).c = ck at e4
          rw [← hla]
          have HLS := HLS0
          clear hG hF hsk hs0 hla HLS0 g1 g2 g3 g4
          by_cases h1 : sk.th = s0.th
          · have d1 : (sk.th != s0.th) = false := by simp [h1]
            by_cases h2 : sk.mn = s0.mn
            · have d2 : (sk.mn != s0.mn) = false := by simp [h2]
              by_cases h3 : sk.d.length = s0.d.length
              · have d3 : ((sk.d.length : Int) != (s0.d.length : Int)) = false := by simp [h3]
                by_cases h4 : la < sk.ix
                · have d4 : decide (sk.ix ≤ la) = false := decide_eq_false (by omega)
                  by_cases h5 : sk.ix ≤ sk.mn
                  · have d5 : decide (sk.mn < sk.ix) = false := decide_eq_false (by omega)
                    have HOK := Lib.hid (HG.out ⟨h1, h2, h3, h4, h5⟩)
                    clear h1 h2 h3
                    go_wp2_with fail
                    go_quiet (fail)
                    go_wp2
                    go_roundw
                    case rel => exact ⟨k + 1, by omega, by rw [HLS.out], by go_num, HOK.out, below_drewN (HB.out.alloc HB.out.size _) _⟩
                    case measure => simp [intOf]; omega
                  · have d5 : decide (sk.mn < sk.ix) = true := decide_eq_true (by omega)
                    have HN := Lib.hid (HF.out (fun h => h5 h.2.2.2.2))
                    go_wp2_with fail
                    go_quiet (fail)
                    go_wp2
                    go_ret
                    exact ⟨by rw [HN.out]; rfl, below_drewN (HB.out.alloc HB.out.size _) _⟩
                · have d4 : decide (sk.ix ≤ la) = true := decide_eq_true (by omega)
                  have HN := Lib.hid (HF.out (fun h => h4 h.2.2.2.1))
                  go_wp2_with fail
                  go_quiet (fail)
                  go_wp2
                  go_ret
                  exact ⟨by rw [HN.out]; rfl, below_drewN (HB.out.alloc HB.out.size _) _⟩
              · have d3 : ((sk.d.length : Int) != (s0.d.length : Int)) = true := by simp; omega
                have HN := Lib.hid (HF.out (fun h => h3 h.2.2.1))
                go_wp2_with fail
                go_quiet (fail)
                go_wp2
                go_ret
                exact ⟨by rw [HN.out]; rfl, below_drewN (HB.out.alloc HB.out.size _) _⟩
            · have d2 : (sk.mn != s0.mn) = true := by simp; omega
              have HN := Lib.hid (HF.out (fun h => h2 h.2.1))
              go_wp2_with fail
              go_quiet (fail)
              go_wp2
              go_ret
              exact ⟨by rw [HN.out]; rfl, below_drewN (HB.out.alloc HB.out.size _) _⟩
          · have d1 : (sk.th != s0.th) = true := by simp; omega
            have HN := Lib.hid (HF.out (fun h => h1 h.1))
            go_wp2_with fail
            go_quiet (fail)
            go_wp2
            go_ret
            exact ⟨by rw [HN.out]; rfl, below_drewN (HB.out.alloc HB.out.size _) _⟩
        · obtain rfl : k = n := by omega
          have HN := Lib.hid (HY.out (fun j hj => HALL.out j (by rw [Shr.vals_len, HL.out] at hj; exact hj)))
          go_wp2
          go_ret
          exact ⟨by rw [HN.out]; rfl, HB.out⟩
    · have HN := Lib.hid (Shr.alike_no (Shr.vals xs) (fun h => hh (by rw [← HV0.out]; exact h.2)))
      unfold Shr.headOk at hh
      generalize (xs[0]!).s = s0 at *
      by_cases h1 : 1 ≤ s0.th
      · have d1 : decide (s0.th < 1) = false := decide_eq_false (by omega)
        by_cases h2 : s0.th ≤ s0.mn
        · have d2 : decide (s0.mn < s0.th) = false := decide_eq_false (by omega)
          by_cases h3 : s0.mn ≤ 8
          · have d3 : decide (8 < s0.mn) = false := decide_eq_false (by omega)
            have h4 : 64 < s0.d.length := by omega
            have d4 : decide ((64 : Int) < (s0.d.length : Int)) = true := decide_eq_true (by omega)
            clear hh
            go_enter Tryd.func82, Tryd.ntmps82
            go_wp2_with fail
            go_quiet (fail)
            go_wp2
            go_ret
            exact ⟨by rw [HN.out]; rfl, below_drewN (Below.refl _ _) _⟩
          · have d3 : decide (8 < s0.mn) = true := decide_eq_true (by omega)
            clear hh
            go_enter Tryd.func82, Tryd.ntmps82
            go_wp2_with fail
            go_quiet (fail)
            go_wp2
            go_ret
            exact ⟨by rw [HN.out]; rfl, below_drewN (Below.refl _ _) _⟩
        · have d2 : decide (s0.mn < s0.th) = true := decide_eq_true (by omega)
          clear hh
          go_enter Tryd.func82, Tryd.ntmps82
          go_wp2_with fail
          go_quiet (fail)
          go_wp2
          go_ret
          exact ⟨by rw [HN.out]; rfl, below_drewN (Below.refl _ _) _⟩
      · have d1 : decide (s0.th < 1) = true := decide_eq_true (by omega)
        clear hh
        go_enter Tryd.func82, Tryd.ntmps82
        go_wp2_with fail
        go_quiet (fail)
        go_wp2
        go_ret
        exact ⟨by rw [HN.out]; rfl, below_drewN (Below.refl _ _) _⟩
end Go.Proofs.YtideglpjgplpnaaDoor
/- Contract of shares.Check. -/
namespace Go.Proofs.YtideglpjgplpnaaDoor
open Go.RowKit Go.Shelf
set_option linter.unusedVariables false

theorem Shr.eps_bad (l : List Shr.S) (ha : Shr.alikeB l = true) (k : Nat) (hk : k < l.length) (h : ¬ Shr.epAt l k) : Shr.chkE l = 61 := by
  rw [Shr.chkE, if_pos ha, if_neg]
  intro h2
  exact h (of_decide_eq_true h2 k hk)
theorem Shr.eps_yes (l : List Shr.S) (ha : Shr.alikeB l = true) (h : ∀ k, k < l.length → Shr.epAt l k) : Shr.chkE l = 0 := by
  rw [Shr.chkE, if_pos ha, if_pos (show Shr.epsB l = true from decide_eq_true h)]

set_option maxRecDepth 100000 in
set_option maxHeartbeats 2000000 in
theorem Shr.check_any (A : Option Addr) (n c : Nat) (xs : List Shr.C) (w : World) (hr : Shr.Rds w A n xs) (hn : n ≤ maxLen) :
    Calls Tryd.prog 55 #[.slice A n c] w fun e w' => e = .returned (.int .i64 (Shr.chkE (Shr.vals xs))) ∧ Below w.heap.size w w' := by
  cases ha : Shr.alikeB (Shr.vals xs) with
  | false =>
    have HN := Lib.hid (show Shr.chkE (Shr.vals xs) = 60 by rw [Shr.chkE, ha]; rfl)
    have HA := Lib.hid ha
    clear ha
    go_enter Tryd.func55, Tryd.ntmps55
    go_wp2_with fail
    refine (Shr.alike_any A n c xs w hr hn).mono ?_
    rintro e w1 ⟨rfl, hb1⟩
    rw [HA.out]
    have HB1 := Lib.hid hb1
    clear hb1
    go_wp2_with fail
    go_ret
    exact ⟨by rw [HN.out]; rfl, HB1.out⟩
  | true =>
    have HA := Lib.hid ha
    have HBAD := Lib.hid (fun k hk => Shr.eps_bad (Shr.vals xs) ha k hk)
    have HY := Lib.hid (Shr.eps_yes (Shr.vals xs) ha)
    have HL := Lib.hid hr.len
    have hpos : 0 < n := by have := Shr.alikeB_len _ ha; rw [Shr.vals_len, hr.len] at this; exact this
    obtain ⟨b, off, rfl, _⟩ := hr.first hpos
    have HV0 := Lib.hid (Shr.vals_at xs 0 (by rw [hr.len]; exact hpos))
    have HR := Lib.hid hr
    clear ha hr
    go_enter Tryd.func55, Tryd.ntmps55
    go_wp2_with fail
    refine (Shr.alike_any (some ⟨b, off, none⟩) n c xs w HR.out hn).mono ?_
    rintro e w1 ⟨rfl, hb1⟩
    rw [HA.out]
    have HB1 := Lib.hid hb1
    clear hb1
    unfold maxLen at hn
    go_wp2_with fail
    go_loopw [10] (fun i wr => ∃ k : Nat, k ≤ n ∧ i = .int .i64 k ∧ (∀ j, j < k → Shr.epAt (Shr.vals xs) j) ∧ Below w.heap.size w wr) (fun i _ => n - (intOf i).toNat)
    case atStart => exact ⟨0, by omega, rfl, fun j hj => absurd hj (by omega), HB1.out⟩
    case round =>
      obtain ⟨k, hk, rfl, hall, hB⟩ := hrel
      have HALL := Lib.hid hall
      have HB := Lib.hid hB
      clear hall hB
      by_cases hlt : k < n
      · obtain ⟨hbw, e0, e1, e2, e3, e4⟩ := (HR.out.keep HB.out).at2 k hlt
        obtain ⟨_, f0, _, _, _, _⟩ := (HR.out.keep HB.out).first2 hpos
        have HVK := Lib.hid (Shr.vals_at xs k (by rw [HL.out]; exact hlt))
        have hG : (∀ (sk s0 : Shr.S), sk = (xs[k]!).s → s0 = (xs[0]!).s → (sk.ep = s0.ep ∧ 0 ≤ sk.ep ∧ sk.ep ≤ 1048576) → ∀ j, j < k + 1 → Shr.epAt (Shr.vals xs) j) := by
          rintro _ _ rfl rfl h j hj
          by_cases hjk : j = k
          · subst hjk; unfold Shr.epAt; rw [HVK.out, HV0.out]; exact h
          · exact HALL.out j (by omega)
        have hF : (∀ (sk s0 : Shr.S), sk = (xs[k]!).s → s0 = (xs[0]!).s → ¬ (sk.ep = s0.ep ∧ 0 ≤ sk.ep ∧ sk.ep ≤ 1048576) → Shr.chkE (Shr.vals xs) = 61) := by
          rintro _ _ rfl rfl h
          refine HBAD.out k (by rw [Shr.vals_len, HL.out]; exact hlt) (fun h2 => h ?_)
          unfold Shr.epAt at h2
          rw [HVK.out, HV0.out] at h2
          exact h2
        obtain ⟨sk, hsk⟩ : ∃ sk, sk = (xs[k]!).s := ⟨_, rfl⟩
        obtain ⟨s0, hs0⟩ : ∃ s0, s0 = (xs[0]!).s := ⟨_, rfl⟩
        have HG := Lib.hid (hG sk s0 hsk hs0)
        have HF := Lib.hid (hF sk s0 hsk hs0)
        rw [← hsk] at e0 e1 e2 e3 e4
        rw [← hs0] at f0
        generalize (xs[k]!).A = Ak at e4
        generalize (xs[k]!).c = ck at e4
        clear hG hF hsk hs0
        by_cases h1 : sk.ep = s0.ep
        · have d1 : (sk.ep != s0.ep) = false := by simp [h1]
          by_cases h2 : 0 ≤ sk.ep
          · have d2 : decide (sk.ep < 0) = false := decide_eq_false (by omega)
            by_cases h3 : sk.ep ≤ 1048576
            · have d3 : decide (1048576 < sk.ep) = false := decide_eq_false (by omega)
              have HOK := Lib.hid (HG.out ⟨h1, h2, h3⟩)
              clear h1
              go_wp2_with fail
              go_quiet (fail)
              go_wp2
              go_roundw
              case rel => exact ⟨k + 1, by omega, by go_num, HOK.out, below_drewN (HB.out.alloc HB.out.size _) _⟩
              case measure => simp [intOf]; omega
            · have d3 : decide (1048576 < sk.ep) = true := decide_eq_true (by omega)
              have HN := Lib.hid (HF.out (fun h => h3 h.2.2))
              clear h1 h2 h3
              go_wp2_with fail
              go_quiet (fail)
              go_wp2
              go_ret
              exact ⟨by rw [HN.out]; rfl, below_drewN (HB.out.alloc HB.out.size _) _⟩
          · have d2 : decide (sk.ep < 0) = true := decide_eq_true (by omega)
            have HN := Lib.hid (HF.out (fun h => h2 h.2.1))
            clear h1 h2
            go_wp2_with fail
            go_quiet (fail)
            go_wp2
            go_ret
            exact ⟨by rw [HN.out]; rfl, below_drewN (HB.out.alloc HB.out.size _) _⟩
        · have d1 : (sk.ep != s0.ep) = true := by simp; omega
          have HN := Lib.hid (HF.out (fun h => h1 h.1))
          clear h1
          go_wp2_with fail
          go_quiet (fail)
          go_wp2
          go_ret
          exact ⟨by rw [HN.out]; rfl, below_drewN (HB.out.alloc HB.out.size _) _⟩
      · obtain rfl : k = n := by omega
        have HN := Lib.hid (HY.out (fun j hj => HALL.out j (by rw [Shr.vals_len, HL.out] at hj; exact hj)))
        go_wp2
        go_ret
        exact ⟨by rw [HN.out]; rfl, HB.out⟩
end Go.Proofs.YtideglpjgplpnaaDoor
