/- What the calls of 'sane' of the statements about shares come to. -/
import Derived.Test.YtpijkjpefdlefaaShW12
namespace Go.Proofs.Ytpijkjpefdlefaa
open Go.RowKit Go.Shelf
set_option linter.unusedVariables false

/-- the slice at A reads as these shares -/
def Shr.RdV (w : World) (A : Option Addr) (n : Nat) (l : List Shr.S) : Prop := ∃ xs, Shr.Rds w A n xs ∧ Shr.vals xs = l
theorem Shr.RdV.keep {w w' : World} {A : Option Addr} {n : Nat} {l : List Shr.S} (h : Shr.RdV w A n l) (hb : Below w.heap.size w w') : Shr.RdV w' A n l := by
  obtain ⟨xs, h1, h2⟩ := h
  exact ⟨xs, h1.keep hb, h2⟩
theorem Shr.RdV.alloc {w : World} {A : Option Addr} {n : Nat} {l : List Shr.S} (h : Shr.RdV w A n l) (o : Obj) : Shr.RdV (w.alloc o) A n l := h.keep ((Below.refl _ _).alloc (Nat.le_refl _) _)
/-- share number k: its cells, and its data -/
theorem Shr.RdV.at {w : World} {b off n : Nat} {l : List Shr.S} (h : Shr.RdV w (some ⟨b, off, none⟩) n l) (k : Nat) (hk : k < n) : ∃ A' c', b < w.heap.size ∧ w.cell? ⟨b, off + k * 5, none⟩ = some (.int .i64 l[k]!.ep) ∧ w.cell? ⟨b, off + k * 5 + 1, none⟩ = some (.int .i64 l[k]!.ix) ∧ w.cell? ⟨b, off + k * 5 + 2, none⟩ = some (.int .i64 l[k]!.th) ∧
    w.cell? ⟨b, off + k * 5 + 3, none⟩ = some (.int .i64 l[k]!.mn) ∧ w.cell? ⟨b, off + k * 5 + 4, none⟩ = some (.slice A' l[k]!.d.length c') ∧ RdB w A' l[k]!.d.length l[k]!.d ∧ (A' = none → c' = 0) := by
  obtain ⟨xs, h1, rfl⟩ := h
  have hk' : k < xs.length := by rw [h1.len]; exact hk
  obtain ⟨hb, e0, e1, e2, e3, e4⟩ := h1.at2 k hk
  have ok := h1.mem k hk
  rw [Shr.vals_at xs k hk']
  exact ⟨_, _, hb, e0, e1, e2, e3, e4, ok.rd, ok.nil⟩
theorem Shr.RdV.addr {w : World} {A : Option Addr} {n : Nat} {l : List Shr.S} (h : Shr.RdV w A n l) (hn : 0 < n) : ∃ b off, A = some ⟨b, off, none⟩ := by
  obtain ⟨xs, h1, _⟩ := h
  obtain ⟨b, off, e, _⟩ := h1.first hn
  exact ⟨b, off, e⟩
theorem Shr.Rds.drop {w : World} {b off n : Nat} {xs : List Shr.C} (h : Shr.Rds w (some ⟨b, off, none⟩) n xs) (m : Nat) (hm : m ≤ n) : Shr.Rds w (some ⟨b, off + m * 5, none⟩) (n - m) (xs.drop m) := by
  refine ⟨⟨by rw [Shr.flat_len, List.length_drop, h.len], fun hp => ?_⟩, by rw [List.length_drop, h.len], fun x hx => h.ok x (List.mem_of_mem_drop hx)⟩
  obtain ⟨b', off', e, hb, hc⟩ := h.rd.2 (by omega)
  injection e with e
  injection e with e1 e2
  subst e1 e2
  refine ⟨b, off + m * 5, rfl, hb, fun j u hu => ?_⟩
  rw [Nat.add_assoc]
  refine hc (m * 5 + j) u ?_
  have e2 : xs.flatMap Shr.C.cells = (xs.take m).flatMap Shr.C.cells ++ (xs.drop m).flatMap Shr.C.cells := by rw [← List.flatMap_append, List.take_append_drop]
  have hl : ((xs.take m).flatMap Shr.C.cells).length = m * 5 := by rw [Shr.flat_len, List.length_take, h.len, Nat.min_eq_left hm]
  rw [e2, List.getElem?_append_right (by omega), hl, Nat.add_sub_cancel_left]
  exact hu
theorem Shr.vals_drop (xs : List Shr.C) (k : Nat) : Shr.vals (xs.drop k) = (Shr.vals xs).drop k := by rw [Shr.vals, Shr.vals, List.map_drop]

abbrev Shr.L0 : List Shr.S := [⟨4, 1, 1, 2, [7]⟩, ⟨4, 2, 1, 2, [7]⟩]
abbrev Shr.M0 : List Shr.S := [⟨0, 1, 2, 3, [6]⟩, ⟨0, 2, 2, 3, [3]⟩, ⟨0, 3, 2, 3, [0]⟩]
abbrev Shr.X0 : List Shr.S := [⟨1, 1, 2, 3, [6]⟩, ⟨1, 2, 2, 3, [3]⟩, ⟨1, 3, 2, 3, [0]⟩]
theorem Shr.L0_eq : Shr.spl [7] 4 1 2 [] = Shr.L0 := by
  have h : Shr.dat [7] [] 1 1 = [7] ∧ Shr.dat [7] [] 1 2 = [7] := by decide +kernel
  show [(⟨4, 1, 1, 2, Shr.dat [7] [] 1 1⟩ : Shr.S), ⟨4, 2, 1, 2, Shr.dat [7] [] 1 2⟩] = _
  rw [h.1, h.2]
theorem Shr.M0_eq : Shr.spl [5] 0 2 3 [3] = Shr.M0 := by
  have h : Shr.dat [5] [3] 2 1 = [6] ∧ Shr.dat [5] [3] 2 2 = [3] ∧ Shr.dat [5] [3] 2 3 = [0] := by decide +kernel
  show [(⟨0, 1, 2, 3, Shr.dat [5] [3] 2 1⟩ : Shr.S), ⟨0, 2, 2, 3, Shr.dat [5] [3] 2 2⟩, ⟨0, 3, 2, 3, Shr.dat [5] [3] 2 3⟩] = _
  rw [h.1, h.2.1, h.2.2]
theorem Shr.X0_eq : Shr.refV Shr.M0 [0] = Shr.X0 := by
  have h : Shr.dat [0] [0] 2 1 = [0] ∧ Shr.dat [0] [0] 2 2 = [0] ∧ Shr.dat [0] [0] 2 3 = [0] := by decide +kernel
  show [(⟨1, 1, 2, 3, Shr.addD [6] (Shr.dat [0] [0] 2 1)⟩ : Shr.S), ⟨1, 2, 2, 3, Shr.addD [3] (Shr.dat [0] [0] 2 2)⟩, ⟨1, 3, 2, 3, Shr.addD [0] (Shr.dat [0] [0] 2 3)⟩] = _
  rw [h.1, h.2.1, h.2.2]
  rfl
theorem Shr.M0_chk : Shr.chkE Shr.M0 = 0 := by decide
theorem Shr.J0_eq : Shr.joinE (Shr.M0.drop 1) = 0 ∧ Shr.joinV (Shr.M0.drop 1) = [5] := by decide +kernel
theorem Shr.E0_eq : Shr.explE Shr.M0 1 = 60 ∧ Shr.explE (Shr.M0.take 1) 1 = 0 ∧ Shr.explV (Shr.M0.take 1) [9] = [15] := by decide +kernel
theorem Shr.K0_eq : Shr.joinE [⟨0, 1, 2, 3, [6]⟩, ⟨1, 2, 2, 3, [3]⟩] = 61 ∧ Shr.joinE [] = 60 := by decide +kernel

/-- shares are handed back -/
def Shr.RetV (w : World) (n : Nat) (l : List Shr.S) (e : Ending) (w' : World) : Prop := ∃ A c, e = .returned (.tuple #[.slice A n c, .int .i64 0]) ∧ Shr.RdV w' A n l ∧ n ≤ c ∧ c ≤ maxLen ∧ Below w.heap.size w w'
theorem Shr.retV {w W w' : World} {n : Nat} {l : List Shr.S} {e : Ending} (h : Shr.RetS W n l e w') (hb : Below w.heap.size w W) : Shr.RetV w n l e w' := by
  obtain ⟨v, xs, rfl, hO, _, hv, hb2⟩ := h
  obtain ⟨A, c, rfl⟩ := own_form hO.row
  obtain ⟨h1, h2⟩ := own_cap hO.row
  exact ⟨A, c, rfl, ⟨xs, hO.rds, hv⟩, h1, h2, hb.trans (hb2.mono hb.size)⟩
theorem Shr.s1 (w : World) : Calls Try.prog 17 #[.slice none 0 0] w fun e w' => e = .returned (.tuple #[.slice none 0 0, .int .i64 60]) ∧ Below w.heap.size w w' :=
  (Shr.join_no none 0 0 [] w Shr.Rds.nil (by decide) (by rw [show Shr.vals [] = [] from rfl, Shr.K0_eq.2]; decide)).mono fun _ _ ⟨he, hb⟩ => ⟨by rw [he, show Shr.vals [] = [] from rfl, Shr.K0_eq.2], hb⟩
theorem below_of2 (w : World) (o1 o2 : Obj) : Below w.heap.size w ((w.alloc o1).alloc o2) := ((Below.refl _ _).alloc (Nat.le_refl _) _).alloc (by simp) _
theorem Shr.s2 (w : World) (o1 o2 : Obj) (A B : Option Addr) : Calls Try.prog 12 #[.slice A 2 2, .int .i64 0, .int .i64 2, .int .i64 3, .slice B 1 1] ((w.alloc o1).alloc o2) fun e w' => e = .returned (.tuple #[.slice none 0 0, .int .i64 1]) ∧ Below w.heap.size w w' :=
  (Shr.split_no _ _ 2 2 1 1 0 2 3 _ (by decide) (by decide) ⟨by decide, by decide⟩ (by decide)).mono fun _ _ ⟨he, hb⟩ => ⟨by rw [he]; rfl, below_n2 hb⟩
theorem Shr.s3 (w : World) : Calls Try.prog 12 #[.slice (some ⟨w.heap.size, 0, none⟩) 1 1, .int .i64 4, .int .i64 1, .int .i64 2, .slice none 0 0] (w.alloc (.cells #[.int .u8 7] 5)) (Shr.RetV w 2 Shr.L0) :=
  (Shr.split_yes _ _ 1 1 0 0 4 1 2 [7] [] _ (RdB.new w 5 [7]) RdB.none_ (by decide) (by decide) (fun _ => rfl) (by decide) (by decide) (by decide) (by decide) (by decide) (by decide) rfl).mono fun _ _ h => Shr.retV (by rw [Shr.L0_eq] at h; exact h) ((Below.refl _ _).alloc (Nat.le_refl _) _)
theorem RdB.second (w : World) (t : TypeId) (l : List UInt8) (o : Obj) : RdB ((w.alloc o).alloc (.cells (l.map fun a => Value.int .u8 (a.toNat : Int)).toArray t)) (some ⟨w.heap.size + 1, 0, none⟩) l.length l := by
  have h := RdB.new (w.alloc o) t l
  rw [World.size_alloc w o] at h
  exact h
theorem Shr.s4 (w : World) : Calls Try.prog 12 #[.slice (some ⟨w.heap.size, 0, none⟩) 1 1, .int .i64 0, .int .i64 2, .int .i64 3, .slice (some ⟨w.heap.size + 1, 0, none⟩) 1 1] ((w.alloc (.cells #[.int .u8 5] 5)).alloc (.cells #[.int .u8 3] 5)) (Shr.RetV w 3 Shr.M0) :=
  (Shr.split_yes _ _ 1 1 1 1 0 2 3 [5] [3] _ ((RdB.new w 5 [5]).alloc _) (RdB.second w 5 [3] _) (by decide) (by decide) (fun h => by cases h) (by decide) (by decide) (by decide) (by decide) (by decide) (by decide) rfl).mono fun _ _ h => Shr.retV (by rw [Shr.M0_eq] at h; exact h) (below_of2 _ _ _)
/-- bytes are handed back -/
def Shr.RetC (w : World) (n : Nat) (l : List UInt8) (e : Ending) (w' : World) : Prop := ∃ A c, e = .returned (.tuple #[.slice A n c, .int .i64 0]) ∧ RdB w' A n l ∧ Below w.heap.size w w'
theorem Shr.s5 (w : World) (b off c : Nat) (hc : 2 ≤ c) (hcm : c ≤ maxLen) (h : Shr.RdV w (some ⟨b, off, none⟩) 3 Shr.M0) : Calls Try.prog 17 #[.slice (some ⟨b, off + 5, none⟩) 2 c] w (Shr.RetC w 1 [5]) := by
  obtain ⟨xs, h1, h2⟩ := h
  have h3 := h1.drop 1 (by decide)
  have hv : Shr.vals (xs.drop 1) = Shr.M0.drop 1 := by rw [Shr.vals_drop, h2]
  refine (Shr.join_yes _ 2 c (xs.drop 1) w h3 hc hcm (by rw [hv, Shr.J0_eq.1])).mono ?_
  rintro e w' ⟨A, c', rfl, _, hr, _, _, hb⟩
  rw [hv, Shr.J0_eq.2] at hr
  rw [hv]
  exact ⟨A, c', rfl, hr, hb⟩
theorem Shr.s6 (w : World) (A : Option Addr) (c : Nat) (B : Option Addr) (o : Obj) (h : Shr.RdV w A 3 Shr.M0) : Calls Try.prog 19 #[.slice A 3 c, .slice B 1 1] (w.alloc o) fun e w' => e = .returned (.tuple #[.slice none 0 0, .int .i64 60]) ∧ Below w.heap.size w w' := by
  obtain ⟨xs, h1, h2⟩ := h
  exact (Shr.expl_no A 3 c B 1 1 xs _ (h1.alloc _) (by decide) (by decide) (by rw [h2, Shr.E0_eq.1]; decide)).mono fun _ _ ⟨he, hb⟩ => ⟨by rw [he, h2, Shr.E0_eq.1], below_n1 hb⟩
theorem Shr.s7 (w : World) (A : Option Addr) (c : Nat) (h : Shr.RdV w A 3 Shr.M0) : Calls Try.prog 21 #[.slice A 3 c, .slice (some ⟨w.heap.size, 0, none⟩) 1 1] (w.alloc (.cells #[.int .u8 0] 5)) (Shr.RetV w 3 Shr.X0) := by
  obtain ⟨xs, h1, h2⟩ := h
  have hx0 : (xs[0]!).s = ⟨0, 1, 2, 3, [6]⟩ := by rw [← Shr.vals_at xs 0 (by rw [h1.len]; decide), h2]; rfl
  refine (Shr.ref_yes A 3 c _ 1 1 xs [0] _ (h1.alloc _) (by decide) (RdB.new w 5 [0]) (by decide) (by decide) (fun h => by cases h) 2 1 0 (by rw [h2, Shr.M0_chk]) (by rw [hx0]; rfl) (by rw [hx0]; rfl) (by rw [hx0]) (by rw [hx0]; rfl) (by decide) rfl).mono fun _ _ h => Shr.retV (by rw [h2, Shr.X0_eq] at h; exact h) ((Below.refl _ _).alloc (Nat.le_refl _) _)
theorem Shr.s8 (w : World) (b off c : Nat) (h : Shr.RdV w (some ⟨b, off, none⟩) 3 Shr.M0) : Calls Try.prog 19 #[.slice (some ⟨b, off, none⟩) 1 c, .slice (some ⟨w.heap.size, 0, none⟩) 1 1] (w.alloc (.cells #[.int .u8 9] 5)) (Shr.RetC w 1 [15]) := by
  obtain ⟨xs, h1, h2⟩ := h
  have h3 := h1.take 1 (by decide)
  have hv : Shr.vals (xs.take 1) = Shr.M0.take 1 := by rw [Shr.vals_take, h2]
  refine (Shr.expl_yes _ 1 c _ 1 1 (xs.take 1) [9] _ (h3.alloc _) (by decide) (RdB.new w 5 [9]) (by decide) (by rw [hv, Shr.E0_eq.2.1])).mono ?_
  rintro e w' ⟨A, c', rfl, _, hr, _, _, hb⟩
  rw [hv] at hr
  rw [Shr.E0_eq.2.2] at hr
  rw [hv]
  exact ⟨A, c', rfl, hr, below_n1 hb⟩
end Go.Proofs.Ytpijkjpefdlefaa
