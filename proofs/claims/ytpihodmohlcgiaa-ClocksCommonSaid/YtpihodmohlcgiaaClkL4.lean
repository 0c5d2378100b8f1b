/- The law ClocksCommon returns true: for all clocks, stamps and times. -/
import Derived.Deep.RegionHeld3
import Derived.Deep.RegionWith
import Derived.BigRegion
import Derived.Test.YtpihodmohlcgiaaRd
import Derived.Test.YtpihodmohlcgiaaClkLaw
namespace Go.Proofs.Ytpihodmohlcgiaa
open Go.RowKit Go.Shelf
set_option linter.unusedVariables false

/-- the cells of clocks -/
def Clk.cells3 (cs : List (Int × Int × Int)) : List Value := cs.flatMap fun c => [.int .i64 c.1, .int .i64 c.2.1, .int .i64 c.2.2]
/-- the cells of ranges -/
def Clk.cells2 (rs : List (Int × Int)) : List Value := rs.flatMap fun r => [.int .i64 r.1, .int .i64 r.2]
/-- the ranges of the clocks that can show their stamps at a time -/
def Clk.gather (t : Int) : List ((Int × Int × Int) × Int) → List (Int × Int)
  | [] => []
  | (c, x) :: l => if Clk.mayB c.1 c.2.1 c.2.2 t x = true then (Clk.timLo c.1 c.2.1 c.2.2 x, Clk.timHi c.1 c.2.1 c.2.2 x) :: Clk.gather t l else Clk.gather t l

theorem Clk.cells3_at (cs : List (Int × Int × Int)) (i : Nat) (c : Int × Int × Int) (h : cs[i]? = some c) : (Clk.cells3 cs)[3 * i]? = some (.int .i64 c.1) ∧ (Clk.cells3 cs)[3 * i + 1]? = some (.int .i64 c.2.1) ∧ (Clk.cells3 cs)[3 * i + 2]? = some (.int .i64 c.2.2) := by
  induction cs generalizing i with
  | nil => cases h
  | cons a cs ih =>
    cases i with
    | zero => cases h; exact ⟨rfl, rfl, rfl⟩
    | succ i =>
      have h' : cs[i]? = some c := h
      have := ih i h'
      exact this
theorem Clk.cells2_at (rs : List (Int × Int)) (i : Nat) (r : Int × Int) (h : rs[i]? = some r) : (Clk.cells2 rs)[2 * i]? = some (.int .i64 r.1) ∧ (Clk.cells2 rs)[2 * i + 1]? = some (.int .i64 r.2) := by
  induction rs generalizing i with
  | nil => cases h
  | cons a rs ih =>
    cases i with
    | zero => cases h; exact ⟨rfl, rfl⟩
    | succ i =>
      have h' : rs[i]? = some r := h
      have := ih i h'
      exact this
theorem Clk.cells2_snoc (rs : List (Int × Int)) (r : Int × Int) : Clk.cells2 (rs ++ [r]) = Clk.cells2 rs ++ [.int .i64 r.1, .int .i64 r.2] := by simp [Clk.cells2]
theorem Clk.gather_snoc (t : Int) (l : List ((Int × Int × Int) × Int)) (c : Int × Int × Int) (x : Int) : Clk.gather t (l ++ [(c, x)]) = Clk.gather t l ++ (if Clk.mayB c.1 c.2.1 c.2.2 t x = true then [(Clk.timLo c.1 c.2.1 c.2.2 x, Clk.timHi c.1 c.2.1 c.2.2 x)] else []) := by
  induction l with
  | nil => simp only [List.nil_append, Clk.gather]
  | cons a l ih =>
    obtain ⟨c', x'⟩ := a
    simp only [List.cons_append, Clk.gather, ih]
    split <;> simp
theorem Clk.gather_len (t : Int) (l : List ((Int × Int × Int) × Int)) : (Clk.gather t l).length ≤ l.length := by
  induction l with
  | nil => simp [Clk.gather]
  | cons a l ih =>
    obtain ⟨c', x'⟩ := a
    simp only [Clk.gather]
    split <;> simp <;> omega
/-- a range that has a time -/
def Clk.Fine (t : Int) (r : Int × Int) : Prop := 0 ≤ r.1 ∧ r.1 ≤ t ∧ t ≤ r.2 ∧ r.2 ≤ 1048576
theorem Clk.fine_of_may (s er d t x : Int) (h : Clk.mayB s er d t x = true) : Clk.timOk s er d x = true ∧ Clk.timE s er d x = 0 ∧ Clk.Fine t (Clk.timLo s er d x, Clk.timHi s er d x) := by
  simp only [Clk.mayB, Bool.and_eq_true] at h
  obtain ⟨⟨ho, ht, hx⟩, hs⟩ := h
  obtain ⟨h1, h2, t1, t2, t3, t4, t5⟩ := Clk.tim_yes s er d x ho hx
  rw [Clk.tmB_iff] at ht
  have := (t5 t ht.1 ht.2).1 hs
  exact ⟨h1, h2, t1, this.1, this.2, t4⟩
theorem Clk.gather_fine (t : Int) (l : List ((Int × Int × Int) × Int)) : ∀ r ∈ Clk.gather t l, Clk.Fine t r := by
  induction l with
  | nil => intro r h; cases h
  | cons a l ih =>
    obtain ⟨c, x⟩ := a
    intro r h
    simp only [Clk.gather] at h
    split at h
    · rename_i hm
      rcases List.mem_cons.1 h with rfl | h
      · exact (Clk.fine_of_may _ _ _ _ _ hm).2.2
      · exact ih r h
    · exact ih r h

/-- what the round of ClocksCommon holds on to -/
def Clk.R10 (w w' : World) (g h b2 o : Nat) (s er d x : Int) : Prop :=
  (w'.cell? ⟨g, 0, none⟩ = some (.int .i64 s) ∧ w'.cell? ⟨g, 1, none⟩ = some (.int .i64 er) ∧ w'.cell? ⟨g, 2, none⟩ = some (.int .i64 d) ∧ w'.cell? ⟨b2, o, none⟩ = some (.int .i64 x)) ∧ b2 < w.heap.size ∧
  St w w' [(g, 23, [.int .i64 s, .int .i64 er, .int .i64 d]), (h + 1, 31, [.int .i64 0, .int .i64 1048576]), (h, 31, [.int .i64 0, .int .i64 1048576])]
theorem Clk.region10 {w w' : World} {g h b2 o : Nat} {s er d x : Int} (hb2 : b2 < w.heap.size) (S : St w w' [(g, 23, [.int .i64 s, .int .i64 er, .int .i64 d]), (h + 1, 31, [.int .i64 0, .int .i64 1048576]), (h, 31, [.int .i64 0, .int .i64 1048576])])
    (hx : w.cell? ⟨b2, o, none⟩ = some (.int .i64 x)) : Clk.R10 w w' g h b2 o s er d x :=
  ⟨⟨(S.nth 0 rfl).c3.1, (S.nth 0 rfl).c3.2.1, (S.nth 0 rfl).c3.2.2, (S.below.cell (p := ⟨b2, o, none⟩) hb2).trans hx⟩, hb2, S⟩
theorem Clk.R10.cells {w w' : World} {g h b2 o : Nat} {s er d x : Int} (r : Clk.R10 w w' g h b2 o s er d x) : w'.cell? ⟨g, 0, none⟩ = some (.int .i64 s) ∧ w'.cell? ⟨g, 1, none⟩ = some (.int .i64 er) ∧ w'.cell? ⟨g, 2, none⟩ = some (.int .i64 d) ∧ w'.cell? ⟨b2, o, none⟩ = some (.int .i64 x) ∧ Clk.R10 w w' g h b2 o s er d x :=
  ⟨r.1.1, r.1.2.1, r.1.2.2.1, r.1.2.2.2, r⟩
theorem Clk.R10.drew {w w' : World} {g h b2 o : Nat} {s er d x : Int} (r : Clk.R10 w w' g h b2 o s er d x) : Clk.R10 w w'.drew g h b2 o s er d x := ⟨r.1, r.2.1, r.2.2.drew⟩
theorem Clk.R10.alloc {w w' : World} {g h b2 o : Nat} {s er d x : Int} (r : Clk.R10 w w' g h b2 o s er d x) (ob : Obj) : Clk.R10 w (w'.alloc ob) g h b2 o s er d x := by
  refine Clk.region10 r.2.1 (r.2.2.alloc ob) ?_
  rw [← r.1.2.2.2]
  exact (r.2.2.below.cell (p := ⟨b2, o, none⟩) r.2.1).symm
theorem Clk.R10.far {w w' : World} {g h b2 o : Nat} {s er d x : Int} (r : Clk.R10 w w' g h b2 o s er d x) {p : Addr} (hp : w.heap.size ≤ p.block) (h1 : g ≠ p.block) (h2 : h + 1 ≠ p.block) (h3 : h ≠ p.block) (u : Value) : Clk.R10 w (w'.setCell p u) g h b2 o s er d x := by
  refine Clk.region10 r.2.1 ⟨r.2.2.below.setCell hp u, fun y hy => ?_⟩ ?_
  · refine (r.2.2.has y hy).far ?_ u
    simp only [List.mem_cons, List.not_mem_nil, or_false] at hy
    rcases hy with rfl | rfl | rfl
    · exact h1
    · exact h2
    · exact h3
  · rw [← r.1.2.2.2]
    exact (r.2.2.below.cell (p := ⟨b2, o, none⟩) r.2.1).symm
theorem Clk.R10.keep {w w' w'' : World} {g h b2 o : Nat} {s er d x : Int} (r : Clk.R10 w w' g h b2 o s er d x) (hb : Below w'.heap.size w' w'') : Clk.R10 w w'' g h b2 o s er d x := by
  refine Clk.region10 r.2.1 (r.2.2.keep hb) ?_
  rw [← r.1.2.2.2]
  exact (r.2.2.below.cell (p := ⟨b2, o, none⟩) r.2.1).symm
theorem Clk.zip_take (cs : List (Int × Int × Int)) (zs : List Int) (k : Nat) (c : Int × Int × Int) (x : Int) (h1 : cs[k]? = some c) (h2 : zs[k]? = some x) : (cs.zip zs).take (k + 1) = (cs.zip zs).take k ++ [(c, x)] := by
  have h : (cs.zip zs)[k]? = some (c, x) := by rw [List.getElem?_zip_eq_some]; exact ⟨h1, h2⟩
  obtain ⟨hl, he⟩ := List.getElem?_eq_some_iff.1 h
  rw [List.take_succ_eq_append_getElem hl, he]
theorem Clk.new2 (w : World) (a b : Value) {t : TypeId} : ∀ (j : Nat) (u : Value), [a, b][j]? = some u → (w.alloc (.cells #[a, b] t)).cell? ((⟨w.heap.size, 0, none⟩ : Addr).add j) = some u := by
  intro j u hu
  have h := (Has.new w t [a, b]).cell j
  rw [hu] at h
  by_cases h0 : j = 0
  · subst h0; exact h
  · simpa [Addr.add, h0] using h
/-- what two ranges have in common -/
def Clk.m2 (a b : Int × Int) : Int × Int := (if a.1 < b.1 then b.1 else a.1, if b.2 < a.2 then b.2 else a.2)
def Clk.upR (rs : List (Int × Int)) : Int × Int := rs.foldl Clk.m2 (0, 1048576)
def Clk.dnR (rs : List (Int × Int)) : Int × Int := rs.foldl (fun a r => Clk.m2 r a) (0, 1048576)
theorem Clk.m2_fine {t : Int} {a b : Int × Int} (ha : Clk.Fine t a) (hb : Clk.Fine t b) : Clk.Fine t (Clk.m2 a b) ∧ Clk.meetOk a.1 a.2 b.1 b.2 = true ∧ Clk.meetLo a.1 a.2 b.1 b.2 = (Clk.m2 a b).1 ∧ Clk.meetHi a.1 a.2 b.1 b.2 = (Clk.m2 a b).2 := by
  obtain ⟨a1, a2, a3, a4⟩ := ha
  obtain ⟨b1, b2, b3, b4⟩ := hb
  have h0 : Clk.meetOk a.1 a.2 b.1 b.2 = true := by
    simp only [Clk.meetOk, decide_eq_true_eq]
    split <;> split <;> omega
  refine ⟨⟨?_, ?_, ?_, ?_⟩, h0, by simp only [Clk.meetLo, h0, if_true]; rfl, by simp only [Clk.meetHi, h0, if_true]; rfl⟩
  all_goals
    simp only [Clk.m2]
    split <;> omega
theorem Clk.up_fine {t : Int} (t0 : 0 ≤ t) (t1 : t ≤ 1048576) : ∀ (rs : List (Int × Int)) (a : Int × Int), Clk.Fine t a → (∀ r ∈ rs, Clk.Fine t r) → Clk.Fine t (rs.foldl Clk.m2 a)
  | [], a, ha, _ => ha
  | r :: rs, a, ha, h => Clk.up_fine t0 t1 rs _ (Clk.m2_fine ha (h r (List.mem_cons_self ..))).1 (fun r' hr => h r' (List.mem_cons_of_mem _ hr))
theorem Clk.dn_fine {t : Int} (t0 : 0 ≤ t) (t1 : t ≤ 1048576) : ∀ (rs : List (Int × Int)) (a : Int × Int), Clk.Fine t a → (∀ r ∈ rs, Clk.Fine t r) → Clk.Fine t (rs.foldl (fun a r => Clk.m2 r a) a)
  | [], a, ha, _ => ha
  | r :: rs, a, ha, h => Clk.dn_fine t0 t1 rs _ (Clk.m2_fine (h r (List.mem_cons_self ..)) ha).1 (fun r' hr => h r' (List.mem_cons_of_mem _ hr))
theorem Clk.up_lo : ∀ (rs : List (Int × Int)) (a : Int × Int) (x : Int), (rs.foldl Clk.m2 a).1 ≤ x ↔ a.1 ≤ x ∧ ∀ r ∈ rs, r.1 ≤ x
  | [], a, x => by simp
  | r :: rs, a, x => by
    rw [List.foldl_cons, Clk.up_lo rs]
    simp only [Clk.m2, List.forall_mem_cons]
    split <;> constructor <;> rintro ⟨h1, h2⟩ <;> (try obtain ⟨h2, h3⟩ := h2) <;> (first | exact ⟨by omega, by omega, h2⟩ | exact ⟨by omega, h3⟩)
theorem Clk.up_hi : ∀ (rs : List (Int × Int)) (a : Int × Int) (x : Int), x ≤ (rs.foldl Clk.m2 a).2 ↔ x ≤ a.2 ∧ ∀ r ∈ rs, x ≤ r.2
  | [], a, x => by simp
  | r :: rs, a, x => by
    rw [List.foldl_cons, Clk.up_hi rs]
    simp only [Clk.m2, List.forall_mem_cons]
    split <;> constructor <;> rintro ⟨h1, h2⟩ <;> (try obtain ⟨h2, h3⟩ := h2) <;> (first | exact ⟨by omega, by omega, h2⟩ | exact ⟨by omega, h3⟩)
theorem Clk.m2_comm (a b : Int × Int) : Clk.m2 a b = Clk.m2 b a := by
  simp only [Clk.m2, Prod.mk.injEq]
  constructor
  · split <;> split <;> omega
  · split <;> split <;> omega
theorem Clk.dn_up (rs : List (Int × Int)) : Clk.dnR rs = Clk.upR rs := by
  unfold Clk.dnR Clk.upR
  congr 1
  funext a r
  exact Clk.m2_comm r a
theorem Clk.up_reverse (rs : List (Int × Int)) : Clk.upR rs.reverse = Clk.upR rs := by
  have h1 : ∀ x, (Clk.upR rs.reverse).1 ≤ x ↔ (Clk.upR rs).1 ≤ x := fun x => by
    unfold Clk.upR; rw [Clk.up_lo, Clk.up_lo]; simp
  have h2 : ∀ x, x ≤ (Clk.upR rs.reverse).2 ↔ x ≤ (Clk.upR rs).2 := fun x => by
    unfold Clk.upR; rw [Clk.up_hi, Clk.up_hi]; simp
  have e1 := (h1 (Clk.upR rs).1).2 (Int.le_refl _)
  have e2 := (h1 (Clk.upR rs.reverse).1).1 (Int.le_refl _)
  have e3 := (h2 (Clk.upR rs).2).2 (Int.le_refl _)
  have e4 := (h2 (Clk.upR rs.reverse).2).1 (Int.le_refl _)
  exact Prod.ext (by omega) (by omega)
theorem Clk.up_snoc (rs : List (Int × Int)) (r : Int × Int) : Clk.upR (rs ++ [r]) = Clk.m2 (Clk.upR rs) r := by simp [Clk.upR]
theorem Clk.dn_snoc (rs : List (Int × Int)) (r : Int × Int) : Clk.dnR (rs ++ [r]) = Clk.m2 r (Clk.dnR rs) := by simp [Clk.dnR]
theorem Clk.take_at {α : Type} (l : List α) (k : Nat) (r : α) (h : l[k]? = some r) : l.take (k + 1) = l.take k ++ [r] := by
  obtain ⟨hl, he⟩ := List.getElem?_eq_some_iff.1 h
  rw [List.take_succ_eq_append_getElem hl, he]
theorem Clk.put2 {w w5 : World} {h : Nat} {ul uh dl dh : Int} (Ul Uh : Int) (hw : w.heap.size ≤ h) (k : St w w5 [(h, 31, [.int .i64 ul, .int .i64 uh]), (h + 1, 31, [.int .i64 dl, .int .i64 dh])]) (_hh : h < h + 1) :
    St w ((w5.setCell ⟨h, 0, none⟩ (.int .i64 Ul)).setCell ⟨h, 1, none⟩ (.int .i64 Uh)) [(h, 31, [.int .i64 Ul, .int .i64 Uh]), (h + 1, 31, [.int .i64 dl, .int .i64 dh])] := by
  have hne : ∀ x, x ∈ [(h + 1, 31, [Value.int .i64 dl, Value.int .i64 dh])] → x.1 ≠ h := fun x hx => by
    simp only [List.mem_cons, List.not_mem_nil, or_false] at hx
    subst hx
    show h + 1 ≠ h
    omega
  exact (k.put hw hne 0 (.int .i64 Ul)).put hw hne 1 (.int .i64 Uh)
theorem Clk.put2' {w w5 : World} {h : Nat} {ul uh dl dh : Int} (Dl Dh : Int) (hw : w.heap.size ≤ h) (k : St w w5 [(h + 1, 31, [.int .i64 dl, .int .i64 dh]), (h, 31, [.int .i64 ul, .int .i64 uh])]) :
    St w ((w5.setCell ⟨h + 1, 0, none⟩ (.int .i64 Dl)).setCell ⟨h + 1, 1, none⟩ (.int .i64 Dh)) [(h + 1, 31, [.int .i64 Dl, .int .i64 Dh]), (h, 31, [.int .i64 ul, .int .i64 uh])] := by
  have hne : ∀ x, x ∈ [(h, 31, [Value.int .i64 ul, Value.int .i64 uh])] → x.1 ≠ h + 1 := fun x hx => by
    simp only [List.mem_cons, List.not_mem_nil, or_false] at hx
    subst hx
    show h ≠ h + 1
    omega
  exact (k.put (by omega) hne 0 (.int .i64 Dl)).put (by omega) hne 1 (.int .i64 Dh)
theorem Clk.infoR : (Try.prog.info? 31).map (fun i => (i.zero, i.size, i.bytes)) = some (some (.agg #[.int .i64 0, .int .i64 0]), 2, 16) := by kernel_rfl

set_option maxRecDepth 100000 in
set_option maxHeartbeats 8000000 in
theorem Clk.law4_main (A A2 : Option Addr) (n c n2 c2 : Nat) (cs : List (Int × Int × Int)) (zs : List Int) (t : Int) (w : World)
    (hA : Rd w w.heap.size 3 A n (Clk.cells3 cs)) (hA2 : Rd w w.heap.size 1 A2 n2 (zs.map (Value.int .i64))) (hn : cs.length = n) (hn2 : zs.length = n2) (h8 : n ≤ 8) (hle : n ≤ n2) (hm : n2 ≤ maxLen) (t0 : 0 ≤ t) (t1 : t ≤ 1048576) :
    Calls Try.prog 6 #[.slice A n c, .slice A2 n2 c2, .int .i64 t] w fun e w' => e = .returned (.bool true) ∧ Below w.heap.size w w' := by
  unfold maxLen at hm
  have d1 : decide (8 < (n : Int)) = false := decide_eq_false (by omega)
  have d2 : decide (n2 < n) = false := decide_eq_false (by omega)
  have d3 : decide (t < 0) = false := decide_eq_false (by omega)
  have d4 : decide (1048576 < t) = false := decide_eq_false (by omega)
  have HA := Lib.hid hA
  have HA2 := Lib.hid hA2
  have HN := Lib.hid hn
  have HN2 := Lib.hid hn2
  clear hA hA2 hn hn2
  go_enter Try.func6, Try.ntmps6
  go_wp2_with fail
  refine (Clk.sane_any _).mono ?_
  rintro e w1 ⟨rfl, hb⟩
  have S1 := (St.start w).keep hb
  clear hb
  go_wp2_with fail
  obtain ⟨W0, hW0⟩ : ∃ W0, (w1.alloc (.cells #[.int .i64 0, .int .i64 1048576] 31)).alloc (.cells #[.int .i64 0, .int .i64 1048576] 31) = W0 := ⟨_, rfl⟩
  have S2 := (S1.new 31 [.int .i64 0, .int .i64 1048576]).new 31 [.int .i64 0, .int .i64 1048576]
  simp only [World.size_alloc] at S2
  have hz : w1.heap.size + 2 = W0.heap.size := by rw [← hW0]; simp
  have HZ := Lib.hid hz
  rw [hW0]
  rw [hW0] at S2
  clear hW0 hz d1 d2 d3 d4
  have hw1 := S1.le
  clear S1
  have S2 := Lib.hid S2
  go_loopw [9, 44] (fun v i wr => ∃ k : Nat, k ≤ n ∧ i = .int .i64 k ∧ wr.ownsRow (w1.heap.size + 2) 31 2 v (Clk.gather t ((cs.zip zs).take k)).length (Clk.cells2 (Clk.gather t ((cs.zip zs).take k))) ∧
      St w wr [(w1.heap.size + 1, 31, [.int .i64 0, .int .i64 1048576]), (w1.heap.size, 31, [.int .i64 0, .int .i64 1048576])] ∧ w1.heap.size + 2 ≤ wr.heap.size)
    (fun _ i _ => n - (intOf i).toNat)
  case atStart =>
    refine ⟨0, Nat.zero_le _, rfl, ?_, S2.out, by have := HZ.out; omega⟩
    exact World.ownsRow_nil _ _ _ _
  case round =>
    obtain ⟨k, hk, rfl, hown, hS, hsz⟩ := hrel
    have HOWN := Lib.hid hown
    have HS := Lib.hid hS
    clear hown hS
    by_cases hlt : k < n
    · obtain ⟨b, off, hAe, hb, hcell⟩ := HA.out.addr (by omega)
      obtain ⟨b2, off2, hA2e, hb2, hcell2⟩ := HA2.out.addr (by omega)
      subst hAe hA2e
      obtain ⟨⟨s, er, d⟩, hck⟩ : ∃ q, cs[k]? = some q := ⟨_, List.getElem?_eq_getElem (by have := HN.out; omega)⟩
      obtain ⟨x, hzk⟩ : ∃ q, zs[k]? = some q := ⟨_, List.getElem?_eq_getElem (by have := HN2.out; omega)⟩
      obtain ⟨f0, f1, f2⟩ := Clk.cells3_at cs k _ hck
      have HB := HS.out.below
      have e0 := (HB.cell (p := ⟨b, off + 3 * k, none⟩) hb).trans (hcell _ _ f0)
      have e1 := (HB.cell (p := ⟨b, off + (3 * k + 1), none⟩) hb).trans (hcell _ _ f1)
      have e2 := (HB.cell (p := ⟨b, off + (3 * k + 2), none⟩) hb).trans (hcell _ _ f2)
      rw [show off + 3 * k = off + k * 3 from by omega] at e0
      rw [show off + (3 * k + 1) = off + k * 3 + 1 from by omega] at e1
      rw [show off + (3 * k + 2) = off + k * 3 + 2 from by omega] at e2
      have ex := (HB.cell (p := ⟨b2, off2 + k, none⟩) hb2).trans (hcell2 k (.int .i64 x) (by rw [List.getElem?_map, hzk]; rfl))
      have hX := Lib.hid (hcell2 k (.int .i64 x) (by rw [List.getElem?_map, hzk]; rfl))
      clear hcell hcell2 f0 f1 f2
      have HCK := Lib.hid hck
      have HZK := Lib.hid hzk
      clear hck hzk
      have hbr : b2 < wr.heap.size := Nat.lt_of_lt_of_le hb2 HB.size
      go_wp2_with fail
      clear e0 e1 e2
      have S3 := HS.out.new 23 [.int .i64 s, .int .i64 er, .int .i64 d]
      have s0 := Clk.region10 hb2 S3 hX.out
      have S3 := Lib.hid S3
      have hki : (k : Int) < (n2 : Int) := by omega
      go_region_held3 (fun w' => w'.cell? ⟨wr.heap.size, 0, none⟩ = some (.int .i64 s) ∧ w'.cell? ⟨wr.heap.size, 1, none⟩ = some (.int .i64 er) ∧ w'.cell? ⟨wr.heap.size, 2, none⟩ = some (.int .i64 d) ∧ w'.cell? ⟨b2, off2 + k, none⟩ = some (.int .i64 x) ∧ Clk.R10 w w' wr.heap.size w1.heap.size b2 (off2 + k) s er d x)
        (first | exact s0.drew.cells | exact Clk.R10.cells (by assumption))
        (first | (go_at_call 11; refine (Clk.may_any s er d t x _).mono ?_; rintro e w4 ⟨rfl, hb4⟩; have s4 := Clk.R10.keep s0.drew hb4))
      have hB4 : Below wr.heap.size wr w4 := ((Below.refl _ _).alloc (Nat.le_refl _) _).drew.trans (hb4.mono (by simp))
      have HOWN4 := Lib.hid (own_below HOWN.out hB4)
      have hsz4 : w1.heap.size + 2 ≤ w4.heap.size := Nat.le_trans hsz hB4.size
      have hwr4 : wr.heap.size < w4.heap.size := (s4.2.2.nth 0 rfl).lt
      have HTK := Lib.hid (Clk.zip_take cs zs k (s, er, d) x HCK.out HZK.out)
      have S4 := Lib.hid s4
      have HB4 := Lib.hid hB4
      clear hb4 s0 S3 HOWN HS ex hB4 HB
      cases hmay : Clk.mayB s er d t x with
      | false =>
        have HG := Lib.hid (show Clk.gather t ((cs.zip zs).take (k + 1)) = Clk.gather t ((cs.zip zs).take k) by rw [HTK.out, Clk.gather_snoc]; simp [hmay])
        clear s4
        go_wp2_with fail
        go_roundw
        case rel => exact ⟨k + 1, by omega, by go_num, by rw [HG.out]; exact HOWN4.out, S4.out.2.2.less (fun x hx => List.mem_cons_of_mem _ hx), hsz4⟩
        case measure => simp [intOf]; omega
      | true =>
        obtain ⟨hok, hE, hfine⟩ := Clk.fine_of_may s er d t x hmay
        have HG := Lib.hid (show Clk.gather t ((cs.zip zs).take (k + 1)) = Clk.gather t ((cs.zip zs).take k) ++ [(Clk.timLo s er d x, Clk.timHi s er d x)] by rw [HTK.out, Clk.gather_snoc]; simp [hmay])
        have HT := Lib.hid hok
        have HE := Lib.hid hE
        generalize hlo : Clk.timLo s er d x = lo at *
        generalize hhi : Clk.timHi s er d x = hi at *
        have HLO := Lib.hid hlo
        have HHI := Lib.hid hhi
        have HIN := Lib.hid ((Clk.inB_iff lo hi t).2 ⟨hfine.2.1, hfine.2.2.1⟩)
        have HMAY := Lib.hid hmay
        clear hok hE hlo hhi hfine
        go_wp2_with fail
        have hh4 : w1.heap.size + 1 < w4.heap.size := by omega
        have hw4 : w.heap.size ≤ w4.heap.size := s4.2.2.le
        go_region_held3 (fun w' => w'.cell? ⟨wr.heap.size, 0, none⟩ = some (.int .i64 s) ∧ w'.cell? ⟨wr.heap.size, 1, none⟩ = some (.int .i64 er) ∧ w'.cell? ⟨wr.heap.size, 2, none⟩ = some (.int .i64 d) ∧ w'.cell? ⟨b2, off2 + k, none⟩ = some (.int .i64 x) ∧ Clk.R10 w w' wr.heap.size w1.heap.size b2 (off2 + k) s er d x)
          (first | exact s4.drew.cells | exact (s4.alloc _).drew.cells | exact Clk.R10.cells (by assumption) | exact (Clk.R10.alloc (by assumption) _).cells | exact (Clk.R10.far (by assumption) (p := ⟨w4.heap.size, _, none⟩) hw4 (by show wr.heap.size ≠ w4.heap.size; omega) (by show w1.heap.size + 1 ≠ w4.heap.size; omega) (by show w1.heap.size ≠ w4.heap.size; omega) _).cells | exact ((Clk.R10.far (by assumption) (p := ⟨w4.heap.size, _, none⟩) hw4 (by show wr.heap.size ≠ w4.heap.size; omega) (by show w1.heap.size + 1 ≠ w4.heap.size; omega) (by show w1.heap.size ≠ w4.heap.size; omega) _).far (p := ⟨w4.heap.size, _, none⟩) hw4 (by show wr.heap.size ≠ w4.heap.size; omega) (by show w1.heap.size + 1 ≠ w4.heap.size; omega) (by show w1.heap.size ≠ w4.heap.size; omega) _).cells)
          (first | (go_at_call 15; refine (Clk.tim_lit HLO.out HHI.out HT.out HE.out _).mono ?_; rintro e w5 ⟨rfl, hb5⟩; have s5 := Clk.R10.keep (by first | exact s4.drew | exact (s4.alloc _).drew) hb5; (try (have q5 : Has w5 w4.heap.size 31 [.int .i64 0, .int .i64 0] := (Has.drew (Has.new w4 31 [.int .i64 0, .int .i64 0])).keep hb5; have q50 := q5.c2.1; have q51 := q5.c2.2; have f50 := q5.frozen 0; have f51 := q5.frozen 1))))
        · have hB5 : Below w4.heap.size w4 w5 := (Below.refl _ _).drew.trans (hb5.mono (by simp))
          have hg6 := Has.new w5 31 [.int .i64 lo, .int .i64 hi]
          have r6 := s5.alloc (.cells #[.int .i64 lo, .int .i64 hi] 31)
          have ho6 := (own_below HOWN4.out hB5).alloc (.cells #[.int .i64 lo, .int .i64 hi] 31)
          have hsz6 : w1.heap.size + 2 ≤ (w5.alloc (.cells #[.int .i64 lo, .int .i64 hi] 31)).heap.size := by have := hB5.size; simp; omega
          clear hB5 hb5 s5
          skip
          generalize w5.alloc (.cells #[.int .i64 lo, .int .i64 hi] 31) = w6 at *
          have HG6 := Lib.hid hg6
          have g60 := hg6.c2.1
          have g61 := hg6.c2.2
          have hl6 := hg6.lt
          have R6 := Lib.hid r6
          have HOWN6 := Lib.hid ho6
          clear hg6 r6 ho6 HOWN4 S4 s4
          go_wp2_with fail
          refine (Clk.in_lit HIN.out _).mono ?_
          rintro e w7 ⟨rfl, hb7⟩
          have HG7 := HG6.out.keep hb7
          have g70 := HG7.c2.1
          have g71 := HG7.c2.2
          have R7 := Lib.hid (R6.out.keep hb7)
          have HOWN7 := own_below HOWN6.out hb7
          have hsz7 : w1.heap.size + 2 ≤ w7.heap.size := Nat.le_trans hsz6 hb7.size
          have hlen := Clk.gather_len t ((cs.zip zs).take k)
          have hlen2 : (Clk.gather t ((cs.zip zs).take k)).length ≤ 8 := by
            have := List.length_take_le k (cs.zip zs)
            omega
          clear hb7 HG7 HG6 R6 HOWN6 g60 g61 hlen
          obtain ⟨i0, hi0, hz0, hz1, hz2⟩ := info_parts Clk.infoR
          go_wp2_with (at_builtin; refine wpList_append_own_at _ rfl _ _ 40 rfl (w1.heap.size + 2) 31 i0 _ 2 16 Try.underlying40 hi0 hz0 hz1 hz2 rfl (by decide) _ _ _ rfl (HOWN7.alloc _) ⟨w7.heap.size, 0, none⟩ 1 1 [.int .i64 lo, .int .i64 hi] rfl rfl (Clk.new2 w7 _ _) (by simp [Value.oneCell']) (by simp only [maxLen]; omega) (by omega) (by simp; omega) ?_; intro v8 w8 hown8 hg8 _ hat8)
          have S8 := (R7.out.2.2.alloc (.cells #[.int .i64 lo, .int .i64 hi] 31)).less (l' := [(w1.heap.size + 1, 31, [.int .i64 0, .int .i64 1048576]), (w1.heap.size, 31, [.int .i64 0, .int .i64 1048576])]) (fun x hx => List.mem_cons_of_mem _ hx)
          have S8' := Lib.hid (S8.grown hg8 (fun g hg => by
            have hge := own_ge HOWN7 hg
            have := S8.le
            refine ⟨by omega, fun x hx => ?_⟩
            simp only [List.mem_cons, List.not_mem_nil, or_false] at hx
            rcases hx with rfl | rfl
            · show w1.heap.size + 1 ≠ g; omega
            · show w1.heap.size ≠ g; omega))
          have hsz8 : w1.heap.size + 2 ≤ w8.heap.size := by have := hg8.size; simp at this; omega
          have HO8 := Lib.hid hown8
          clear hg8 hat8 hown8 S8 HOWN7 g70 g71
          go_wp2_with fail
          go_roundw
          case rel => exact ⟨k + 1, by omega, by go_num, by rw [HG.out, List.length_append, Clk.cells2_snoc]; exact HO8.out, S8'.out, hsz8⟩
          case measure => simp [intOf]; omega
        · have hB5 : Below w4.heap.size w4 w5 := (((Below.refl _ _).alloc (Nat.le_refl _) _).drew).trans (hb5.mono (by simp))
          have hg6 : Has ((w5.setCell ⟨w4.heap.size, 0, none⟩ (.int .i64 lo)).setCell ⟨w4.heap.size, 1, none⟩ (.int .i64 hi)) w4.heap.size 31 [.int .i64 lo, .int .i64 hi] := (q5.set 0 _).set 1 _
          have r6 := (Clk.R10.far s5 (p := ⟨w4.heap.size, 0, none⟩) hw4 (by show wr.heap.size ≠ w4.heap.size; omega) (by show w1.heap.size + 1 ≠ w4.heap.size; omega) (by show w1.heap.size ≠ w4.heap.size; omega) (.int .i64 lo)).far (p := ⟨w4.heap.size, 1, none⟩) hw4 (by show wr.heap.size ≠ w4.heap.size; omega) (by show w1.heap.size + 1 ≠ w4.heap.size; omega) (by show w1.heap.size ≠ w4.heap.size; omega) (.int .i64 hi)
          have ho6 := own_below HOWN4.out ((hB5.setCell (p := ⟨w4.heap.size, 0, none⟩) (Nat.le_refl _) (.int .i64 lo)).setCell (p := ⟨w4.heap.size, 1, none⟩) (Nat.le_refl _) (.int .i64 hi))
          have hsz6 : w1.heap.size + 2 ≤ ((w5.setCell ⟨w4.heap.size, 0, none⟩ (.int .i64 lo)).setCell ⟨w4.heap.size, 1, none⟩ (.int .i64 hi)).heap.size := by have := hB5.size; simp; omega
          clear hB5 hb5 s5 q5 q50 q51 f50 f51
          generalize (w5.setCell ⟨w4.heap.size, 0, none⟩ (.int .i64 lo)).setCell ⟨w4.heap.size, 1, none⟩ (.int .i64 hi) = w6 at *
          have HG6 := Lib.hid hg6
          have g60 := hg6.c2.1
          have g61 := hg6.c2.2
          have hl6 := hg6.lt
          have R6 := Lib.hid r6
          have HOWN6 := Lib.hid ho6
          clear hg6 r6 ho6 HOWN4 S4 s4
          go_wp2_with fail
          refine (Clk.in_lit HIN.out _).mono ?_
          rintro e w7 ⟨rfl, hb7⟩
          have HG7 := HG6.out.keep hb7
          have g70 := HG7.c2.1
          have g71 := HG7.c2.2
          have R7 := Lib.hid (R6.out.keep hb7)
          have HOWN7 := own_below HOWN6.out hb7
          have hsz7 : w1.heap.size + 2 ≤ w7.heap.size := Nat.le_trans hsz6 hb7.size
          have hlen := Clk.gather_len t ((cs.zip zs).take k)
          have hlen2 : (Clk.gather t ((cs.zip zs).take k)).length ≤ 8 := by
            have := List.length_take_le k (cs.zip zs)
            omega
          clear hb7 HG7 HG6 R6 HOWN6 g60 g61 hlen
          obtain ⟨i0, hi0, hz0, hz1, hz2⟩ := info_parts Clk.infoR
          go_wp2_with (at_builtin; refine wpList_append_own_at _ rfl _ _ 40 rfl (w1.heap.size + 2) 31 i0 _ 2 16 Try.underlying40 hi0 hz0 hz1 hz2 rfl (by decide) _ _ _ rfl (HOWN7.alloc _) ⟨w7.heap.size, 0, none⟩ 1 1 [.int .i64 lo, .int .i64 hi] rfl rfl (Clk.new2 w7 _ _) (by simp [Value.oneCell']) (by simp only [maxLen]; omega) (by omega) (by simp; omega) ?_; intro v8 w8 hown8 hg8 _ hat8)
          have S8 := (R7.out.2.2.alloc (.cells #[.int .i64 lo, .int .i64 hi] 31)).less (l' := [(w1.heap.size + 1, 31, [.int .i64 0, .int .i64 1048576]), (w1.heap.size, 31, [.int .i64 0, .int .i64 1048576])]) (fun x hx => List.mem_cons_of_mem _ hx)
          have S8' := Lib.hid (S8.grown hg8 (fun g hg => by
            have hge := own_ge HOWN7 hg
            have := S8.le
            refine ⟨by omega, fun x hx => ?_⟩
            simp only [List.mem_cons, List.not_mem_nil, or_false] at hx
            rcases hx with rfl | rfl
            · show w1.heap.size + 1 ≠ g; omega
            · show w1.heap.size ≠ g; omega))
          have hsz8 : w1.heap.size + 2 ≤ w8.heap.size := by have := hg8.size; simp at this; omega
          have HO8 := Lib.hid hown8
          clear hg8 hat8 hown8 S8 HOWN7 g70 g71
          go_wp2_with fail
          go_roundw
          case rel => exact ⟨k + 1, by omega, by go_num, by rw [HG.out, List.length_append, Clk.cells2_snoc]; exact HO8.out, S8'.out, hsz8⟩
          case measure => simp [intOf]; omega
    · have hkn : k = n := by omega
      subst hkn
      have hall : (cs.zip zs).take k = cs.zip zs := List.take_of_length_le (by rw [List.length_zip, HN.out, HN2.out]; omega)
      have HOWN' := HOWN.out
      rw [hall] at HOWN'
      have hfine := Clk.gather_fine t (cs.zip zs)
      have hlen : (Clk.gather t (cs.zip zs)).length ≤ 8 := by
        have h1 := Clk.gather_len t (cs.zip zs)
        rw [List.length_zip, HN.out, HN2.out] at h1
        omega
      generalize Clk.gather t (cs.zip zs) = rs at HOWN' hfine hlen
      have HF := Lib.hid hfine
      have HO := Lib.hid HOWN'
      clear hall HOWN HOWN' hfine HA HA2 HN HN2 h8 hle
      obtain ⟨m, hm9⟩ : ∃ m, rs.length = m := ⟨_, rfl⟩
      obtain ⟨A9, c9, hv9⟩ : ∃ A9 c9, u9 = .slice A9 m c9 := by
        rcases HO.out.2 with ⟨h1, h2⟩ | ⟨g, cp, cur, h1, _⟩
        · exact ⟨none, 0, by rw [h1, ← hm9, h2]⟩
        · exact ⟨_, cp, by rw [h1, hm9]⟩
      subst hv9
      have HM := Lib.hid hm9
      have hm8 : m ≤ 8 := by omega
      clear hm9 hlen
      go_wp2_with fail
      go_loopw [90] (fun i wq => ∃ j : Nat, j ≤ m ∧ i = .int .i64 j ∧ wq.ownsRow (w1.heap.size + 2) 31 2 (.slice A9 m c9) m (Clk.cells2 rs) ∧
          St w wq [(w1.heap.size + 1, 31, [.int .i64 (Clk.dnR (rs.reverse.take j)).1, .int .i64 (Clk.dnR (rs.reverse.take j)).2]), (w1.heap.size, 31, [.int .i64 (Clk.upR (rs.take j)).1, .int .i64 (Clk.upR (rs.take j)).2])] ∧ w1.heap.size + 2 ≤ wq.heap.size)
        (fun i _ => m - (intOf i).toNat)
      case atStart =>
        refine ⟨0, Nat.zero_le _, rfl, ?_, HS.out, hsz⟩
        have := HO.out
        rw [HM.out] at this
        exact this
      case round =>
        obtain ⟨j, hj, rfl, hown, hS, hszq⟩ := hrel
        obtain ⟨wq, rfl⟩ : ∃ wq : World, wq = wr := ⟨_, rfl⟩
        by_cases hlt2 : j < m
        · obtain ⟨r, hrj⟩ : ∃ r, rs[j]? = some r := ⟨_, List.getElem?_eq_getElem (by rw [HM.out]; exact hlt2)⟩
          obtain ⟨q, hqj⟩ : ∃ q, rs.reverse[j]? = some q := ⟨_, List.getElem?_eq_getElem (by rw [List.length_reverse, HM.out]; exact hlt2)⟩
          have hqj' : rs[m - 1 - j]? = some q := by
            have := hqj
            rw [List.getElem?_reverse (by rw [HM.out]; exact hlt2), HM.out] at this
            exact this
          have hrF := HF.out r (List.mem_of_getElem? hrj)
          have hqF := HF.out q (List.mem_of_getElem? hqj')
          have HTU := Lib.hid (Clk.take_at rs j r hrj)
          have HTD := Lib.hid (Clk.take_at rs.reverse j q hqj)
          have huF : Clk.Fine t (Clk.upR (rs.take j)) := Clk.up_fine t0 t1 _ _ ⟨Int.le_refl _, t0, t1, Int.le_refl _⟩ (fun r' h' => HF.out r' (List.mem_of_mem_take h'))
          have hdF : Clk.Fine t (Clk.dnR (rs.reverse.take j)) := Clk.dn_fine t0 t1 _ _ ⟨Int.le_refl _, t0, t1, Int.le_refl _⟩ (fun r' h' => HF.out r' (List.mem_reverse.1 (List.mem_of_mem_take h')))
          have HUS := Lib.hid (show Clk.upR (rs.take (j + 1)) = Clk.m2 (Clk.upR (rs.take j)) r by rw [HTU.out, Clk.up_snoc])
          have HDS := Lib.hid (show Clk.dnR (rs.reverse.take (j + 1)) = Clk.m2 q (Clk.dnR (rs.reverse.take j)) by rw [HTD.out, Clk.dn_snoc])
          generalize Clk.upR (rs.take j) = u at *
          generalize Clk.dnR (rs.reverse.take j) = dn at *
          obtain ⟨fU, oU, lU, iU⟩ := Clk.m2_fine huF hrF
          obtain ⟨fD, oD, lD, iD⟩ := Clk.m2_fine hqF hdF
          have hgA : ∃ g, A9 = some ⟨g, 0, none⟩ ∧ w1.heap.size + 2 ≤ g ∧ g < wq.heap.size := by
            rcases hown.2 with ⟨_, h2⟩ | ⟨g, cp, cur, h1, h2, h3, _⟩
            · omega
            · injection h1 with h1; exact ⟨g, h1, h2, (Array.getElem?_eq_some_iff.1 h3).1⟩
          obtain ⟨g, rfl, hg1, hg2⟩ := hgA
          obtain ⟨f0, f1⟩ := Clk.cells2_at rs j r hrj
          obtain ⟨f2, f3⟩ := Clk.cells2_at rs (m - 1 - j) q hqj'
          obtain ⟨rl, rh⟩ := r
          obtain ⟨ql, qh⟩ := q
          obtain ⟨ul, uh⟩ := u
          obtain ⟨dl, dh⟩ := dn
          have c0 := (hown.cellAt (2 * j) (by omega)).trans f0
          have c1 := (hown.cellAt (2 * j + 1) (by omega)).trans f1
          have x0 := (hown.cellAt (2 * (m - 1 - j)) (by omega)).trans f2
          have x1 := (hown.cellAt (2 * (m - 1 - j) + 1) (by omega)).trans f3
          rw [show 2 * j = j * 2 from by omega] at c0 c1
          rw [show 2 * (m - 1 - j) = (m - 1 - j) * 2 from by omega] at x0 x1
          dsimp only at c0 c1 x0 x1 lU iU oU lD iD oD
          generalize hmU : Clk.m2 (ul, uh) (rl, rh) = mU at *
          generalize hmD : Clk.m2 (ql, qh) (dl, dh) = mD at *
          obtain ⟨Ul, Uh⟩ := mU
          obtain ⟨Dl, Dh⟩ := mD
          have LU := Lib.hid lU
          have IU := Lib.hid iU
          have OU := Lib.hid oU
          have LD := Lib.hid lD
          have ID := Lib.hid iD
          have OD := Lib.hid oD
          have FU := Lib.hid fU
          have FD := Lib.hid fD
          have HOWN := Lib.hid hown
          obtain ⟨lu, u0, u1⟩ := (hS.nth 1 rfl).r2
          have fu0 := (hS.nth 1 rfl).frozen 0
          have fu1 := (hS.nth 1 rfl).frozen 1
          have HS2 := Lib.hid hS
          have hji : (j : Int) < (m : Int) := by omega
          have X0 := Lib.hid f2
          have X1 := Lib.hid f3
          rw [show 2 * (m - 1 - j) = (m - 1 - j) * 2 from by omega] at X0 X1
          clear x0 x1
          clear hrF hqF huF hdF lU iU oU lD iD oD fU fD f0 f1 f2 f3 hown hS hmU hmD hrj hqj hqj' HTU HTD HF HO HS hsz hm
          go_wp2_with fail
          go_region_with ((go_at_call 17; refine (Clk.meet_lit LU.out IU.out OU.out _).mono ?_; rintro e w5 ⟨rfl, hb5⟩; have k5 := HS2.out.drew.keep hb5; have o5 := own_below (own_drew HOWN.out) hb5; have y0 := (k5.nth 1 rfl).c2.1; have y1 := (k5.nth 1 rfl).c2.2; have y2 := (k5.nth 1 rfl).frozen 0; have y3 := (k5.nth 1 rfl).frozen 1))
          all_goals
            have P6 := Clk.put2 Ul Uh (by have := k5.le; omega) (k5.less (l' := [(w1.heap.size, 31, [.int .i64 ul, .int .i64 uh]), (w1.heap.size + 1, 31, [.int .i64 dl, .int .i64 dh])]) (fun x hx => by simp only [List.mem_cons, List.not_mem_nil, or_false] at hx ⊢; rcases hx with h | h <;> simp [h])) (by omega)
            have o6 := own_far (own_far o5 (p := ⟨w1.heap.size, 0, none⟩) (by show w1.heap.size < _; omega) (.int .i64 Ul)) (p := ⟨w1.heap.size, 1, none⟩) (by show w1.heap.size < _; omega) (.int .i64 Uh)
            have hz6 : w1.heap.size + 2 ≤ ((w5.setCell ⟨w1.heap.size, 0, none⟩ (.int .i64 Ul)).setCell ⟨w1.heap.size, 1, none⟩ (.int .i64 Uh)).heap.size := by have := hb5.size; simp at this ⊢; omega
            generalize (w5.setCell ⟨w1.heap.size, 0, none⟩ (.int .i64 Ul)).setCell ⟨w1.heap.size, 1, none⟩ (.int .i64 Uh) = w6 at *
            have x0 := (o6.cellAt ((m - 1 - j) * 2) (by omega)).trans X0.out
            have x1 := (o6.cellAt ((m - 1 - j) * 2 + 1) (by omega)).trans X1.out
            obtain ⟨ld, d0, d1⟩ := (P6.nth 1 rfl).r2
            have fd0 := (P6.nth 1 rfl).frozen 0
            have fd1 := (P6.nth 1 rfl).frozen 1
            have HP6 := Lib.hid P6
            have HO6 := Lib.hid o6
            have hmi : (0 : Int) ≤ (m : Int) - 1 - (j : Int) := by omega
            have hmi2 : (m : Int) - 1 - (j : Int) < (m : Int) := by omega
            have hmi3 : ((m : Int) - 1 - (j : Int)).toNat = m - 1 - j := by omega
            clear hb5 k5 o5 y0 y1 y2 y3 P6 o6 HS2 HOWN
            go_wp2_with fail
            have hwr1 : IntKind.i64.wrap ((m : Int) - 1) = (m : Int) - 1 := IntWalk.i64_in _ (by omega)
            have hwr2 : IntKind.i64.wrap ((m : Int) - 1 - (j : Int)) = (m : Int) - 1 - (j : Int) := IntWalk.i64_in _ (by omega)
            go_region_with ((go_at_call 17; refine (Clk.meet_lit LD.out ID.out OD.out _).mono ?_; rintro e w7 ⟨rfl, hb7⟩; have k7 := HP6.out.drew.keep hb7; have o7 := own_below (own_drew HO6.out) hb7; have y0 := (k7.nth 1 rfl).c2.1; have y1 := (k7.nth 1 rfl).c2.2; have y2 := (k7.nth 1 rfl).frozen 0; have y3 := (k7.nth 1 rfl).frozen 1))
            all_goals
              clear hwr1 hwr2
              have P8 := Clk.put2' Dl Dh (by have := k7.le; omega) (k7.less (l' := [(w1.heap.size + 1, 31, [.int .i64 dl, .int .i64 dh]), (w1.heap.size, 31, [.int .i64 Ul, .int .i64 Uh])]) (fun x hx => by simp only [List.mem_cons, List.not_mem_nil, or_false] at hx ⊢; rcases hx with h | h <;> simp [h]))
              have o8 := own_far (own_far o7 (p := ⟨w1.heap.size + 1, 0, none⟩) (by show w1.heap.size + 1 < _; omega) (.int .i64 Dl)) (p := ⟨w1.heap.size + 1, 1, none⟩) (by show w1.heap.size + 1 < _; omega) (.int .i64 Dh)
              have hz8 : w1.heap.size + 2 ≤ ((w7.setCell ⟨w1.heap.size + 1, 0, none⟩ (.int .i64 Dl)).setCell ⟨w1.heap.size + 1, 1, none⟩ (.int .i64 Dh)).heap.size := by have := hb7.size; simp at this ⊢; omega
              generalize (w7.setCell ⟨w1.heap.size + 1, 0, none⟩ (.int .i64 Dl)).setCell ⟨w1.heap.size + 1, 1, none⟩ (.int .i64 Dh) = w8 at *
              obtain ⟨ld8, d80, d81⟩ := (P8.nth 0 rfl).r2
              obtain ⟨lu8, u80, u81⟩ := (P8.nth 1 rfl).r2
              have HP8 := Lib.hid P8
              have HO8 := Lib.hid o8
              clear hb7 k7 o7 y0 y1 y2 y3 P8 o8 HP6 HO6 x0 x1 ld d0 d1 fd0 fd1
              go_wp2_with fail
              refine (Clk.in_lit ((Clk.inB_iff Ul Uh t).2 ⟨FU.out.2.1, FU.out.2.2.1⟩) _).mono ?_
              rintro e w9 ⟨rfl, hb9⟩
              have HP9 := Lib.hid (HP8.out.keep hb9)
              have HO9 := Lib.hid (own_below HO8.out hb9)
              have hz9 : w1.heap.size + 2 ≤ w9.heap.size := Nat.le_trans hz8 hb9.size
              clear hb9 HP8 HO8 ld8 d80 d81 lu8 u80 u81
              obtain ⟨ld9, d90, d91⟩ := (HP9.out.nth 0 rfl).r2
              go_wp2_with fail
              refine (Clk.in_lit ((Clk.inB_iff Dl Dh t).2 ⟨FD.out.2.1, FD.out.2.2.1⟩) _).mono ?_
              rintro e w10 ⟨rfl, hb10⟩
              have HP10 := Lib.hid (HP9.out.keep hb10)
              have HO10 := Lib.hid (own_below HO9.out hb10)
              have hz10 : w1.heap.size + 2 ≤ w10.heap.size := Nat.le_trans hz9 hb10.size
              clear hb10 HP9 HO9 ld9 d90 d91
              go_wp2_with fail
              go_roundw
              case rel => exact ⟨j + 1, by omega, by go_num, HO10.out, by rw [HUS.out, HDS.out]; exact HP10.out, hz10⟩
              case measure => simp [intOf]; omega
        · have hjm : j = m := by omega
          subst hjm
          have hu : Clk.upR (rs.take j) = Clk.upR rs := by rw [List.take_of_length_le (by rw [HM.out]; exact Nat.le_refl _)]
          have hd : Clk.dnR (rs.reverse.take j) = Clk.upR rs := by rw [List.take_of_length_le (by rw [List.length_reverse, HM.out]; exact Nat.le_refl _), Clk.dn_up, Clk.up_reverse]
          rw [hu, hd] at hS
          generalize Clk.upR rs = u at hS
          obtain ⟨ul, uh⟩ := u
          obtain ⟨ld, d0, d1⟩ := (hS.nth 0 rfl).r2
          obtain ⟨lu, u0, u1⟩ := (hS.nth 1 rfl).r2
          have hb := Lib.hid hS.below
          have e1 : (ul == ul) = true := by simp
          have e2 : (uh == uh) = true := by simp
          clear hS hown hu hd HF HO HS
          go_wp2_with fail
          go_ret
          exact ⟨rfl, hb.out⟩
end Go.Proofs.Ytpihodmohlcgiaa
