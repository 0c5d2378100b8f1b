import Derived.Test.YtideglpjgplpnaaDoorMSlSome
import Derived.Test.YtideglpjgplpnaaDoorMSlW1
import Derived.Deep.MidRow
import Derived.Test.YtideglpjgplpnaaDoorMSlK
/- Shares in a block of the call's own: they change places, one gets another number. No program in sight but the numbers of its types. -/
namespace Go.Proofs.YtideglpjgplpnaaDoor
open Go.RowKit Go.Shelf
set_option linter.unusedVariables false

theorem Sl.below_setCells {B b : Nat} {a : World} (hb : B ≤ b) : ∀ (vs : List Value) (o : Nat) {w : World}, Below B a w → Below B a (w.setCells b o vs)
  | [], _, _, h => h
  | v :: r, o, w, h => Sl.below_setCells hb r (o + 1) (h.setCell (p := ⟨b, o, none⟩) hb v)
theorem Sl.cells5 (x : Shr.C) : x.cells.length = 5 := rfl
/-- block gm, which is the call's own, holds the shares ys, all of them out of xs -/
structure Sl.Mx (W wr : World) (gm m : Nat) (xs ys : List Shr.C) : Prop where
  len : ys.length = m
  mem : ∀ y ∈ ys, y ∈ xs
  rd : ∀ k (y : Shr.C), ys[k]? = some y → wr.rangeAt gm (k * 5) y.cells
  th : wr.there gm 0 (m * 5)
  b : Below W.heap.size W wr
  g : W.heap.size ≤ gm
section
variable {W wr : World} {gm m : Nat} {xs ys : List Shr.C}
theorem Sl.Mx.there (h : Sl.Mx W wr gm m xs ys) (k : Nat) (hk : k < m) : wr.there gm (k * 5) 5 := fun j hj => by
  have h2 := h.th (k * 5 + j) (by have : (k + 1) * 5 ≤ m * 5 := Nat.mul_le_mul_right 5 hk; omega)
  rw [Nat.zero_add] at h2
  exact h2
theorem Sl.Mx.drew (h : Sl.Mx W wr gm m xs ys) : Sl.Mx W wr.drew gm m xs ys := ⟨h.len, h.mem, h.rd, h.th, h.b.drew, h.g⟩
theorem Sl.Mx.set (h : Sl.Mx W wr gm m xs ys) (k : Nat) (hk : k < m) (y : Shr.C) (hy : y ∈ xs) : Sl.Mx W (wr.setCells gm (k * 5) y.cells) gm m xs (ys.set k y) := by
  refine ⟨by rw [List.length_set]; exact h.len, fun z hz => ?_, fun i z hz => ?_, World.there_setCells h.th _ _ _, Sl.below_setCells h.g _ _ h.b, h.g⟩
  · rcases List.mem_or_eq_of_mem_set hz with hz | rfl
    · exact h.mem z hz
    · exact hy
  · rw [List.getElem?_set] at hz
    by_cases hik : k = i
    · subst hik
      rw [if_pos rfl, if_pos (by rw [h.len]; exact hk)] at hz
      injection hz with hz
      subst hz
      exact World.rangeAt_setCells_same _ _ _ _ (h.there k hk)
    · rw [if_neg hik] at hz
      refine World.rangeAt_setCells_apart (h.rd i z hz) _ _ _ (.inr ?_)
      rw [Sl.cells5, Sl.cells5]
      omega
theorem Sl.Mx.rds (h : Sl.Mx W wr gm m xs ys) (hx : ∀ x ∈ xs, x.Ok W) : Shr.Rds wr (some ⟨gm, 0, none⟩) m ys := by
  refine ⟨⟨by rw [Shr.flat_len, h.len], fun hm => ⟨gm, 0, rfl, ?_, fun j u hu => ?_⟩⟩, h.len, fun y hy => (hx y (h.mem y hy)).keep h.b⟩
  · have h2 := (h.th 0 (by omega)).1
    obtain ⟨u, hu⟩ := Option.isSome_iff_exists.1 h2
    exact World.block_lt_of_cell? _ _ hu
  · rw [Nat.zero_add]
    have hj : j < ys.length * 5 := by rw [← Shr.flat_len]; exact (List.getElem?_eq_some_iff.1 hu).1
    have hk : j / 5 < ys.length := by omega
    have e : j = j / 5 * 5 + j % 5 := by omega
    rw [e, Shr.flat_at ys (j / 5) (j % 5) hk (by omega), getElem!_pos ys _ hk] at hu
    rw [e]
    exact h.rd (j / 5) _ (List.getElem?_eq_getElem hk) (j % 5) u hu
end
theorem Sl.Mx.start {W wr : World} {m c : Nat} {A : Option Addr} {xs : List Shr.C} (h : wr.ownsRow W.heap.size 43 5 (.slice A m c) m (xs.flatMap Shr.C.cells)) (hl : xs.length = m) (hm : 0 < m) (hb : Below W.heap.size W wr) : ∃ gm, A = some ⟨gm, 0, none⟩ ∧ Sl.Mx W wr gm m xs xs := by
  rcases h.2 with ⟨_, h0⟩ | ⟨g, c', cur, hv, hg, hh, hcur⟩
  · omega
  · have hA : A = some ⟨g, 0, none⟩ := by injection hv
    subst hA
    have hcell : ∀ j u, (xs.flatMap Shr.C.cells)[j]? = some u → wr.cell? ⟨g, j, none⟩ = some u := fun j u hu => by
      have := h.cells (g := g) rfl j u hu
      by_cases h0 : j = 0
      · subst h0; exact this
      · simpa [Addr.add, h0] using this
    refine ⟨g, rfl, hl, fun y hy => hy, fun k y hy j v hv => ?_, fun j hj => ⟨?_, ?_⟩, hb, hg⟩
    · have hk := (List.getElem?_eq_some_iff.1 hy).1
      have hj : j < 5 := by rw [← Sl.cells5 y]; exact (List.getElem?_eq_some_iff.1 hv).1
      refine hcell _ _ ?_
      rw [Shr.flat_at xs k j hk hj, getElem!_pos xs k hk]
      rw [List.getElem?_eq_getElem hk] at hy
      injection hy with hy
      rw [hy]
      exact hv
    · rw [Nat.zero_add, hcell j _ (List.getElem?_eq_getElem (by rw [Shr.flat_len, hl]; exact hj))]
      rfl
    · simp [World.frozen?, hh]
/-- a share with another number -/
def Sl.reix (x : Shr.C) (v : Int) : Shr.C := ⟨⟨x.s.ep, v, x.s.th, x.s.mn, x.s.d⟩, x.A, x.c⟩
theorem Sl.reix_cells (x : Shr.C) (v : Int) : (Sl.reix x v).cells = x.cells.set 1 (.int .i64 v) := rfl
/-- share number k gets another number -/
theorem Sl.Rds.reix {w : World} {g n : Nat} {xs : List Shr.C} (h : Shr.Rds w (some ⟨g, 0, none⟩) n xs) (k : Nat) (x : Shr.C) (hx : xs[k]? = some x) (v : Int) (hd : ∀ y ∈ xs, ∀ b off, y.A = some ⟨b, off, none⟩ → b ≠ g) :
    Shr.Rds (w.setCell ⟨g, k * 5 + 1, none⟩ (.int .i64 v)) (some ⟨g, 0, none⟩) n (xs.set k (Sl.reix x v)) := by
  have hk : k < xs.length := (List.getElem?_eq_some_iff.1 hx).1
  have hkn : k < n := by rw [← h.len]; exact hk
  have far : ∀ y ∈ xs, y.Ok (w.setCell ⟨g, k * 5 + 1, none⟩ (.int .i64 v)) := fun y hy => by
    have ho := h.ok y hy
    refine ⟨⟨ho.rd.1, fun hn => ?_⟩, ho.len, ho.nil⟩
    obtain ⟨b, off, e, hb, hc⟩ := ho.rd.2 hn
    refine ⟨b, off, e, by simpa using hb, fun j u hu => ?_⟩
    rw [World.cell?_setCell_other _ _ _ _ (fun e2 => hd y hy b off e (by injection e2 with e2; exact e2.symm))]
    exact hc j u hu
  obtain ⟨b0, o0, e0, hb0, hc0⟩ := h.rd.2 (by omega)
  injection e0 with e0
  injection e0 with e1 e2
  subst e1 e2
  refine ⟨⟨by rw [Shr.flat_len, List.length_set, h.len], fun _ => ⟨g, 0, rfl, by simpa using hb0, fun j u hu => ?_⟩⟩, by rw [List.length_set]; exact h.len, fun y hy => ?_⟩
  · rw [Nat.zero_add]
    have hj : j < xs.length * 5 := by
      have := (List.getElem?_eq_some_iff.1 hu).1
      rw [Shr.flat_len, List.length_set] at this
      exact this
    have hk2 : j / 5 < xs.length := by omega
    have e : j = j / 5 * 5 + j % 5 := by omega
    rw [e, Shr.flat_at _ (j / 5) (j % 5) (by rw [List.length_set]; exact hk2) (by omega)] at hu
    have old : ∀ z, (xs[j / 5]!).cells[j % 5]? = some z → w.cell? ⟨g, j, none⟩ = some z := fun z hz => by
      have h3 := hc0 j z (by rw [e, Shr.flat_at xs (j / 5) (j % 5) hk2 (by omega)]; exact hz)
      rw [Nat.zero_add] at h3
      exact h3
    rw [getElem!_pos (xs.set k (Sl.reix x v)) (j / 5) (by rw [List.length_set]; exact hk2), List.getElem_set] at hu
    by_cases hik : k = j / 5
    · rw [if_pos hik, Sl.reix_cells, List.getElem?_set] at hu
      have hxk : xs[j / 5]! = x := by
        rw [getElem!_pos xs _ hk2]
        have h4 := hx
        rw [List.getElem?_eq_getElem hk] at h4
        injection h4 with h4
        rw [← h4]
        congr 1
        exact hik.symm
      by_cases h1 : 1 = j % 5
      · rw [if_pos h1, if_pos (by rw [Sl.cells5]; omega)] at hu
        have ej : j = k * 5 + 1 := by omega
        obtain ⟨u0, hold⟩ : ∃ u0, w.cell? ⟨g, j, none⟩ = some u0 := ⟨_, old _ (List.getElem?_eq_getElem (by rw [Sl.cells5]; omega))⟩
        rw [ej] at hold ⊢
        rw [World.cell?_setCell_same _ _ _ hold]
        exact hu
      · rw [if_neg h1] at hu
        rw [World.cell?_setCell_other _ _ _ _ (fun e2 => by injection e2 with _ e3; omega)]
        exact old u (by rw [hxk]; exact hu)
    · rw [if_neg hik] at hu
      rw [World.cell?_setCell_other _ _ _ _ (fun e2 => by injection e2 with _ e3; omega)]
      exact old u (by rw [getElem!_pos xs _ hk2]; exact hu)
  · rcases List.mem_or_eq_of_mem_set hy with hy | rfl
    · exact far y hy
    · have h5 := far x (List.mem_of_getElem? hx)
      exact ⟨h5.rd, h5.len, h5.nil⟩
end Go.Proofs.YtideglpjgplpnaaDoor
/- Seal, as the laws want it; arguments of the laws that seal. -/
namespace Go.Proofs.YtideglpjgplpnaaDoor
open Go.RowKit Go.Shelf
set_option linter.unusedVariables false
set_option linter.unusedSimpArgs false

/-- the arguments of Seal -/
structure Sl.ArgS (w : World) (Ab : Option Addr) (nb cb : Nat) (body : List UInt8) (Ak : Option Addr) (nk ck : Nat) (key : List UInt8) (th mn : Int) (Ac : Option Addr) (nc cc : Nat) (coins : List UInt8) : Prop where
  rb : RdB w Ab nb body
  rk : RdB w Ak nk key
  rc : RdB w Ac nc coins
  bm : nb ≤ maxLen
  km : nk ≤ maxLen
  bn : Ab = none → cb = 0
  cl : nc ≤ cc
  cx : cc ≤ maxLen
  cn : Ac = none → cc = 0
  th : -9223372036854775808 ≤ th ∧ th ≤ 9223372036854775807
  g : Dg.G w Rc.K0 Rc.I0
theorem Sl.ArgS.keep {w w' : World} {Ab : Option Addr} {nb cb : Nat} {body : List UInt8} {Ak : Option Addr} {nk ck : Nat} {key : List UInt8} {th mn : Int} {Ac : Option Addr} {nc cc : Nat} {coins : List UInt8}
    (h : Sl.ArgS w Ab nb cb body Ak nk ck key th mn Ac nc cc coins) (hb : Below w.heap.size w w') : Sl.ArgS w' Ab nb cb body Ak nk ck key th mn Ac nc cc coins :=
  ⟨h.rb.keep hb, h.rk.keep hb, h.rc.keep hb, h.bm, h.km, h.bn, h.cl, h.cx, h.cn, h.th, h.g.keep hb⟩
/-- a sealing is handed back -/
def Sl.RetM (w : World) (s : Sl.W) (l : List Shr.S) (m : Nat) (e : Ending) (w' : World) : Prop := ∃ Ad cd Am cA b off c xs, e = .returned (.tuple #[.agg (Sl.row s Ad cd Am cA).toArray, .slice (some ⟨b, off, none⟩) m c, .int .i64 0]) ∧ Sl.Ok s w' Ad cd Am cA ∧ Shr.Rds w' (some ⟨b, off, none⟩) m xs ∧ Shr.vals xs = l ∧ m ≤ c ∧ c ≤ maxLen ∧ Below w.heap.size w w'
theorem Sl.seal_cases {w : World} {Ab : Option Addr} {nb cb : Nat} {body : List UInt8} {Ak : Option Addr} {nk ck : Nat} {key : List UInt8} {th mn : Int} {Ac : Option Addr} {nc cc : Nat} {coins : List UInt8}
    (h : Sl.ArgS w Ab nb cb body Ak nk ck key th mn Ac nc cc coins) (h0 : Sl.selE nb nk th mn nc = 0) : ∃ t m : Nat, th = (t : Int) ∧ mn = (m : Int) ∧ nk = nb ∧ Sl.Mk body key coins t m := by
  obtain ⟨h1, h2, h3, h4, h5, h6, h7⟩ := Sl.selE_yes _ _ _ _ _ h0
  obtain ⟨t, rfl⟩ := Int.eq_ofNat_of_zero_le (show 0 ≤ th by omega)
  obtain ⟨m, rfl⟩ := Int.eq_ofNat_of_zero_le (show 0 ≤ mn by omega)
  have hbl := h.rb.len
  have hkl := h.rk.len
  have hcl := h.rc.len
  have h8 : nc = nb * (t - 1) := by
    have h9 : ((t : Int) - 1) = ((t - 1 : Nat) : Int) := by omega
    rw [h9] at h7
    exact_mod_cast h7
  exact ⟨t, m, rfl, rfl, h3, by omega, by omega, by omega, by omega, by omega, by omega, by rw [hcl, h8, hbl]⟩
theorem Sl.seal_mk {w : World} {Ab : Option Addr} {nb cb : Nat} {body : List UInt8} {Ak : Option Addr} {ck : Nat} {key : List UInt8} {t m : Nat} {Ac : Option Addr} {nc cc : Nat} {coins : List UInt8}
    (h : Sl.ArgS w Ab nb cb body Ak nb ck key t m Ac nc cc coins) (hm : Sl.Mk body key coins t m) :
    Calls Tryd.prog 16 #[.slice Ab nb cb, .slice Ak nb ck, .int .i64 t, .int .i64 m, .slice Ac nc cc] w (Sl.RetM w (Sl.selW body key t m coins) (Sl.selS key t m coins) m) := by
  have hbl := h.rb.len
  have hcl := h.rc.len
  have b1 := hm.b1
  have b64 := hm.b64
  refine (Sl.seal_yes Ab Ak Ac nb cb ck nc cc t m body key coins w h.rb h.rk h.rc h.bn h.cl h.cx h.cn (by omega) (by omega) hm.t1 hm.tm hm.m8 (by rw [← hcl, hm.c, hbl]) h.g).mono ?_
  rintro e w' ⟨Ad, cd, Am, cA, A, c, rfl, h1, ⟨xs, h2, h3⟩, h4, h5, h6⟩
  have hl : (Sl.selS key t m coins).length = m := Shr.spl_len ..
  rw [hl] at h2 h4 ⊢
  have t1 := hm.t1
  have tm := hm.tm
  obtain ⟨b, off, rfl, _⟩ := h2.first (by omega)
  exact ⟨Ad, cd, Am, cA, b, off, c, xs, rfl, h1, h2, h3, h4, h5, h6⟩
/-- the shares of a sealing lie in the world; what Open and its like want of them -/
theorem Sl.sel_rg {key coins : List UInt8} {t m : Nat} {body : List UInt8} (hm : Sl.Mk body key coins t m) {xs : List Shr.C} (hv : Shr.vals xs = Sl.selS key t m coins) : ∀ x ∈ xs, Sl.rg x.s ∧ x.s.d.length ≤ 10000000 ∧ 1 ≤ x.s.d.length ∧ Sl.bad (Sl.selW body key t m coins) x.s = false := by
  intro x hx
  have hmem : x.s ∈ Sl.selS key t m coins := by rw [← hv]; exact List.mem_map.2 ⟨x, hx, rfl⟩
  obtain ⟨h1, h2, h3, h4, h5, h6⟩ := Sl.spl_mem hmem
  have := hm.b64
  have := hm.b1
  have := hm.k
  have := hm.m8
  have := hm.tm
  have := hm.t1
  refine ⟨?_, by omega, by omega, Sl.sel_bad hmem⟩
  unfold Sl.rg Rc.in64
  omega
theorem Sl.data_lt {w : World} {A : Option Addr} {n : Nat} {xs : List Shr.C} (h : Shr.Rds w A n xs) (h1 : ∀ x ∈ xs, 1 ≤ x.s.d.length) : ∀ x, x ∈ xs → ∀ b off, x.A = some ⟨b, off, none⟩ → b < w.heap.size := by
  intro x hx b off e
  obtain ⟨b', off', e', hb, _⟩ := (h.ok x hx).rd.2 (h1 x hx)
  rw [e] at e'
  injection e' with e'
  injection e' with e1 e2
  rw [e1]
  exact hb
theorem Sl.run_op_rem {P : Program} {o : Oper} {a : Act} {w : World} (t t2 : TypeId) (x y : Operand) (ho : o.op = .binOp .rem t x y t2) (k m : Nat) (hx : a.eval x = .int .i64 (k : Int)) (hy : a.eval y = .int .i64 (m : Int)) (hm : 0 < m) (hk : k ≤ 9223372036854775807) : (execOp a.eval o).run P w = .ok (.value (.int .i64 ((k % m : Nat) : Int))) w := by
  have hm0 : ¬ m = 0 := by omega
  have hw : Int.tmod (k : Int) (m : Int) = (k : Int) % (m : Int) := (show Int.tmod (k : Int) (m : Int) = ((k % m : Nat) : Int) from rfl).trans (Int.natCast_emod k m)
  unfold execOp
  simp only [ho, hx, hy]
  simp [eqGuard, Sem.run_bind, go_sem, Result.andThen, hm0, hw]
end Go.Proofs.YtideglpjgplpnaaDoor
/- Chosen shares of a sealing: what Open and its like want of them. -/
namespace Go.Proofs.YtideglpjgplpnaaDoor
open Go.RowKit Go.Shelf
set_option linter.unusedVariables false
set_option linter.unusedSimpArgs false

theorem Sl.ixs_len (m : UInt8) : ∀ k, (Shr.ixs m k).length ≤ k
  | 0 => Nat.le_refl _
  | k + 1 => by
    have h := Sl.ixs_len m k
    rw [Shr.ixs, List.length_append]
    split <;> simp <;> omega
theorem Sl.pick_len (key coins : List UInt8) (t m : Nat) (mask : UInt8) : (Shr.pick (Sl.selS key t m coins) mask).length ≤ m := by
  rw [Sl.pk_sel, Shr.sel_len]
  exact Sl.ixs_len mask m
/-- all that is known of the shares of a sealing, and where they lie -/
structure Sl.Lies (W : World) (body key coins : List UInt8) (t m : Nat) (s : Sl.W) (l : List Shr.S) (xs : List Shr.C) (Ad : Option Addr) (cd : Nat) (Am : Option Addr) (cA : Nat) : Prop where
  mkd : Sl.Mk body key coins t m
  se : Sl.selW body key t m coins = s
  le : Sl.selS key t m coins = l
  v : Shr.vals xs = l
  ok : Sl.Ok s W Ad cd Am cA
  k : Dg.G W Rc.K0 Rc.I0
section
variable {W W' : World} {body key coins : List UInt8} {t m : Nat} {s : Sl.W} {l : List Shr.S} {xs ys : List Shr.C} {Ad : Option Addr} {cd : Nat} {Am : Option Addr} {cA : Nat}
theorem Sl.Lies.keep (h : Sl.Lies W body key coins t m s l xs Ad cd Am cA) (hb : Below W.heap.size W W') : Sl.Lies W' body key coins t m s l xs Ad cd Am cA := ⟨h.mkd, h.se, h.le, h.v, h.ok.keep hb, h.k.keep hb⟩
theorem Sl.Lies.all (h : Sl.Lies W body key coins t m s l xs Ad cd Am cA) : ∀ x ∈ xs, Sl.rg x.s ∧ x.s.d.length ≤ 10000000 ∧ 1 ≤ x.s.d.length ∧ Sl.bad s x.s = false := by
  have h2 := Sl.sel_rg (body := body) h.mkd (xs := xs) (by rw [h.le]; exact h.v)
  rw [h.se] at h2
  exact h2
theorem Sl.Lies.chk (h : Sl.Lies W body key coins t m s l xs Ad cd Am cA) : Sl.chk s = 0 := by rw [← h.se]; exact h.mkd.ok
theorem Sl.Lies.rdy (h : Sl.Lies W body key coins t m s l xs Ad cd Am cA) (hs : ∀ y ∈ ys, y ∈ xs) {A : Option Addr} {n : Nat} (hn : n ≤ 1000000) (hr : Shr.Rds W A n ys) : Sl.Rdy W A n ys s Ad cd Am cA :=
  ⟨hr, fun y hy => (h.all y (hs y hy)).1, hn, fun y hy => (h.all y (hs y hy)).2.1, h.ok, h.k⟩
theorem Sl.Lies.alt (h : Sl.Lies W body key coins t m s l xs Ad cd Am cA) (hs : ∀ y ∈ ys, y ∈ xs) : Sl.altV s (Shr.vals ys) = [] := by
  unfold Sl.altV
  rw [if_pos h.chk]
  exact Sl.alt_none fun x hx => by
    obtain ⟨y, hy, rfl⟩ := List.mem_map.1 hx
    exact (h.all y (hs y hy)).2.2.2
theorem Sl.Lies.opn (h : Sl.Lies W body key coins t m s l xs Ad cd Am cA) {mask : UInt8} (hy : Shr.vals ys = Shr.pick l mask) : t ≤ ys.length → Sl.opnE s (Shr.vals ys) = 0 ∧ Sl.opnV s (Shr.vals ys) = body := by
  intro hp
  rw [← Shr.vals_len, hy, ← h.le] at hp
  rw [hy, ← h.le, ← h.se]
  exact h.mkd.opn mask hp
theorem Sl.Lies.few (h : Sl.Lies W body key coins t m s l xs Ad cd Am cA) {mask : UInt8} (hy : Shr.vals ys = Shr.pick l mask) : ys.length < t → Sl.opnE s (Shr.vals ys) = 60 := by
  intro hp
  rw [← Shr.vals_len, hy, ← h.le] at hp
  rw [hy, ← h.le, ← h.se]
  exact h.mkd.few mask hp
theorem Sl.Lies.plen (h : Sl.Lies W body key coins t m s l xs Ad cd Am cA) {mask : UInt8} (hy : Shr.vals ys = Shr.pick l mask) : ys.length ≤ 8 := by
  rw [← Shr.vals_len, hy, ← h.le]
  exact Nat.le_trans (Sl.pick_len key coins t m mask) h.mkd.m8
theorem Sl.own_at {W : World} {base c n : Nat} {A : Option Addr} {ys : List Shr.C} (h : W.ownsRow base 43 5 (.slice A n c) n (ys.flatMap Shr.C.cells)) (hl : ys.length = n) (hn : 0 < n) : ∃ g, A = some ⟨g, 0, none⟩ ∧ base ≤ g ∧ ∀ k y, ys[k]? = some y → W.cell? ⟨g, k * 5 + 1, none⟩ = some (.int .i64 y.s.ix) ∧ W.frozen? ⟨g, k * 5 + 1, none⟩ = false := by
  rcases h.2 with ⟨_, h0⟩ | ⟨g, c', cur, hv, hg, hh, hcur⟩
  · omega
  · have hA : A = some ⟨g, 0, none⟩ := by injection hv
    subst hA
    refine ⟨g, rfl, hg, fun k y hy => ⟨?_, by simp [World.frozen?, hh]⟩⟩
    have hk := (List.getElem?_eq_some_iff.1 hy).1
    have hu : (ys.flatMap Shr.C.cells)[k * 5 + 1]? = some (.int .i64 y.s.ix) := by
      rw [Shr.flat_at ys k 1 hk (by omega), getElem!_pos ys k hk]
      rw [List.getElem?_eq_getElem hk] at hy
      injection hy with hy
      rw [hy]
      rfl
    have := h.cells (g := g) rfl _ _ hu
    simpa [Addr.add] using this
end
end Go.Proofs.YtideglpjgplpnaaDoor
