/- The built-in append onto a slice of the call's own, its source a slice that reads as a list (nil let in): as a run, at an operation, inside a region. No condition; no program in sight. -/
import Derived.Deep.RegionHeld3
import Derived.Deep.AppendLies
import Derived.Laws.AppendOwn
import Derived.Laws.OwnMore
import Derived.Maps.AppendAt
import Derived.Test.YtnbbleajbbgmjaaDoorByt
namespace Go.Proofs.YtnbbleajbbgmjaaDoor
open Go.RowKit

/-- t is the type of slices of e; what e's zero value is, how many cells and bytes it takes -/
structure EltOk (P : Program) (t e : TypeId) (z : Value) (size bytes : Nat) : Prop where
  und : P.underlying t = some (.slice e)
  info : (P.info? e).map (fun i => (i.zero, i.size, i.bytes)) = some (some z, size, bytes)
  zs : z.cells.size = size
  pos : 0 < size

/-- what an append leaves -/
structure Grew (w : World) (base : Nat) (e : TypeId) (size : Nat) (v : Value) (n : Nat) (xs : List Value) (v' : Value) (w' : World) : Prop where
  own : w'.ownsRow base e size v' n xs
  grown : w.grownBy w' v.ownBlock
  at_ : v'.ownBlock = v.ownBlock ∨ v'.ownBlock = some w.heap.size

section
variable {P : Program} {t e : TypeId} {z : Value} {size bytes : Nat} {w : World} {base B : Nat} {v : Value} {n : Nat} {xs : List Value} {A : Option Addr} {m c : Nat} {news : List Value}

theorem run_append_rd (E : EltOk P t e z size bytes) (ty : TypeId) (hown : w.ownsRow base e size v n xs) (hrd : Rd w B size A m news) (h1 : ∀ u ∈ news, u.oneCell' = true) (hc : A = none → c = 0)
    (h63 : n + m ≤ maxLen) (hbytes : (n + m) * bytes ≤ 140737488355328) (hbase : base ≤ w.heap.size) :
    ∃ v' w', (Builtin.append_ #[t, t] ty #[v, .slice A m c]).run P w = .ok v' w' ∧ Grew w base e size v (n + m) (xs ++ news) v' w' := by
  obtain ⟨i, hi, hz, hsize, hby⟩ := info_parts E.info
  cases A with
  | none =>
    have hm : m = 0 := by
      rcases Nat.eq_zero_or_pos m with h | h
      · exact h
      · obtain ⟨_, _, e, _⟩ := hrd.2 h; cases e
    subst hm
    have hn : news = [] := List.length_eq_zero_iff.1 (by have := hrd.1; simpa using this)
    subst hn
    rw [hc rfl]
    exact ⟨v, w, run_append_owned_none w base t ty e i size E.und hi v n xs hown, by simpa using hown, ⟨rfl, rfl, rfl, Nat.le_refl _, fun _ _ _ => rfl⟩, .inl rfl⟩
  | some ad =>
    obtain ⟨v', w', hr, h2, h3, _, h5⟩ := run_append_own_at (P := P) w base t ty e i z size bytes E.und hi hz hsize hby E.zs E.pos v n xs hown ad m c news hrd.1 (fun j u hu => by
      have hlt : j < news.length := (List.getElem?_eq_some_iff.1 hu).1
      have hm : 0 < m := by
        rcases Nat.eq_zero_or_pos m with h | h
        · subst h; have := hrd.1; rw [Nat.zero_mul] at this; omega
        · exact h
      obtain ⟨b, off, e1, _, hcell⟩ := hrd.2 hm
      injection e1 with e1
      subst e1
      have hplain : (⟨b, off, none⟩ : Addr).add j = ⟨b, off + j, none⟩ := by unfold Addr.add; split <;> simp_all
      rw [hplain]
      exact hcell j u hu) h1 h63 hbytes hbase
    exact ⟨v', w', hr, h2, h3, h5⟩

theorem wp_append_rd {o : Oper} {a : Act} {K : Act → World → Prop} {Q : Exit → Act → World → Prop} (s x : Operand) (ho : o.op = .call { callee := .builtin .append, args := #[s, x], argTypes := #[t, t] })
    (E : EltOk P t e z size bytes) (hs : a.eval s = v) (hown : w.ownsRow base e size v n xs) (hx : a.eval x = .slice A m c) (hrd : Rd w B size A m news) (h1 : ∀ u ∈ news, u.oneCell' = true) (hc : A = none → c = 0)
    (h63 : n + m ≤ maxLen) (hbytes : (n + m) * bytes ≤ 140737488355328) (hbase : base ≤ w.heap.size)
    (h : ∀ v' w', Grew w base e size v (n + m) (xs ++ news) v' w' → K (a.put o.dst v') w') : Oper.wp P o a w K Q := by
  obtain ⟨v', w', hr, hG⟩ := run_append_rd E o.type hown hrd h1 hc h63 hbytes hbase
  unfold Oper.wp execOp
  simp only [ho, resolve, invoke, builtin, Sem.run_bind, Sem.run_pure, Result.andThen_ok, List.map_toArray, List.map_cons, List.map_nil, hs, hx, hr]
  exact h v' w' hG

theorem wpList_append_rd {ops : Array Oper} {rest : List Oper} {o : Oper} {a : Act} {Q : Exit → Act → World → Prop} (hgd : o.guard = none) (s x : Operand) (ho : o.op = .call { callee := .builtin .append, args := #[s, x], argTypes := #[t, t] })
    (E : EltOk P t e z size bytes) (hs : a.eval s = v) (hown : w.ownsRow base e size v n xs) (hx : a.eval x = .slice A m c) (hrd : Rd w B size A m news) (h1 : ∀ u ∈ news, u.oneCell' = true) (hc : A = none → c = 0)
    (h63 : n + m ≤ maxLen) (hbytes : (n + m) * bytes ≤ 140737488355328) (hbase : base ≤ w.heap.size)
    (h : ∀ v' w', Grew w base e size v (n + m) (xs ++ news) v' w' → wpList P ops Q rest (a.put o.dst v') w') : wpList P ops Q (o :: rest) a w :=
  wpList_plain hgd fun _ hK => wp_append_rd s x ho E hs hown hx hrd h1 hc h63 hbytes hbase fun v' w' hG => hK _ _ (h v' w' hG)

theorem step_append_rd {ops : Array Oper} {o : Oper} {a : Act} {K : Act → World → Prop} {Q : Exit → Act → World → Prop} {F : Prop} (hgd : o.guard = none) (s x : Operand) (ho : o.op = .call { callee := .builtin .append, args := #[s, x], argTypes := #[t, t] })
    (E : EltOk P t e z size bytes) (hs : a.eval s = v) (hown : w.ownsRow base e size v n xs) (hx : a.eval x = .slice A m c) (hrd : Rd w B size A m news) (h1 : ∀ u ∈ news, u.oneCell' = true) (hc : A = none → c = 0)
    (h63 : n + m ≤ maxLen) (hbytes : (n + m) * bytes ≤ 140737488355328) (hbase : base ≤ w.heap.size)
    (h : ∀ v' w', Grew w base e size v (n + m) (xs ++ news) v' w' → K (a.put o.dst v') w') :
    if Region.wanted o (yielded ops a.tmps) = true then Oper.wp P o a w K Q else F := by
  rw [if_pos (by simp [Region.wanted, hgd])]
  exact wp_append_rd s x ho E hs hown hx hrd h1 hc h63 hbytes hbase h
end

/-- the one element that an append is handed lies in a block of its own -/
theorem rd_new (w : World) (t : TypeId) (size : Nat) (cs : List Value) (h : cs.length = size) : Rd (w.alloc (.cells cs.toArray t)) (w.alloc (.cells cs.toArray t)).heap.size size (some ⟨w.heap.size, 0, none⟩) 1 cs := by
  have hh := Has.new w t cs
  exact ⟨by omega, fun _ => ⟨w.heap.size, 0, rfl, hh.lt, fun j u hu => by rw [Nat.zero_add, hh.cell j]; exact hu⟩⟩
theorem one_bytes (l : List UInt8) : ∀ u ∈ l.map (fun a => Value.int .u8 (a.toNat : Int)), u.oneCell' = true := by
  intro u hu
  obtain ⟨_, _, rfl⟩ := List.mem_map.1 hu
  rfl
theorem grown_refl (w : World) (row : Option Nat) : w.grownBy w row := ⟨rfl, rfl, rfl, Nat.le_refl _, fun _ _ _ => rfl⟩
theorem grown_trans {w w1 w2 : World} {row : Option Nat} (h1 : w.grownBy w1 row) (h2 : w1.grownBy w2 row) : w.grownBy w2 row :=
  ⟨h2.os.trans h1.os, h2.tape.trans h1.tape, h2.output.trans h1.output, Nat.le_trans h1.size h2.size, fun k hk hne => (h2.block k (Nat.lt_of_lt_of_le hk h1.size) hne).trans (h1.block k hk hne)⟩

/-- the slice lies in a block from B on -/
def Fresh (B : Nat) (A : Option Addr) : Prop := ∀ b off, A = some ⟨b, off, none⟩ → B ≤ b
/-- the slice does not lie in that block -/
def Far (A : Option Addr) (row : Option Nat) : Prop := ∀ b off, A = some ⟨b, off, none⟩ → some b ≠ row
theorem own_fresh {w : World} {base e size n : Nat} {A : Option Addr} {c : Nat} {xs : List Value} (h : w.ownsRow base e size (.slice A n c) n xs) : Fresh base A := by
  rintro b off rfl
  exact own_ge h rfl
theorem Fresh.mono {B B' : Nat} {A : Option Addr} (h : Fresh B A) (hB : B' ≤ B) : Fresh B' A := fun b off e => Nat.le_trans hB (h b off e)
theorem Rd.kept {w w' : World} {size n : Nat} {A : Option Addr} {xs : List Value} {row : Option Nat} (h : Rd w w.heap.size size A n xs) (hg : w.grownBy w' row) (hf : Far A row) : Rd w' w'.heap.size size A n xs :=
  ⟨h.1, fun hn => by
    obtain ⟨b, off, e, hb, hc⟩ := h.2 hn
    exact ⟨b, off, e, Nat.lt_of_lt_of_le hb hg.size, fun j u hu => hg.cell (hc j u hu) (hf b off e)⟩⟩
theorem RdB.kept {w w' : World} {n : Nat} {A : Option Addr} {l : List UInt8} {row : Option Nat} (h : RdB w A n l) (hg : w.grownBy w' row) (hf : Far A row) : RdB w' A n l := Rd.kept h hg hf
theorem own_nil {w : World} {base e size n : Nat} {A : Option Addr} {c : Nat} {xs : List Value} (h : w.ownsRow base e size (.slice A n c) n xs) : A = none → c = 0 := by
  rintro rfl
  rcases h.2 with ⟨e, _⟩ | ⟨_, _, _, e, _⟩
  · injection e
  · injection e with e; cases e
/-- a slice that lies where the call's own row is not stays far from it behind an append -/
theorem Far.grew {w w' : World} {base e size n : Nat} {v v' : Value} {xs : List Value} {A : Option Addr} (hf : Far A v.ownBlock) (hlt : ∀ b off, A = some ⟨b, off, none⟩ → b < w.heap.size) (hG : Grew w base e size v n xs v' w') : Far A v'.ownBlock := by
  rintro b off rfl
  rcases hG.at_ with h | h
  · rw [h]; exact hf b off rfl
  · rw [h]
    intro e
    injection e with e
    have := hlt b off rfl
    omega
theorem Far.fresh {w : World} {base e size n B : Nat} {v : Value} {xs : List Value} {A : Option Addr} (hf : Fresh B A) (h : w.ownsRow base e size v n xs) (hB : w.heap.size ≤ B) : Far A v.ownBlock := by
  rintro b off rfl e
  have := (h.lt b e.symm).2
  have := hf b off rfl
  omega
theorem own_lt {w : World} {base e size n : Nat} {A : Option Addr} {c : Nat} {xs : List Value} (h : w.ownsRow base e size (.slice A n c) n xs) : ∀ b off, A = some ⟨b, off, none⟩ → b < w.heap.size := by
  rintro b off rfl
  exact (h.lt b rfl).2
end Go.Proofs.YtnbbleajbbgmjaaDoor
