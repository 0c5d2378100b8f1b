import Derived.Maps.OwnSet
import Derived.Test.YtideglpjgplpnaaDoorMFldPlain
import Derived.Test.YtideglpjgplpnaaDoorMFldW4
import Derived.Deep.RegionHeld3
import Derived.Deep.RegionWith
import Derived.Test.YtideglpjgplpnaaDoorMUtil
/- Contract of field.points: whether the places are different and both lists are of one length. -/
namespace Go.Proofs.YtideglpjgplpnaaDoor
open Go.RowKit Go.Shelf
set_option linter.unusedVariables false

theorem Fld.keyed : Maps.Keyed Tryd.prog 5 := Maps.int_keyed Tryd.underlying5
theorem Fld.byte_wf (x : UInt8) : (Lit.int .u8 (x.toNat : Int)).wf = true := by
  have := x.toNat_lt
  simp [Lit.wf, IntKind.min, IntKind.max, IntKind.signed, IntKind.bits]
  omega
theorem Fld.key_of (x : UInt8) : keyOf Tryd.prog 5 (B8 x) = some (.int .u8 (x.toNat : Int)) := Maps.keyOf_int_mk Tryd.underlying5 (Fld.byte_wf x)
theorem plainElem_bool_inv {H : Type} {P : Program} {e : TypeId} (he : P.underlying e = some .bool) {v : Value} {z : DataW H × List MemPlace} (h : plainElem P e v = some z) : ∃ a, v = .bool a ∧ z = (.lit (.bool a), []) := by
  unfold plainElem at h
  rw [he] at h
  cases v <;> simp at h
  exact ⟨_, rfl, h.symm⟩

/-- block b is a map of at most n entries, true at the bytes of 'seen' and at no other -/
def Fld.MapB (w : World) (b n : Nat) (seen : List UInt8) : Prop :=
  ∃ D : DataW Unit, Maps.IsMap D ∧ w.ownsMap Tryd.prog 5 (plainElem Tryd.prog 4) b n D ∧ ∀ x : UInt8, D.atKey (.int .u8 (x.toNat : Int)) (.lit (.bool false)) = .lit (.bool (decide (x ∈ seen)))

theorem Fld.MapB.made (w : World) : Fld.MapB (w.alloc (.map #[] 0)) w.heap.size 0 [] :=
  ⟨.map [], Maps.isMap_empty, World.ownsMap_made _ _ _ _, fun x => by simp [DataW.atKey]⟩
theorem Fld.MapB.look {w : World} {b n : Nat} {seen : List UInt8} (h : Fld.MapB w b n seen) (x : UInt8) : (Instr.lookup 140 (.map (some b)) (B8 x) false).run Tryd.prog w = .ok (.bool (decide (x ∈ seen))) w := by
  obtain ⟨D, hD, hown, hat⟩ := h
  have hz : (zeroValue 4).run Tryd.prog w = .ok (.bool false) w := by kernel_rfl
  obtain ⟨v, ps, hrun, hv⟩ := hown.lookup Fld.keyed Tryd.underlying140 hz (plainElem_bool Tryd.underlying4 false) (Fld.key_of x)
  obtain ⟨a, rfl, hc⟩ := plainElem_bool_inv Tryd.underlying4 hv
  rw [hat x] at hc
  simp only [Prod.mk.injEq, DataW.lit.injEq, Lit.bool.injEq] at hc
  rw [hrun, hc.1]
theorem Fld.MapB.store {w : World} {b n : Nat} {seen : List UInt8} (h : Fld.MapB w b n seen) (hn : n < maxLen) (x : UInt8) :
    ∃ w', (Instr.mapUpdate 140 (.map (some b)) (B8 x) (.bool true)).run Tryd.prog w = .ok () w' ∧ Fld.MapB w' b (n + 1) (x :: seen) ∧ w.grownBy w' (some b) := by
  obtain ⟨D, hD, hown, hat⟩ := h
  obtain ⟨w', hrun, h1, h2⟩ := hown.update Fld.keyed Tryd.underlying140 hn (Fld.key_of x) (plainElem_bool Tryd.underlying4 true)
  refine ⟨w', hrun, ⟨_, hD.put _ _, h1, fun y => ?_⟩, h2⟩
  by_cases hy : y = x
  · subst hy
    rw [Maps.atKey_put_same hD (Fld.keyed.key (Fld.key_of y))]
    simp
  · rw [Maps.atKey_put_other, hat y]
    · simp [hy]
    · intro e
      injection e with _ e
      exact hy (UInt8.toNat_inj.1 (by omega))
theorem Fld.MapB.kept {w w' : World} {b n : Nat} {seen : List UInt8} (h : Fld.MapB w b n seen) {row : Option Nat} (hg : w.grownBy w' row) (hne : some b ≠ row) : Fld.MapB w' b n seen := by
  obtain ⟨D, hD, hown, hat⟩ := h
  exact ⟨D, hD, hown.kept hg hne, hat⟩
theorem Fld.MapB.alloc {w : World} {b n : Nat} {seen : List UInt8} (h : Fld.MapB w b n seen) (o : Obj) : Fld.MapB (w.alloc o) b n seen := h.kept (World.grownBy_alloc w o none) (by simp)

theorem Fld.again_any (x : UInt8) (b mb n : Nat) (seen : List UInt8) (w : World) (hb : b < w.heap.size) (c0 : w.cell? ⟨b, 0, none⟩ = some (.map (some mb))) (hne : b ≠ mb) (hM : Fld.MapB w mb n seen) (hn : n < maxLen) :
    Calls Tryd.prog 110 #[B8 x, .pointer (some ⟨b, 0, none⟩)] w fun e w' => e = .returned (.bool (decide (x ∈ seen))) ∧ Fld.MapB w' mb (n + 1) (x :: seen) ∧ w.grownBy w' (some mb) := by
  have h1 := hM.look x
  obtain ⟨w', h2, h3, h4⟩ := hM.store hn x
  have H3 := Lib.hid h3
  have H4 := Lib.hid h4
  clear h3 h4 hM
  generalize decide (x ∈ seen) = t at h1 ⊢
  go_enter Tryd.func110, Tryd.ntmps110
  go_wp2
  go_ret
  exact ⟨rfl, H3.out, H4.out⟩
/-- are two lists points? -/
def Fld.ptsB (l l2 : List UInt8) : Bool := decide (l.Nodup ∧ l.length = l2.length)
theorem Fld.take_snoc (l : List UInt8) (k : Nat) (h : k < l.length) : l.take (k + 1) = l.take k ++ [l.getD k 0] := by
  rw [List.take_succ_eq_append_getElem h, List.getD_eq_getElem?_getD, List.getElem?_eq_getElem h]
  rfl
theorem Fld.nodup_snoc (l : List UInt8) (k : Nat) (h : k < l.length) (hn : (l.take k).Nodup) (hx : l.getD k 0 ∉ (l.take k).reverse) : (l.take (k + 1)).Nodup := by
  rw [Fld.take_snoc l k h, List.nodup_append]
  refine ⟨hn, by simp, fun a ha b hb => ?_⟩
  rw [List.mem_singleton] at hb
  rintro rfl
  exact hx (by rw [List.mem_reverse, ← hb]; exact ha)
theorem Fld.not_nodup (l : List UInt8) (k : Nat) (h : k < l.length) (hx : l.getD k 0 ∈ (l.take k).reverse) : ¬ l.Nodup := by
  intro hn
  have h1 : (l.take (k + 1)).Nodup := hn.sublist (List.take_sublist _ _)
  rw [Fld.take_snoc l k h, List.nodup_append] at h1
  exact h1.2.2 _ (List.mem_reverse.1 hx) _ (List.mem_singleton.2 rfl) rfl
theorem Rd.byte {w : World} {B : Nat} {A : Option Addr} {m : Nat} {l : List UInt8} (h : Rd w B 1 A m (l.map B8)) (k : Nat) (hk : k < m) :
    ∃ b off, A = some ⟨b, off, none⟩ ∧ b < B ∧ w.cell? ⟨b, off + k, none⟩ = some (B8 (l.getD k 0)) := by
  obtain ⟨b, off, e, hb, hc⟩ := h.2 (by omega)
  have hl := h.1
  rw [List.length_map, Nat.mul_one] at hl
  exact ⟨b, off, e, hb, hc k _ (by rw [List.getElem?_map, List.getElem?_eq_getElem (by omega)]; simp [List.getElem?_eq_getElem (show k < l.length by omega)])⟩

set_option maxHeartbeats 1000000 in
theorem Fld.points_any (A A2 : Option Addr) (m c m2 c2 : Nat) (l l2 : List UInt8) (w : World) (hl : l.length = m) (hl2 : l2.length = m2) (hm : m ≤ maxLen) (hm2 : m2 ≤ maxLen) (hrd : Rd w w.heap.size 1 A m (l.map B8)) :
    Calls Tryd.prog 92 #[.slice A m c, .slice A2 m2 c2] w fun e w' => e = .returned (.bool (Fld.ptsB l l2)) ∧ Below w.heap.size w w' := by
  unfold maxLen at hm hm2
  have hmf : ∀ (fn : Fn) (first cap : Array Value) (w : World), (Instr.makeFunc fn first cap).run Tryd.prog w = .ok (.func fn first cap) w := fun _ _ _ _ => rfl
  have hmm := @run_makeMap Tryd.prog
  have HL := Lib.hid hl
  have HL2 := Lib.hid hl2
  clear hl hl2
  go_enter Tryd.func92, Tryd.ntmps92
  go_wp2_with fail
  go_loopw [13] (fun i wr => ∃ k : Nat, k ≤ m ∧ i = .int .i64 k ∧ (l.take k).Nodup ∧ Fld.MapB wr w.heap.size k (l.take k).reverse ∧ Has wr (w.heap.size + 1) 140 [.map (some w.heap.size)] ∧ Below w.heap.size w wr) (fun i _ => m - (intOf i).toNat)
  case atStart => exact ⟨0, by omega, rfl, by simp, (Fld.MapB.made w).alloc _, by have h := Has.new (w.alloc (.map #[] 0)) 140 [.map (some w.heap.size)]; rw [World.size_alloc] at h; exact h, ((Below.refl _ _).alloc (Nat.le_refl _) _).alloc (by simp) _⟩
  case round =>
    obtain ⟨k, hk, rfl, hn, hM, hH, hB⟩ := hrel
    have HN := Lib.hid hn
    have HM := Lib.hid hM
    have HB := Lib.hid hB
    obtain ⟨hz, c0⟩ := hH.r1
    have HH := Lib.hid hH
    clear hn hM hB hH
    by_cases hlt : k < m
    · obtain ⟨b, off, rfl, hbB, ec⟩ := (hrd.keep (w' := wr) (fun p hp => HB.out.cell hp)).byte k hlt
      have HE := Lib.hid (Fld.nodup_snoc l k (by rw [HL.out]; exact hlt) HN.out)
      have HF := Lib.hid (Fld.not_nodup l k (by rw [HL.out]; exact hlt))
      have HT := Lib.hid (Fld.take_snoc l k (by rw [HL.out]; exact hlt))
      clear hrd
      generalize l.getD k 0 = q at ec HE HF HT
      go_wp2_with fail
      refine (Fld.again_any q _ w.heap.size k _ _ hz c0 (by omega) HM.out (by unfold maxLen; omega)).mono ?_
      rintro e w2 ⟨rfl, hM2, hg⟩
      have HM2 := Lib.hid hM2
      have HB2 := Lib.hid (HB.out.grown hg HB.out.size (fun g e => by cases e; exact Nat.le_refl _))
      have HH2 := Lib.hid (HH.out.grown hg (fun e => by injection e with e; omega))
      clear hM2 hg
      by_cases hq : q ∈ (l.take k).reverse
      · have HP := Lib.hid (show Fld.ptsB l l2 = false by unfold Fld.ptsB; simp [HF.out hq])
        have hd : decide (q ∈ (l.take k).reverse) = true := decide_eq_true hq
        rw [hd]
        clear hq hd
        go_wp2
        go_ret
        exact ⟨by rw [HP.out]; rfl, HB2.out⟩
      · have HQ := Lib.hid (HE.out hq)
        have hd : decide (q ∈ (l.take k).reverse) = false := decide_eq_false hq
        rw [hd]
        clear hq hd
        go_wp2
        go_roundw
        case rel => exact ⟨k + 1, by omega, by go_num, HQ.out, by rw [HT.out, List.reverse_append]; exact HM2.out, HH2.out, HB2.out⟩
        case measure => simp [intOf]; omega
    · obtain rfl : k = m := by omega
      have HP := Lib.hid (show Fld.ptsB l l2 = decide (k = m2) by unfold Fld.ptsB; rw [HL.out, HL2.out]; have h := HN.out; rw [List.take_of_length_le (by rw [HL.out]; omega)] at h; simp [h])
      clear hrd
      by_cases hq : k = m2
      · have hd : ((k : Int) == (m2 : Int)) = true := by simp [hq]
        have HP := Lib.hid (HP.out.trans (decide_eq_true hq))
        clear hq
        go_wp2
        go_ret
        exact ⟨by rw [HP.out]; rfl, HB.out⟩
      · have hd : ((k : Int) == (m2 : Int)) = false := by simp; omega
        have HP := Lib.hid (HP.out.trans (decide_eq_false hq))
        clear hq
        go_wp2
        go_ret
        exact ⟨by rw [HP.out]; rfl, HB.out⟩
end Go.Proofs.YtideglpjgplpnaaDoor
/- Contract of field.Coefficients: the polynomial through points. -/
namespace Go.Proofs.YtideglpjgplpnaaDoor
open Go.RowKit Go.Shelf
set_option linter.unusedVariables false

theorem Has.rd {w : World} {g : Nat} {t : TypeId} {xs : List Value} {n : Nat} (h : Has w g t xs) (hn : xs.length = n) : Rd w w.heap.size 1 (some ⟨g, 0, none⟩) n xs :=
  ⟨by rw [hn, Nat.mul_one], fun _ => ⟨g, 0, rfl, h.lt, fun j u hu => by rw [Nat.zero_add, h.cell j]; exact hu⟩⟩
theorem Has.byte {w : World} {g : Nat} {t : TypeId} {z : List UInt8} (h : Has w g t (z.map B8)) (k : Nat) (hk : k < z.length) : w.cell? ⟨g, k, none⟩ = some (B8 (z.getD k 0)) := by
  rw [h.cell k, List.getElem?_map, List.getElem?_eq_getElem hk]
  simp [List.getElem?_eq_getElem hk]

theorem Fld.coef_no (A A2 : Option Addr) (m c m2 c2 : Nat) (l l2 : List UInt8) (w : World) (hl : l.length = m) (hl2 : l2.length = m2) (hm : m ≤ maxLen) (hm2 : m2 ≤ maxLen) (hrd : Rd w w.heap.size 1 A m (l.map B8)) (hp : Fld.ptsB l l2 = false) :
    Calls Tryd.prog 75 #[.slice A m c, .slice A2 m2 c2] w fun e w' => e = .returned (.tuple #[.slice none 0 0, .int .i64 1]) ∧ Below w.heap.size w w' := by
  have HL := Lib.hid hl
  have HL2 := Lib.hid hl2
  have HP := Lib.hid hp
  clear hl hl2 hp
  go_enter Tryd.func75, Tryd.ntmps75
  go_wp2_with fail
  refine (Fld.points_any A A2 m c m2 c2 l l2 _ HL.out HL2.out hm hm2 hrd).mono ?_
  rintro e w1 ⟨rfl, hb1⟩
  rw [HP.out]
  have HB1 := Lib.hid hb1
  clear hb1
  go_wp2
  go_ret2
  exact ⟨rfl, HB1.out⟩

/-- what Coefficients hands back -/
def Fld.CoefPost (w : World) (m : Nat) (r : List UInt8) (e : Ending) (w' : World) : Prop :=
  ∃ v, e = .returned (.tuple #[v, .int .i64 0]) ∧ w'.ownsRow w.heap.size 5 1 v m (r.map B8) ∧ Below w.heap.size w w'

theorem Fld.info8 : (Tryd.prog.info? 5).map (fun i => (i.zero, i.size, i.bytes)) = some (some (.int .u8 0), 1, 1) := by kernel_rfl
theorem own_form {w : World} {base e size n : Nat} {v : Value} {xs : List Value} (h : w.ownsRow base e size v n xs) : ∃ A c, v = .slice A n c := by
  rcases h.2 with ⟨rfl, rfl⟩ | ⟨g, c, cur, rfl, _⟩
  · exact ⟨_, _, rfl⟩
  · exact ⟨_, _, rfl⟩
theorem own_some {w : World} {base e size n : Nat} {v : Value} {xs : List Value} (h : w.ownsRow base e size v n xs) (hn : 0 < n) : ∃ g c, v = .slice (some ⟨g, 0, none⟩) n c ∧ base ≤ g ∧ g < w.heap.size := by
  rcases h.2 with ⟨_, rfl⟩ | ⟨g, c, cur, rfl, h1, h2, _⟩
  · omega
  · exact ⟨g, c, rfl, h1, (Array.getElem?_eq_some_iff.1 h2).1⟩
theorem Fld.eval_ev (A : Option Addr) (m c : Nat) (l : List UInt8) (a : UInt8) (w : World) (hl : l.length = m) (hm : m ≤ maxLen) (hrd : Rd w w.heap.size 1 A m (l.map B8)) :
    Calls Tryd.prog 70 #[.slice A m c, B8 a] w fun e w' => e = .returned (B8 (Fld.ev l a)) ∧ Below w.heap.size w w' :=
  (Fld.eval_any A m c l a w hl hm hrd).mono fun _ _ ⟨he, hb⟩ => ⟨by rw [he, ← hl, Fld.evs_eq], hb⟩
theorem Fld.xor8 (a b : UInt8) : bits .xor .u8 (a.toNat : Int) (b.toNat : Int) = ((a ^^^ b).toNat : Int) := by rw [u8_xor_nat _ _ a.toNat_lt b.toNat_lt, UInt8.toNat_xor]

/-- slice lv of n bytes holds ll, block g holds z; nothing of what was there has changed -/
def Fld.CR (w : World) (n : Nat) (lv : Value) (ll : List UInt8) (g : Nat) (z : List UInt8) (wr : World) : Prop :=
  wr.ownsRow w.heap.size 5 1 lv n (ll.map B8) ∧ Has wr g 5 (z.map B8) ∧ w.heap.size ≤ g ∧ lv.ownBlock ≠ some g ∧ Below w.heap.size w wr
section
variable {w wr w' : World} {n g : Nat} {lv : Value} {ll z : List UInt8}
theorem Fld.CR.keep (h : Fld.CR w n lv ll g z wr) (hb : Below wr.heap.size wr w') : Fld.CR w n lv ll g z w' :=
  ⟨own_below h.1 hb, h.2.1.keep hb, h.2.2.1, h.2.2.2.1, h.2.2.2.2.trans (hb.mono h.2.2.2.2.size)⟩
theorem Fld.CR.drew (h : Fld.CR w n lv ll g z wr) : Fld.CR w n lv ll g z wr.drew := ⟨own_drew h.1, h.2.1.drew, h.2.2.1, h.2.2.2.1, h.2.2.2.2.drew⟩
theorem Fld.CR.rd {A : Option Addr} {c : Nat} (h : Fld.CR w n (.slice A n c) ll g z wr) : Rd wr wr.heap.size 1 A n (ll.map B8) := rd_of_own h.1
theorem Fld.CR.below (h : Fld.CR w n lv ll g z wr) : Below w.heap.size w wr := h.2.2.2.2
end

/-- behind an append of one byte -/
theorem Fld.CR.grow {w wr w' : World} {n g : Nat} {lv v' : Value} {ll z : List UInt8} {o : Obj} (h : Fld.CR w n lv ll g z wr) (ho : w'.ownsRow w.heap.size 5 1 v' (n + 1) (ll.map B8 ++ [.int .u8 0])) (hg : (wr.alloc o).grownBy w' lv.ownBlock)
    (hat : v'.ownBlock = lv.ownBlock ∨ v'.ownBlock = some (wr.alloc o).heap.size) : Fld.CR w (n + 1) v' (ll ++ [0]) g z w' := by
  refine ⟨by rw [List.map_append]; exact ho, (h.2.1.alloc o).grown hg h.2.2.2.1, h.2.2.1, ?_, (h.below.alloc h.below.size o).grown hg (by have := h.below.size; simp; omega) (fun k e => own_ge h.1 e)⟩
  rcases hat with e | e
  · rw [e]; exact h.2.2.2.1
  · rw [e]
    have := h.2.1.lt
    simp
    omega
/-- behind a store into the slice -/
theorem Fld.CR.store {w wr : World} {n g g2 c : Nat} {ll z : List UInt8} (h : Fld.CR w n (.slice (some ⟨g2, 0, none⟩) n c) ll g z wr) (j : Nat) (u : UInt8) : Fld.CR w n (.slice (some ⟨g2, 0, none⟩) n c) (ll.set j u) g z (wr.setCell ⟨g2, j, none⟩ (B8 u)) := by
  have h2 := h.1.stored j (B8 u)
  refine ⟨by rw [List.map_set]; exact h2.1, h.2.1.far (fun e => h.2.2.2.1 (by rw [e]; rfl)) _, h.2.2.1, h.2.2.2.1, h.below.setCell (show w.heap.size ≤ g2 from own_ge h.1 rfl) _⟩
theorem Fld.CR.cell {w wr : World} {n g g2 c : Nat} {ll z : List UInt8} (h : Fld.CR w n (.slice (some ⟨g2, 0, none⟩) n c) ll g z wr) (j : Nat) (hj : j < n) : wr.cell? ⟨g2, j, none⟩ = some (B8 (ll.getD j 0)) ∧ wr.frozen? ⟨g2, j, none⟩ = false ∧ g2 < wr.heap.size := by
  have hl := h.1.1
  rw [List.length_map] at hl
  refine ⟨?_, h.1.frozenAt j, (h.1.lt g2 rfl).2⟩
  rw [h.1.cellAt j (by omega), List.getElem?_map, List.getElem?_eq_getElem (by omega)]
  simp [List.getElem?_eq_getElem (show j < ll.length by omega)]
theorem Fld.CR.zcell {w wr : World} {n g : Nat} {lv : Value} {ll z : List UInt8} (h : Fld.CR w n lv ll g z wr) (j : Nat) (hj : j < z.length) : wr.cell? ⟨g, j, none⟩ = some (B8 (z.getD j 0)) := h.2.1.byte j hj
theorem new1 (w : World) (t : TypeId) (v : Value) : ∀ j u, [v][j]? = some u → (w.alloc (.cells #[v] t)).cell? ((⟨w.heap.size, 0, none⟩ : Addr).add j) = some u := by
  intro j u hu
  have h := Has.new w t [v]
  match j, hu with
  | 0, hu => exact h.c1.trans hu
  | j + 1, hu => simp at hu

theorem grownBy_set (w : World) (g j : Nat) (u : Value) : w.grownBy (w.setCell ⟨g, j, none⟩ u) (some g) :=
  ⟨rfl, rfl, rfl, by simp, fun k _ hk => Below.heap_setCell w ⟨g, j, none⟩ u k (fun e => hk (by rw [e]))⟩
theorem Fld.CR.zstore {w wr : World} {n g : Nat} {lv : Value} {ll z : List UInt8} (h : Fld.CR w n lv ll g z wr) (j : Nat) (u : UInt8) : Fld.CR w n lv ll g (z.set j u) (wr.setCell ⟨g, j, none⟩ (B8 u)) :=
  ⟨h.1.kept (grownBy_set wr g j _) (.inr h.2.2.2.1), by rw [List.map_set]; exact h.2.1.set j _, h.2.2.1, h.2.2.2.1, h.below.setCell h.2.2.1 _⟩
theorem Fld.CR.zfar {w wr : World} {n g : Nat} {lv : Value} {ll z : List UInt8} (h : Fld.CR w n lv ll g z wr) {g3 : Nat} (hne : g ≠ g3) (hlv : lv.ownBlock ≠ some g3) (hg3 : w.heap.size ≤ g3) (j : Nat) (u : Value) : Fld.CR w n lv ll g z (wr.setCell ⟨g3, j, none⟩ u) :=
  ⟨h.1.kept (grownBy_set wr g3 j _) (.inr hlv), h.2.1.far hne _, h.2.2.1, h.2.2.2.1, h.below.setCell hg3 _⟩
theorem Fld.CR.made {w wr w' : World} {n g : Nat} {lv : Value} {ll z z' : List UInt8} (h : Fld.CR w n lv ll g z wr) (hb : Below wr.heap.size wr w') (hh : Has w' wr.heap.size 5 (z'.map B8)) : Fld.CR w n lv ll wr.heap.size z' w' :=
  ⟨(h.keep hb).1, hh, h.below.size, fun e => by have := (h.1.lt _ e).2; omega, (h.keep hb).below⟩
theorem Fld.make8 (n : Nat) (i : Int) (hi : i = (n : Int)) (hn : n ≤ 2000000) (w : World) : ∃ w', (Instr.makeSlice 24 (.int .i64 i) (.int .i64 i)).run Tryd.prog w = .ok (.slice (some ⟨w.heap.size, 0, none⟩) n n) w' ∧ Has w' w.heap.size 5 ((List.replicate n (0 : UInt8)).map B8) ∧ Below w.heap.size w w' := by
  subst hi
  obtain ⟨i0, hi0, hz0, hz1, hz2⟩ := info_parts Fld.info8
  have hr := run_make (P := Tryd.prog) w 24 5 i0 _ Tryd.underlying24 hi0 hz0 .i64 .i64 n n (by omega) (Int.le_refl _) (by rw [hz2]; omega) (by omega)
  simp only [Int.toNat_natCast] at hr
  refine ⟨_, hr, ?_, (Below.refl _ _).alloc (Nat.le_refl _) _⟩
  have e : (madeCells (Value.int .u8 0).cells (n * i0.size)) = ((List.replicate n (0 : UInt8)).map B8).toArray := by
    apply Array.ext'
    rw [hz1, Nat.mul_one]
    have := toList_madeCells_one (.int .u8 0) n
    rw [List.map_replicate]
    exact this
  rw [e]
  exact Has.new w _ _

set_option maxRecDepth 100000 in
set_option maxHeartbeats 2000000 in
theorem Fld.coef_yes (A A2 : Option Addr) (m c m2 c2 : Nat) (l l2 : List UInt8) (w : World) (hl : l.length = m) (hl2 : l2.length = m2) (hm : m ≤ 1000000) (hm2 : m2 ≤ maxLen) (hrd : Rd w w.heap.size 1 A m (l.map B8)) (hrd2 : Rd w w.heap.size 1 A2 m2 (l2.map B8)) (hp : Fld.ptsB l l2 = true) :
    Calls Tryd.prog 75 #[.slice A m c, .slice A2 m2 c2] w (Fld.CoefPost w m (Fld.coefs l l2)) := by
  have HL := Lib.hid hl
  have HL2 := Lib.hid hl2
  have HP := Lib.hid hp
  obtain rfl : m = m2 := by have := of_decide_eq_true hp; omega
  clear hl hl2 hp
  go_enter Tryd.func75, Tryd.ntmps75
  go_wp2_with fail
  refine (Fld.points_any A A2 m c m c2 l l2 _ HL.out HL2.out hm2 hm2 hrd).mono ?_
  rintro e w1 ⟨rfl, hb1⟩
  rw [HP.out]
  have HB1 := Lib.hid hb1
  clear hb1
  go_wp2_with fail
  go_loopw [4, 6, 24] (fun lv zv i wr => ∃ k g : Nat, k ≤ m ∧ i = .int .i64 k ∧ zv = .slice (some ⟨g, 0, none⟩) (k + 1) (k + 1) ∧ Fld.CR w k lv (Fld.co l l2 k).2 g (Fld.co l l2 k).1 wr) (fun _ _ i _ => m - (intOf i).toNat)
  case atStart =>
    have h := Has.new w1 5 [B8 1]
    exact ⟨0, w1.heap.size, by omega, rfl, rfl, World.ownsRow_nil _ _ _ _, h, HB1.out.size, by simp [Value.ownBlock], HB1.out.alloc HB1.out.size _⟩
  case round =>
    obtain ⟨k, g, hk, rfl, rfl, hC⟩ := hrel
    have HC := Lib.hid hC
    obtain ⟨hzl, hll⟩ := Fld.co_len l l2 k
    have HZL := Lib.hid hzl
    have HLL := Lib.hid hll
    clear hC hzl hll
    by_cases hlt : k < m
    · obtain ⟨b, off, rfl, hbB, ec⟩ := (hrd.keep (w' := wr) (fun p hp => HC.out.below.cell hp)).byte k hlt
      obtain ⟨b2, off2, rfl, hbB2, ec2⟩ := (hrd2.keep (w' := wr) (fun p hp => HC.out.below.cell hp)).byte k hlt
      have HCO := Lib.hid (show Fld.co l l2 (k + 1) = (Fld.nxt (l.getD k 0) (Fld.co l l2 k).1, Fld.lnew (Fld.mul (l2.getD k 0 ^^^ Fld.ev (Fld.co l l2 k).2 (l.getD k 0)) (Fld.inv (Fld.ev (Fld.co l l2 k).1 (l.getD k 0)))) (Fld.co l l2 k).2 (Fld.co l l2 k).1) from rfl)
      generalize (Fld.co l l2 k).1 = z at HC HZL HLL HCO
      generalize (Fld.co l l2 k).2 = ll at HC HZL HLL HCO
      generalize l.getD k 0 = x at ec HCO
      generalize l2.getD k 0 = y at ec2 HCO
      go_wp2_with fail
      refine (Fld.eval_ev (some ⟨g, 0, none⟩) (k + 1) (k + 1) z x _ HZL.out (by unfold maxLen; omega) (HC.out.2.1.rd (by simp [HZL.out]))).mono ?_
      rintro e w2 ⟨rfl, hb2⟩
      generalize Fld.ev z x = ez at HCO ⊢
      have HC2 := Lib.hid (HC.out.keep hb2)
      have ec2' := (hb2.cell (p := ⟨b2, off2 + k, none⟩) (Nat.lt_of_lt_of_le hbB2 HC.out.below.size)).trans ec2
      clear hb2 ec ec2 HC
      go_wp2_with fail
      refine (Fld.inv_any ez _).mono ?_
      rintro e w3 ⟨rfl, hb3⟩
      generalize Fld.inv ez = iz at HCO ⊢
      generalize Fld.invE ez = ie
      have HC3 := Lib.hid (HC2.out.keep hb3)
      have ec3 := (hb3.cell (p := ⟨b2, off2 + k, none⟩) (Nat.lt_of_lt_of_le hbB2 HC2.out.below.size)).trans ec2'
      clear hb3 ec2' HC2
      obtain ⟨A3, c3, rfl⟩ := own_form HC3.out.1
      have hxr := Fld.xor8 y (Fld.ev ll x)
      have hb2w : b2 < w3.heap.size := Nat.lt_of_lt_of_le hbB2 HC3.out.below.size
      go_wp2_with fail
      go_region_held3 (fun w' => w'.cell? ⟨b2, off2 + k, none⟩ = some (B8 y) ∧ Fld.CR w k (.slice A3 k c3) ll g z w')
        (first | exact ⟨ec3, HC3.out⟩ | exact ⟨ec3, HC3.out.drew⟩ | exact ⟨kc5, k5⟩ | exact ⟨kc4, k4⟩)
        (first | (go_at_call 70; refine (Fld.eval_ev A3 k c3 ll x _ HLL.out (by unfold maxLen; omega) HC3.out.drew.rd).mono ?_; rintro e w4 ⟨rfl, hb4⟩; have k4 := HC3.out.drew.keep hb4; have kc4 := (hb4.cell (p := ⟨b2, off2 + k, none⟩) hb2w).trans ec3) | (go_at_call 87; refine (Fld.mul_any (y ^^^ Fld.ev ll x) iz _).mono ?_; rintro e w5 ⟨rfl, hb5⟩; have k5 := Fld.CR.keep k4 hb5; have kc5 := (hb5.cell (p := ⟨b2, off2 + k, none⟩) (Nat.lt_of_lt_of_le hbB2 k4.below.size)).trans kc4))
      generalize Fld.mul (y ^^^ Fld.ev ll x) iz = cc at HCO ⊢
      have HC5 := Lib.hid k5
      clear hxr hb2w kc5 kc4 k5 k4 hb4 hb5 ec3 HC3
      obtain ⟨i0, hi0, hz0, hz1, hz2⟩ := info_parts Fld.info8
      go_wp2_with (at_builtin; refine wpList_append_own_at _ rfl _ _ 24 rfl w.heap.size 5 i0 _ 1 1 Tryd.underlying24 hi0 hz0 hz1 hz2 rfl (by decide) _ _ _ rfl (HC5.out.1.alloc _) ⟨w5.heap.size, 0, none⟩ 1 1 [.int .u8 0] rfl rfl (new1 w5 _ _) (by simp [Value.oneCell']) (by simp only [maxLen]; omega) (by omega) (by have := HC5.out.below.size; simp; omega) ?_; intro v6 w6 hown6 hg6 _ hat6)
      have HC6 := Lib.hid (HC5.out.grow hown6 hg6 hat6)
      clear hown6 hg6 hat6 HC5 hi0 hz0 hz1 hz2
      obtain ⟨g2, c4, rfl, _, _⟩ := own_some HC6.out.1 (by omega)
      go_wp2_with fail
      go_loopw [51] (fun i wr => ∃ j : Nat, j ≤ k + 1 ∧ i = .int .i64 j ∧ Fld.CR w (k + 1) (.slice (some ⟨g2, 0, none⟩) (k + 1) c4) (Fld.lpart cc ll z j) g z wr) (fun i _ => k + 1 - (intOf i).toNat)
      case atStart => exact ⟨0, by omega, rfl, by rw [Fld.lpart_zero]; exact HC6.out⟩
      case round =>
        obtain ⟨j, hj, rfl, hC⟩ := hrel
        have HC7 := Lib.hid hC
        clear hC HC6
        by_cases hlt2 : j < k + 1
        · have e1 := HC7.out.zcell j (by rw [HZL.out]; exact hlt2)
          obtain ⟨e2, f2, z2⟩ := HC7.out.cell j hlt2
          have HS := Lib.hid (Fld.lpart_set cc ll z (by rw [HZL.out, HLL.out]) j (by rw [HLL.out]; exact hlt2))
          have HG := Lib.hid (Fld.lpart_getD cc ll z (by rw [HZL.out, HLL.out]) j (by rw [HLL.out]; exact hlt2))
          rw [HG.out] at e2
          clear HG
          generalize z.getD j 0 = zj at e1 HS
          generalize ll.getD j 0 = lj at e2 HS
          go_wp2_with fail
          go_region_with (go_at_call 87; refine (Fld.mul_any cc zj _).mono ?_; rintro e w8 ⟨rfl, hb8⟩; have e8 := (hb8.cell (p := ⟨g2, j, none⟩) z2).trans e2; have f8 := (hb8.frozen (p := ⟨g2, j, none⟩) z2).trans f2; have HC8 := Lib.hid (HC7.out.drew.keep hb8); clear hb8; generalize Fld.mul cc zj = qp at HS ⊢)
          all_goals (
            go_wp2_with fail
            go_roundw
            case rel => exact ⟨j + 1, by omega, by go_num, by rw [← HS.out, Fld.xor8]; exact HC8.out.store j _⟩
            case measure => simp [intOf]; omega)
        · obtain rfl : j = k + 1 := by omega
          obtain ⟨w9, hmk, hH9, hb9⟩ := Fld.make8 (k + 1 + 1) ((k : Int) + 1 + 1) (by omega) (by omega) wr
          have HC9 := Lib.hid (HC7.out.keep hb9)
          have HD9 := Lib.hid (HC7.out.made hb9 hH9)
          have hne := Nat.ne_of_lt HC7.out.2.1.lt
          generalize wr.heap.size = g3 at hmk HD9 hne
          clear hH9 hb9 HC7
          have HLP := Lib.hid (show Fld.lpart cc ll z (k + 1) = Fld.lnew cc ll z by rw [← HLL.out]; exact Fld.lpart_all cc ll z (by rw [HZL.out, HLL.out]))
          rw [HLP.out] at HC9 HD9
          go_wp2_with fail
          clear hmk
          go_loopw [72] (fun i wr => ∃ j : Nat, j ≤ k + 1 ∧ i = .int .i64 j ∧ Fld.CR w (k + 1) (.slice (some ⟨g2, 0, none⟩) (k + 1) c4) (Fld.lnew cc ll z) g z wr ∧ Fld.CR w (k + 1) (.slice (some ⟨g2, 0, none⟩) (k + 1) c4) (Fld.lnew cc ll z) g3 (Fld.nxtp x z j) wr) (fun i _ => k + 1 - (intOf i).toNat)
          case atStart => exact ⟨0, by omega, rfl, HC9.out, by rw [Fld.nxtp_zero, HZL.out]; exact HD9.out⟩
          case round =>
            obtain ⟨j, hj, rfl, hC, hD⟩ := hrel
            have HC := Lib.hid hC
            have HD := Lib.hid hD
            clear hC hD HC9 HD9
            by_cases hlt3 : j < k + 1
            · have e1 := HC.out.zcell j (by rw [HZL.out]; exact hlt3)
              have e2 := HD.out.zcell j (by rw [Fld.nxtp_len, HZL.out]; omega)
              have e3 := HD.out.zcell (j + 1) (by rw [Fld.nxtp_len, HZL.out]; omega)
              have f2 := HD.out.2.1.frozen j
              have f3 := HD.out.2.1.frozen (j + 1)
              have z2 := HD.out.2.1.lt
              have HS := Lib.hid (Fld.nxtp_set x z j (by rw [HZL.out]; exact hlt3))
              have hg3 := HD.out.2.2.1
              have hlv := Lib.hid HD.out.2.2.2.1
              generalize z.getD j 0 = zj at e1 HS
              generalize (Fld.nxtp x z j).getD j 0 = n0 at e2 HS
              generalize (Fld.nxtp x z j).getD (j + 1) 0 = n1 at e3 HS
              go_wp2_with fail
              go_region_with (go_at_call 87; refine (Fld.mul_any zj x _).mono ?_; rintro e w8 ⟨rfl, hb8⟩; have e8 := (hb8.cell (p := ⟨g3, j, none⟩) z2).trans e2; have f8 := (hb8.frozen (p := ⟨g3, j, none⟩) z2).trans f2; have e9 := (hb8.cell (p := ⟨g3, j + 1, none⟩) z2).trans e3; have f9 := (hb8.frozen (p := ⟨g3, j + 1, none⟩) z2).trans f3; have HC8 := Lib.hid (HC.out.drew.keep hb8); have HD8 := Lib.hid (HD.out.drew.keep hb8); clear hb8; generalize Fld.mul zj x = qp at HS ⊢)
              all_goals (
                go_wp2_with fail
                go_roundw
                case rel =>
                  repeat apply Exists.intro
                  refine ⟨?_, rfl⟩
                  exact ⟨j + 1, by omega, by go_num, (HC8.out.zfar hne hlv.out hg3 _ _).zfar hne hlv.out hg3 _ _, by rw [← HS.out, Fld.xor8, Fld.xor8]; exact (HD8.out.zstore j _).zstore (j + 1) _⟩
                case measure => simp [intOf]; omega)
            · obtain rfl : j = k + 1 := by omega
              go_wp2_with fail
              go_roundw
              case rel => exact ⟨k + 1, g3, by omega, by go_num, rfl, by rw [HCO.out, ← Fld.nxtp_all, HZL.out]; exact HD.out⟩
              case measure => simp [intOf]; omega
    · obtain rfl : k = m := by omega
      go_wp2_with fail
      go_ret2
      exact ⟨_, rfl, by rw [Fld.coefs, HL.out]; exact HC.out.1, HC.out.below⟩
end Go.Proofs.YtideglpjgplpnaaDoor
/- Contract of field.Through; what the calls of 'sane' come to. -/
namespace Go.Proofs.YtideglpjgplpnaaDoor
open Go.RowKit Go.Shelf
set_option linter.unusedVariables false

/-- what Through answers -/
def Fld.thrV (l l2 : List UInt8) (a : UInt8) : UInt8 := if Fld.ptsB l l2 = true then Fld.ev (Fld.coefs l l2) a else 0
def Fld.thrE (l l2 : List UInt8) : Int := if Fld.ptsB l l2 = true then 0 else 1

theorem Fld.through_any (A A2 : Option Addr) (m c m2 c2 : Nat) (l l2 : List UInt8) (a : UInt8) (w : World) (hm : m ≤ 1000000) (hm2 : m2 ≤ maxLen) (hrd : RdB w A m l) (hrd2 : RdB w A2 m2 l2) :
    Calls Tryd.prog 59 #[.slice A m c, .slice A2 m2 c2, B8 a] w fun e w' => e = .returned (.tuple #[B8 (Fld.thrV l l2 a), .int .i64 (Fld.thrE l l2)]) ∧ Below w.heap.size w w' := by
  by_cases hp : Fld.ptsB l l2 = true
  · have HV := Lib.hid (show Fld.thrV l l2 a = Fld.ev (Fld.coefs l l2) a by rw [Fld.thrV, if_pos hp])
    have HE := Lib.hid (show Fld.thrE l l2 = 0 by rw [Fld.thrE, if_pos hp])
    have HLC := Lib.hid (show (Fld.coefs l l2).length = m by rw [Fld.coefs_len, hrd.len])
    have HC := Lib.hid (Fld.coef_yes A A2 m c m2 c2 l l2 w hrd.len hrd2.len hm hm2 hrd hrd2 hp)
    clear hp
    go_enter Tryd.func59, Tryd.ntmps59
    go_wp2_with fail
    refine HC.out.mono ?_
    rintro e w1 ⟨v, rfl, hown, hb⟩
    obtain ⟨A3, c3, rfl⟩ := own_form hown
    have HR := Lib.hid (RdB.of_own hown)
    have HB := Lib.hid hb
    clear hown hb
    go_wp2_with fail
    refine (Fld.eval_ev A3 m c3 (Fld.coefs l l2) a w1 HLC.out (by unfold maxLen; omega) HR.out).mono ?_
    rintro e w2 ⟨rfl, hb2⟩
    have HB2 := Lib.hid (HB.out.trans (hb2.mono HB.out.size))
    clear hb2
    go_wp2_with fail
    go_ret2
    exact ⟨by rw [HV.out, HE.out]; rfl, HB2.out⟩
  · have hp : Fld.ptsB l l2 = false := by cases h : Fld.ptsB l l2 <;> simp_all
    have HV := Lib.hid (show Fld.thrV l l2 a = 0 by rw [Fld.thrV, hp]; rfl)
    have HE := Lib.hid (show Fld.thrE l l2 = 1 by rw [Fld.thrE, hp]; rfl)
    have HC := Lib.hid (Fld.coef_no A A2 m c m2 c2 l l2 w hrd.len hrd2.len (by unfold maxLen; omega) hm2 hrd hp)
    clear hp
    go_enter Tryd.func59, Tryd.ntmps59
    go_wp2_with fail
    refine HC.out.mono ?_
    rintro e w1 ⟨rfl, hb⟩
    have HB := Lib.hid hb
    clear hb
    go_wp2_with fail
    go_ret2
    exact ⟨by rw [HV.out, HE.out]; rfl, HB.out⟩
end Go.Proofs.YtideglpjgplpnaaDoor
