/- Contract of field.points: whether the places are different and both lists are of one length. -/
import Derived.Maps.OwnSet
import Derived.Test.YtpijkjpefdlefaaFldPoly
import Derived.Test.YtpijkjpefdlefaaFldW4
namespace Go.Proofs.Ytpijkjpefdlefaa
open Go.RowKit Go.Shelf
set_option linter.unusedVariables false

theorem Fld.keyed : Maps.Keyed Try.prog 5 := Maps.int_keyed Try.underlying5
theorem Fld.byte_wf (x : UInt8) : (Lit.int .u8 (x.toNat : Int)).wf = true := by
  have := x.toNat_lt
  simp [Lit.wf, IntKind.min, IntKind.max, IntKind.signed, IntKind.bits]
  omega
theorem Fld.key_of (x : UInt8) : keyOf Try.prog 5 (B8 x) = some (.int .u8 (x.toNat : Int)) := Maps.keyOf_int_mk Try.underlying5 (Fld.byte_wf x)
theorem plainElem_bool_inv {H : Type} {P : Program} {e : TypeId} (he : P.underlying e = some .bool) {v : Value} {z : DataW H × List MemPlace} (h : plainElem P e v = some z) : ∃ a, v = .bool a ∧ z = (.lit (.bool a), []) := by
  unfold plainElem at h
  rw [he] at h
  cases v <;> simp at h
  exact ⟨_, rfl, h.symm⟩

/-- block b is a map of at most n entries, true at the bytes of 'seen' and at no other -/
def Fld.MapB (w : World) (b n : Nat) (seen : List UInt8) : Prop :=
  ∃ D : DataW Unit, Maps.IsMap D ∧ w.ownsMap Try.prog 5 (plainElem Try.prog 4) b n D ∧ ∀ x : UInt8, D.atKey (.int .u8 (x.toNat : Int)) (.lit (.bool false)) = .lit (.bool (decide (x ∈ seen)))

theorem Fld.MapB.made (w : World) : Fld.MapB (w.alloc (.map #[] 0)) w.heap.size 0 [] :=
  ⟨.map [], Maps.isMap_empty, World.ownsMap_made _ _ _ _, fun x => by simp [DataW.atKey]⟩
theorem Fld.MapB.look {w : World} {b n : Nat} {seen : List UInt8} (h : Fld.MapB w b n seen) (x : UInt8) : (Instr.lookup 67 (.map (some b)) (B8 x) false).run Try.prog w = .ok (.bool (decide (x ∈ seen))) w := by
  obtain ⟨D, hD, hown, hat⟩ := h
  have hz : (zeroValue 4).run Try.prog w = .ok (.bool false) w := by kernel_rfl
  obtain ⟨v, ps, hrun, hv⟩ := hown.lookup Fld.keyed Try.underlying67 hz (plainElem_bool Try.underlying4 false) (Fld.key_of x)
  obtain ⟨a, rfl, hc⟩ := plainElem_bool_inv Try.underlying4 hv
  rw [hat x] at hc
  simp only [Prod.mk.injEq, DataW.lit.injEq, Lit.bool.injEq] at hc
  rw [hrun, hc.1]
theorem Fld.MapB.store {w : World} {b n : Nat} {seen : List UInt8} (h : Fld.MapB w b n seen) (hn : n < maxLen) (x : UInt8) :
    ∃ w', (Instr.mapUpdate 67 (.map (some b)) (B8 x) (.bool true)).run Try.prog w = .ok () w' ∧ Fld.MapB w' b (n + 1) (x :: seen) ∧ w.grownBy w' (some b) := by
  obtain ⟨D, hD, hown, hat⟩ := h
  obtain ⟨w', hrun, h1, h2⟩ := hown.update Fld.keyed Try.underlying67 hn (Fld.key_of x) (plainElem_bool Try.underlying4 true)
  refine ⟨w', hrun, ⟨_, hD.put _ _, h1, fun y => ?_⟩, h2⟩
  by_cases hy : y = x
  · subst hy
    rw [Maps.atKey_put_same hD (Fld.keyed.key (Fld.key_of y))]
    simp
  · rw [Maps.atKey_put_other, hat y]
    · simp [hy]
    · intro e
      injection e with _ e
      exact hy (UInt8.toNat_inj.1 (by omega))
theorem Fld.MapB.kept {w w' : World} {b n : Nat} {seen : List UInt8} (h : Fld.MapB w b n seen) {row : Option Nat} (hg : w.grownBy w' row) (hne : some b ≠ row) : Fld.MapB w' b n seen := by
  obtain ⟨D, hD, hown, hat⟩ := h
  exact ⟨D, hD, hown.kept hg hne, hat⟩
theorem Fld.MapB.alloc {w : World} {b n : Nat} {seen : List UInt8} (h : Fld.MapB w b n seen) (o : Obj) : Fld.MapB (w.alloc o) b n seen := h.kept (World.grownBy_alloc w o none) (by simp)

theorem Fld.again_any (x : UInt8) (b mb n : Nat) (seen : List UInt8) (w : World) (hb : b < w.heap.size) (c0 : w.cell? ⟨b, 0, none⟩ = some (.map (some mb))) (hne : b ≠ mb) (hM : Fld.MapB w mb n seen) (hn : n < maxLen) :
    Calls Try.prog 53 #[B8 x, .pointer (some ⟨b, 0, none⟩)] w fun e w' => e = .returned (.bool (decide (x ∈ seen))) ∧ Fld.MapB w' mb (n + 1) (x :: seen) ∧ w.grownBy w' (some mb) := by
  have h1 := hM.look x
  obtain ⟨w', h2, h3, h4⟩ := hM.store hn x
  have H3 := Lib.hid h3
  have H4 := Lib.hid h4
  clear h3 h4 hM
  generalize decide (x ∈ seen) = t at h1 ⊢
  go_enter Try.func53, Try.ntmps53
  go_wp2
  go_ret
  exact ⟨rfl, H3.out, H4.out⟩
/-- are two lists points? -/
def Fld.ptsB (l l2 : List UInt8) : Bool := decide (l.Nodup ∧ l.length = l2.length)
theorem Fld.take_snoc (l : List UInt8) (k : Nat) (h : k < l.length) : l.take (k + 1) = l.take k ++ [l.getD k 0] := by
  rw [List.take_succ_eq_append_getElem h, List.getD_eq_getElem?_getD, List.getElem?_eq_getElem h]
  rfl
theorem Fld.nodup_snoc (l : List UInt8) (k : Nat) (h : k < l.length) (hn : (l.take k).Nodup) (hx : l.getD k 0 ∉ (l.take k).reverse) : (l.take (k + 1)).Nodup := by
  rw [Fld.take_snoc l k h, List.nodup_append]
  refine ⟨hn, by simp, fun a ha b hb => ?_⟩
  rw [List.mem_singleton] at hb
  rintro rfl
  exact hx (by rw [List.mem_reverse, ← hb]; exact ha)
theorem Fld.not_nodup (l : List UInt8) (k : Nat) (h : k < l.length) (hx : l.getD k 0 ∈ (l.take k).reverse) : ¬ l.Nodup := by
  intro hn
  have h1 : (l.take (k + 1)).Nodup := hn.sublist (List.take_sublist _ _)
  rw [Fld.take_snoc l k h, List.nodup_append] at h1
  exact h1.2.2 _ (List.mem_reverse.1 hx) _ (List.mem_singleton.2 rfl) rfl
theorem Rd.byte {w : World} {B : Nat} {A : Option Addr} {m : Nat} {l : List UInt8} (h : Rd w B 1 A m (l.map B8)) (k : Nat) (hk : k < m) :
    ∃ b off, A = some ⟨b, off, none⟩ ∧ b < B ∧ w.cell? ⟨b, off + k, none⟩ = some (B8 (l.getD k 0)) := by
  obtain ⟨b, off, e, hb, hc⟩ := h.2 (by omega)
  have hl := h.1
  rw [List.length_map, Nat.mul_one] at hl
  exact ⟨b, off, e, hb, hc k _ (by rw [List.getElem?_map, List.getElem?_eq_getElem (by omega)]; simp [List.getElem?_eq_getElem (show k < l.length by omega)])⟩

set_option maxHeartbeats 1000000 in
theorem Fld.points_any (A A2 : Option Addr) (m c m2 c2 : Nat) (l l2 : List UInt8) (w : World) (hl : l.length = m) (hl2 : l2.length = m2) (hm : m ≤ maxLen) (hm2 : m2 ≤ maxLen) (hrd : Rd w w.heap.size 1 A m (l.map B8)) :
    Calls Try.prog 47 #[.slice A m c, .slice A2 m2 c2] w fun e w' => e = .returned (.bool (Fld.ptsB l l2)) ∧ Below w.heap.size w w' := by
  unfold maxLen at hm hm2
  have hmf : ∀ (fn : Fn) (first cap : Array Value) (w : World), (Instr.makeFunc fn first cap).run Try.prog w = .ok (.func fn first cap) w := fun _ _ _ _ => rfl
  have hmm := @run_makeMap Try.prog
  have HL := Lib.hid hl
  have HL2 := Lib.hid hl2
  clear hl hl2
  go_enter Try.func47, Try.ntmps47
  go_wp2_with fail
  go_loopw [13] (fun i wr => ∃ k : Nat, k ≤ m ∧ i = .int .i64 k ∧ (l.take k).Nodup ∧ Fld.MapB wr w.heap.size k (l.take k).reverse ∧ Has wr (w.heap.size + 1) 67 [.map (some w.heap.size)] ∧ Below w.heap.size w wr) (fun i _ => m - (intOf i).toNat)
  case atStart => exact ⟨0, by omega, rfl, by simp, (Fld.MapB.made w).alloc _, by have h := Has.new (w.alloc (.map #[] 0)) 67 [.map (some w.heap.size)]; rw [World.size_alloc] at h; exact h, ((Below.refl _ _).alloc (Nat.le_refl _) _).alloc (by simp) _⟩
  case round =>
    obtain ⟨k, hk, rfl, hn, hM, hH, hB⟩ := hrel
    have HN := Lib.hid hn
    have HM := Lib.hid hM
    have HB := Lib.hid hB
    obtain ⟨hz, c0⟩ := hH.r1
    have HH := Lib.hid hH
    clear hn hM hB hH
    by_cases hlt : k < m
    · obtain ⟨b, off, rfl, hbB, ec⟩ := (hrd.keep (w' := wr) (fun p hp => HB.out.cell hp)).byte k hlt
      have HE := Lib.hid (Fld.nodup_snoc l k (by rw [HL.out]; exact hlt) HN.out)
      have HF := Lib.hid (Fld.not_nodup l k (by rw [HL.out]; exact hlt))
      have HT := Lib.hid (Fld.take_snoc l k (by rw [HL.out]; exact hlt))
      clear hrd
      generalize l.getD k 0 = q at ec HE HF HT
      go_wp2_with fail
      refine (Fld.again_any q _ w.heap.size k _ _ hz c0 (by omega) HM.out (by unfold maxLen; omega)).mono ?_
      rintro e w2 ⟨rfl, hM2, hg⟩
      have HM2 := Lib.hid hM2
      have HB2 := Lib.hid (HB.out.grown hg HB.out.size (fun g e => by cases e; exact Nat.le_refl _))
      have HH2 := Lib.hid (HH.out.grown hg (fun e => by injection e with e; omega))
      clear hM2 hg
      by_cases hq : q ∈ (l.take k).reverse
      · have HP := Lib.hid (show Fld.ptsB l l2 = false by unfold Fld.ptsB; simp [HF.out hq])
        have hd : decide (q ∈ (l.take k).reverse) = true := decide_eq_true hq
        rw [hd]
        clear hq hd
        go_wp2
        go_ret
        exact ⟨by rw [HP.out]; rfl, HB2.out⟩
      · have HQ := Lib.hid (HE.out hq)
        have hd : decide (q ∈ (l.take k).reverse) = false := decide_eq_false hq
        rw [hd]
        clear hq hd
        go_wp2
        go_roundw
        case rel => exact ⟨k + 1, by omega, by go_num, HQ.out, by rw [HT.out, List.reverse_append]; exact HM2.out, HH2.out, HB2.out⟩
        case measure => simp [intOf]; omega
    · obtain rfl : k = m := by omega
      have HP := Lib.hid (show Fld.ptsB l l2 = decide (k = m2) by unfold Fld.ptsB; rw [HL.out, HL2.out]; have h := HN.out; rw [List.take_of_length_le (by rw [HL.out]; omega)] at h; simp [h])
      clear hrd
      by_cases hq : k = m2
      · have hd : ((k : Int) == (m2 : Int)) = true := by simp [hq]
        have HP := Lib.hid (HP.out.trans (decide_eq_true hq))
        clear hq
        go_wp2
        go_ret
        exact ⟨by rw [HP.out]; rfl, HB.out⟩
      · have hd : ((k : Int) == (m2 : Int)) = false := by simp; omega
        have HP := Lib.hid (HP.out.trans (decide_eq_false hq))
        clear hq
        go_wp2
        go_ret
        exact ⟨by rw [HP.out]; rfl, HB.out⟩
end Go.Proofs.Ytpijkjpefdlefaa
