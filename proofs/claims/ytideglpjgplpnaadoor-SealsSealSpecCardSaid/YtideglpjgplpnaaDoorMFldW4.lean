import Derived.Test.YtideglpjgplpnaaDoorMFldW1
import Derived.Test.YtideglpjgplpnaaDoorMUtil
/- Contract of field.Eval: the value of a polynomial. -/
namespace Go.Proofs.YtideglpjgplpnaaDoor
open Go.RowKit Go.Shelf
attribute [local go_sem] Oper.semAt_some
set_option linter.unusedVariables false

theorem Fld.powers_any_in (n : Nat) (a : UInt8) (w : World) : CallsIn Fence.wide n Tryd.prog 86 #[B8 a] w fun e w' => e = .returned (.func (.func 107) #[] #[.pointer (some ⟨w.heap.size, 0, none⟩)]) ∧ w.alloc (.cells #[B8 a] 5) = w' :=
  callsIn_wide.2 (Fld.powers_any a w)

theorem St.keepB {w0 w w' : World} {l : List (Nat × TypeId × List Value)} {B : Nat} (h : St w0 w l) (hb : Below B w w') (hB : w0.heap.size ≤ B) (hl : ∀ x, x ∈ l → x.1 < B) : St w0 w' l :=
  ⟨h.below.trans (hb.mono hB), fun x hx => (h.has x hx).below hb (hl x hx)⟩

theorem Fld.eval_step {w W W4 : World} {sl : Value} {y a : UInt8} {k : Nat}
    (h : St w W [(w.heap.size, 24, [sl]), (w.heap.size + 1, 5, [B8 y]), (w.heap.size + 2, 3, [.int .i64 ((k : Nat) : Int)]), (w.heap.size + 3, 5, [B8 a])])
    (hb : Below W.drew.heap.size W.drew W4) (qp : UInt8) :
    KeepsOthers W ((W4.setCell ⟨w.heap.size + 1, 0, none⟩ (.int .u8 (bits .xor .u8 (y.toNat : Int) (qp.toNat : Int)))).setCell ⟨w.heap.size + 2, 0, none⟩ (.int .i64 ((k : Int) + 1))) ∧
    St w ((W4.setCell ⟨w.heap.size + 1, 0, none⟩ (.int .u8 (bits .xor .u8 (y.toNat : Int) (qp.toNat : Int)))).setCell ⟨w.heap.size + 2, 0, none⟩ (.int .i64 ((k : Int) + 1)))
      [(w.heap.size, 24, [sl]), (w.heap.size + 1, 5, [B8 (y ^^^ qp)]), (w.heap.size + 2, 3, [.int .i64 ((k + 1 : Nat) : Int)]), (w.heap.size + 3, 5, [B8 a])] := by
  refine ⟨(KeepsOthers.drew W).trans ((keepsOthers_of_below hb).trans ((KeepsOthers.setCell _ _ _).trans (KeepsOthers.setCell _ _ _))), ?_⟩
  have e : (Value.int .u8 (bits .xor .u8 (y.toNat : Int) (qp.toNat : Int))) = B8 (y ^^^ qp) := by rw [u8_xor_nat _ _ y.toNat_lt qp.toNat_lt, B8, UInt8.toNat_xor]
  rw [e]
  have t := h.drew.keep hb
  have t1 := St.put (l := [(w.heap.size, 24, [sl]), (w.heap.size + 2, 3, [.int .i64 ((k : Nat) : Int)]), (w.heap.size + 3, 5, [B8 a])]) (t.less (l' := (w.heap.size + 1, 5, [B8 y]) :: _) (fun x hx => by simp only [List.mem_cons, List.not_mem_nil, or_false] at hx ⊢; rcases hx with h | h | h | h <;> simp [h])) (by omega) (by simp) 0 (B8 (y ^^^ qp))
  have t2 := St.put (l := [(w.heap.size, 24, [sl]), (w.heap.size + 1, 5, [B8 (y ^^^ qp)]), (w.heap.size + 3, 5, [B8 a])]) (t1.less (l' := (w.heap.size + 2, 3, [.int .i64 ((k : Nat) : Int)]) :: _) (fun x hx => by simp only [List.mem_cons, List.not_mem_nil, or_false] at hx ⊢; rcases hx with h | h | h | h <;> simp [h])) (by omega) (by simp) 0 (.int .i64 ((k : Int) + 1))
  exact t2.less (fun x hx => by simp only [List.mem_cons, List.not_mem_nil, or_false] at hx ⊢; rcases hx with h | h | h | h <;> simp [h])

set_option maxRecDepth 100000 in
set_option maxHeartbeats 8000000 in
theorem Fld.eval_in (n : Nat) (hn : 5 ≤ n) (A : Option Addr) (m c : Nat) (l : List UInt8) (a : UInt8) (w : World) (hl : l.length = m) (hm : m ≤ maxLen) (hrd : Rd w w.heap.size 1 A m (l.map B8)) :
    CallsIn Fence.wide n Tryd.prog 70 #[.slice A m c, B8 a] w fun e w' => e = .returned (B8 (Fld.evs l a m)) ∧ Below w.heap.size w w' := by
  have h1 : 1 ≤ n := by omega
  have h2 : 1 ≤ n - 1 := by omega
  have h3 : 1 ≤ n - 1 - 1 := by omega
  have hfn : ∀ f, Fence.wide.fn f := fun _ => trivial
  refine callsIn_of_wp_marks Tryd.func70 rfl trivial ?_ rfl
  simp only [Tryd.ntmps70, List.size_toArray, List.length_cons, List.length_nil, Nat.reduceAdd, Nat.reduceSub, Array.replicate_succ, Array.replicate_zero, List.push_toArray, List.append_toArray, List.nil_append, List.cons_append]
  gi_wp2_with (gi_at_call 86; refine (Fld.powers_any_in (n - 1) a _).mono ?_; rintro e w' ⟨rfl, rfl⟩)
  obtain ⟨W0, hW0⟩ : ∃ W0, (((w.alloc (.cells #[.slice A m c] 24)).alloc (.cells #[.int .u8 0] 5)).alloc (.cells #[.int .i64 0] 3)).alloc (.cells #[B8 a] 5) = W0 := ⟨_, rfl⟩
  have hz : W0.heap.size = w.heap.size + 4 := by rw [← hW0]; simp
  have S0 : St w W0 [(w.heap.size, 24, [.slice A m c]), (w.heap.size + 1, 5, [B8 (Fld.evs l a 0)]), (w.heap.size + 2, 3, [.int .i64 ((0 : Nat) : Int)]), (w.heap.size + 3, 5, [B8 a])] := by
    have h := ((((St.start w).new 24 [.slice A m c]).new 5 [.int .u8 0]).new 3 [.int .i64 0]).new 5 [B8 a]
    simp only [World.size_alloc] at h
    rw [← hW0]
    refine h.less fun x hx => ?_
    simp only [List.mem_cons, List.not_mem_nil, or_false] at hx ⊢
    rcases hx with rfl | rfl | rfl | rfl
    · exact .inr (.inr (.inr rfl))
    · exact .inr (.inr (.inl rfl))
    · exact .inr (.inl rfl)
    · exact .inl rfl
  rw [hW0]
  clear hW0
  refine wpIn_range_until (gf := 107) (lb := #[.pointer (some ⟨w.heap.size + 3, 0, none⟩)]) (c := 0) (fun k => B8 (Fld.pwr a k))
    (fun k W => St w W [(w.heap.size, 24, [.slice A m c]), (w.heap.size + 1, 5, [B8 (Fld.evs l a k)]), (w.heap.size + 2, 3, [.int .i64 ((k : Nat) : Int)]), (w.heap.size + 3, 5, [B8 a])] ∧ k ≤ m)
    (fun W => St w W [(w.heap.size + 1, 5, [B8 (Fld.evs l a m)])])
    h1 rfl (enters_of Tryd.func107 (by kernel_rfl) rfl) ?hI ?hX ⟨S0, Nat.zero_le _⟩ ?hiter
    (fun k => { tmps := #[.slice A m c, B8 a, .pointer (some ⟨w.heap.size, 0, none⟩), undef, .pointer (some ⟨w.heap.size + 1, 0, none⟩), .pointer (some ⟨w.heap.size + 1 + 1, 0, none⟩), B8 (Fld.pwr a k), B8 a, .func (.func 107) #[] #[.pointer (some ⟨w.heap.size + 1 + 1 + 1, 0, none⟩)], B8 (Fld.pwr a k), undef, undef, undef, undef, undef, undef, undef, undef, undef, undef, undef, undef, undef, undef, undef], defers := [] }) ?assign ?body ?stop
  case hI =>
    rintro k W W' ⟨hs, hk⟩ hb
    exact ⟨hs.keepB hb (by omega) (by simp [hz]), hk⟩
  case hX =>
    rintro W W' hs hb
    exact hs.keepB hb (by omega) (by simp [hz])
  case hiter =>
    intro l2 J Jx W hb hJI hJB hY h0
    refine Fld.powers_in (n - 1) (by omega) a (w.heap.size + 3) (w.heap.size + 2) m l2 J Jx W (fun k W' hj => ?_) hJB hY h0
    obtain ⟨hs, hk⟩ := hJI k W' hj
    exact ⟨(hs.nth 3 rfl).c1, (hs.nth 2 rfl).c1, hk⟩
  case assign =>
    intro l2 k W K hK
    gi_wp2
    exact hK
  case body =>
    rintro l2 k W ⟨hs, hk⟩
    obtain ⟨z0, e0⟩ := (hs.nth 0 rfl).r1
    obtain ⟨z1, e1⟩ := (hs.nth 1 rfl).r1
    obtain ⟨z2, e2⟩ := (hs.nth 2 rfl).r1
    have f1 := (hs.nth 1 rfl).frozen 0
    have f2 := (hs.nth 2 rfl).frozen 0
    have HS := Lib.hid hs
    clear hs
    by_cases hkm : k = m
    · subst hkm
      have hq : ((k : Int) == (k : Int)) = true := by simp
      gi_wp2
      refine ⟨rfl, KeepsOthers.refl _, HS.out.less (by simp)⟩
    · have hq : ((k : Int) == (m : Int)) = false := by simp; omega
      have hlt : k < m := by omega
      have hrd2 := hrd.keep (w' := W) (fun p hp => HS.out.below.cell hp)
      obtain ⟨b, off, rfl, hbB, hcell⟩ := hrd2.addr (by omega)
      have ec : W.cell? ⟨b, off + k, none⟩ = some (B8 (l.getD k 0)) := hcell k _ (by rw [List.getElem?_map, List.getElem?_eq_getElem (by omega)]; simp [List.getElem?_eq_getElem (show k < l.length by omega)])
      have hbW : b < W.heap.size := Nat.lt_of_lt_of_le hbB HS.out.below.size
      have hmix : Tryd.prog.follows .mixedOrders = true := by kernel_rfl
      have hlen := IntWalk.i64_in (k + 1 : Int) (by unfold maxLen at hm; omega)
      have hE := Lib.hid (show Fld.evs l a (k + 1) = Fld.evs l a k ^^^ Fld.mul (l.getD k 0) (Fld.pwr a k) from rfl)
      generalize l.getD k 0 = q at ec hE
      generalize Fld.pwr a k = pk at hE ⊢
      clear hrd hrd2 hcell S0
      gi_wp2
      gi_region_with_o (gi_at_call 87; refine (CallsIn.inRound l2 (callsIn_wide.2 (Fld.mul_any q pk _))).mono ?_; rintro e W4 ⟨rfl, hb4⟩; have e4 := (hb4.cell (p := ⟨w.heap.size + 1, 0, none⟩) z1).trans e1; have f4 := (hb4.frozen (p := ⟨w.heap.size + 1, 0, none⟩) z1).trans f1; have e5 := (hb4.cell (p := ⟨w.heap.size + 2, 0, none⟩) z2).trans e2; have f5 := (hb4.frozen (p := ⟨w.heap.size + 2, 0, none⟩) z2).trans f2; have HB4 := Lib.hid hb4; clear hb4; generalize Fld.mul q pk = qp at hE ⊢)
      all_goals (
        gi_wp2
        have t := Fld.eval_step HS.out HB4.out qp
        exact ⟨t.1, by rw [hE.out]; exact t.2, hlt⟩)
  case stop =>
    rintro d W hd hs hK
    have e5 := (hs.nth 0 rfl).c1
    have f5 := (hs.nth 0 rfl).frozen 0
    gi_wp2
    have hK2 : (W.setCell ⟨w.heap.size + 1, 0, none⟩ (Value.int IntKind.u8 ↑(Fld.evs l a m).toNat)).heap[d]? = some (.deferred (some [])) := (Below.heap_setCell _ _ _ _ (by show d ≠ w.heap.size + 1; omega)).trans hK
    have t := hs.put (by omega) (by simp) 0 (.int .u8 ((Fld.evs l a m).toNat : Int))
    refine ⟨by simp, .inl ⟨_, _, rfl, run_takeDeferred hK2, ?_⟩⟩
    refine ⟨B8 (Fld.evs l a m), ?_, rfl, t.below.trans (belowK_b (w := w) (Nat.le_refl _) _ d _ _ (by omega) hK2 rfl rfl)⟩
    have e6 : ((W.setCell ⟨w.heap.size + 1, 0, none⟩ (Value.int IntKind.u8 ↑(Fld.evs l a m).toNat)).putObj d (.deferred none)).cell? ⟨w.heap.size + 1, 0, none⟩ = some (B8 (Fld.evs l a m)) := by
      have h := (t.nth 0 rfl)
      have h2 : Has ((W.setCell ⟨w.heap.size + 1, 0, none⟩ (Value.int IntKind.u8 ↑(Fld.evs l a m).toNat)).putObj d (.deferred none)) (w.heap.size + 1) 5 [.int .u8 ((Fld.evs l a m).toNat : Int)] := (World.putObj_heap_other (by omega)).trans h
      exact h2.c1
    generalize ((W.setCell ⟨w.heap.size + 1, 0, none⟩ (Value.int IntKind.u8 ↑(Fld.evs l a m).toNat)).putObj d (.deferred none)) = WW at e6
    simp [results, go_sem, e6]

theorem Fld.eval_any (A : Option Addr) (m c : Nat) (l : List UInt8) (a : UInt8) (w : World) (hl : l.length = m) (hm : m ≤ maxLen) (hrd : Rd w w.heap.size 1 A m (l.map B8)) :
    Calls Tryd.prog 70 #[.slice A m c, B8 a] w fun e w' => e = .returned (B8 (Fld.evs l a m)) ∧ Below w.heap.size w w' :=
  callsIn_wide.1 (Fld.eval_in 5 (Nat.le_refl _) A m c l a w hl hm hrd)
end Go.Proofs.YtideglpjgplpnaaDoor
