/- Contracts of shares.columns at bytes and at slices of bytes: what a function answers for the places 0 to n - 1. -/
import Derived.Test.YtpijkjpefdlefaaShW3
namespace Go.Proofs.Ytpijkjpefdlefaa
open Go.RowKit Go.Shelf
set_option linter.unusedVariables false

theorem run_make0 {P : Program} {t e : TypeId} {z : Value} {size bytes : Nat} (E : EltOk P t e z size bytes) (n : Nat) (hb : bytes * n ≤ 281474976710656) (h63 : n ≤ maxLen) (w : World) :
    ∃ w', (Instr.makeSlice t (.int .i64 0) (.int .i64 (n : Int))).run P w = .ok (.slice (some ⟨w.heap.size, 0, none⟩) 0 n) w' ∧ w'.ownsRow w.heap.size e size (.slice (some ⟨w.heap.size, 0, none⟩) 0 n) 0 [] ∧ Below w.heap.size w w' := by
  obtain ⟨i, hi, hz, hsize, hby⟩ := info_parts E.info
  have h63' : (n : Int) ≤ 9223372036854775807 := by
    have h := h63
    simp [maxLen] at h
    omega
  have hb' : (i.bytes : Int) * (n : Int) ≤ 281474976710656 := by
    rw [hby]
    have h : ((bytes * n : Nat) : Int) ≤ 281474976710656 := by omega
    rwa [Int.natCast_mul] at h
  have hr := run_make (P := P) w t e i z E.und hi hz .i64 .i64 0 n (by omega) (by omega) hb' h63'
  simp only [Int.toNat_natCast, Int.toNat_zero] at hr
  refine ⟨_, hr, ?_, (Below.refl _ _).alloc (Nat.le_refl _) _⟩
  rw [hsize]
  exact World.ownsRow_made w _ n (Nat.le_refl _) h63 (size_madeCells _ _)

set_option maxHeartbeats 2000000 in
theorem Shr.cols8 (fid : FuncId) (caps : Array Value) (n : Nat) (V : Nat → UInt8) (I : World → Prop) (w : World) (eg : ∀ args w, (callFunc fid args).run Try.prog w = .ok (.enter fid args) w)
    (hI : ∀ W W', I W → Below W.heap.size W W' → I W') (hf : ∀ k W, k < n → I W → Calls Try.prog fid (#[.int .i64 (k : Int)] ++ caps) W fun e W' => e = .returned (B8 (V k)) ∧ Below W.heap.size W W') (h0 : I w) (hn : n ≤ 1000) :
    Calls Try.prog 27 #[.int .i64 n, .func (.func fid) #[] caps] w (RetB w n ((List.range n).map V)) := by
  obtain ⟨w1, hmk, hown1, hb1⟩ := run_make0 el8 n (by omega) (by unfold maxLen; omega) w
  have HO := Lib.hid hown1
  have HB := Lib.hid hb1
  have HI := Lib.hid hI
  have HF := Lib.hid hf
  have H0 := Lib.hid h0
  clear hown1 hb1 hI hf h0
  go_enter Try.func27, Try.ntmps27
  go_wp2_with fail
  clear hmk
  go_loopw [5, 10] (fun v i wr => ∃ k : Nat, k ≤ n ∧ i = .int .i64 k ∧ wr.ownsRow w.heap.size 5 1 v k (((List.range k).map V).map B8) ∧ I wr ∧ Below w.heap.size w wr) (fun _ i _ => n - (intOf i).toNat)
  case atStart => exact ⟨0, by omega, rfl, HO.out, HI.out _ _ H0.out HB.out, HB.out⟩
  case round =>
    obtain ⟨k, hk, rfl, hown, hi, hB⟩ := hrel
    have HO2 := Lib.hid hown
    have HI2 := Lib.hid hi
    have HB2 := Lib.hid hB
    clear hown hi hB HO HB
    by_cases hlt : k < n
    · go_wp2_with fail
      refine (HF.out k wr hlt HI2.out).mono ?_
      rintro e w3 ⟨rfl, hb3⟩
      have HO3 := Lib.hid (own_below HO2.out hb3)
      have HI3 := Lib.hid (HI.out _ _ HI2.out hb3)
      have HB3 := Lib.hid (HB2.out.trans (hb3.mono HB2.out.size))
      have HT := Lib.hid (show ((List.range (k + 1)).map V).map B8 = ((List.range k).map V).map B8 ++ [B8 (V k)] by rw [List.range_succ, List.map_append, List.map_append]; rfl)
      generalize V k = x at HT ⊢
      clear hb3 HO2 HI2 HB2
      go_wp2_with (at_builtin; refine wpList_append_rd rfl _ _ rfl el8 rfl (HO3.out.alloc _) rfl (rd_new w3 5 1 [B8 x] rfl) (by simp [Value.oneCell']) (fun h => by (cases h)) (by simp only [maxLen]; omega) (by omega) (by have := HB3.out.size; simp; omega) ?_; intro v4 w4 hG)
      have HB4 := Lib.hid ((HB3.out.alloc HB3.out.size (.cells #[B8 x] 5)).grown hG.grown (by have := HB3.out.size; simp; omega) (fun g e => own_ge HO3.out e))
      have HO4 := Lib.hid (show w4.ownsRow w.heap.size 5 1 v4 (k + 1) (((List.range (k + 1)).map V).map B8) by rw [HT.out]; exact hG.own)
      have HI4 := Lib.hid (HI.out _ _ H0.out HB4.out)
      clear hG HO3 HI3 HB3
      go_wp2_with fail
      go_roundw
      case rel => exact ⟨k + 1, by omega, by go_num, HO4.out, HI4.out, HB4.out⟩
      case measure => simp [intOf]; omega
    · obtain rfl : k = n := by omega
      obtain ⟨A, c, rfl⟩ := own_form HO2.out
      go_wp2_with fail
      go_ret
      exact ⟨A, c, rfl, own_nil HO2.out, RdB.of_own HO2.out, own_fresh HO2.out, own_lt HO2.out, HB2.out⟩

/-- a slice of bytes with its place -/
structure Bq where
  A : Option Addr
  c : Nat
  l : List UInt8
instance : Inhabited Bq := ⟨⟨none, 0, []⟩⟩
def Bq.cell (q : Bq) : Value := .slice q.A q.l.length q.c
structure Bq.Ok (q : Bq) (w : World) : Prop where
  rd : RdB w q.A q.l.length q.l
  nil : q.A = none → q.c = 0
  lt : ∀ b off, q.A = some ⟨b, off, none⟩ → b < w.heap.size
theorem Bq.Ok.keep {q : Bq} {w w' : World} (h : q.Ok w) (hb : Below w.heap.size w w') : q.Ok w' := ⟨h.rd.keep hb, h.nil, fun b off e => Nat.lt_of_lt_of_le (h.lt b off e) hb.size⟩
theorem Bq.Ok.kept {q : Bq} {w w' : World} {row : Option Nat} (h : q.Ok w) (hg : w.grownBy w' row) (hf : Far q.A row) : q.Ok w' := ⟨h.rd.kept hg hf, h.nil, fun b off e => Nat.lt_of_lt_of_le (h.lt b off e) hg.size⟩
/-- the slice at A with n slices of bytes reads as qs -/
structure RdQ (w : World) (A : Option Addr) (n : Nat) (qs : List Bq) : Prop where
  rd : Rd w w.heap.size 1 A n (qs.map Bq.cell)
  ok : ∀ q, q ∈ qs → q.Ok w
theorem RdQ.keep {w w' : World} {A : Option Addr} {n : Nat} {qs : List Bq} (h : RdQ w A n qs) (hb : Below w.heap.size w w') : RdQ w' A n qs := ⟨(h.rd.below hb (Nat.le_refl _)).more hb.size, fun q hq => (h.ok q hq).keep hb⟩
theorem RdQ.len {w : World} {A : Option Addr} {n : Nat} {qs : List Bq} (h : RdQ w A n qs) : qs.length = n := by have := h.rd.1; simpa using this
theorem RdQ.at {w : World} {A : Option Addr} {n : Nat} {qs : List Bq} (h : RdQ w A n qs) (k : Nat) (hk : k < n) : ∃ b off, A = some ⟨b, off, none⟩ ∧ b < w.heap.size ∧ w.cell? ⟨b, off + k, none⟩ = some (.slice (qs[k]!).A (qs[k]!).l.length (qs[k]!).c) ∧ (qs[k]!).Ok w := by
  have hl := h.len
  obtain ⟨b, off, e, hb, hc⟩ := h.rd.2 (by omega)
  have hk' : k < qs.length := by omega
  refine ⟨b, off, e, hb, ?_, ?_⟩
  · rw [getElem!_pos qs k hk']
    exact hc k _ (by rw [List.getElem?_map, List.getElem?_eq_getElem hk']; rfl)
  · rw [getElem!_pos qs k hk']
    exact h.ok _ (List.getElem_mem hk')
/-- a slice of slices of bytes is handed back -/
def RetQ (w : World) (n : Nat) (r : List (List UInt8)) (e : Ending) (w' : World) : Prop := ∃ A c qs, e = .returned (.slice A n c) ∧ RdQ w' A n qs ∧ qs.map Bq.l = r ∧ Below w.heap.size w w'
theorem elQ : EltOk Try.prog 39 23 (.slice none 0 0) 1 24 := ⟨Try.underlying39, by kernel_rfl, rfl, by decide⟩

set_option maxHeartbeats 2000000 in
theorem Shr.colsQ (fid : FuncId) (caps : Array Value) (n : Nat) (L : Nat → List UInt8) (N : Nat) (hN : ∀ k, k < n → (L k).length = N) (I : World → Prop) (w : World) (eg : ∀ args w, (callFunc fid args).run Try.prog w = .ok (.enter fid args) w)
    (hI : ∀ W W', I W → Below W.heap.size W W' → I W') (hf : ∀ k W, k < n → I W → Calls Try.prog fid (#[.int .i64 (k : Int)] ++ caps) W (RetB W N (L k))) (h0 : I w) (hn : n ≤ 1000) :
    Calls Try.prog 24 #[.int .i64 n, .func (.func fid) #[] caps] w (RetQ w n ((List.range n).map L)) := by
  obtain ⟨w1, hmk, hown1, hb1⟩ := run_make0 elQ n (by omega) (by unfold maxLen; omega) w
  have HO := Lib.hid hown1
  have HB := Lib.hid hb1
  have HI := Lib.hid hI
  have HF := Lib.hid hf
  have H0 := Lib.hid h0
  have HNN := Lib.hid hN
  clear hown1 hb1 hI hf h0 hN
  go_enter Try.func24, Try.ntmps24
  go_wp2_with fail
  clear hmk
  go_loopw [5, 10] (fun v i wr => ∃ (k : Nat) (qs : List Bq), k ≤ n ∧ i = .int .i64 k ∧ wr.ownsRow w.heap.size 23 1 v k (qs.map Bq.cell) ∧ (∀ q, q ∈ qs → q.Ok wr ∧ Far q.A v.ownBlock) ∧ qs.map Bq.l = (List.range k).map L ∧ Below w.heap.size w wr) (fun _ i _ => n - (intOf i).toNat)
  case atStart => exact ⟨0, [], by omega, rfl, HO.out, fun q hq => by (cases hq), rfl, HB.out⟩
  case round =>
    obtain ⟨k, qs, hk, rfl, hown, hok, hql, hB⟩ := hrel
    have HO2 := Lib.hid hown
    have HQ2 := Lib.hid hok
    have HL2 := Lib.hid hql
    have HB2 := Lib.hid hB
    clear hown hok hql hB HO HB
    by_cases hlt : k < n
    · go_wp2_with fail
      refine (HF.out k wr hlt (HI.out _ _ H0.out HB2.out)).mono ?_
      rintro e w3 ⟨A3, c3, rfl, hnil3, hrd3, hfr3, hlt3, hb3⟩
      obtain ⟨q3, hq3⟩ : ∃ q : Bq, q = ⟨A3, c3, L k⟩ := ⟨_, rfl⟩
      have HO3 := Lib.hid (own_below HO2.out hb3)
      have HQ3 := Lib.hid (show ∀ q, q ∈ qs ++ [q3] → q.Ok w3 ∧ Far q.A u5.ownBlock from fun q hq => by
        rcases List.mem_append.1 hq with h | h
        · exact ⟨(HQ2.out q h).1.keep hb3, (HQ2.out q h).2⟩
        · rw [List.mem_singleton] at h
          subst h hq3
          exact ⟨⟨by show RdB w3 A3 (L k).length (L k); rw [HNN.out k hlt]; exact hrd3, hnil3, hlt3⟩, Far.fresh hfr3 HO2.out (Nat.le_refl _)⟩)
      have HB3 := Lib.hid (HB2.out.trans (hb3.mono HB2.out.size))
      have HL3 := Lib.hid (show (qs ++ [q3]).map Bq.l = (List.range (k + 1)).map L by rw [hq3, List.map_append, HL2.out, List.range_succ, List.map_append]; rfl)
      have HC3 := Lib.hid (show (qs ++ [q3]).map Bq.cell = qs.map Bq.cell ++ [.slice A3 N c3] by rw [hq3, List.map_append, ← HNN.out k hlt]; rfl)
      clear hb3 HO2 HB2 hnil3 hrd3 hfr3 hlt3 HQ2 HL2 hq3
      go_wp2_with (at_builtin; refine wpList_append_rd rfl _ _ rfl elQ rfl (HO3.out.alloc _) rfl (rd_new w3 23 1 [.slice A3 N c3] rfl) (by simp [Value.oneCell']) (fun h => by (cases h)) (by simp only [maxLen]; omega) (by omega) (by have := HB3.out.size; simp; omega) ?_; intro v4 w4 hG)
      have HB4 := Lib.hid ((HB3.out.alloc HB3.out.size (.cells #[.slice A3 N c3] 23)).grown hG.grown (by have := HB3.out.size; simp; omega) (fun g e => own_ge HO3.out e))
      have HO4 := Lib.hid (show w4.ownsRow w.heap.size 23 1 v4 (k + 1) ((qs ++ [q3]).map Bq.cell) by rw [HC3.out]; exact hG.own)
      have HQ4 := Lib.hid (show ∀ q, q ∈ qs ++ [q3] → q.Ok w4 ∧ Far q.A v4.ownBlock from fun q hq => by
        obtain ⟨h1, h2⟩ := HQ3.out q hq
        have h3 := h1.keep ((Below.refl w3.heap.size w3).alloc (Nat.le_refl _) (.cells #[.slice A3 N c3] 23))
        exact ⟨h3.kept hG.grown h2, h2.grew h3.lt hG⟩)
      clear hG HO3 HQ3 HB3
      go_wp2_with fail
      go_roundw
      case rel => exact ⟨k + 1, qs ++ [q3], by omega, by go_num, HO4.out, HQ4.out, HL3.out, HB4.out⟩
      case measure => simp [intOf]; omega
    · obtain rfl : k = n := by omega
      obtain ⟨A, c, rfl⟩ := own_form HO2.out
      go_wp2_with fail
      go_ret
      exact ⟨A, c, qs, rfl, ⟨rd_of_own HO2.out, fun q hq => (HQ2.out q hq).1⟩, HL2.out, HB2.out⟩
end Go.Proofs.Ytpijkjpefdlefaa
