import Derived.Test.YtideglpjgplpnaaDoorMShW1
/- Contracts of shares.piece and of what the columns of Split are made of. -/
namespace Go.Proofs.YtideglpjgplpnaaDoor
open Go.RowKit Go.Shelf
set_option linter.unusedVariables false

/-- a part of a slice of bytes -/
theorem RdB.part {w : World} {b off n : Nat} {l : List UInt8} (h : RdB w (some ⟨b, off, none⟩) n l) (p m : Nat) (hm : p + m ≤ n) : RdB w (some ⟨b, off + p, none⟩) m ((l.drop p).take m) := by
  have hl := h.len
  refine ⟨by simp; omega, fun hp => ?_⟩
  obtain ⟨b', off', e, hb, hc⟩ := h.2 (by omega)
  injection e with e
  injection e with e1 e2
  subst e1 e2
  refine ⟨b, off + p, rfl, hb, fun j u hu => ?_⟩
  rw [Nat.add_assoc]
  refine hc (p + j) u ?_
  rw [List.getElem?_map] at hu ⊢
  rw [List.getElem?_take] at hu
  split at hu
  · rw [List.getElem?_drop] at hu; exact hu
  · simp at hu
theorem Shr.mul_in (a m : Nat) (ha : a < 2000) (hm : m < 2000) : wrap64 ((a : Int) * (m : Int)) = ((a * m : Nat) : Int) := by
  have h : a * m ≤ 2000 * 2000 := Nat.mul_le_mul (by omega) (by omega)
  rw [← Int.natCast_mul]
  exact IntWalk.wrap64_in _ ⟨by omega, by omega⟩

/-- what piece hands back -/
def Shr.PiecePost (w : World) (m : Nat) (r : List UInt8) (e : Ending) (w' : World) : Prop := ∃ A' c', e = .returned (.slice A' m c') ∧ (A' = none → c' = 0) ∧ RdB w A' m r ∧ w = w'

theorem Shr.piece_any (A : Option Addr) (n c at_ m : Nat) (l : List UInt8) (w : World) (hr : RdB w A n l) (h : (at_ + 1) * m ≤ n) (hc : n ≤ c) (hcm : c ≤ maxLen) (hat : at_ < 1000) (hm : m < 1000) (hnil : A = none → c = 0) :
    Calls Tryd.prog 68 #[.slice A n c, .int .i64 at_, .int .i64 m] w (Shr.PiecePost w m ((l.drop (at_ * m)).take m)) := by
  unfold maxLen at hcm
  have e1 := Shr.mul_in at_ m (by omega) (by omega)
  have e2 := Shr.mul_in (at_ + 1) m (by omega) (by omega)
  rw [Nat.add_mul, Nat.one_mul] at h e2
  have hpb : at_ * m ≤ 1000000 := Nat.mul_le_mul (show at_ ≤ 1000 by omega) (show m ≤ 1000 by omega)
  generalize at_ * m = p at *
  have e2' : wrap64 (((at_ : Int) + 1) * (m : Int)) = (p : Int) + (m : Int) := by rw [← Int.natCast_add, ← e2]; rfl
  clear e2
  have t1 : ((p : Int) + (m : Int)).toNat = p + m := by omega
  by_cases h0 : m = 0
  · subst h0
    go_enter Tryd.func68, Tryd.ntmps68
    go_wp2
    go_ret
    exact ⟨A, 0, rfl, fun _ => rfl, by rw [List.take_zero]; exact RdB.none_, rfl⟩
  · obtain ⟨b, off, rfl, _, _⟩ := hr.byte 0 (by omega)
    have hne : ¬ p + m = p := by omega
    have HP := Lib.hid (hr.part p m (by omega))
    clear hr
    go_enter Tryd.func68, Tryd.ntmps68
    go_wp2
    go_ret
    exact ⟨_, m, rfl, fun h => by (cases h), HP.out, rfl⟩

theorem el8 : EltOk Tryd.prog 24 5 (.int .u8 0) 1 1 := ⟨Tryd.underlying24, by kernel_rfl, rfl, by decide⟩
/-- what the closures of Split see -/
structure Shr.Sp (bs bc bt : Nat) (As Ac : Option Addr) (ns cs nc cc t : Nat) (sec coins : List UInt8) (W : World) : Prop where
  s : W.cell? ⟨bs, 0, none⟩ = some (.slice As ns cs)
  c : W.cell? ⟨bc, 0, none⟩ = some (.slice Ac nc cc)
  t : W.cell? ⟨bt, 0, none⟩ = some (.int .i64 t)
  rs : RdB W As ns sec
  rc : RdB W Ac nc coins
  zs : bs < W.heap.size
  zc : bc < W.heap.size
  zt : bt < W.heap.size
theorem Shr.Sp.keep {bs bc bt : Nat} {As Ac : Option Addr} {ns cs nc cc t : Nat} {sec coins : List UInt8} {W W' : World} (h : Shr.Sp bs bc bt As Ac ns cs nc cc t sec coins W) (hb : Below W.heap.size W W') : Shr.Sp bs bc bt As Ac ns cs nc cc t sec coins W' :=
  ⟨(hb.cell (p := ⟨bs, 0, none⟩) h.zs).trans h.s, (hb.cell (p := ⟨bc, 0, none⟩) h.zc).trans h.c, (hb.cell (p := ⟨bt, 0, none⟩) h.zt).trans h.t, h.rs.keep hb, h.rc.keep hb, Nat.lt_of_lt_of_le h.zs hb.size, Nat.lt_of_lt_of_le h.zc hb.size, Nat.lt_of_lt_of_le h.zt hb.size⟩
/-- a slice of bytes is handed back -/
def RetB (w : World) (n : Nat) (r : List UInt8) (e : Ending) (w' : World) : Prop := ∃ A c, e = .returned (.slice A n c) ∧ (A = none → c = 0) ∧ RdB w' A n r ∧ Fresh w.heap.size A ∧ (∀ b off, A = some ⟨b, off, none⟩ → b < w'.heap.size) ∧ Below w.heap.size w w'

set_option maxRecDepth 100000 in
set_option maxHeartbeats 2000000 in
theorem Shr.sp1_any (bs bc bt : Nat) (As Ac : Option Addr) (ns cs nc cc t k : Nat) (sec coins : List UInt8) (W : World) (hS : Shr.Sp bs bc bt As Ac ns cs nc cc t sec coins W)
    (hk : k < ns) (hns : ns ≤ 64) (ht1 : 1 ≤ t) (ht8 : t ≤ 8) (hnc : nc = ns * (t - 1)) (hcc : nc ≤ cc) (hccm : cc ≤ maxLen) (hnil : Ac = none → cc = 0) :
    Calls Tryd.prog 67 #[.int .i64 k, .pointer (some ⟨bs, 0, none⟩), .pointer (some ⟨bc, 0, none⟩), .pointer (some ⟨bt, 0, none⟩)] W (RetB W t (Shr.line sec coins t k)) := by
  obtain ⟨m, rfl⟩ : ∃ m, t = m + 1 := ⟨t - 1, by omega⟩
  rw [Nat.add_sub_cancel] at hnc
  have HB1 := Lib.hid (show (k + 1) * m ≤ nc by rw [hnc]; exact Nat.mul_le_mul (by omega) (Nat.le_refl m))
  have HCCM := Lib.hid hccm
  have HLN := Lib.hid (show Shr.line sec coins (m + 1) k = [sec.getD k 0] ++ (coins.drop (k * m)).take m by rw [Shr.line, Nat.add_sub_cancel]; rfl)
  obtain ⟨b, off, rfl, hbB, ec⟩ := hS.rs.byte k hk
  generalize sec.getD k 0 = x at ec HLN
  have e1 := hS.s
  have e2 := hS.c
  have e3 := hS.t
  have HS := Lib.hid hS
  have z1 := hS.zs
  have z2 := hS.zc
  have z3 := hS.zt
  have HNIL := Lib.hid hnil
  have hw : IntKind.i64.wrap (m : Int) = (m : Int) := IntWalk.i64_in _ (by omega)
  clear hS hccm hnil hnc
  go_enter Tryd.func67, Tryd.ntmps67
  go_wp2_with fail
  go_region_held3 (fun w' => w'.cell? ⟨bs, 0, none⟩ = some (.slice (some ⟨b, off, none⟩) ns cs) ∧ w'.cell? ⟨bc, 0, none⟩ = some (.slice Ac nc cc) ∧ w'.cell? ⟨bt, 0, none⟩ = some (.int .i64 ((m + 1 : Nat) : Int)) ∧ w'.cell? ⟨b, off + k, none⟩ = some (B8 x))
    (first | exact ⟨e1, e2, e3, ec⟩ | exact ⟨(hb2.cell (p := ⟨bs, 0, none⟩) z1).trans e1, (hb2.cell (p := ⟨bc, 0, none⟩) z2).trans e2, (hb2.cell (p := ⟨bt, 0, none⟩) z3).trans e3, (hb2.cell (p := ⟨b, off + k, none⟩) hbB).trans ec⟩ | go_keep)
    (first
      | (refine step_append_rd (by rfl) _ _ (by rfl) el8 (by rfl) (own_drew (World.ownsRow_lit (base := W.heap.size) (e := 5) (size := 1) W #[B8 x] 1 (Nat.le_refl _) (by decide) rfl)) (by rfl) (show Rd _ (W.alloc (.cells #[B8 x] 5)).drew.heap.size 1 _ _ _ by first | exact hrd | exact RdB.alloc hrd _) (one_bytes _) hn2 (by unfold maxLen; omega) (by omega) (by simp) ?_; intro v2 w2 hG; have hb2 : Below W.heap.size W w2 := ((((Below.refl _ W).alloc (Nat.le_refl _) (.cells #[B8 x] 5)).drew).grown hG.grown (by simp) (fun g e => by cases e; exact Nat.le_refl _)))
      | (go_at_call 68; refine (Shr.piece_any Ac nc cc k m coins _ (by first | exact HS.out.rc.drew | exact (HS.out.rc.alloc _).drew) HB1.out hcc HCCM.out (by omega) (by omega) HNIL.out).mono ?_; rintro e w1 ⟨A2, c2, rfl, hn2, hrd, rfl⟩))
  all_goals (
    have HG := Lib.hid hG
    have HB2 := Lib.hid hb2
    obtain ⟨A3, c3, rfl⟩ := own_form hG.own
    clear hG hb2
    go_wp2_with fail
    go_ret
    refine ⟨A3, c3, by rw [Nat.add_comm 1 m]; rfl, own_nil HG.out.own, ?_, own_fresh HG.out.own, own_lt HG.out.own, HB2.out⟩
    · rw [HLN.out, Nat.add_comm m 1]
      exact RdB.of_own (l := [x] ++ (coins.drop (k * m)).take m) (by rw [List.map_append]; exact HG.out.own))
end Go.Proofs.YtideglpjgplpnaaDoor
/- Contracts of shares.columns at bytes and at slices of bytes: what a function answers for the places 0 to n - 1. -/
namespace Go.Proofs.YtideglpjgplpnaaDoor
open Go.RowKit Go.Shelf
set_option linter.unusedVariables false

theorem run_make0 {P : Program} {t e : TypeId} {z : Value} {size bytes : Nat} (E : EltOk P t e z size bytes) (n : Nat) (hb : bytes * n ≤ 281474976710656) (h63 : n ≤ maxLen) (w : World) :
    ∃ w', (Instr.makeSlice t (.int .i64 0) (.int .i64 (n : Int))).run P w = .ok (.slice (some ⟨w.heap.size, 0, none⟩) 0 n) w' ∧ w'.ownsRow w.heap.size e size (.slice (some ⟨w.heap.size, 0, none⟩) 0 n) 0 [] ∧ Below w.heap.size w w' := by
  obtain ⟨i, hi, hz, hsize, hby⟩ := info_parts E.info
  have h63' : (n : Int) ≤ 9223372036854775807 := by
    have h := h63
    simp [maxLen] at h
    omega
  have hb' : (i.bytes : Int) * (n : Int) ≤ 281474976710656 := by
    rw [hby]
    have h : ((bytes * n : Nat) : Int) ≤ 281474976710656 := by omega
    rwa [Int.natCast_mul] at h
  have hr := run_make (P := P) w t e i z E.und hi hz .i64 .i64 0 n (by omega) (by omega) hb' h63'
  simp only [Int.toNat_natCast, Int.toNat_zero] at hr
  refine ⟨_, hr, ?_, (Below.refl _ _).alloc (Nat.le_refl _) _⟩
  rw [hsize]
  exact World.ownsRow_made w _ n (Nat.le_refl _) h63 (size_madeCells _ _)

set_option maxHeartbeats 2000000 in
theorem Shr.cols8 (fid : FuncId) (caps : Array Value) (n : Nat) (V : Nat → UInt8) (I : World → Prop) (w : World) (eg : ∀ args w, (callFunc fid args).run Tryd.prog w = .ok (.enter fid args) w)
    (hI : ∀ W W', I W → Below W.heap.size W W' → I W') (hf : ∀ k W, k < n → I W → Calls Tryd.prog fid (#[.int .i64 (k : Int)] ++ caps) W fun e W' => e = .returned (B8 (V k)) ∧ Below W.heap.size W W') (h0 : I w) (hn : n ≤ 1000) :
    Calls Tryd.prog 56 #[.int .i64 n, .func (.func fid) #[] caps] w (RetB w n ((List.range n).map V)) := by
  obtain ⟨w1, hmk, hown1, hb1⟩ := run_make0 el8 n (by omega) (by unfold maxLen; omega) w
  have HO := Lib.hid hown1
  have HB := Lib.hid hb1
  have HI := Lib.hid hI
  have HF := Lib.hid hf
  have H0 := Lib.hid h0
  clear hown1 hb1 hI hf h0
  go_enter Tryd.func56, Tryd.ntmps56
  go_wp2_with fail
  clear hmk
  go_loopw [5, 10] (fun v i wr => ∃ k : Nat, k ≤ n ∧ i = .int .i64 k ∧ wr.ownsRow w.heap.size 5 1 v k (((List.range k).map V).map B8) ∧ I wr ∧ Below w.heap.size w wr) (fun _ i _ => n - (intOf i).toNat)
  case atStart => exact ⟨0, by omega, rfl, HO.out, HI.out _ _ H0.out HB.out, HB.out⟩
  case round =>
    obtain ⟨k, hk, rfl, hown, hi, hB⟩ := hrel
    have HO2 := Lib.hid hown
    have HI2 := Lib.hid hi
    have HB2 := Lib.hid hB
    clear hown hi hB HO HB
    by_cases hlt : k < n
    · go_wp2_with fail
      refine (HF.out k wr hlt HI2.out).mono ?_
      rintro e w3 ⟨rfl, hb3⟩
      have HO3 := Lib.hid (own_below HO2.out hb3)
      have HI3 := Lib.hid (HI.out _ _ HI2.out hb3)
      have HB3 := Lib.hid (HB2.out.trans (hb3.mono HB2.out.size))
      have HT := Lib.hid (show ((List.range (k + 1)).map V).map B8 = ((List.range k).map V).map B8 ++ [B8 (V k)] by rw [List.range_succ, List.map_append, List.map_append]; rfl)
      generalize V k = x at HT ⊢
      clear hb3 HO2 HI2 HB2
      go_wp2_with (at_builtin; refine wpList_append_rd rfl _ _ rfl el8 rfl (HO3.out.alloc _) rfl (rd_new w3 5 1 [B8 x] rfl) (by simp [Value.oneCell']) (fun h => by (cases h)) (by simp only [maxLen]; omega) (by omega) (by have := HB3.out.size; simp; omega) ?_; intro v4 w4 hG)
      have HB4 := Lib.hid ((HB3.out.alloc HB3.out.size (.cells #[B8 x] 5)).grown hG.grown (by have := HB3.out.size; simp; omega) (fun g e => own_ge HO3.out e))
      have HO4 := Lib.hid (show w4.ownsRow w.heap.size 5 1 v4 (k + 1) (((List.range (k + 1)).map V).map B8) by rw [HT.out]; exact hG.own)
      have HI4 := Lib.hid (HI.out _ _ H0.out HB4.out)
      clear hG HO3 HI3 HB3
      go_wp2_with fail
      go_roundw
      case rel => exact ⟨k + 1, by omega, by go_num, HO4.out, HI4.out, HB4.out⟩
      case measure => simp [intOf]; omega
    · obtain rfl : k = n := by omega
      obtain ⟨A, c, rfl⟩ := own_form HO2.out
      go_wp2_with fail
      go_ret
      exact ⟨A, c, rfl, own_nil HO2.out, RdB.of_own HO2.out, own_fresh HO2.out, own_lt HO2.out, HB2.out⟩

/-- a slice of bytes with its place -/
structure Bq where
  A : Option Addr
  c : Nat
  l : List UInt8
instance : Inhabited Bq := ⟨⟨none, 0, []⟩⟩
def Bq.cell (q : Bq) : Value := .slice q.A q.l.length q.c
structure Bq.Ok (q : Bq) (w : World) : Prop where
  rd : RdB w q.A q.l.length q.l
  nil : q.A = none → q.c = 0
  lt : ∀ b off, q.A = some ⟨b, off, none⟩ → b < w.heap.size
theorem Bq.Ok.keep {q : Bq} {w w' : World} (h : q.Ok w) (hb : Below w.heap.size w w') : q.Ok w' := ⟨h.rd.keep hb, h.nil, fun b off e => Nat.lt_of_lt_of_le (h.lt b off e) hb.size⟩
theorem Bq.Ok.kept {q : Bq} {w w' : World} {row : Option Nat} (h : q.Ok w) (hg : w.grownBy w' row) (hf : Far q.A row) : q.Ok w' := ⟨h.rd.kept hg hf, h.nil, fun b off e => Nat.lt_of_lt_of_le (h.lt b off e) hg.size⟩
/-- the slice at A with n slices of bytes reads as qs -/
structure RdQ (w : World) (A : Option Addr) (n : Nat) (qs : List Bq) : Prop where
  rd : Rd w w.heap.size 1 A n (qs.map Bq.cell)
  ok : ∀ q, q ∈ qs → q.Ok w
theorem RdQ.keep {w w' : World} {A : Option Addr} {n : Nat} {qs : List Bq} (h : RdQ w A n qs) (hb : Below w.heap.size w w') : RdQ w' A n qs := ⟨(h.rd.below hb (Nat.le_refl _)).more hb.size, fun q hq => (h.ok q hq).keep hb⟩
theorem RdQ.len {w : World} {A : Option Addr} {n : Nat} {qs : List Bq} (h : RdQ w A n qs) : qs.length = n := by have := h.rd.1; simpa using this
theorem RdQ.at {w : World} {A : Option Addr} {n : Nat} {qs : List Bq} (h : RdQ w A n qs) (k : Nat) (hk : k < n) : ∃ b off, A = some ⟨b, off, none⟩ ∧ b < w.heap.size ∧ w.cell? ⟨b, off + k, none⟩ = some (.slice (qs[k]!).A (qs[k]!).l.length (qs[k]!).c) ∧ (qs[k]!).Ok w := by
  have hl := h.len
  obtain ⟨b, off, e, hb, hc⟩ := h.rd.2 (by omega)
  have hk' : k < qs.length := by omega
  refine ⟨b, off, e, hb, ?_, ?_⟩
  · rw [getElem!_pos qs k hk']
    exact hc k _ (by rw [List.getElem?_map, List.getElem?_eq_getElem hk']; rfl)
  · rw [getElem!_pos qs k hk']
    exact h.ok _ (List.getElem_mem hk')
/-- a slice of slices of bytes is handed back -/
def RetQ (w : World) (n : Nat) (r : List (List UInt8)) (e : Ending) (w' : World) : Prop := ∃ A c qs, e = .returned (.slice A n c) ∧ RdQ w' A n qs ∧ qs.map Bq.l = r ∧ Below w.heap.size w w'
theorem elQ : EltOk Tryd.prog 99 24 (.slice none 0 0) 1 24 := ⟨Tryd.underlying99, by kernel_rfl, rfl, by decide⟩

set_option maxHeartbeats 2000000 in
theorem Shr.colsQ (fid : FuncId) (caps : Array Value) (n : Nat) (L : Nat → List UInt8) (N : Nat) (hN : ∀ k, k < n → (L k).length = N) (I : World → Prop) (w : World) (eg : ∀ args w, (callFunc fid args).run Tryd.prog w = .ok (.enter fid args) w)
    (hI : ∀ W W', I W → Below W.heap.size W W' → I W') (hf : ∀ k W, k < n → I W → Calls Tryd.prog fid (#[.int .i64 (k : Int)] ++ caps) W (RetB W N (L k))) (h0 : I w) (hn : n ≤ 1000) :
    Calls Tryd.prog 66 #[.int .i64 n, .func (.func fid) #[] caps] w (RetQ w n ((List.range n).map L)) := by
  obtain ⟨w1, hmk, hown1, hb1⟩ := run_make0 elQ n (by omega) (by unfold maxLen; omega) w
  have HO := Lib.hid hown1
  have HB := Lib.hid hb1
  have HI := Lib.hid hI
  have HF := Lib.hid hf
  have H0 := Lib.hid h0
  have HNN := Lib.hid hN
  clear hown1 hb1 hI hf h0 hN
  go_enter Tryd.func66, Tryd.ntmps66
  go_wp2_with fail
  clear hmk
  go_loopw [5, 10] (fun v i wr => ∃ (k : Nat) (qs : List Bq), k ≤ n ∧ i = .int .i64 k ∧ wr.ownsRow w.heap.size 24 1 v k (qs.map Bq.cell) ∧ (∀ q, q ∈ qs → q.Ok wr ∧ Far q.A v.ownBlock) ∧ qs.map Bq.l = (List.range k).map L ∧ Below w.heap.size w wr) (fun _ i _ => n - (intOf i).toNat)
  case atStart => exact ⟨0, [], by omega, rfl, HO.out, fun q hq => by (cases hq), rfl, HB.out⟩
  case round =>
    obtain ⟨k, qs, hk, rfl, hown, hok, hql, hB⟩ := hrel
    have HO2 := Lib.hid hown
    have HQ2 := Lib.hid hok
    have HL2 := Lib.hid hql
    have HB2 := Lib.hid hB
    clear hown hok hql hB HO HB
    by_cases hlt : k < n
    · go_wp2_with fail
      refine (HF.out k wr hlt (HI.out _ _ H0.out HB2.out)).mono ?_
      rintro e w3 ⟨A3, c3, rfl, hnil3, hrd3, hfr3, hlt3, hb3⟩
      obtain ⟨q3, hq3⟩ : ∃ q : Bq, q = ⟨A3, c3, L k⟩ := ⟨_, rfl⟩
      have HO3 := Lib.hid (own_below HO2.out hb3)
      have HQ3 := Lib.hid (show ∀ q, q ∈ qs ++ [q3] → q.Ok w3 ∧ Far q.A u5.ownBlock from fun q hq => by
        rcases List.mem_append.1 hq with h | h
        · exact ⟨(HQ2.out q h).1.keep hb3, (HQ2.out q h).2⟩
        · rw [List.mem_singleton] at h
          subst h hq3
          exact ⟨⟨by show RdB w3 A3 (L k).length (L k); rw [HNN.out k hlt]; exact hrd3, hnil3, hlt3⟩, Far.fresh hfr3 HO2.out (Nat.le_refl _)⟩)
      have HB3 := Lib.hid (HB2.out.trans (hb3.mono HB2.out.size))
      have HL3 := Lib.hid (show (qs ++ [q3]).map Bq.l = (List.range (k + 1)).map L by rw [hq3, List.map_append, HL2.out, List.range_succ, List.map_append]; rfl)
      have HC3 := Lib.hid (show (qs ++ [q3]).map Bq.cell = qs.map Bq.cell ++ [.slice A3 N c3] by rw [hq3, List.map_append, ← HNN.out k hlt]; rfl)
      clear hb3 HO2 HB2 hnil3 hrd3 hfr3 hlt3 HQ2 HL2 hq3
      go_wp2_with (at_builtin; refine wpList_append_rd rfl _ _ rfl elQ rfl (HO3.out.alloc _) rfl (rd_new w3 24 1 [.slice A3 N c3] rfl) (by simp [Value.oneCell']) (fun h => by (cases h)) (by simp only [maxLen]; omega) (by omega) (by have := HB3.out.size; simp; omega) ?_; intro v4 w4 hG)
      have HB4 := Lib.hid ((HB3.out.alloc HB3.out.size (.cells #[.slice A3 N c3] 24)).grown hG.grown (by have := HB3.out.size; simp; omega) (fun g e => own_ge HO3.out e))
      have HO4 := Lib.hid (show w4.ownsRow w.heap.size 24 1 v4 (k + 1) ((qs ++ [q3]).map Bq.cell) by rw [HC3.out]; exact hG.own)
      have HQ4 := Lib.hid (show ∀ q, q ∈ qs ++ [q3] → q.Ok w4 ∧ Far q.A v4.ownBlock from fun q hq => by
        obtain ⟨h1, h2⟩ := HQ3.out q hq
        have h3 := h1.keep ((Below.refl w3.heap.size w3).alloc (Nat.le_refl _) (.cells #[.slice A3 N c3] 24))
        exact ⟨h3.kept hG.grown h2, h2.grew h3.lt hG⟩)
      clear hG HO3 HQ3 HB3
      go_wp2_with fail
      go_roundw
      case rel => exact ⟨k + 1, qs ++ [q3], by omega, by go_num, HO4.out, HQ4.out, HL3.out, HB4.out⟩
      case measure => simp [intOf]; omega
    · obtain rfl : k = n := by omega
      obtain ⟨A, c, rfl⟩ := own_form HO2.out
      go_wp2_with fail
      go_ret
      exact ⟨A, c, qs, rfl, ⟨rd_of_own HO2.out, fun q hq => (HQ2.out q hq).1⟩, HL2.out, HB2.out⟩
end Go.Proofs.YtideglpjgplpnaaDoor
/- Contract of the second closure of shares.Split. -/
namespace Go.Proofs.YtideglpjgplpnaaDoor
open Go.RowKit Go.Shelf
set_option linter.unusedVariables false

/-- what the second closure of Split sees -/
structure Shr.Sq (bl bi : Nat) (AL : Option Addr) (n cL i : Nat) (qs : List Bq) (W : World) : Prop where
  l : W.cell? ⟨bl, 0, none⟩ = some (.slice AL n cL)
  i : W.cell? ⟨bi, 0, none⟩ = some (.int .i64 (i : Int))
  q : RdQ W AL n qs
  zl : bl < W.heap.size
  zi : bi < W.heap.size
theorem Shr.Sq.keep {bl bi : Nat} {AL : Option Addr} {n cL i : Nat} {qs : List Bq} {W W' : World} (h : Shr.Sq bl bi AL n cL i qs W) (hb : Below W.heap.size W W') : Shr.Sq bl bi AL n cL i qs W' :=
  ⟨(hb.cell (p := ⟨bl, 0, none⟩) h.zl).trans h.l, (hb.cell (p := ⟨bi, 0, none⟩) h.zi).trans h.i, h.q.keep hb, Nat.lt_of_lt_of_le h.zl hb.size, Nat.lt_of_lt_of_le h.zi hb.size⟩

theorem u8_wrap (i : Nat) (h : i < 256) : IntKind.u8.wrap (i : Int) = ((UInt8.ofNat i).toNat : Int) := by
  rw [UInt8.toNat_ofNat', Nat.mod_eq_of_lt (by omega)]
  simp [IntKind.wrap, IntKind.signed, IntKind.bits]
  omega

set_option maxHeartbeats 2000000 in
theorem Shr.sp2_any (bl bi : Nat) (AL : Option Addr) (n cL i k : Nat) (qs : List Bq) (W : World) (hS : Shr.Sq bl bi AL n cL i qs W) (hk : k < n) (hn : n ≤ 64) (hi : i ≤ 8) (hql : ∀ q, q ∈ qs → q.l.length ≤ 8) :
    Calls Tryd.prog 69 #[.int .i64 k, .pointer (some ⟨bl, 0, none⟩), .pointer (some ⟨bi, 0, none⟩)] W fun e W' => e = .returned (B8 (Fld.ev (qs[k]!).l (UInt8.ofNat i))) ∧ Below W.heap.size W W' := by
  obtain ⟨b, off, rfl, hb, ec, hok⟩ := hS.q.at k hk
  have hlen : (qs[k]!).l.length ≤ 8 := by
    rw [getElem!_pos qs k (by rw [hS.q.len]; exact hk)]
    exact hql _ (List.getElem_mem _)
  have HOK := Lib.hid hok
  generalize qs[k]! = q at ec HOK hlen ⊢
  have e1 := hS.l
  have e2 := hS.i
  have z1 := hS.zl
  have z2 := hS.zi
  have hw := u8_wrap i (by omega)
  clear hS hok
  have HLE := Lib.hid hlen
  generalize hm : q.l.length = m at ec hlen
  have HM := Lib.hid hm
  clear hm
  go_enter Tryd.func69, Tryd.ntmps69
  go_wp2_with fail
  go_region_held3 (fun w' => w'.cell? ⟨bl, 0, none⟩ = some (.slice (some ⟨b, off, none⟩) n cL) ∧ w'.cell? ⟨bi, 0, none⟩ = some (.int .i64 (i : Int)) ∧ w'.cell? ⟨b, off + k, none⟩ = some (.slice q.A m q.c))
    (first | exact ⟨e1, e2, ec⟩ | exact ⟨(hb2.cell (p := ⟨bl, 0, none⟩) z1).trans e1, (hb2.cell (p := ⟨bi, 0, none⟩) z2).trans e2, (hb2.cell (p := ⟨b, off + k, none⟩) hb).trans ec⟩)
    (first | (go_at_call 70; refine (Fld.eval_ev q.A m q.c q.l (UInt8.ofNat i) _ HM.out (by unfold maxLen; omega) (by rw [← HM.out]; exact HOK.out.rd)).mono ?_; rintro e w2 ⟨rfl, hb2⟩))
  have HB := Lib.hid hb2
  clear hb2
  go_wp2_with fail
  go_ret
  exact ⟨rfl, (Below.refl _ _).drew.trans (HB.out.mono (by simp))⟩
end Go.Proofs.YtideglpjgplpnaaDoor
