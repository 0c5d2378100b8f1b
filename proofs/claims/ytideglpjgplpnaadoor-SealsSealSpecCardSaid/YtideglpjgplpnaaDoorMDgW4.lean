import Derived.StillTailTactics
import Derived.Laws.CopyOwn
import Derived.Deep.QuietTactic
import Derived.BigQuiet
import Derived.Test.YtideglpjgplpnaaDoorMDgW1
/- Contract of package digest: a block is absorbed. -/
namespace Go.Proofs.YtideglpjgplpnaaDoor
open Go.RowKit
set_option linter.unusedVariables false

theorem Dg.rotl_hid (x : UInt32) (n : Nat) (h0 : 0 < n) (hn : n < 32) (m : Int) (hm : m = -(n : Int)) (w : World) :
    Calls Tryd.prog 84 #[.int .u32 (x.toNat : Int), .int .i64 m] w fun e w' => e = .returned (.int .u32 ((Dg.ror x (UInt32.ofNat n)).toNat : Int)) ∧ w' = w := by
  subst hm
  exact Dg.rotl_any w x n h0 hn
theorem Dg.sc_cells {w : World} {g : Nat} {t : TypeId} {s : Dg.S} (h : Has w g t (Dg.sc s)) :
    w.cell? ⟨g, 0, none⟩ = some (.int .u32 (s.a.toNat : Int)) ∧ w.cell? ⟨g, 1, none⟩ = some (.int .u32 (s.b.toNat : Int)) ∧ w.cell? ⟨g, 2, none⟩ = some (.int .u32 (s.c.toNat : Int)) ∧ w.cell? ⟨g, 3, none⟩ = some (.int .u32 (s.d.toNat : Int)) ∧
    w.cell? ⟨g, 4, none⟩ = some (.int .u32 (s.e.toNat : Int)) ∧ w.cell? ⟨g, 5, none⟩ = some (.int .u32 (s.f.toNat : Int)) ∧ w.cell? ⟨g, 6, none⟩ = some (.int .u32 (s.g.toNat : Int)) ∧ w.cell? ⟨g, 7, none⟩ = some (.int .u32 (s.h.toNat : Int)) :=
  ⟨h.cell 0, h.cell 1, h.cell 2, h.cell 3, h.cell 4, h.cell 5, h.cell 6, h.cell 7⟩
theorem Has.new_of (w : World) (t : TypeId) (a : Array Value) (cs : List Value) (h : a = cs.toArray) : Has (w.alloc (.cells a t)) w.heap.size t cs := by
  subst h
  exact Has.new w t cs
/-- the next word, as the code adds it up -/
theorem Dg.next_int (l : List UInt32) (t : Nat) :
    IntKind.u32.wrap (IntKind.u32.wrap (IntKind.u32.wrap (((l[t - 16]!).toNat : Int) + bits .xor .u32 (bits .xor .u32 ((Dg.ror l[t - 15]! 7).toNat : Int) ((Dg.ror l[t - 15]! 18).toNat : Int)) (((l[t - 15]!).toNat : Int) / 2 ^ 3)) + ((l[t - 7]!).toNat : Int)) + bits .xor .u32 (bits .xor .u32 ((Dg.ror l[t - 2]! 17).toNat : Int) ((Dg.ror l[t - 2]! 19).toNat : Int)) (((l[t - 2]!).toNat : Int) / 2 ^ 10))
      = ((Dg.next l t).toNat : Int) := by
  rw [Dg.shr _ 3 (by omega), Dg.shr _ 10 (by omega), Dg.xor, Dg.xor, Dg.xor, Dg.xor, Dg.add, Dg.add, Dg.add]
  rfl

theorem Dg.next_mod (l : List UInt32) (t : Nat) :
    (((l[t - 16]!).toNat : Int) + bits .xor .u32 (bits .xor .u32 ((Dg.ror l[t - 15]! 7).toNat : Int) ((Dg.ror l[t - 15]! 18).toNat : Int)) (((l[t - 15]!).toNat : Int) / 8) + ((l[t - 7]!).toNat : Int) + bits .xor .u32 (bits .xor .u32 ((Dg.ror l[t - 2]! 17).toNat : Int) ((Dg.ror l[t - 2]! 19).toNat : Int)) (((l[t - 2]!).toNat : Int) / 1024)) % 4294967296
      = ((Dg.next l t).toNat : Int) := by
  have h := Dg.next_int l t
  rw [IntKind.wrap_u32, IntKind.wrap_u32, IntKind.wrap_u32, show (2 : Int) ^ 3 = 8 from rfl, show (2 : Int) ^ 10 = 1024 from rfl] at h
  generalize bits .xor .u32 (bits .xor .u32 ((Dg.ror l[t - 15]! 7).toNat : Int) ((Dg.ror l[t - 15]! 18).toNat : Int)) (((l[t - 15]!).toNat : Int) / 8) = X at h ⊢
  generalize bits .xor .u32 (bits .xor .u32 ((Dg.ror l[t - 2]! 17).toNat : Int) ((Dg.ror l[t - 2]! 19).toNat : Int)) (((l[t - 2]!).toNat : Int) / 1024) = Y at h ⊢
  omega

theorem Dg.p_int (h r g e f k w : UInt32) :
    ((((h.toNat : Int) + (r.toNat : Int) + bits .xor .u32 (g.toNat : Int) (bits .and .u32 (e.toNat : Int) (bits .xor .u32 (f.toNat : Int) (g.toNat : Int))) + (k.toNat : Int)) % 4294967296 + (w.toNat : Int)) % 4294967296) = ((h + r + (g ^^^ (e &&& (f ^^^ g))) + k + w).toNat : Int) := by
  rw [Dg.xor, Dg.and, Dg.xor]
  simp only [UInt32.toNat_add]
  omega
theorem Dg.q_int (r a b c : UInt32) :
    ((r.toNat : Int) + bits .or .u32 (bits .and .u32 (a.toNat : Int) (b.toNat : Int)) (bits .and .u32 (c.toNat : Int) (bits .or .u32 (a.toNat : Int) (b.toNat : Int)))) % 4294967296 = ((r + ((a &&& b) ||| (c &&& (a ||| b)))).toNat : Int) := by
  rw [Dg.or, Dg.and, Dg.and, Dg.or]
  simp only [UInt32.toNat_add]
  omega
theorem Dg.add_mod (x y : UInt32) : ((x.toNat : Int) + (y.toNat : Int)) % 4294967296 = ((x + y).toNat : Int) := by rw [← IntKind.wrap_u32, Dg.add]
theorem Dg.step_prog (k w : UInt32) (s : Dg.S) (r1 r2 p q : UInt32) (h1 : Dg.ror s.e 6 ^^^ Dg.ror s.e 11 ^^^ Dg.ror s.e 25 = r1) (h2 : Dg.ror s.a 2 ^^^ Dg.ror s.a 13 ^^^ Dg.ror s.a 22 = r2)
    (hp : s.h + r1 + (s.g ^^^ (s.e &&& (s.f ^^^ s.g))) + k + w = p) (hq : r2 + ((s.a &&& s.b) ||| (s.c &&& (s.a ||| s.b))) = q) :
    Dg.step k w s = ⟨p + q, s.a, s.b, s.c, s.d + p, s.e, s.f, s.g⟩ := by
  unfold Dg.step
  rw [h1, h2, ← Dg.ch, ← Dg.maj, hp, hq]

/-- the state under way in the last loop -/
def Dg.sl (s : Dg.S) : List UInt32 := [s.a, s.b, s.c, s.d, s.e, s.f, s.g, s.h]
def Dg.pc (s r : Dg.S) (k : Nat) : List Value := ((Dg.sl (Dg.plus s r)).take k ++ (Dg.sl s).drop k).map Dg.v
theorem Dg.pc_facts (s r : Dg.S) (k : Nat) (h : k < 8) : (Dg.pc s r k)[k]? = some (.int .u32 (((Dg.sl s)[k]!).toNat : Int)) ∧ (Dg.sc r)[k]? = some (.int .u32 (((Dg.sl r)[k]!).toNat : Int)) ∧
    (Dg.pc s r k).set k (.int .u32 (((Dg.sl s)[k]! + (Dg.sl r)[k]!).toNat : Int)) = Dg.pc s r (k + 1) := by
  match k, h with
  | 0, _ => exact ⟨rfl, rfl, rfl⟩
  | 1, _ => exact ⟨rfl, rfl, rfl⟩
  | 2, _ => exact ⟨rfl, rfl, rfl⟩
  | 3, _ => exact ⟨rfl, rfl, rfl⟩
  | 4, _ => exact ⟨rfl, rfl, rfl⟩
  | 5, _ => exact ⟨rfl, rfl, rfl⟩
  | 6, _ => exact ⟨rfl, rfl, rfl⟩
  | 7, _ => exact ⟨rfl, rfl, rfl⟩

set_option maxRecDepth 100000 in
set_option maxHeartbeats 8000000 in
theorem Dg.absorb_any (w : World) (gs : Nat) (s : Dg.S) (K : List UInt32) (A : Option Addr) (n c : Nat) (l : List UInt8) (hs : Has w gs 95 (Dg.sc s)) (hr : RdB w A n l) (h64 : 64 ≤ n) (hnc : n ≤ c) (hc : c ≤ maxLen)
    (hK : ∀ t, t < 64 → w.cell? ⟨1, t, none⟩ = some (.int .u32 ((K[t]!).toNat : Int))) (hKz : 1 < gs) :
    Calls Tryd.prog 63 #[.pointer (some ⟨gs, 0, none⟩), .slice A n c] w fun e w' => (∃ v, e = .returned v) ∧ w.grownBy w' (some gs) ∧ Has w' gs 95 (Dg.sc (Dg.absorb K s l)) := by
  unfold maxLen at hc
  have HS := Lib.hid hs
  have HR := Lib.hid hr
  have HKC := Lib.hid hK
  have hgs := hs.lt
  obtain ⟨b, off, rfl, hb, hcell⟩ := hr.2 (by omega)
  have HC := Lib.hid hcell
  clear hs hr hK hcell
  have HFIN := Lib.hid (show Dg.absorb K s l = Dg.plus s (Dg.rounds K (Dg.W l) s 64) from rfl)
  have HLO := Lib.hid (fun k hk => (Dg.word_drop l k).trans (Dg.W_lo l k hk).symm)
  have HNX := Lib.hid (Dg.W_next l)
  generalize Dg.W l = W at HFIN HLO HNX
  generalize Dg.absorb K s l = sf at HFIN ⊢
  have HZ := Lib.hid (Dg.wc_zero W)
  have HWS := Lib.hid (fun t ht => Dg.wc_set W t ht)
  go_enter Tryd.func63, Tryd.ntmps63
  go_wp2_with fail
  go_loopw [14] (fun i wr => ∃ k : Nat, k ≤ 16 ∧ i = .int .i64 k ∧ Has wr w.heap.size 114 (Dg.wc W k) ∧ Below w.heap.size w wr) (fun i _ => 16 - (intOf i).toNat)
  case atStart => 
    refine ⟨0, by omega, rfl, ?_, (Below.refl _ _).alloc (Nat.le_refl _) _⟩
    refine Has.new_of _ _ _ _ ?_
    rw [HZ.out]
    rfl
  case round =>
    obtain ⟨k, hk, rfl, hT, hB⟩ := hrel
    by_cases hlt : k < 16
    · obtain ⟨v, hv⟩ := Dg.wc_some W k k (by omega)
      have cc := (hT.cell k).trans hv
      have fz := hT.frozen k
      have HT := Lib.hid (hT.set k (Dg.v W[k]!))
      have HB := Lib.hid (hB.setCell (p := ⟨w.heap.size, k, none⟩) (Nat.le_refl _) (Dg.v W[k]!))
      have HR2 := Lib.hid (show RdB wr (some ⟨b, off + 4 * k, none⟩) (n - 4 * k) (l.drop (4 * k)) from by
        have h := (HR.out.keep hB)
        refine ⟨by have := h.len; simp; omega, fun _ => ⟨b, off + 4 * k, rfl, Nat.lt_of_lt_of_le hb hB.size, fun j u hu => ?_⟩⟩
        rw [List.map_drop, List.getElem?_drop] at hu
        have h2 := (hB.cell (p := ⟨b, off + (4 * k + j), none⟩) hb).trans (HC.out (4 * k + j) u hu)
        rw [show off + 4 * k + j = off + (4 * k + j) by omega]
        exact h2)
      have HW := Lib.hid (Dg.word_any wr (some ⟨b, off + 4 * k, none⟩) (n - 4 * k) (c - 4 * k) (l.drop (4 * k)) HR2.out (by omega) (by omega) (by unfold maxLen; omega))
      have HE := Lib.hid (HLO.out k hlt)
      have HWK := Lib.hid (HWS.out k (by omega))
      generalize W[k]! = wk at HT HB HE HWK
      clear hT hB hv
      go_wp2_with fail
      ((with_reducible refine HW.out.mono ?_); rintro e w2 ⟨rfl, rfl⟩)
      rw [HE.out]
      go_wp2_with fail
      go_roundw
      case rel => exact ⟨k + 1, by omega, by go_num, by rw [← HWK.out]; exact HT.out, HB.out⟩
      case measure => simp [intOf]; omega
    · have hk16 : k = 16 := by omega
      rw [hk16] at hT
      have HT := Lib.hid hT
      have HB := Lib.hid hB
      clear hT hB HLO HR HC hk16
      go_wp2_with fail
      go_loopw [6] (fun i wr => ∃ k : Nat, 16 ≤ k ∧ k ≤ 64 ∧ i = .int .i64 k ∧ Has wr w.heap.size 114 (Dg.wc W k) ∧ Below w.heap.size w wr) (fun i _ => 64 - (intOf i).toNat)
      case atStart => exact ⟨16, by omega, by omega, rfl, HT.out, HB.out⟩
      case round =>
        clear HT HB
        obtain ⟨k, hk16, hk, rfl, hT, hB⟩ := hrel
        by_cases hlt : k < 64
        · have c1 := (hT.cell (k - 15)).trans (Dg.wc_get W k (k - 15) (by omega) (by omega))
          have c2 := (hT.cell (k - 2)).trans (Dg.wc_get W k (k - 2) (by omega) (by omega))
          have c3 := (hT.cell (k - 16)).trans (Dg.wc_get W k (k - 16) (by omega) (by omega))
          have c4 := (hT.cell (k - 7)).trans (Dg.wc_get W k (k - 7) (by omega) (by omega))
          obtain ⟨v, hv⟩ := Dg.wc_some W k k (by omega)
          have cc := (hT.cell k).trans hv
          have fz := hT.frozen k
          have HX := Lib.hid (Dg.next_mod W k)
          have HN := Lib.hid (HNX.out k hk16 hlt)
          have HT := Lib.hid hT
          have HB := Lib.hid hB
          unfold Dg.v at c1 c2 c3 c4
          have HWK := Lib.hid (HWS.out k hlt)
          generalize W[k]! = wk at HN HWK
          generalize Dg.next W k = nk at HN HX
          generalize W[k - 15]! = x at c1 HX
          generalize W[k - 2]! = y at c2 HX
          obtain ⟨x16, h16⟩ : ∃ x, W[k - 16]! = x := ⟨_, rfl⟩
          obtain ⟨x7, h7⟩ : ∃ x, W[k - 7]! = x := ⟨_, rfl⟩
          rw [h16] at c3 HX
          rw [h7] at c4 HX
          have H16 := Lib.hid h16
          have H7 := Lib.hid h7
          clear h16 h7
          clear hT hB hv
          go_wp2_with fail
          go_quiet (fail)
          obtain ⟨wx, hwx⟩ : ∃ wx, wx = wr.drewN nq := ⟨_, rfl⟩
          have HTX := Lib.hid (show Has wx w.heap.size 114 (Dg.wc W k) from by rw [hwx]; exact HT.out.drewN nq)
          have HBX := Lib.hid (show Below w.heap.size w wx from by rw [hwx]; exact below_drewN HB.out nq)
          rw [← hwx]
          clear hwx HT HB c1 c2 c3 c4 cc fz
          have c3 := (HTX.out.cell (k - 16)).trans (Dg.wc_get W k (k - 16) (by omega) (by omega))
          rw [H16.out] at c3
          have c4 := (HTX.out.cell (k - 7)).trans (Dg.wc_get W k (k - 7) (by omega) (by omega))
          rw [H7.out] at c4
          unfold Dg.v at c3 c4
          clear c3 c4
          go_wp2_with fail
          refine wp_region_still_tail 29 (by kernel_rfl) (by kernel_rfl) ?_
          change wpStill _ _ (World.drew _) (fun a' => wpList _ _ _ _ a' (World.drew _)) _ _
          obtain ⟨w2, hw2⟩ : ∃ w2, w2 = wx.drew := ⟨_, rfl⟩
          have hT2 : Has w2 w.heap.size 114 (Dg.wc W k) := by rw [hw2]; exact HTX.out.drew
          have hB2 : Below w.heap.size w w2 := by rw [hw2]; exact HBX.out.drew
          rw [← hw2]
          clear hw2 HTX HBX
          have c3 := (hT2.cell (k - 16)).trans (Dg.wc_get W k (k - 16) (by omega) (by omega))
          rw [H16.out] at c3
          have c4 := (hT2.cell (k - 7)).trans (Dg.wc_get W k (k - 7) (by omega) (by omega))
          rw [H7.out] at c4
          unfold Dg.v at c3 c4
          obtain ⟨v, hv⟩ := Dg.wc_some W k k (by omega)
          have cc := (hT2.cell k).trans hv
          have fz := hT2.frozen k
          have HT := Lib.hid (hT2.set k (Dg.v wk))
          have HB := Lib.hid (hB2.setCell (p := ⟨w.heap.size, k, none⟩) (Nat.le_refl _) (Dg.v wk))
          have R1 := Lib.hid (show Calls Tryd.prog 84 #[.int .u32 (x.toNat : Int), .int .i64 (-7)] w2 fun e w' => e = .returned (.int .u32 ((Dg.ror x 7).toNat : Int)) ∧ w' = w2 from Dg.rotl_hid x 7 (by omega) (by omega) (-7) rfl w2)
          have R2 := Lib.hid (show Calls Tryd.prog 84 #[.int .u32 (x.toNat : Int), .int .i64 (-18)] w2 fun e w' => e = .returned (.int .u32 ((Dg.ror x 18).toNat : Int)) ∧ w' = w2 from Dg.rotl_hid x 18 (by omega) (by omega) (-18) rfl w2)
          have R3 := Lib.hid (show Calls Tryd.prog 84 #[.int .u32 (y.toNat : Int), .int .i64 (-17)] w2 fun e w' => e = .returned (.int .u32 ((Dg.ror y 17).toNat : Int)) ∧ w' = w2 from Dg.rotl_hid y 17 (by omega) (by omega) (-17) rfl w2)
          have R4 := Lib.hid (show Calls Tryd.prog 84 #[.int .u32 (y.toNat : Int), .int .i64 (-19)] w2 fun e w' => e = .returned (.int .u32 ((Dg.ror y 19).toNat : Int)) ∧ w' = w2 from Dg.rotl_hid y 19 (by omega) (by omega) (-19) rfl w2)
          generalize Dg.ror x 7 = r1 at R1 HX
          generalize Dg.ror x 18 = r2 at R2 HX
          generalize Dg.ror y 17 = r3 at R3 HX
          generalize Dg.ror y 19 = r4 at R4 HX
          clear hT2 hB2 hv H16 H7
          have q1 : IntKind.i64.wrap ((k : Int) - 16) = (k : Int) - 16 := IntWalk.i64_in _ (by omega)
          have q2 : IntKind.i64.wrap ((k : Int) - 7) = (k : Int) - 7 := IntWalk.i64_in _ (by omega)
          have t1 : ((k : Int) - 16).toNat = k - 16 := by omega
          have t2 : ((k : Int) - 7).toNat = k - 7 := by omega
          have b1 : (16 : Int) ≤ (k : Int) := by omega
          have b2 : (k : Int) - 16 < 64 := by omega
          have b3 : (7 : Int) ≤ (k : Int) := by omega
          have b5 : (k : Int) < 64 := by omega
          have b4 : (k : Int) - 7 < 64 := by omega
          simp only [List.take_succ_cons, List.take_zero, List.drop_succ_cons, List.drop_zero]
          repeat (first
            | still_step
            | (refine wpStill_step (fun K hK => ?_)
               go_simp
               first | with_reducible refine ⟨_, R1.out, hK _ ?_⟩ | with_reducible refine ⟨_, R2.out, hK _ ?_⟩ | with_reducible refine ⟨_, R3.out, hK _ ?_⟩ | with_reducible refine ⟨_, R4.out, hK _ ?_⟩
               clear hK K))
          refine wpStill_nil ?_
          clear R1 R2 R3 R4
          go_wp2_with fail
          rw [HX.out, ← HN.out]
          exact ⟨⟨k + 1, by omega, by omega, by go_num, by rw [← HWK.out]; exact HT.out, HB.out⟩, by simp [intOf]; omega⟩
        · have hk64 : k = 64 := by omega
          rw [hk64] at hT
          have HT := Lib.hid hT
          have HB := Lib.hid hB
          have hgsw : gs < wr.heap.size := Nat.lt_of_lt_of_le hgs hB.size
          have HSW := Lib.hid (HS.out.keep hB)
          obtain ⟨m0, m1, m2, m3, m4, m5, m6, m7⟩ := Dg.sc_cells HSW.out
          clear hT hB HNX HWS HZ hk64
          go_wp2_with fail
          obtain ⟨w3, hw3⟩ : ∃ w3, w3 = wr.alloc (.cells #[.int .u32 (s.a.toNat : Int), .int .u32 (s.b.toNat : Int), .int .u32 (s.c.toNat : Int), .int .u32 (s.d.toNat : Int), .int .u32 (s.e.toNat : Int), .int .u32 (s.f.toNat : Int), .int .u32 (s.g.toNat : Int), .int .u32 (s.h.toNat : Int)] 95) := ⟨_, rfl⟩
          obtain ⟨gv, hgv⟩ : ∃ gv, gv = wr.heap.size := ⟨_, rfl⟩
          have hV3 : Has w3 gv 95 (Dg.sc (Dg.rounds K W s 0)) := by rw [hw3, hgv]; exact Has.new_of _ _ _ _ rfl
          have hW3 : Has w3 w.heap.size 114 (Dg.wc W 64) := by rw [hw3]; exact HT.out.alloc _
          have hB3 : Below w.heap.size w w3 := by rw [hw3]; exact HB.out.alloc HB.out.size _
          have hgvw : w.heap.size < gv := by rw [hgv]; exact HT.out.lt
          rw [← hw3, ← hgv]
          clear hw3 hgv HT HB HSW m0 m1 m2 m3 m4 m5 m6 m7 hgsw
          have HV := Lib.hid hV3
          have HW := Lib.hid hW3
          have HB := Lib.hid hB3
          clear hV3 hW3 hB3
          go_loopw [69] (fun i wr => ∃ k : Nat, k ≤ 64 ∧ i = .int .i64 k ∧ Has wr gv 95 (Dg.sc (Dg.rounds K W s k)) ∧ Has wr w.heap.size 114 (Dg.wc W 64) ∧ Below w.heap.size w wr) (fun i _ => 64 - (intOf i).toNat)
          case atStart => exact ⟨0, by omega, rfl, HV.out, HW.out, HB.out⟩
          case round =>
            clear HV HW HB
            obtain ⟨t, ht, rfl, hV, hW, hB⟩ := hrel
            by_cases hlt3 : t < 64
            · have hB' := Lib.hid hB
              have hWT := (hW.cell t).trans (Dg.wc_get W 64 t hlt3 hlt3)
              have hKT := (hB.cell (p := ⟨1, t, none⟩) (by show 1 < w.heap.size; omega)).trans (HKC.out t hlt3)
              have HST := Lib.hid (show Dg.rounds K W s (t + 1) = Dg.step K[t]! W[t]! (Dg.rounds K W s t) from rfl)
              obtain ⟨r, hr⟩ : ∃ r, Dg.rounds K W s t = r := ⟨_, rfl⟩
              rw [hr] at hV HST
              clear hr
              obtain ⟨m0, m1, m2, m3, m4, m5, m6, m7⟩ := Dg.sc_cells hV
              unfold Dg.v at hWT
              generalize W[t]! = wt at hWT HST
              generalize K[t]! = kt at hKT HST
              have HV := Lib.hid hV
              have HW := Lib.hid hW
              have HB := Lib.hid hB
              clear hV hW hB
              have b5 : (t : Int) < 64 := by omega
              go_wp2_with fail
              obtain ⟨r1, h1⟩ : ∃ x, Dg.ror r.e 6 ^^^ Dg.ror r.e 11 ^^^ Dg.ror r.e 25 = x := ⟨_, rfl⟩
              obtain ⟨r2, h2⟩ : ∃ x, Dg.ror r.a 2 ^^^ Dg.ror r.a 13 ^^^ Dg.ror r.a 22 = x := ⟨_, rfl⟩
              have HP := Lib.hid (Dg.p_int r.h r1 r.g r.e r.f kt wt)
              have HQ := Lib.hid (Dg.q_int r2 r.a r.b r.c)
              obtain ⟨p, hp⟩ : ∃ x, r.h + r1 + (r.g ^^^ (r.e &&& (r.f ^^^ r.g))) + kt + wt = x := ⟨_, rfl⟩
              obtain ⟨q, hq⟩ : ∃ x, r2 + ((r.a &&& r.b) ||| (r.c &&& (r.a ||| r.b))) = x := ⟨_, rfl⟩
              rw [Dg.step_prog kt wt r r1 r2 p q h1 h2 hp hq] at HST
              rw [hp] at HP
              rw [hq] at HQ
              have HR1 := Lib.hid (fun w' => Dg.rotated_any w' r.e 6 11 25 (by omega) (by omega) (by omega))
              have HR2 := Lib.hid (fun w' => Dg.rotated_any w' r.a 2 13 22 (by omega) (by omega) (by omega))
              simp only [show UInt32.ofNat 6 = 6 from rfl, show UInt32.ofNat 11 = 11 from rfl, show UInt32.ofNat 25 = 25 from rfl] at HR1
              simp only [show UInt32.ofNat 2 = 2 from rfl, show UInt32.ofNat 13 = 13 from rfl, show UInt32.ofNat 22 = 22 from rfl] at HR2
              rw [h1] at HR1
              rw [h2] at HR2
              clear h1 h2 hp hq
              go_quiet (first | (go_at_call 85; refine Calls.quiet_of_same (HR1.out _)))
              rw [HP.out]
              obtain ⟨w4, hw4⟩ : ∃ w4, w4 = wr.drewN nq := ⟨_, rfl⟩
              have hV : Has w4 gv 95 (Dg.sc r) := by rw [hw4]; exact HV.out.drewN nq
              have hW : Has w4 w.heap.size 114 (Dg.wc W 64) := by rw [hw4]; exact HW.out.drewN nq
              have hB : Below w.heap.size w w4 := by rw [hw4]; exact below_drewN HB.out nq
              rw [← hw4]
              clear hw4 HV HW HB hB' HP hKT hWT m0 m1 m2 m3 m4 m5 m6 m7
              obtain ⟨m0, m1, m2, m3, m4, m5, m6, m7⟩ := Dg.sc_cells hV
              have HV := Lib.hid hV
              have HW := Lib.hid hW
              have HB := Lib.hid hB
              clear hV hW hB
              go_wp2_with fail
              go_quiet (first | (go_at_call 85; refine Calls.quiet_of_same (HR2.out _)))
              rw [HQ.out]
              have hV : Has ((w4.drewN nq).drew) gv 95 (Dg.sc r) := (HV.out.drewN nq).drew
              have HCS := Lib.hid (show ∀ (j : Nat) (v : Value), ([Dg.v r.a, Dg.v r.b, Dg.v r.c, Dg.v r.d, Dg.v r.e, Dg.v r.f, Dg.v r.g] : List Value)[j]? = some v → ((w4.drewN nq).drew).cell? ((⟨gv, 0, none⟩ : Addr).add j) = some v from fun j v hj => by
                have hadd : (⟨gv, 0, none⟩ : Addr).add j = ⟨gv, j, none⟩ := by unfold Addr.add; split <;> simp_all
                rw [hadd, hV.cell j]
                exact (List.getElem?_append_left (l₂ := [Dg.v r.h]) (by have := (List.getElem?_eq_some_iff.1 hj).1; exact this)).trans hj)
              have HV5 := Lib.hid hV
              have HW5 := Lib.hid (show Has ((w4.drewN nq).drew) w.heap.size 114 (Dg.wc W 64) from (HW.out.drewN nq).drew)
              have HB5 := Lib.hid (show Below w.heap.size w ((w4.drewN nq).drew) from (below_drewN HB.out nq).drew)
              clear HQ m0 m1 m2 m3 m4 m5 m6 m7 HR1 HR2 hV
              go_wp2_with fail
              go_region_law (first
                | (refine step_copy_splice rfl (.tmp 116) (.tmp 117) 119 119 rfl 93 Tryd.underlying119 (by kernel_rfl) (some ⟨gv, 1, none⟩) (some ⟨gv, 0, none⟩) 7 7 7 8 rfl rfl gv 1 (Dg.sc r) 95 HV5.out
                    [Dg.v r.a, Dg.v r.b, Dg.v r.c, Dg.v r.d, Dg.v r.e, Dg.v r.f, Dg.v r.g] rfl (fun _ => ⟨rfl, _, rfl, HCS.out⟩) (Nat.le_refl 8) (by simp [Dg.v, Value.oneCell']) gv _ (Below.refl _ _) (Nat.le_refl _) ?_
                   intro w6 hg6 hb6))
              have hV6 : Has w6 gv 95 [Dg.v r.a, Dg.v r.a, Dg.v r.b, Dg.v r.c, Dg.v r.d, Dg.v r.e, Dg.v r.f, Dg.v r.g] := hg6.out
              have hW6 : Has w6 w.heap.size 114 (Dg.wc W 64) := HW5.out.below hb6 hgvw
              have hB6 : Below w.heap.size w w6 := HB5.out.trans (hb6.mono (by omega))
              clear hg6 hb6 HV5 HW5 HB5 HCS HV HW HB
              have m4 : w6.cell? ⟨gv, 4, none⟩ = some (.int .u32 (r.d.toNat : Int)) := hV6.cell 4
              have f4 := hV6.frozen 4
              have m0 : w6.cell? ⟨gv, 0, none⟩ = some (.int .u32 (r.a.toNat : Int)) := hV6.cell 0
              have f0 := hV6.frozen 0
              have HDP := Lib.hid (Dg.add_mod r.d p)
              have HPQ := Lib.hid (Dg.add_mod p q)
              have HV7 := Lib.hid ((hV6.set 4 (Dg.v (r.d + p))).set 0 (Dg.v (p + q)))
              have HW7 := Lib.hid ((hW6.far (p := ⟨gv, 4, none⟩) (by show w.heap.size ≠ gv; omega) (Dg.v (r.d + p))).far (p := ⟨gv, 0, none⟩) (by show w.heap.size ≠ gv; omega) (Dg.v (p + q)))
              have HB7 := Lib.hid ((hB6.setCell (p := ⟨gv, 4, none⟩) (by show w.heap.size ≤ gv; omega) (Dg.v (r.d + p))).setCell (p := ⟨gv, 0, none⟩) (by show w.heap.size ≤ gv; omega) (Dg.v (p + q)))
              clear hV6 hW6 hB6
              go_wp2_with fail
              rw [HDP.out, HPQ.out]
              exact ⟨⟨t + 1, by omega, by go_num, by rw [HST.out]; exact HV7.out, HW7.out, HB7.out⟩, by simp [intOf]; omega⟩
            · have ht64 : t = 64 := by omega
              rw [ht64] at hV
              have HFIN2 := Lib.hid HFIN.out
              generalize Dg.rounds K W s 64 = r at hV HFIN2
              have HV := Lib.hid hV
              have HSW := Lib.hid (HS.out.keep hB)
              have HG := Lib.hid (show w.grownBy wr (some gs) from ⟨hB.os, hB.tape, hB.output, hB.size, fun k hk _ => hB.block k hk⟩)
              clear hV hW hB ht64 HKC HS HFIN
              go_wp2_with fail
              go_loopw [129] (fun i wr => ∃ k : Nat, k ≤ 8 ∧ i = .int .i64 k ∧ Has wr gs 95 (Dg.pc s r k) ∧ Has wr gv 95 (Dg.sc r) ∧ w.grownBy wr (some gs)) (fun i _ => 8 - (intOf i).toNat)
              case atStart => exact ⟨0, by omega, rfl, HSW.out, HV.out, HG.out⟩
              case round =>
                clear HSW HV HG
                obtain ⟨j, hj, rfl, hS, hV, hG⟩ := hrel
                by_cases hlt4 : j < 8
                · obtain ⟨e1, e2, e3⟩ := Dg.pc_facts s r j hlt4
                  have c1 := (hS.cell j).trans e1
                  have c2 := (hV.cell j).trans e2
                  have fz := hS.frozen j
                  generalize (Dg.sl s)[j]! = sj at c1 e3
                  generalize (Dg.sl r)[j]! = rj at c2 e3
                  have HSJ := Lib.hid (by have h := (hS.set j (.int .u32 ((sj + rj).toNat : Int))); rw [e3] at h; exact h)
                  have HVJ := Lib.hid (hV.far (p := ⟨gs, j, none⟩) (by show gv ≠ gs; omega) (.int .u32 ((sj + rj).toNat : Int)))
                  have HGJ := Lib.hid (grown_setCell hG j (.int .u32 ((sj + rj).toNat : Int)))
                  have HAD := Lib.hid (Dg.add_mod sj rj)
                  have b5 : (j : Int) < 8 := by omega
                  clear hS hV hG e1 e2 e3
                  go_wp2_with fail
                  go_region
                  rw [HAD.out]
                  go_wp2_with fail
                  exact ⟨⟨j + 1, by omega, by go_num, HSJ.out.drew, HVJ.out.drew, ⟨HGJ.out.os, HGJ.out.tape, HGJ.out.output, HGJ.out.size, HGJ.out.block⟩⟩, by simp [intOf]; omega⟩
                · have hj8 : j = 8 := by omega
                  rw [hj8] at hS
                  have HSJ := Lib.hid hS
                  have HGJ := Lib.hid hG
                  clear hS hV hG hj8
                  go_wp2_with fail
                  go_end0
                  refine ⟨⟨_, rfl⟩, HGJ.out, ?_⟩
                  rw [HFIN2.out]
                  exact HSJ.out
end Go.Proofs.YtideglpjgplpnaaDoor
