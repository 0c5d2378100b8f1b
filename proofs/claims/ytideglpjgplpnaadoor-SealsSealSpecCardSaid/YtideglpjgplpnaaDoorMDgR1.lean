import Derived.Deep.QuietTactic
import Derived.BigQuiet
import Derived.Great.BuildSlice
import Derived.Deep.Cut
import Derived.Laws.Rows
import Derived.Laws.Tables
import Derived.Laws.CopyOwn
import Derived.Test.YtideglpjgplpnaaDoorMDgW1
import Derived.Test.YtideglpjgplpnaaDoorMDgC
import Derived.Deep.RegionHeld3
import Derived.Test.YtideglpjgplpnaaDoorMDgW4
import Derived.Test.YtideglpjgplpnaaDoorMUtil
/- Contracts of the reference's digest: turns, words, the numbers. -/
namespace Go.Proofs.YtideglpjgplpnaaDoor
open Go.RowKit
set_option linter.unusedVariables false

/-- the reference's turn to the right -/
theorem Dg.ror_int (x : UInt32) (n : Nat) (h0 : 0 < n) (hn : n < 32) : bits .or .u32 ((x.toNat : Int) / 2 ^ n) (IntKind.u32.wrap ((x.toNat : Int) * 2 ^ (32 - n))) = ((Dg.ror x (UInt32.ofNat n)).toNat : Int) := by
  have h1 : (32 : UInt32) - UInt32.ofNat n = UInt32.ofNat (32 - n) := by
    apply UInt32.toNat_inj.1
    rw [UInt32.toNat_sub_of_le, UInt32.toNat_ofNat', UInt32.toNat_ofNat']
    · show 32 - n % 2 ^ 32 = (32 - n) % 2 ^ 32
      omega
    · rw [UInt32.le_iff_toNat_le, UInt32.toNat_ofNat']
      show n % 2 ^ 32 ≤ 32
      omega
  rw [Dg.shl x (32 - n) (by omega), Dg.shr x n hn, Dg.or, Dg.ror, h1]
set_option maxHeartbeats 2000000 in
theorem Dg.rror_any (x : UInt32) (n : Nat) (h0 : 0 < n) (hn : n < 32) (w : World) :
    Calls Tryd.prog 112 #[.int .u32 (x.toNat : Int), .int .i64 (n : Int)] w fun e w' => e = .returned (.int .u32 ((Dg.ror x (UInt32.ofNat n)).toNat : Int)) ∧ w' = w.drew := by
  have HR := Lib.hid (Dg.ror_int x n h0 hn)
  have hs : IntKind.i64.wrap (32 - (n : Int)) = ((32 - n : Nat) : Int) := by rw [show (32 : Int) - (n : Int) = ((32 - n : Nat) : Int) by omega]; exact IntWalk.i64_in _ (by omega)
  have b1 : (0 : Int) ≤ (n : Int) := by omega
  have b2 : (0 : Int) ≤ ((32 - n : Nat) : Int) := by omega
  have b3 : ¬ (n : Int) < 0 := by omega
  have b4 : ¬ ((32 - n : Nat) : Int) < 0 := by omega
  rw [IntKind.wrap_u32] at HR
  go_enter Tryd.func112, Tryd.ntmps112
  go_wp2_with fail
  go_region
  go_wp2_with fail
  rw [HR.out]
  go_ret
  exact ⟨rfl, rfl⟩
/-- a word out of four bytes, as the reference adds it up -/
theorem Dg.word_int (l : List UInt8) : bits .or .u32 (bits .or .u32 (bits .or .u32 (((l[0]!).toNat : Int) * 16777216 % 4294967296) (((l[1]!).toNat : Int) * 65536 % 4294967296)) (((l[2]!).toNat : Int) * 256 % 4294967296)) ((l[3]!).toNat : Int) = ((Dg.word l 0).toNat : Int) := by
  have h : ∀ (x : UInt8) (n : Nat) (hn : n < 32), ((x.toNat : Int) * 2 ^ n) % 4294967296 = ((x.toUInt32 <<< UInt32.ofNat n).toNat : Int) := fun x n hn => by
    rw [← Dg.shl x.toUInt32 n hn, IntKind.wrap_u32, UInt8.toNat_toUInt32]
  have h24 := h l[0]! 24 (by omega)
  have h16 := h l[1]! 16 (by omega)
  have h8 := h l[2]! 8 (by omega)
  rw [show (2 : Int) ^ 24 = 16777216 from rfl] at h24
  rw [show (2 : Int) ^ 16 = 65536 from rfl] at h16
  rw [show (2 : Int) ^ 8 = 256 from rfl] at h8
  rw [h24, h16, h8, show ((l[3]!).toNat : Int) = (((l[3]!).toUInt32).toNat : Int) by rw [UInt8.toNat_toUInt32], Dg.or, Dg.or, Dg.or]
  rfl
set_option maxHeartbeats 2000000 in
theorem Dg.rword_any (w : World) (A : Option Addr) (n c : Nat) (l : List UInt8) (hr : RdB w A n l) (h4 : 4 ≤ n) (hnc : n ≤ c) (hc : c ≤ maxLen) :
    Calls Tryd.prog 111 #[.slice A n c] w fun e w' => e = .returned (.int .u32 ((Dg.word l 0).toNat : Int)) ∧ w' = w.drew := by
  unfold maxLen at hc
  obtain ⟨b, off, rfl, hb, hcell⟩ := hr.2 (by omega)
  have hl := hr.len
  have hbyte : ∀ k, k < 4 → w.cell? ⟨b, off + k, none⟩ = some (.int .u8 ((l[k]!).toNat : Int)) := fun k hk =>
    hcell k _ (by rw [List.getElem?_map, List.getElem?_eq_getElem (by omega)]; simp [getElem!_def, List.getElem?_eq_getElem (show k < l.length by omega)])
  have e0 := hbyte 0 (by omega)
  have e1 := hbyte 1 (by omega)
  have e2 := hbyte 2 (by omega)
  have e3 := hbyte 3 (by omega)
  rw [Nat.add_zero] at e0
  have HW := Lib.hid (Dg.word_int l)
  have q0 : (l[0]!).toNat < 256 := (l[0]!).toNat_lt
  have q1 : (l[1]!).toNat < 256 := (l[1]!).toNat_lt
  have q2 : (l[2]!).toNat < 256 := (l[2]!).toNat_lt
  have q3 : (l[3]!).toNat < 256 := (l[3]!).toNat_lt
  generalize Dg.word l 0 = wd at HW ⊢
  generalize (l[0]!).toNat = y0 at *
  generalize (l[1]!).toNat = y1 at *
  generalize (l[2]!).toNat = y2 at *
  generalize (l[3]!).toNat = y3 at *
  rw [show (y0 : Int) * 16777216 % 4294967296 = (y0 : Int) * 16777216 by omega, show (y1 : Int) * 65536 % 4294967296 = (y1 : Int) * 65536 by omega, show (y2 : Int) * 256 % 4294967296 = (y2 : Int) * 256 by omega] at HW
  clear hbyte hcell hr hl
  have n1 : (0 : Int) < (n : Int) := by omega
  have n2 : (1 : Int) < (n : Int) := by omega
  have n3 : (2 : Int) < (n : Int) := by omega
  have n4 : (3 : Int) < (n : Int) := by omega
  go_enter Tryd.func111, Tryd.ntmps111
  go_wp2_with fail
  go_region
  all_goals (
    go_wp2_with fail
    rw [HW.out]
    go_ret
    exact ⟨rfl, rfl⟩)
/-- the numbers' cells -/
def Dg.kc : List Value := Rc.zK.map (Value.int .u32)
set_option maxRecDepth 100000 in
set_option maxHeartbeats 2000000 in
theorem Dg.rnum_any (w : World) : Calls Tryd.prog 113 #[] w fun e w' => e = .returned (.agg Dg.kc.toArray) ∧ Below w.heap.size w w' := by
  have HN := Lib.hid (show (w.alloc (.cells (List.replicate 64 (Value.int .u32 0)).toArray 114)).heap[w.heap.size]? = some (.cells (List.replicate 64 (Value.int .u32 0)).toArray 114 (0, 0)) from World.alloc_heap_new _ _)
  have HI := Lib.hid (show (Tryd.prog.info? 114).map (·.size) = some Dg.kc.toArray.size from by kernel_rfl)
  have H1 := Lib.hid (show Dg.kc.toArray.all (·.oneCell') = true from by kernel_rfl)
  have HS := Lib.hid (show (List.replicate 64 (Value.int .u32 0)).toArray.size = Dg.kc.toArray.size from by rfl)
  go_enter Tryd.func113, Tryd.ntmps113
  go_upto_region 1 with fail
  go_wp2_with (first
    | (refine wpList_buildFlatArr rfl 114 93 64 _ rfl .u32 Rc.zK Tryd.underlying114 (by kernel_rfl) (by kernel_rfl) (by kernel_rfl) ?_
       change wpList _ _ _ _ (Act.put _ _ (.agg Dg.kc.toArray)) _)
    | ((refine wpList_store_row (o := ⟨none, .store 114 (.tmp 0) (.tmp 1), _, _, _, _⟩) rfl 114 (.tmp 0) (.tmp 1) rfl w.heap.size Dg.kc.toArray rfl rfl 114 (List.replicate 64 (Value.int .u32 0)).toArray HN.out HI.out HS.out H1.out ?_)))
  have HF := Lib.hid (setRow_heap _ w.heap.size _ Dg.kc.toArray 114 (0, 0) HN.out)
  refine bodyPost_ret (results_cell_row rfl _ _ w.heap.size 114 Dg.kc.toArray (0, 0) _ rfl HF.out Tryd.underlying114 rfl HI.out) rfl ?_
  exact ⟨rfl, below_setRow ((Below.refl _ w).alloc (Nat.le_refl _) _) (Nat.le_refl _) _⟩
end Go.Proofs.YtideglpjgplpnaaDoor
/- Contract of the reference's digest: a block is absorbed. -/
namespace Go.Proofs.YtideglpjgplpnaaDoor
open Go.RowKit
set_option linter.unusedVariables false

def Dg.z64 : List Value := List.replicate 64 (Value.int .u32 0)
theorem Dg.run_z64 (W : World) : (Instr.build 114 #[]).run Tryd.prog W = .ok (.agg Dg.z64.toArray) W := run_build W _ _ _ (by kernel_rfl)

theorem Dg.kc_get (t : Nat) (h : t < 64) : Dg.kc[t]? = some (.int .u32 ((Rc.K0[t]!).toNat : Int)) := by
  have e : ∀ t, t < 64 → Rc.zK[t]? = some ((Rc.K0[t]!).toNat : Int) := by decide
  unfold Dg.kc
  rw [List.getElem?_map, e t h]
  rfl
theorem quiet_drew {P : Program} {f : FuncId} {args : Array Value} {w : World} {n : Nat} {v : Value} (h : Calls P f args (w.drewN n) fun e w' => e = .returned v ∧ w' = (w.drewN n).drew) : Calls P f args (w.drewN n) fun e w'' => e = .returned v ∧ ∃ m, w'' = w.drewN m :=
  h.mono fun _ _ ⟨he, hm⟩ => ⟨he, n + 1, hm⟩
theorem Dg.not_int (x : UInt32) : bits .xor .u32 (if IntKind.u32.signed = true then -1 else IntKind.u32.max) (x.toNat : Int) = ((~~~x).toNat : Int) := by
  have h := Dg.xor 4294967295 x
  rw [show (4294967295 : UInt32) ^^^ x = ~~~x from by
    apply UInt32.toBitVec_inj.1
    apply BitVec.eq_of_getLsbD_eq
    intro i hi
    rw [UInt32.toBitVec_xor, UInt32.toBitVec_not, BitVec.getLsbD_xor, BitVec.getLsbD_not, show (4294967295 : UInt32).toBitVec = BitVec.allOnes 32 from rfl, BitVec.getLsbD_allOnes]
    simp [hi]] at h
  exact h
theorem Dg.rp_int (h y1 y2 y3 e f g k w : UInt32) :
    ((((h.toNat : Int) + bits .xor .u32 (bits .xor .u32 (y1.toNat : Int) (y2.toNat : Int)) (y3.toNat : Int) + bits .xor .u32 (bits .and .u32 (e.toNat : Int) (f.toNat : Int)) (bits .and .u32 (bits .xor .u32 (if IntKind.u32.signed = true then -1 else IntKind.u32.max) (e.toNat : Int)) (g.toNat : Int)) + (k.toNat : Int)) % 4294967296 + (w.toNat : Int)) % 4294967296)
      = ((h + (y1 ^^^ y2 ^^^ y3) + ((e &&& f) ^^^ ((~~~e) &&& g)) + k + w).toNat : Int) := by
  rw [Dg.not_int, Dg.and, Dg.and, Dg.xor, Dg.xor, Dg.xor]
  simp only [UInt32.toNat_add]
  omega
theorem Dg.rq_int (z1 z2 z3 a b c : UInt32) :
    (bits .xor .u32 (bits .xor .u32 (z1.toNat : Int) (z2.toNat : Int)) (z3.toNat : Int) + bits .xor .u32 (bits .xor .u32 (bits .and .u32 (a.toNat : Int) (b.toNat : Int)) (bits .and .u32 (a.toNat : Int) (c.toNat : Int))) (bits .and .u32 (b.toNat : Int) (c.toNat : Int))) % 4294967296
      = (((z1 ^^^ z2 ^^^ z3) + ((a &&& b) ^^^ (a &&& c) ^^^ (b &&& c))).toNat : Int) := by
  rw [Dg.and, Dg.and, Dg.and, Dg.xor, Dg.xor, Dg.xor, Dg.xor]
  simp only [UInt32.toNat_add]
  omega
theorem Dg.word_take4 (l : List UInt8) : Dg.word (l.take 4) 0 = Dg.word l 0 := by
  have h : ∀ i, i < 4 → (l.take 4)[i]! = l[i]! := fun i hi => by rw [getElem!_def, getElem!_def, List.getElem?_take_of_lt hi]
  unfold Dg.word
  rw [h _ (by omega), h _ (by omega), h _ (by omega), h _ (by omega)]
set_option maxRecDepth 100000 in
set_option maxHeartbeats 8000000 in
theorem Dg.rblock_any (w : World) (s : Dg.S) (A : Option Addr) (n c : Nat) (l : List UInt8) (hr : RdB w A n l) (h64 : 64 ≤ n) (hnc : n ≤ c) (hc : c ≤ maxLen) :
    Calls Tryd.prog 106 #[.agg (Dg.sc s).toArray, .slice A n c] w fun e w' => e = .returned (.agg (Dg.sc (Dg.absorb Rc.K0 s l)).toArray) ∧ Below w.heap.size w w' := by
  unfold maxLen at hc
  have HR := Lib.hid hr
  obtain ⟨b, off, rfl, hb, hcell⟩ := hr.2 (by omega)
  have HC := Lib.hid hcell
  clear hr hcell
  have HFIN := Lib.hid (show Dg.absorb Rc.K0 s l = Dg.plus s (Dg.rounds Rc.K0 (Dg.W l) s 64) from rfl)
  have HLO := Lib.hid (fun k hk => (Dg.word_drop l k).trans (Dg.W_lo l k hk).symm)
  have HNX := Lib.hid (Dg.W_next l)
  generalize Dg.W l = W at HFIN HLO HNX
  generalize Dg.absorb Rc.K0 s l = sf at HFIN ⊢
  have HZ := Lib.hid (show Dg.wc W 0 = Dg.z64 from Dg.wc_zero W)
  have HWS := Lib.hid (fun t ht => Dg.wc_set W t ht)
  obtain ⟨W1, hW1⟩ : ∃ W1, W1 = (w.alloc (.cells #[Dg.v s.a, Dg.v s.b, Dg.v s.c, Dg.v s.d, Dg.v s.e, Dg.v s.f, Dg.v s.g, Dg.v s.h] 94)).alloc (.cells #[.int .u32 0, .int .u32 0, .int .u32 0, .int .u32 0, .int .u32 0, .int .u32 0, .int .u32 0, .int .u32 0] 94) := ⟨_, rfl⟩
  have HS1 := Lib.hid (show St w W1 [(w.heap.size + 1, 94, List.replicate 8 (.int .u32 0)), (w.heap.size, 94, Dg.sc s)] from by
    rw [hW1]
    have h := ((St.start w).new 94 (Dg.sc s)).new 94 (List.replicate 8 (.int .u32 0))
    simp only [World.size_alloc] at h
    exact h)
  have HN := Lib.hid (show (W1.alloc (.cells Dg.z64.toArray 114)).heap[W1.heap.size]? = some (.cells Dg.z64.toArray 114 (0, 0)) from World.alloc_heap_new _ _)
  have HI := Lib.hid (show (Tryd.prog.info? 114).map (·.size) = some Dg.z64.toArray.size from by kernel_rfl)
  have H1 := Lib.hid (show Dg.z64.toArray.all (·.oneCell') = true from by kernel_rfl)
  have hzz := HS1.out.le
  have hz1 := (HS1.out.nth 0 rfl).lt
  go_enter Tryd.func106, Tryd.ntmps106
  go_upto_region 1 with fail
  unfold Dg.sc
  change Code.wp _ _ _ _ ((w.alloc (.cells #[Dg.v s.a, Dg.v s.b, Dg.v s.c, Dg.v s.d, Dg.v s.e, Dg.v s.f, Dg.v s.g, Dg.v s.h] 94)).alloc (.cells #[.int .u32 0, .int .u32 0, .int .u32 0, .int .u32 0, .int .u32 0, .int .u32 0, .int .u32 0, .int .u32 0] 94))
  rw [← hW1]
  clear hW1
  go_upto_region 2 with (first
    | ((refine wpList_buildR rfl 114 _ rfl [] rfl _ _ (Dg.run_z64 _) ?_))
    | ((refine wpList_store_row (o := ⟨none, .store 114 (.tmp 5) (.tmp 22), _, _, _, _⟩) rfl 114 (.tmp 5) (.tmp 22) rfl W1.heap.size Dg.z64.toArray rfl rfl 114 Dg.z64.toArray HN.out HI.out rfl H1.out ?_)))
  obtain ⟨W2, hW2⟩ : ∃ W2, W2 = (W1.alloc (.cells Dg.z64.toArray 114)).setRow W1.heap.size Dg.z64.toArray := ⟨_, rfl⟩
  change Code.wp _ _ _ _ ((W1.alloc (.cells Dg.z64.toArray 114)).setRow W1.heap.size Dg.z64.toArray)
  have hX2 : Has W2 W1.heap.size 114 Dg.z64 := by rw [hW2]; exact setRow_heap _ W1.heap.size _ Dg.z64.toArray 114 (0, 0) HN.out
  have hB12 : Below W1.heap.size W1 W2 := by rw [hW2]; exact below_setRow ((Below.refl _ W1).alloc (Nat.le_refl _) _) (Nat.le_refl _) _
  have HS2 := Lib.hid (HS1.out.keep hB12)
  obtain ⟨g, hg⟩ : ∃ g, g = W1.heap.size := ⟨_, rfl⟩
  rw [← hg] at hX2
  rw [← HZ.out] at hX2
  have hgw : w.heap.size + 1 < g := by omega
  rw [← hW2, ← hg]
  have HX2 := Lib.hid hX2
  clear hW2 hg hX2 hB12 HN HI H1 HS1 hzz hz1
  go_wp2_with fail
  go_loopw [6] (fun i wr => ∃ k : Nat, k ≤ 16 ∧ i = .int .i64 k ∧ Has wr g 114 (Dg.wc W k) ∧ St w wr [(w.heap.size + 1, 94, List.replicate 8 (.int .u32 0)), (w.heap.size, 94, Dg.sc s)]) (fun i _ => 16 - (intOf i).toNat)
  case atStart => exact ⟨0, by omega, rfl, HX2.out, HS2.out⟩
  case round =>
    clear HX2 HS2
    obtain ⟨k, hk, rfl, hT, hS⟩ := hrel
    by_cases hlt : k < 16
    · obtain ⟨v, hv⟩ := Dg.wc_some W k k (by omega)
      have hB := hS.below
      have HR2 := Lib.hid (show RdB wr (some ⟨b, off + 4 * k, none⟩) 4 ((l.drop (4 * k)).take 4) from by
        have hl := HR.out.len
        refine ⟨by simp; omega, fun _ => ⟨b, off + 4 * k, rfl, Nat.lt_of_lt_of_le hb hB.size, fun j u hu => ?_⟩⟩
        have hj : j < 4 := by
          have := (List.getElem?_eq_some_iff.1 hu).1
          simp at this
          omega
        rw [List.map_take, List.getElem?_take_of_lt hj, List.map_drop, List.getElem?_drop] at hu
        have h2 := (hB.cell (p := ⟨b, off + (4 * k + j), none⟩) hb).trans (HC.out (4 * k + j) u hu)
        rw [show off + 4 * k + j = off + (4 * k + j) by omega]
        exact h2)
      have HWD := Lib.hid (Dg.rword_any wr (some ⟨b, off + 4 * k, none⟩) 4 (c - 4 * k) ((l.drop (4 * k)).take 4) HR2.out (by omega) (by omega) (by unfold maxLen; omega))
      have HE := Lib.hid (show Dg.word ((l.drop (4 * k)).take 4) 0 = W[k]! from by rw [← HLO.out k hlt]; exact Dg.word_take4 _)
      have HT := Lib.hid (hT.drew.set k (Dg.v W[k]!))
      have HSS := Lib.hid hS.drew
      have cc := (hT.drew.cell k).trans hv
      have fz := hT.drew.frozen k
      have HWK := Lib.hid (HWS.out k (by omega))
      have hgz := hT.lt
      generalize W[k]! = wk at HT HE HWK
      clear hT hS hv hB
      have m1 : IntKind.i64.wrap (4 * (k : Int)) = ((4 * k : Nat) : Int) := by rw [show (4 : Int) * (k : Int) = ((4 * k : Nat) : Int) by omega]; exact IntWalk.i64_in _ (by omega)
      have m2 : IntKind.i64.wrap (((4 * k : Nat) : Int) + 4) = ((4 * k + 4 : Nat) : Int) := by rw [show ((4 * k : Nat) : Int) + 4 = ((4 * k + 4 : Nat) : Int) by omega]; exact IntWalk.i64_in _ (by omega)
      go_wp2_with fail
      ((with_reducible refine HWD.out.mono ?_); rintro e w4 ⟨rfl, rfl⟩)
      rw [HE.out]
      go_wp2_with fail
      go_roundw
      case rel => exact ⟨k + 1, by omega, by go_num, by rw [← HWK.out]; exact HT.out, ⟨HSS.out.below.setCell (p := ⟨g, k, none⟩) (by show w.heap.size ≤ g; omega) _, fun x hx => (HSS.out.has x hx).far (by
        simp only [List.mem_cons, List.not_mem_nil, or_false] at hx
        rcases hx with rfl | rfl
        · show w.heap.size + 1 ≠ g; omega
        · show w.heap.size ≠ g; omega) _⟩⟩
      case measure => simp [intOf]; omega
    · have hk16 : k = 16 := by omega
      rw [hk16] at hT
      have HT := Lib.hid hT
      have HS := Lib.hid hS
      clear hT hS HLO HR HC hk16
      go_wp2_with fail
      go_loopw [7, 8, 9] (fun i x y wr => ∃ k : Nat, 16 ≤ k ∧ k ≤ 64 ∧ i = .int .i64 k ∧ Has wr g 114 (Dg.wc W k) ∧ St w wr [(w.heap.size + 1, 94, List.replicate 8 (.int .u32 0)), (w.heap.size, 94, Dg.sc s)]) (fun i _ _ _ => 64 - (intOf i).toNat)
      case atStart => exact ⟨16, by omega, by omega, rfl, HT.out, HS.out⟩
      case round =>
        clear HT HS
        obtain ⟨k, hk16, hk, rfl, hT, hS⟩ := hrel
        by_cases hlt : k < 64
        · have c1 := (hT.cell (k - 15)).trans (Dg.wc_get W k (k - 15) (by omega) (by omega))
          have c2 := (hT.cell (k - 2)).trans (Dg.wc_get W k (k - 2) (by omega) (by omega))
          have HT := Lib.hid hT
          have HS := Lib.hid hS
          unfold Dg.v at c1 c2
          clear hT hS
          have HX := Lib.hid (Dg.next_int W k)
          rw [show (2 : Int) ^ 3 = 8 from rfl, show (2 : Int) ^ 10 = 1024 from rfl] at HX
          generalize W[k - 15]! = x at c1 HX
          generalize W[k - 2]! = y at c2 HX
          go_wp2_with fail
          have c3 := (HT.out.cell (k - 16)).trans (Dg.wc_get W k (k - 16) (by omega) (by omega))
          have c4 := (HT.out.cell (k - 7)).trans (Dg.wc_get W k (k - 7) (by omega) (by omega))
          obtain ⟨v, hv⟩ := Dg.wc_some W k k (by omega)
          have cc := (HT.out.cell k).trans hv
          have fz := HT.out.frozen k
          have HN := Lib.hid (HNX.out k hk16 hlt)
          have HWK := Lib.hid (HWS.out k hlt)
          have HG16 := Lib.hid (Dg.wc_get W k (k - 16) (by omega) (by omega))
          have HG7 := Lib.hid (Dg.wc_get W k (k - 7) (by omega) (by omega))
          unfold Dg.v at c3 c4
          unfold Dg.v at HG16 HG7
          generalize W[k]! = wk at HN HWK
          generalize Dg.next W k = nk at HN HX
          obtain ⟨x16, h16⟩ : ∃ x, W[k - 16]! = x := ⟨_, rfl⟩
          obtain ⟨x7, h7⟩ : ∃ x, W[k - 7]! = x := ⟨_, rfl⟩
          rw [h16] at c3 HX HG16
          rw [h7] at c4 HX HG7
          clear h16 h7
          have R1 := Lib.hid (fun W' => Dg.rror_any x 7 (by omega) (by omega) W')
          have R2 := Lib.hid (fun W' => Dg.rror_any x 18 (by omega) (by omega) W')
          have R3 := Lib.hid (fun W' => Dg.rror_any y 17 (by omega) (by omega) W')
          have R4 := Lib.hid (fun W' => Dg.rror_any y 19 (by omega) (by omega) W')
          simp only [show UInt32.ofNat 7 = 7 from rfl, show ((7 : Nat) : Int) = 7 from rfl] at R1
          simp only [show UInt32.ofNat 18 = 18 from rfl, show ((18 : Nat) : Int) = 18 from rfl] at R2
          simp only [show UInt32.ofNat 17 = 17 from rfl, show ((17 : Nat) : Int) = 17 from rfl] at R3
          simp only [show UInt32.ofNat 19 = 19 from rfl, show ((19 : Nat) : Int) = 19 from rfl] at R4
          generalize Dg.ror x 7 = r1 at R1 HX
          generalize Dg.ror x 18 = r2 at R2 HX
          generalize Dg.ror y 17 = r3 at R3 HX
          generalize Dg.ror y 19 = r4 at R4 HX
          have q1 : IntKind.i64.wrap ((k : Int) - 16) = (k : Int) - 16 := IntWalk.i64_in _ (by omega)
          have q2 : IntKind.i64.wrap ((k : Int) - 7) = (k : Int) - 7 := IntWalk.i64_in _ (by omega)
          have t1 : ((k : Int) - 16).toNat = k - 16 := by omega
          have t2 : ((k : Int) - 7).toNat = k - 7 := by omega
          have b1 : (16 : Int) ≤ (k : Int) := by omega
          have b2 : (k : Int) - 16 < 64 := by omega
          have b3 : (7 : Int) ≤ (k : Int) := by omega
          have b5 : (k : Int) < 64 := by omega
          have b4 : (k : Int) - 7 < 64 := by omega
          have KP := Lib.hid (fun (w' : World) (h : ∀ p, w'.cell? p = wr.cell? p) => (⟨(h _).trans c3, (h _).trans c4⟩ : w'.cell? ⟨g, k - 16, none⟩ = some (.int .u32 (x16.toNat : Int)) ∧ w'.cell? ⟨g, k - 7, none⟩ = some (.int .u32 (x7.toNat : Int))))
          have KS := Lib.hid (fun (w' : World) (h : w'.heap = wr.heap) (u : Value) => by
            have hh : Has w' g 114 (Dg.wc W k) := (show w'.heap[g]? = _ from by rw [h]; exact HT.out)
            have e1 := ((hh.set k u).cell (k - 16)).trans ((List.getElem?_set_ne (by omega)).trans HG16.out)
            have e2 := ((hh.set k u).cell (k - 7)).trans ((List.getElem?_set_ne (by omega)).trans HG7.out)
            exact (⟨e1, e2⟩ : (w'.setCell ⟨g, k, none⟩ u).cell? ⟨g, k - 16, none⟩ = some (.int .u32 (x16.toNat : Int)) ∧ (w'.setCell ⟨g, k, none⟩ u).cell? ⟨g, k - 7, none⟩ = some (.int .u32 (x7.toNat : Int))))
          clear c1 c2 hv HNX
          go_region_held3 (fun w' => w'.cell? ⟨g, k - 16, none⟩ = some (.int .u32 (x16.toNat : Int)) ∧ w'.cell? ⟨g, k - 7, none⟩ = some (.int .u32 (x7.toNat : Int)))
            (first
              | exact KP.out _ (fun _ => rfl)
              | exact KS.out _ rfl _)
            (first
              | (go_at_call 112; (with_reducible refine (R1.out _).mono ?_); rintro e w5 ⟨rfl, rfl⟩)
              | (go_at_call 112; (with_reducible refine (R2.out _).mono ?_); rintro e w5 ⟨rfl, rfl⟩)
              | (go_at_call 112; (with_reducible refine (R3.out _).mono ?_); rintro e w5 ⟨rfl, rfl⟩)
              | (go_at_call 112; (with_reducible refine (R4.out _).mono ?_); rintro e w5 ⟨rfl, rfl⟩))
          rw [HX.out, ← HN.out]
          have HT3 := Lib.hid (HT.out.set k (Dg.v wk))
          have HS3 := Lib.hid (show St w (wr.setCell ⟨g, k, none⟩ (Dg.v wk)) _ from ⟨HS.out.below.setCell (p := ⟨g, k, none⟩) (by show w.heap.size ≤ g; omega) (Dg.v wk), fun x hx => (HS.out.has x hx).far (by
            simp only [List.mem_cons, List.not_mem_nil, or_false] at hx
            rcases hx with rfl | rfl
            · show w.heap.size + 1 ≠ g; omega
            · show w.heap.size ≠ g; omega) _⟩)
          clear R1 R2 R3 R4 KP KS HX HG16 HG7 c3 c4 cc fz q1 q2 t1 t2 b1 b2 b3 b4
          go_wp2_with fail
          exact ⟨⟨k + 1, by omega, by omega, by go_num, by rw [← HWK.out]; exact HT3.out.drew.drew.drew.drew.drew, HS3.out.drew.drew.drew.drew.drew⟩, by simp [intOf]; omega⟩
        · have hk64 : k = 64 := by omega
          rw [hk64] at hT
          have HT := Lib.hid hT
          have HS := Lib.hid hS
          clear hT hS HNX HWS HZ hk64
          go_wp2_with fail
          ((refine (Dg.rnum_any _).mono ?_); rintro e w4 ⟨rfl, hb4⟩)
          have HT4 := Lib.hid (HT.out.keep hb4)
          have HS4 := Lib.hid (HS.out.keep hb4)
          have HN4 := Lib.hid (show (w4.alloc (.cells Dg.z64.toArray 114)).heap[w4.heap.size]? = some (.cells Dg.z64.toArray 114 (0, 0)) from World.alloc_heap_new _ _)
          have HI := Lib.hid (show (Tryd.prog.info? 114).map (·.size) = some Dg.kc.toArray.size from by kernel_rfl)
          have H1 := Lib.hid (show Dg.kc.toArray.all (·.oneCell') = true from by kernel_rfl)
          clear hb4 HT HS
          go_upto_region 13 with (first
            | ((refine wpList_store_row (o := ⟨none, .store 114 (.tmp 10) (.tmp 78), _, _, _, _⟩) rfl 114 (.tmp 10) (.tmp 78) rfl w4.heap.size Dg.kc.toArray rfl rfl 114 Dg.z64.toArray HN4.out HI.out rfl H1.out ?_)))
          obtain ⟨W5, hW5⟩ : ∃ W5, W5 = (w4.alloc (.cells Dg.z64.toArray 114)).setRow w4.heap.size Dg.kc.toArray := ⟨_, rfl⟩
          change Code.wp _ _ _ _ ((w4.alloc (.cells Dg.z64.toArray 114)).setRow w4.heap.size Dg.kc.toArray)
          have hX5 : Has W5 w4.heap.size 114 Dg.kc := by rw [hW5]; exact setRow_heap _ w4.heap.size _ Dg.kc.toArray 114 (0, 0) HN4.out
          have hB45 : Below w4.heap.size w4 W5 := by rw [hW5]; exact below_setRow ((Below.refl _ w4).alloc (Nat.le_refl _) _) (Nat.le_refl _) _
          have HT5 := Lib.hid (HT4.out.keep hB45)
          have HS5 := Lib.hid (HS4.out.keep hB45)
          obtain ⟨gk, hgk⟩ : ∃ gk, gk = w4.heap.size := ⟨_, rfl⟩
          have hggk : g < gk := by rw [hgk]; exact HT4.out.lt
          rw [← hW5, ← hgk]
          rw [← hgk] at hX5
          have HK5 := Lib.hid hX5
          clear hW5 hgk hX5 hB45 HT4 HS4 HN4 HI H1
          obtain ⟨m0, m1, m2, m3, m4, m5, m6, m7⟩ := Dg.sc_cells (HS5.out.nth 1 rfl)
          go_quiet (fail)
          obtain ⟨W6, hW6⟩ : ∃ W6, W6 = W5.drewN nq := ⟨_, rfl⟩
          have HT6 := Lib.hid (show Has W6 g 114 (Dg.wc W 64) from by rw [hW6]; exact HT5.out.drewN nq)
          have HK6 := Lib.hid (show Has W6 gk 114 Dg.kc from by rw [hW6]; exact HK5.out.drewN nq)
          have HS6 := Lib.hid (show St w W6 _ from by rw [hW6]; exact HS5.out.drewN nq)
          rw [← hW6]
          clear hW6 HT5 HK5 HS5 m0 m1 m2 m3 m4 m5 m6 m7
          go_wp2_with fail
          go_loopw [19, 11, 12, 13, 14, 15, 16, 17, 18, 20, 21] (fun i va vb vc vd ve vf vg vh vp vq wr => ∃ t r, t ≤ 64 ∧ i = .int .i64 (t : Nat) ∧ r = Dg.rounds Rc.K0 W s t ∧ va = .int .u32 (r.a.toNat : Int) ∧ vb = .int .u32 (r.b.toNat : Int) ∧ vc = .int .u32 (r.c.toNat : Int) ∧ vd = .int .u32 (r.d.toNat : Int) ∧ ve = .int .u32 (r.e.toNat : Int) ∧ vf = .int .u32 (r.f.toNat : Int) ∧ vg = .int .u32 (r.g.toNat : Int) ∧ vh = .int .u32 (r.h.toNat : Int) ∧ Has wr g 114 (Dg.wc W 64) ∧ Has wr gk 114 Dg.kc ∧ St w wr [(w.heap.size + 1, 94, List.replicate 8 (.int .u32 0)), (w.heap.size, 94, Dg.sc s)]) (fun i _ _ _ _ _ _ _ _ _ _ _ => 64 - (intOf i).toNat)
          case atStart => exact ⟨0, s, by omega, rfl, rfl, rfl, rfl, rfl, rfl, rfl, rfl, rfl, rfl, HT6.out, HK6.out, HS6.out⟩
          case round =>
            clear HT6 HK6 HS6
            obtain ⟨t, r, ht, rfl, hre, rfl, rfl, rfl, rfl, rfl, rfl, rfl, rfl, hT, hK, hS⟩ := hrel
            by_cases hlt3 : t < 64
            · have hWT := (hT.cell t).trans (Dg.wc_get W 64 t hlt3 hlt3)
              have hKT := (hK.cell t).trans (Dg.kc_get t hlt3)
              have HST := Lib.hid (show Dg.rounds Rc.K0 W s (t + 1) = Dg.step Rc.K0[t]! W[t]! r from by rw [hre]; rfl)
              unfold Dg.v at hWT
              generalize W[t]! = wt at hWT HST
              generalize Rc.K0[t]! = kt at hKT HST
              have HT := Lib.hid hT
              have HK := Lib.hid hK
              have HS := Lib.hid hS
              clear hT hK hS hre
              have b5 : (t : Int) < 64 := by omega
              have R1 := Lib.hid (fun W' => Dg.rror_any r.e 6 (by omega) (by omega) W')
              simp only [show UInt32.ofNat 6 = 6 from rfl, show ((6 : Nat) : Int) = 6 from rfl] at R1
              have R2 := Lib.hid (fun W' => Dg.rror_any r.e 11 (by omega) (by omega) W')
              simp only [show UInt32.ofNat 11 = 11 from rfl, show ((11 : Nat) : Int) = 11 from rfl] at R2
              have R3 := Lib.hid (fun W' => Dg.rror_any r.e 25 (by omega) (by omega) W')
              simp only [show UInt32.ofNat 25 = 25 from rfl, show ((25 : Nat) : Int) = 25 from rfl] at R3
              obtain ⟨y1, hy1⟩ : ∃ x, Dg.ror r.e 6 = x := ⟨_, rfl⟩
              obtain ⟨y2, hy2⟩ : ∃ x, Dg.ror r.e 11 = x := ⟨_, rfl⟩
              obtain ⟨y3, hy3⟩ : ∃ x, Dg.ror r.e 25 = x := ⟨_, rfl⟩
              rw [hy1] at R1
              rw [hy2] at R2
              rw [hy3] at R3
              go_wp2_with fail
              go_quiet (first
                | (go_at_call 112; (with_reducible refine quiet_drew (R1.out _)))
                | (go_at_call 112; (with_reducible refine quiet_drew (R2.out _)))
                | (go_at_call 112; (with_reducible refine quiet_drew (R3.out _))))
              have HP := Lib.hid (Dg.rp_int r.h y1 y2 y3 r.e r.f r.g kt wt)
              obtain ⟨p, hp⟩ : ∃ x, r.h + (y1 ^^^ y2 ^^^ y3) + ((r.e &&& r.f) ^^^ ((~~~r.e) &&& r.g)) + kt + wt = x := ⟨_, rfl⟩
              rw [hp] at HP
              rw [HP.out]
              obtain ⟨wx, hwx⟩ : ∃ wx, wx = wr.drewN nq := ⟨_, rfl⟩
              have HT2 := Lib.hid (show Has wx g 114 (Dg.wc W 64) from by rw [hwx]; exact HT.out.drewN nq)
              have HK2 := Lib.hid (show Has wx gk 114 Dg.kc from by rw [hwx]; exact HK.out.drewN nq)
              have HS2 := Lib.hid (show St w wx _ from by rw [hwx]; exact HS.out.drewN nq)
              rw [← hwx]
              clear hwx HT HK HS R1 R2 R3 HP hWT hKT
              have R1 := Lib.hid (fun W' => Dg.rror_any r.a 2 (by omega) (by omega) W')
              simp only [show UInt32.ofNat 2 = 2 from rfl, show ((2 : Nat) : Int) = 2 from rfl] at R1
              have R2 := Lib.hid (fun W' => Dg.rror_any r.a 13 (by omega) (by omega) W')
              simp only [show UInt32.ofNat 13 = 13 from rfl, show ((13 : Nat) : Int) = 13 from rfl] at R2
              have R3 := Lib.hid (fun W' => Dg.rror_any r.a 22 (by omega) (by omega) W')
              simp only [show UInt32.ofNat 22 = 22 from rfl, show ((22 : Nat) : Int) = 22 from rfl] at R3
              obtain ⟨z1, hz1⟩ : ∃ x, Dg.ror r.a 2 = x := ⟨_, rfl⟩
              obtain ⟨z2, hz2⟩ : ∃ x, Dg.ror r.a 13 = x := ⟨_, rfl⟩
              obtain ⟨z3, hz3⟩ : ∃ x, Dg.ror r.a 22 = x := ⟨_, rfl⟩
              rw [hz1] at R1
              rw [hz2] at R2
              rw [hz3] at R3
              have HQ := Lib.hid (Dg.rq_int z1 z2 z3 r.a r.b r.c)
              obtain ⟨q, hq⟩ : ∃ x, (z1 ^^^ z2 ^^^ z3) + ((r.a &&& r.b) ^^^ (r.a &&& r.c) ^^^ (r.b &&& r.c)) = x := ⟨_, rfl⟩
              rw [hq] at HQ
              have HSTP := Lib.hid (show Dg.step kt wt r = ⟨p + q, r.a, r.b, r.c, r.d + p, r.e, r.f, r.g⟩ from by
                unfold Dg.step
                rw [hy1, hy2, hy3, hz1, hz2, hz3, hp, hq])
              rw [HSTP.out] at HST
              have HDP := Lib.hid (Dg.add_mod r.d p)
              have HPQ := Lib.hid (Dg.add_mod p q)
              clear HSTP hy1 hy2 hy3 hz1 hz2 hz3 hp hq
              go_wp2_with fail
              ((with_reducible refine (R1.out _).mono ?_); rintro e w7 ⟨rfl, rfl⟩)
              go_wp2_with fail
              ((with_reducible refine (R2.out _).mono ?_); rintro e w7 ⟨rfl, rfl⟩)
              go_wp2_with fail
              ((with_reducible refine (R3.out _).mono ?_); rintro e w7 ⟨rfl, rfl⟩)
              go_upto_region 19 with fail
              rw [HQ.out]
              obtain ⟨wy, hwy⟩ : ∃ wy, wy = wx.drew.drew.drew := ⟨_, rfl⟩
              have HT3 := Lib.hid (show Has wy g 114 (Dg.wc W 64) from by rw [hwy]; exact HT2.out.drew.drew.drew)
              have HK3 := Lib.hid (show Has wy gk 114 Dg.kc from by rw [hwy]; exact HK2.out.drew.drew.drew)
              have HS3 := Lib.hid (show St w wy _ from by rw [hwy]; exact HS2.out.drew.drew.drew)
              rw [← hwy]
              clear hwy HT2 HK2 HS2 R1 R2 R3 HQ
              go_wp2_with fail
              rw [HDP.out, HPQ.out]
              exact ⟨⟨t + 1, _, by omega, by go_num, HST.out.symm, rfl, rfl, rfl, rfl, rfl, rfl, rfl, rfl, HT3.out, HK3.out, HS3.out⟩, by simp [intOf]; omega⟩
            · have ht64 : t = 64 := by omega
              rw [ht64] at hre
              have HS := Lib.hid hS
              have HFN := Lib.hid (show sf = Dg.plus s r from by rw [hre]; exact HFIN.out)
              obtain ⟨m0, m1, m2, m3, m4, m5, m6, m7⟩ := Dg.sc_cells (hS.nth 1 rfl)
              have n0 : wr.cell? ⟨w.heap.size + 1, 0, none⟩ = some (.int .u32 0) := (hS.nth 0 rfl).cell 0
              have f0 := (hS.nth 0 rfl).frozen 0
              have n1 : wr.cell? ⟨w.heap.size + 1, 1, none⟩ = some (.int .u32 0) := (hS.nth 0 rfl).cell 1
              have f1 := (hS.nth 0 rfl).frozen 1
              have n2 : wr.cell? ⟨w.heap.size + 1, 2, none⟩ = some (.int .u32 0) := (hS.nth 0 rfl).cell 2
              have f2 := (hS.nth 0 rfl).frozen 2
              have n3 : wr.cell? ⟨w.heap.size + 1, 3, none⟩ = some (.int .u32 0) := (hS.nth 0 rfl).cell 3
              have f3 := (hS.nth 0 rfl).frozen 3
              have n4 : wr.cell? ⟨w.heap.size + 1, 4, none⟩ = some (.int .u32 0) := (hS.nth 0 rfl).cell 4
              have f4 := (hS.nth 0 rfl).frozen 4
              have n5 : wr.cell? ⟨w.heap.size + 1, 5, none⟩ = some (.int .u32 0) := (hS.nth 0 rfl).cell 5
              have f5 := (hS.nth 0 rfl).frozen 5
              have n6 : wr.cell? ⟨w.heap.size + 1, 6, none⟩ = some (.int .u32 0) := (hS.nth 0 rfl).cell 6
              have f6 := (hS.nth 0 rfl).frozen 6
              have n7 : wr.cell? ⟨w.heap.size + 1, 7, none⟩ = some (.int .u32 0) := (hS.nth 0 rfl).cell 7
              have f7 := (hS.nth 0 rfl).frozen 7
              have hzz := (hS.nth 0 rfl).lt
              have hzz0 := (hS.nth 1 rfl).lt
              clear hT hK hS hre ht64 HFIN
              go_wp2_with fail
              have HF := Lib.hid (((((((((HS.out.nth 0 rfl).set 0 (.int .u32 (((s.a.toNat : Int) + (r.a.toNat : Int)) % 4294967296))).set 1 (.int .u32 (((s.b.toNat : Int) + (r.b.toNat : Int)) % 4294967296))).set 2 (.int .u32 (((s.c.toNat : Int) + (r.c.toNat : Int)) % 4294967296))).set 3 (.int .u32 (((s.d.toNat : Int) + (r.d.toNat : Int)) % 4294967296))).set 4 (.int .u32 (((s.e.toNat : Int) + (r.e.toNat : Int)) % 4294967296))).set 5 (.int .u32 (((s.f.toNat : Int) + (r.f.toNat : Int)) % 4294967296))).set 6 (.int .u32 (((s.g.toNat : Int) + (r.g.toNat : Int)) % 4294967296))).set 7 (.int .u32 (((s.h.toNat : Int) + (r.h.toNat : Int)) % 4294967296)))
              refine bodyPost_ret (results_cell_row rfl _ _ (w.heap.size + 1) 94 #[.int .u32 (((s.a.toNat : Int) + (r.a.toNat : Int)) % 4294967296), .int .u32 (((s.b.toNat : Int) + (r.b.toNat : Int)) % 4294967296), .int .u32 (((s.c.toNat : Int) + (r.c.toNat : Int)) % 4294967296), .int .u32 (((s.d.toNat : Int) + (r.d.toNat : Int)) % 4294967296), .int .u32 (((s.e.toNat : Int) + (r.e.toNat : Int)) % 4294967296), .int .u32 (((s.f.toNat : Int) + (r.f.toNat : Int)) % 4294967296), .int .u32 (((s.g.toNat : Int) + (r.g.toNat : Int)) % 4294967296), .int .u32 (((s.h.toNat : Int) + (r.h.toNat : Int)) % 4294967296)] (0, 0) _ rfl HF.out Tryd.underlying94 rfl (by kernel_rfl)) rfl ?_
              refine ⟨?_, ((((((((HS.out.below.setCell (p := ⟨w.heap.size + 1, 0, none⟩) (by show w.heap.size ≤ w.heap.size + 1; omega) (.int .u32 (((s.a.toNat : Int) + (r.a.toNat : Int)) % 4294967296))).setCell (p := ⟨w.heap.size + 1, 1, none⟩) (by show w.heap.size ≤ w.heap.size + 1; omega) (.int .u32 (((s.b.toNat : Int) + (r.b.toNat : Int)) % 4294967296))).setCell (p := ⟨w.heap.size + 1, 2, none⟩) (by show w.heap.size ≤ w.heap.size + 1; omega) (.int .u32 (((s.c.toNat : Int) + (r.c.toNat : Int)) % 4294967296))).setCell (p := ⟨w.heap.size + 1, 3, none⟩) (by show w.heap.size ≤ w.heap.size + 1; omega) (.int .u32 (((s.d.toNat : Int) + (r.d.toNat : Int)) % 4294967296))).setCell (p := ⟨w.heap.size + 1, 4, none⟩) (by show w.heap.size ≤ w.heap.size + 1; omega) (.int .u32 (((s.e.toNat : Int) + (r.e.toNat : Int)) % 4294967296))).setCell (p := ⟨w.heap.size + 1, 5, none⟩) (by show w.heap.size ≤ w.heap.size + 1; omega) (.int .u32 (((s.f.toNat : Int) + (r.f.toNat : Int)) % 4294967296))).setCell (p := ⟨w.heap.size + 1, 6, none⟩) (by show w.heap.size ≤ w.heap.size + 1; omega) (.int .u32 (((s.g.toNat : Int) + (r.g.toNat : Int)) % 4294967296))).setCell (p := ⟨w.heap.size + 1, 7, none⟩) (by show w.heap.size ≤ w.heap.size + 1; omega) (.int .u32 (((s.h.toNat : Int) + (r.h.toNat : Int)) % 4294967296)))⟩
              rw [HFN.out]
              simp only [Dg.add_mod]
              rfl
end Go.Proofs.YtideglpjgplpnaaDoor
