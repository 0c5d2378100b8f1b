import Derived.Laws.Rows
import Derived.Laws.Tables
import Derived.Test.YtideglpjgplpnaaDoorMDgW4
import Derived.Test.YtideglpjgplpnaaDoorMDgP
/- Contract of package digest: Sum. -/
namespace Go.Proofs.YtideglpjgplpnaaDoor
open Go.RowKit
set_option linter.unusedVariables false

/-- the package's two variables hold a first state and the numbers -/
structure Dg.G (w : World) (K : List UInt32) (I : Dg.S) : Prop where
  i : ∀ j u, (Dg.sc I)[j]? = some u → w.cell? ⟨0, j, none⟩ = some u
  k : ∀ t, t < 64 → w.cell? ⟨1, t, none⟩ = some (.int .u32 ((K[t]!).toNat : Int))
  z : 0 < w.heap.size ∧ 1 < w.heap.size
theorem Dg.G.keep {w w' : World} {K : List UInt32} {I : Dg.S} (h : Dg.G w K I) (hb : Below w.heap.size w w') : Dg.G w' K I :=
  ⟨fun j u hu => (hb.cell (p := ⟨_, j, none⟩) h.z.1).trans (h.i j u hu), fun t ht => (hb.cell (p := ⟨_, t, none⟩) h.z.2).trans (h.k t ht), Nat.lt_of_lt_of_le h.z.1 hb.size, Nat.lt_of_lt_of_le h.z.2 hb.size⟩
theorem Dg.G.drew {w : World} {K : List UInt32} {I : Dg.S} (h : Dg.G w K I) : Dg.G w.drew K I := ⟨h.i, h.k, h.z⟩
theorem Dg.G.drewN {w : World} {K : List UInt32} {I : Dg.S} (h : Dg.G w K I) (n : Nat) : Dg.G (w.drewN n) K I := ⟨h.i, h.k, h.z⟩

/-- a slice of bytes cut at its head -/
theorem Dg.cut {w : World} {A : Option Addr} {n c : Nat} {l : List UInt8} (h : RdB w A n l) (hc : n ≤ c) (hnil : A = none → c = 0) (p : Nat) (hp : p ≤ n) :
    ∃ A', (if c = p then A else A.map (fun a => a.add p)) = A' ∧ RdB w A' (n - p) (l.drop p) ∧ (A' = none → c - p = 0) := by
  have hl := h.len
  cases A with
  | none =>
    have h0 := hnil rfl
    refine ⟨none, by split <;> rfl, ?_, fun _ => by omega⟩
    obtain rfl : n = 0 := by omega
    obtain rfl : l = [] := List.length_eq_zero_iff.1 hl
    rw [List.drop_nil, Nat.zero_sub]
    exact RdB.none_
  | some a =>
    by_cases hcp : c = p
    · obtain rfl : n = p := by omega
      refine ⟨some a, by rw [if_pos hcp], ?_, fun e => by cases e⟩
      rw [Nat.sub_self, List.drop_eq_nil_of_le (by omega)]
      exact RdB.none_
    · refine ⟨some (a.add p), by rw [if_neg hcp]; rfl, ?_, fun e => by cases e⟩
      by_cases h0 : n - p = 0
      · rw [h0, List.drop_eq_nil_of_le (by omega)]
        exact RdB.none_
      · obtain ⟨b, off, e, hb, hcell⟩ := h.2 (by omega)
        injection e with e
        subst e
        have hpa : (⟨b, off, none⟩ : Addr).add p = ⟨b, off + p, none⟩ := by unfold Addr.add; split <;> simp_all
        rw [hpa]
        refine ⟨by simp; omega, fun _ => ⟨b, off + p, rfl, hb, fun j u hu => ?_⟩⟩
        rw [List.map_drop, List.getElem?_drop] at hu
        rw [Nat.add_assoc]
        exact hcell (p + j) u hu
theorem Dg.take {w : World} {A : Option Addr} {n : Nat} {l : List UInt8} (h : RdB w A n l) (m : Nat) (hm : m ≤ n) : RdB w A m (l.take m) := by
  have hl := h.len
  refine ⟨by simp; omega, fun h0 => ?_⟩
  obtain ⟨b, off, e, hb, hcell⟩ := h.2 (by omega)
  refine ⟨b, off, e, hb, fun j u hu => hcell j u ?_⟩
  rw [List.map_take] at hu
  have hj := (List.getElem?_eq_some_iff.1 hu).1
  rw [List.length_take] at hj
  rwa [List.getElem?_take_of_lt (by omega)] at hu

/-- the length of a slice, for a measure -/
def slLen : Value → Nat
  | .slice _ n _ => n
  | _ => 0
def Dg.z32 : List Value := List.replicate 32 (.int .u8 0)

def Dg.z128 : List Value := List.replicate 128 (.int .u8 0)
theorem Dg.make (W : World) : (Instr.makeSlice 24 (.int .i64 64) (.int .i64 128)).run Tryd.prog W = .ok (.slice (some ⟨W.heap.size, 0, none⟩) 64 128) (W.alloc (.cells Dg.z128.toArray 5)) := by kernel_rfl
theorem Dg.rdb_of {w : World} {g : Nat} {t : TypeId} {l : List UInt8} (h : Has w g t (l.map Dg.b8)) (off n : Nat) (hf : off + n ≤ l.length) : RdB w (some ⟨g, off, none⟩) n ((l.drop off).take n) := by
  refine ⟨by simp; omega, fun _ => ⟨g, off, rfl, h.lt, fun j u hu => ?_⟩⟩
  rw [h.cell]
  rw [List.map_take, List.map_drop] at hu
  have hj := (List.getElem?_eq_some_iff.1 hu).1
  rw [List.length_take] at hj
  rw [List.getElem?_take_of_lt (by omega), List.getElem?_drop] at hu
  exact hu

set_option maxRecDepth 100000 in
theorem Dg.slice_at (g k : Nat) (h : k < 8) : ∀ W : World, (Instr.sliceAt 23 (.pointer (some ⟨g, 0, none⟩)) (some (.int .i64 (4 * (k : Int)))) (some (.int .i64 (4 * (k : Int) + 4))) none).run Tryd.prog W = .ok (.slice (some ⟨g, 4 * k, none⟩) 4 (32 - 4 * k)) W := by
  match k, h with
  | 0, _ => exact fun W => by kernel_rfl
  | 1, _ => exact fun W => by kernel_rfl
  | 2, _ => exact fun W => by kernel_rfl
  | 3, _ => exact fun W => by kernel_rfl
  | 4, _ => exact fun W => by kernel_rfl
  | 5, _ => exact fun W => by kernel_rfl
  | 6, _ => exact fun W => by kernel_rfl
  | 7, _ => exact fun W => by kernel_rfl
set_option maxRecDepth 100000 in
theorem Dg.word_of (s : Dg.S) (k : Nat) (h : k < 8) : ∃ v : UInt32, (∀ W, (Instr.index 95 (.agg #[.int .u32 (s.a.toNat : Int), .int .u32 (s.b.toNat : Int), .int .u32 (s.c.toNat : Int), .int .u32 (s.d.toNat : Int), .int .u32 (s.e.toNat : Int), .int .u32 (s.f.toNat : Int), .int .u32 (s.g.toNat : Int), .int .u32 (s.h.toNat : Int)]) (.int .i64 (k : Int))).run Tryd.prog W = .ok (.int .u32 (v.toNat : Int)) W) ∧
    Dg.putc (Dg.dc s k) (4 * k) 4 v.toNat 4 = Dg.dc s (k + 1) := by
  refine ⟨[s.a, s.b, s.c, s.d, s.e, s.f, s.g, s.h][k]'h, ?_, Dg.dc_put s k h _ rfl⟩
  match k, h with
  | 0, _ => exact fun W => by kernel_rfl
  | 1, _ => exact fun W => by kernel_rfl
  | 2, _ => exact fun W => by kernel_rfl
  | 3, _ => exact fun W => by kernel_rfl
  | 4, _ => exact fun W => by kernel_rfl
  | 5, _ => exact fun W => by kernel_rfl
  | 6, _ => exact fun W => by kernel_rfl
  | 7, _ => exact fun W => by kernel_rfl

set_option maxRecDepth 100000 in
set_option maxHeartbeats 8000000 in
theorem Dg.sum_any (w : World) (A : Option Addr) (n c : Nat) (l : List UInt8) (K : List UInt32) (I : Dg.S) (hr : RdB w A n l) (hnc : n ≤ c) (hc : c ≤ maxLen) (hnil : A = none → c = 0) (hn : n ≤ 1152921504606846976) (hG : Dg.G w K I) :
    Calls Tryd.prog 35 #[.slice A n c] w fun e w' => e = .returned (.agg ((Dg.sum K I l).map Dg.b8).toArray) ∧ Below w.heap.size w w' := by
  unfold maxLen at hc
  have HR := Lib.hid hr
  have HG := Lib.hid hG
  have HNIL := Lib.hid hnil
  have HL := Lib.hid hr.len
  have i0 : w.cell? ⟨0, 0, none⟩ = some (.int .u32 (I.a.toNat : Int)) := hG.i 0 _ rfl
  have i1 : w.cell? ⟨0, 1, none⟩ = some (.int .u32 (I.b.toNat : Int)) := hG.i 1 _ rfl
  have i2 : w.cell? ⟨0, 2, none⟩ = some (.int .u32 (I.c.toNat : Int)) := hG.i 2 _ rfl
  have i3 : w.cell? ⟨0, 3, none⟩ = some (.int .u32 (I.d.toNat : Int)) := hG.i 3 _ rfl
  have i4 : w.cell? ⟨0, 4, none⟩ = some (.int .u32 (I.e.toNat : Int)) := hG.i 4 _ rfl
  have i5 : w.cell? ⟨0, 5, none⟩ = some (.int .u32 (I.f.toNat : Int)) := hG.i 5 _ rfl
  have i6 : w.cell? ⟨0, 6, none⟩ = some (.int .u32 (I.g.toNat : Int)) := hG.i 6 _ rfl
  have i7 : w.cell? ⟨0, 7, none⟩ = some (.int .u32 (I.h.toNat : Int)) := hG.i 7 _ rfl
  have z0 := hG.z.1
  have hmf : ∀ (fn : Fn) (first cap : Array Value) (w : World), (Instr.makeFunc fn first cap).run Tryd.prog w = .ok (.func fn first cap) w := fun _ _ _ _ => rfl
  clear hr hG hnil
  go_enter Tryd.func35, Tryd.ntmps35
  go_wp2_with fail
  obtain ⟨W0, hW0⟩ : ∃ W0, W0 = (w.alloc (.cells Dg.z32.toArray 23)).alloc (.cells (Dg.sc I).toArray 95) := ⟨_, rfl⟩
  have HD := Lib.hid (show Has W0 w.heap.size 23 Dg.z32 from by rw [hW0]; exact (Has.new w _ _).alloc _)
  have HST := Lib.hid (show Has W0 (w.heap.size + 1) 95 (Dg.sc (Dg.blocks K I l 0)) from by
    rw [hW0]
    have h := Has.new (w.alloc (.cells Dg.z32.toArray 23)) 95 (Dg.sc I)
    rw [World.size_alloc] at h
    exact h)
  have HB := Lib.hid (show Below w.heap.size w W0 from by rw [hW0]; exact ((Below.refl _ w).alloc (Nat.le_refl _) _).alloc (by simp) _)
  have HZ := Lib.hid (show w.heap.size + 2 ≤ W0.heap.size from by rw [hW0]; simp)
  change Code.wp _ _ _ _ ((w.alloc (.cells Dg.z32.toArray 23)).alloc (.cells (Dg.sc I).toArray 95))
  rw [← hW0]
  clear hW0 i0 i1 i2 i3 i4 i5 i6 i7 hmf
  go_loopw [5] (fun t5 wr => ∃ (k : Nat) (A' : Option Addr), 64 * k ≤ n ∧ t5 = .slice A' (n - 64 * k) (c - 64 * k) ∧ RdB w A' (n - 64 * k) (l.drop (64 * k)) ∧ (A' = none → c - 64 * k = 0) ∧ Has wr w.heap.size 23 Dg.z32 ∧
      Has wr (w.heap.size + 1) 95 (Dg.sc (Dg.blocks K I l k)) ∧ Below w.heap.size w wr ∧ w.heap.size + 2 ≤ wr.heap.size) (fun t5 _ => slLen t5)
  case atStart => exact ⟨0, A, by omega, rfl, HR.out, HNIL.out, HD.out, HST.out, HB.out, HZ.out⟩
  case round =>
    clear HD HST HB HZ
    obtain ⟨k, A', hk, rfl, hrd, hnl, hD, hS, hB, hZ⟩ := hrel
    have HK := Lib.hid hk
    have hmc : n - 64 * k ≤ c - 64 * k := by omega
    have hmn : n - 64 * k ≤ 1152921504606846976 := by omega
    have hcc : c - 64 * k ≤ 9223372036854775807 := by omega
    have HM := Lib.hid (show 64 ≤ n - 64 * k → 64 * (k + 1) ≤ n ∧ n - 64 * (k + 1) = n - 64 * k - 64 ∧ c - 64 * (k + 1) = c - 64 * k - 64 from fun h => by omega)
    have HMX := Lib.hid (show n - 64 * k < 64 → k = n / 64 from fun h => by omega)
    have HDR := Lib.hid (show (l.drop (64 * k)).drop 64 = l.drop (64 * (k + 1)) from by rw [List.drop_drop]; congr 1)
    have HBL := Lib.hid (show Dg.blocks K I l (k + 1) = Dg.absorb K (Dg.blocks K I l k) ((l.drop (64 * k)).take 64) from rfl)
    generalize hm : n - 64 * k = m at *
    generalize hc' : c - 64 * k = c' at *
    clear hm hc' hk
    by_cases hlt : 64 ≤ m
    · obtain ⟨b, off, rfl, _, _⟩ := hrd.2 (by omega)
      obtain ⟨A2, hA2, hrd2, hnl2⟩ := Dg.cut hrd hmc hnl 64 hlt
      rw [Option.map_some, show (⟨b, off, none⟩ : Addr).add 64 = ⟨b, off + 64, none⟩ from by unfold Addr.add; split <;> simp_all] at hA2
      obtain ⟨e1, e2, e3⟩ := HM.out hlt
      rw [HDR.out, ← e2] at hrd2
      rw [← e3] at hnl2
      have HRD2 := Lib.hid hrd2
      have HNL2 := Lib.hid hnl2
      have HGW := Lib.hid (HG.out.keep hB)
      have HA := Lib.hid (Dg.absorb_any wr (w.heap.size + 1) (Dg.blocks K I l k) K (some ⟨b, off, none⟩) 64 c' ((l.drop (64 * k)).take 64) hS (Dg.take (hrd.keep hB) 64 hlt) (Nat.le_refl _) (by omega) (by unfold maxLen; omega) HGW.out.k (by have := HG.out.z.2; omega))
      have E1 := Lib.hid e1
      have E2 := Lib.hid e2
      have E3 := Lib.hid e3
      have HD := Lib.hid hD
      have HB := Lib.hid hB
      have HZ := Lib.hid hZ
      clear hrd hrd2 hnl hnl2 hD hS hB hZ e1 e2 e3
      go_wp2_with fail
      ((with_reducible refine HA.out.mono ?_); rintro e w2 ⟨⟨v, rfl⟩, hg2, hs2⟩)
      have HS2 := Lib.hid (show Has w2 (w.heap.size + 1) 95 (Dg.sc (Dg.blocks K I l (k + 1))) from by rw [HBL.out]; exact hs2)
      have HD2 := Lib.hid (HD.out.grown hg2 (by intro e; injection e with e; omega))
      have HB2 := Lib.hid (HB.out.grown hg2 HB.out.size (fun k e => by injection e with e; omega))
      have HZ2 := Lib.hid (Nat.le_trans HZ.out hg2.size)
      clear hg2 hs2
      go_wp2_with fail
      exact ⟨⟨k + 1, A2, E1.out, by rw [E2.out, E3.out], HRD2.out, HNL2.out, HD2.out, HS2.out, HB2.out, HZ2.out⟩, by show m - 64 < m; omega⟩
    · have hk := HMX.out (by omega)
      have hml : m < 64 := by omega
      clear HM HMX HDR HBL
      subst hk
      have hRl := hrd.len
      have HSUM := Lib.hid (show Dg.sum K I l = _ from Dg.sum_tail K I l)
      have HEND := Lib.hid (Dg.end_cells l (l.drop (64 * (l.length / 64))) rfl)
      have hlen := HL.out
      have HTL := Lib.hid (Dg.tail_len l)
      rw [hlen] at HEND HSUM HTL
      have hmm : m = n % 64 := by rw [← hRl, List.length_drop, hlen]; omega
      rw [← hmm] at HTL
      obtain ⟨R, hR⟩ : ∃ R, l.drop (64 * (n / 64)) = R := ⟨_, rfl⟩
      rw [hR] at hrd hRl HEND
      obtain ⟨S1, hS1⟩ : ∃ S1, Dg.blocks K I l (n / 64) = S1 := ⟨_, rfl⟩
      rw [hS1] at hS HSUM
      obtain ⟨T, hT⟩ : ∃ T, Dg.tail l = T := ⟨_, rfl⟩
      rw [hT] at HTL HEND HSUM
      have HMM := Lib.hid hmm
      clear hT hS1 hR hmm hlen
      have HGW := Lib.hid (HG.out.keep hB)
      have HRD := Lib.hid (hrd.keep hB)
      have hmk := Dg.make
      have HEC := Lib.hid (show (splice Dg.z128 0 (R.map Dg.b8)).set R.length (.int .u8 128) = (Dg.e1 R).map Dg.b8 from Dg.e1_cells R (by omega))
      rw [hRl] at HEC
      have hel := Dg.e1_len R (by omega)
      have HEL := Lib.hid hel
      obtain ⟨g2, hg2⟩ : ∃ g2, g2 = wr.heap.size := ⟨_, rfl⟩
      have HB := Lib.hid hB
      have HD := Lib.hid hD
      have HS := Lib.hid hS
      have hZ' : w.heap.size + 2 ≤ g2 := by rw [hg2]; exact hZ
      have hcsz : (R.map Dg.b8).length = Nat.min m 64 := by rw [List.length_map, hRl]; exact (Nat.min_eq_left (by omega)).symm
      have HCP := Lib.hid (show 0 < (R.map Dg.b8).length → ∃ ad, A' = some ad ∧ ∀ j v, (R.map Dg.b8)[j]? = some v → (wr.alloc (.cells Dg.z128.toArray 5)).cell? (ad.add j) = some v from fun h => by
        obtain ⟨b, off, e, hb, hcell⟩ := ((HRD.out.alloc (.cells Dg.z128.toArray 5))).2 (by rw [List.length_map, hRl] at h; exact h)
        refine ⟨_, e, fun j v hj => ?_⟩
        rw [Addr.add_mid]
        exact hcell j v hj)
      have HCS := Lib.hid hcsz
      have HG2 := Lib.hid (show (wr.alloc (.cells Dg.z128.toArray 5)).heap[wr.heap.size]? = some (.cells Dg.z128.toArray 5 (0, 0)) from Has.new _ _ _)
      have hmR : 0 + (R.map Dg.b8).length ≤ Dg.z128.length := by rw [List.length_map, hRl]; show 0 + m ≤ 128; omega
      have HMR := Lib.hid hmR
      have HSP := Lib.hid (show ∃ v, (splice Dg.z128 0 (R.map Dg.b8))[m]? = some v from ⟨_, List.getElem?_eq_getElem (by rw [length_splice _ _ _ hmR]; show m < 128; omega)⟩)
      clear hrd hnl hD hS hB hZ hcsz hel hmR HR HNIL HL
      by_cases h55 : 55 < m
      · go_wp2_with ((with_reducible refine wpList_copy_splice (o := ⟨some 24, _, _, _, _, _⟩) rfl (.tmp 22) (.tmp 23) 24 24 rfl 5 Tryd.underlying24 (by kernel_rfl) (some ⟨wr.heap.size, 0, none⟩) A' 64 128 m c' rfl rfl wr.heap.size 0 Dg.z128 5 HG2.out (R.map Dg.b8) HCS.out (fun h => ⟨rfl, HCP.out h⟩) HMR.out (one_bytes R) wr.heap.size _ (Below.refl _ _) (Nat.le_refl _) ?_); intro w3 hg3 hb3; obtain ⟨v3, hv3⟩ := HSP.out; have hs3 : Has w3 wr.heap.size 5 (splice Dg.z128 0 (R.map Dg.b8)) := hg3.out; have cc3 := (hs3.cell m).trans hv3; have fz3 := hs3.frozen m; have HG3 := Lib.hid hs3; clear hs3; have HB3 := Lib.hid hb3; clear hg3 hb3 hv3)
        have hTL : T.length = 128 := by have h := HTL.out; rw [if_pos h55] at h; exact h
        obtain ⟨X, hX, hXl, _⟩ := HEND.out 128 hTL.symm
        have HP := Lib.hid (by have h := Dg.put_any (w3.setCell ⟨wr.heap.size, m, none⟩ (.int .u8 128)) wr.heap.size 120 8 8 5 ((Dg.e1 R).map Dg.b8) (8 * n) (by have h := HG3.out.set m (.int .u8 128); rw [HEC.out] at h; exact h) (by rw [List.length_map, HEL.out]; omega) (by omega) (by omega); rw [show ((8 * n : Nat) : Int) = (n : Int) * 8 by omega, show Dg.putc ((Dg.e1 R).map Dg.b8) 120 8 (8 * n) 8 = (T ++ X).map Dg.b8 from hX] at h; exact h)
        have HXL := Lib.hid hXl
        have HTN := Lib.hid hTL
        clear cc3 fz3 hX hXl hTL
        ((with_reducible refine HP.out.mono ?_); rintro e w4 ⟨⟨v4, rfl⟩, hg4, hs4⟩)
        have hB3 : Below w.heap.size w (w3.setCell ⟨wr.heap.size, m, none⟩ (.int .u8 128)) := ((HB.out.alloc HB.out.size _).trans (HB3.out.mono (by omega))).setCell (p := ⟨wr.heap.size, m, none⟩) (by show w.heap.size ≤ wr.heap.size; omega) _
        have HB4 := Lib.hid (hB3.grown hg4 hB3.size (fun k e => by injection e with e; omega))
        have HD4 := Lib.hid ((((HD.out.alloc _).below HB3.out (by omega)).far (p := ⟨wr.heap.size, m, none⟩) (by show w.heap.size ≠ wr.heap.size; omega) (.int .u8 128)).grown hg4 (by intro e; injection e with e; omega))
        have HS4 := Lib.hid ((((HS.out.alloc _).below HB3.out (by omega)).far (p := ⟨wr.heap.size, m, none⟩) (by show w.heap.size + 1 ≠ wr.heap.size; omega) (.int .u8 128)).grown hg4 (by intro e; injection e with e; omega))
        have HT4 := Lib.hid hs4
        clear hB3 hg4 hs4 HP HB HD HS HB3 HG3 HCP HCS HG2 HMR HSP HRD HEC HEL HEND HTL HMM HK HGW hmk
        rw [← hg2] at HT4 ⊢
        clear hg2
        go_wp2_with fail
        go_loopw [6] (fun t6 w' => ∃ st : Dg.S, ((t6 = (.slice (some ⟨g2, 0, none⟩) 128 128) ∧ st = Dg.blocks K S1 T 0) ∨ (t6 = (.slice (some ⟨g2, 64, none⟩) 64 64) ∧ st = Dg.blocks K S1 T 1) ∨ (∃ A2 c2, t6 = .slice A2 0 c2 ∧ st = Dg.blocks K S1 T 2)) ∧ Has w' w.heap.size 23 Dg.z32 ∧ Has w' (w.heap.size + 1) 95 (Dg.sc st) ∧ Has w' g2 5 ((T ++ X).map Dg.b8) ∧ Below w.heap.size w w') (fun t6 _ => slLen t6)
        case atStart => exact ⟨_, .inl ⟨rfl, rfl⟩, HD4.out, HS4.out, HT4.out, HB4.out⟩
        case round =>
          clear HD4 HS4 HT4 HB4
          obtain ⟨st, hst, hD, hS, hT, hB⟩ := hrel
          rcases hst with ⟨rfl, hst⟩ | ⟨rfl, hst⟩ | ⟨A2, c2, rfl, hst⟩
          · rw [hst] at hS
            have HBL := Lib.hid (show Dg.blocks K S1 T 1 = Dg.absorb K (Dg.blocks K S1 T 0) ((T.drop (64 * 0)).take 64) from rfl)
            have HR := Lib.hid (show RdB wr (some ⟨g2, 0, none⟩) 64 ((T.drop (64 * 0)).take 64) from by
              have h := Dg.rdb_of hT 0 64 (by rw [List.length_append, HTN.out]; omega)
              rw [List.drop_append_of_le_length (by rw [HTN.out]; omega), List.take_append_of_le_length (by rw [List.length_drop, HTN.out]; omega)] at h
              exact h)
            have HA := Lib.hid (Dg.absorb_any wr (w.heap.size + 1) (Dg.blocks K S1 T 0) K (some ⟨g2, 0, none⟩) 64 128 ((T.drop (64 * 0)).take 64) hS HR.out (Nat.le_refl _) (by omega) (by unfold maxLen; omega) (HG.out.keep hB).k (by have := HG.out.z.2; omega))
            rw [← HBL.out] at HA
            have HD := Lib.hid hD
            have HT := Lib.hid hT
            have HB := Lib.hid hB
            clear hD hS hT hB HBL HR hst
            go_wp2_with fail
            ((with_reducible refine HA.out.mono ?_); rintro e w5 ⟨⟨v5, rfl⟩, hg5, hs5⟩)
            have HS5 := Lib.hid hs5
            have HD5 := Lib.hid (HD.out.grown hg5 (by intro e; injection e with e; omega))
            have HT5 := Lib.hid (HT.out.grown hg5 (by intro e; injection e with e; omega))
            have HB5 := Lib.hid (HB.out.grown hg5 HB.out.size (fun k e => by injection e with e; omega))
            clear hg5 hs5 HA HD HT HB
            go_wp2_with fail
            exact ⟨⟨_, .inr (.inl ⟨rfl, rfl⟩), HD5.out, HS5.out, HT5.out, HB5.out⟩, by simp [slLen]⟩
          · rw [hst] at hS
            have HBL := Lib.hid (show Dg.blocks K S1 T 2 = Dg.absorb K (Dg.blocks K S1 T 1) ((T.drop (64 * 1)).take 64) from rfl)
            have HR := Lib.hid (show RdB wr (some ⟨g2, 64, none⟩) 64 ((T.drop (64 * 1)).take 64) from by
              have h := Dg.rdb_of hT 64 64 (by rw [List.length_append, HTN.out]; omega)
              rw [List.drop_append_of_le_length (by rw [HTN.out]; omega), List.take_append_of_le_length (by rw [List.length_drop, HTN.out]; omega)] at h
              exact h)
            have HA := Lib.hid (Dg.absorb_any wr (w.heap.size + 1) (Dg.blocks K S1 T 1) K (some ⟨g2, 64, none⟩) 64 64 ((T.drop (64 * 1)).take 64) hS HR.out (Nat.le_refl _) (by omega) (by unfold maxLen; omega) (HG.out.keep hB).k (by have := HG.out.z.2; omega))
            rw [← HBL.out] at HA
            have HD := Lib.hid hD
            have HT := Lib.hid hT
            have HB := Lib.hid hB
            clear hD hS hT hB HBL HR hst
            go_wp2_with fail
            ((with_reducible refine HA.out.mono ?_); rintro e w5 ⟨⟨v5, rfl⟩, hg5, hs5⟩)
            have HS5 := Lib.hid hs5
            have HD5 := Lib.hid (HD.out.grown hg5 (by intro e; injection e with e; omega))
            have HT5 := Lib.hid (HT.out.grown hg5 (by intro e; injection e with e; omega))
            have HB5 := Lib.hid (HB.out.grown hg5 HB.out.size (fun k e => by injection e with e; omega))
            clear hg5 hs5 HA HD HT HB
            go_wp2_with fail
            exact ⟨⟨_, .inr (.inr (⟨_, _, rfl, rfl⟩)), HD5.out, HS5.out, HT5.out, HB5.out⟩, by simp [slLen]⟩
          · rw [hst] at hS
            have HSUM2 := Lib.hid HSUM.out
            rw [HTN.out] at HSUM2
            have HB := Lib.hid hB
            have HD := Lib.hid hD
            obtain ⟨SF, hSF⟩ : ∃ SF, Dg.blocks K S1 T 2 = SF := ⟨_, rfl⟩
            have HSF := Lib.hid (show Dg.sum K I l = Dg.bytes SF from by rw [← hSF]; exact HSUM2.out)
            rw [hSF] at hS
            obtain ⟨m0, m1, m2, m3, m4, m5, m6, m7⟩ := Dg.sc_cells hS
            clear hD hS hT hB hSF HSUM HSUM2 HTN HXL hst
            go_wp2_with fail
            clear m0 m1 m2 m3 m4 m5 m6 m7
            go_loopw [54] (fun i w' => ∃ k : Nat, k ≤ 8 ∧ i = .int .i64 k ∧ Has w' w.heap.size 23 (Dg.dc SF k) ∧ Below w.heap.size w w') (fun i _ => 8 - (intOf i).toNat)
            case atStart => exact ⟨0, by omega, rfl, HD.out, HB.out⟩
            case round =>
              clear HD HB
              obtain ⟨k, hk, rfl, hD, hB⟩ := hrel
              by_cases hk8 : k < 8
              · obtain ⟨v, hix, hdp⟩ := Dg.word_of SF k hk8
                have HP := Lib.hid (Dg.put_any wr w.heap.size (4 * k) 4 (32 - 4 * k) 23 (Dg.dc SF k) v.toNat hD (by rw [Dg.dc_len SF k hk]; omega) (by omega) (by have := v.toNat_lt; omega))
                rw [hdp] at HP
                have HB := Lib.hid hB
                have hsl := Dg.slice_at w.heap.size k hk8
                have hvl : v.toNat < 4294967296 := v.toNat_lt
                clear hD hB hdp
                go_wp2_with fail
                ((with_reducible refine HP.out.mono ?_); rintro e w6 ⟨⟨v6, rfl⟩, hg6, hs6⟩)
                have HD6 := Lib.hid hs6
                have HB6 := Lib.hid (HB.out.grown hg6 HB.out.size (fun k e => by injection e with e; omega))
                clear hg6 hs6 HP HB hix hsl
                go_wp2_with fail
                exact ⟨⟨k + 1, by omega, by go_num, HD6.out, HB6.out⟩, by simp [intOf]; omega⟩
              · have hk' : k = 8 := by omega
                rw [hk', Dg.dc_all, ← HSF.out] at hD
                have HB := Lib.hid hB
                have HD := Lib.hid hD
                obtain ⟨D, hDD⟩ : ∃ D, ((Dg.sum K I l).map Dg.b8).toArray = D := ⟨_, rfl⟩
                have hsz : D.size = 32 := by rw [← hDD]; simp [Dg.sum_len]
                have h1c : D.all (·.oneCell') = true := by rw [← hDD]; exact all_oneCell_toArray (one_bytes _)
                have HDD := Lib.hid hDD
                have HDH := Lib.hid (show wr.heap[w.heap.size]? = some (.cells D 23 (0, 0)) from by rw [← hDD]; exact HD.out)
                have HSZ := Lib.hid hsz
                have H1C := Lib.hid h1c
                have hi31 : (Tryd.prog.info? 23).map (·.size) = some 32 := by kernel_rfl
                rw [← hsz] at hi31
                have HI := Lib.hid hi31
                clear hD hB hk' hDD hsz h1c hi31 HSF
                go_wp2_with (first
                  | (with_reducible refine wpList_load_row rfl 23 (.tmp 2) rfl w.heap.size rfl 23 D (0, 0) _ HDH.out Tryd.underlying23 rfl HI.out ?_)
                  | (with_reducible refine wpList_store_row rfl 23 (.tmp 2) (.tmp 68) rfl w.heap.size D rfl rfl 23 D HDH.out HI.out rfl H1C.out ?_))
                have HF := Lib.hid (setRow_heap wr w.heap.size D D 23 (0, 0) HDH.out)
                refine bodyPost_ret (results_cell_row rfl _ _ w.heap.size 23 D (0, 0) _ rfl HF.out Tryd.underlying23 rfl HI.out) rfl ?_
                exact ⟨by rw [HDD.out], below_setRow HB.out (Nat.le_refl _) _⟩
      · go_wp2_with ((with_reducible refine wpList_copy_splice (o := ⟨some 24, _, _, _, _, _⟩) rfl (.tmp 22) (.tmp 23) 24 24 rfl 5 Tryd.underlying24 (by kernel_rfl) (some ⟨wr.heap.size, 0, none⟩) A' 64 128 m c' rfl rfl wr.heap.size 0 Dg.z128 5 HG2.out (R.map Dg.b8) HCS.out (fun h => ⟨rfl, HCP.out h⟩) HMR.out (one_bytes R) wr.heap.size _ (Below.refl _ _) (Nat.le_refl _) ?_); intro w3 hg3 hb3; obtain ⟨v3, hv3⟩ := HSP.out; have hs3 : Has w3 wr.heap.size 5 (splice Dg.z128 0 (R.map Dg.b8)) := hg3.out; have cc3 := (hs3.cell m).trans hv3; have fz3 := hs3.frozen m; have HG3 := Lib.hid hs3; clear hs3; have HB3 := Lib.hid hb3; clear hg3 hb3 hv3)
        have hTL : T.length = 64 := by have h := HTL.out; rw [if_neg h55] at h; exact h
        obtain ⟨X, hX, hXl, _⟩ := HEND.out 64 hTL.symm
        have HP := Lib.hid (by have h := Dg.put_any (w3.setCell ⟨wr.heap.size, m, none⟩ (.int .u8 128)) wr.heap.size 56 8 72 5 ((Dg.e1 R).map Dg.b8) (8 * n) (by have h := HG3.out.set m (.int .u8 128); rw [HEC.out] at h; exact h) (by rw [List.length_map, HEL.out]; omega) (by omega) (by omega); rw [show ((8 * n : Nat) : Int) = (n : Int) * 8 by omega, show Dg.putc ((Dg.e1 R).map Dg.b8) 56 8 (8 * n) 8 = (T ++ X).map Dg.b8 from hX] at h; exact h)
        have HXL := Lib.hid hXl
        have HTN := Lib.hid hTL
        clear cc3 fz3 hX hXl hTL
        ((with_reducible refine HP.out.mono ?_); rintro e w4 ⟨⟨v4, rfl⟩, hg4, hs4⟩)
        have hB3 : Below w.heap.size w (w3.setCell ⟨wr.heap.size, m, none⟩ (.int .u8 128)) := ((HB.out.alloc HB.out.size _).trans (HB3.out.mono (by omega))).setCell (p := ⟨wr.heap.size, m, none⟩) (by show w.heap.size ≤ wr.heap.size; omega) _
        have HB4 := Lib.hid (hB3.grown hg4 hB3.size (fun k e => by injection e with e; omega))
        have HD4 := Lib.hid ((((HD.out.alloc _).below HB3.out (by omega)).far (p := ⟨wr.heap.size, m, none⟩) (by show w.heap.size ≠ wr.heap.size; omega) (.int .u8 128)).grown hg4 (by intro e; injection e with e; omega))
        have HS4 := Lib.hid ((((HS.out.alloc _).below HB3.out (by omega)).far (p := ⟨wr.heap.size, m, none⟩) (by show w.heap.size + 1 ≠ wr.heap.size; omega) (.int .u8 128)).grown hg4 (by intro e; injection e with e; omega))
        have HT4 := Lib.hid hs4
        clear hB3 hg4 hs4 HP HB HD HS HB3 HG3 HCP HCS HG2 HMR HSP HRD HEC HEL HEND HTL HMM HK HGW hmk
        rw [← hg2] at HT4 ⊢
        clear hg2
        go_wp2_with fail
        go_loopw [6] (fun t6 w' => ∃ st : Dg.S, ((t6 = (.slice (some ⟨g2, 0, none⟩) 64 128) ∧ st = Dg.blocks K S1 T 0) ∨ (∃ A2 c2, t6 = .slice A2 0 c2 ∧ st = Dg.blocks K S1 T 1)) ∧ Has w' w.heap.size 23 Dg.z32 ∧ Has w' (w.heap.size + 1) 95 (Dg.sc st) ∧ Has w' g2 5 ((T ++ X).map Dg.b8) ∧ Below w.heap.size w w') (fun t6 _ => slLen t6)
        case atStart => exact ⟨_, .inl ⟨rfl, rfl⟩, HD4.out, HS4.out, HT4.out, HB4.out⟩
        case round =>
          clear HD4 HS4 HT4 HB4
          obtain ⟨st, hst, hD, hS, hT, hB⟩ := hrel
          rcases hst with ⟨rfl, hst⟩ | ⟨A2, c2, rfl, hst⟩
          · rw [hst] at hS
            have HBL := Lib.hid (show Dg.blocks K S1 T 1 = Dg.absorb K (Dg.blocks K S1 T 0) ((T.drop (64 * 0)).take 64) from rfl)
            have HR := Lib.hid (show RdB wr (some ⟨g2, 0, none⟩) 64 ((T.drop (64 * 0)).take 64) from by
              have h := Dg.rdb_of hT 0 64 (by rw [List.length_append, HTN.out]; omega)
              rw [List.drop_append_of_le_length (by rw [HTN.out]; omega), List.take_append_of_le_length (by rw [List.length_drop, HTN.out]; omega)] at h
              exact h)
            have HA := Lib.hid (Dg.absorb_any wr (w.heap.size + 1) (Dg.blocks K S1 T 0) K (some ⟨g2, 0, none⟩) 64 128 ((T.drop (64 * 0)).take 64) hS HR.out (Nat.le_refl _) (by omega) (by unfold maxLen; omega) (HG.out.keep hB).k (by have := HG.out.z.2; omega))
            rw [← HBL.out] at HA
            have HD := Lib.hid hD
            have HT := Lib.hid hT
            have HB := Lib.hid hB
            clear hD hS hT hB HBL HR hst
            go_wp2_with fail
            ((with_reducible refine HA.out.mono ?_); rintro e w5 ⟨⟨v5, rfl⟩, hg5, hs5⟩)
            have HS5 := Lib.hid hs5
            have HD5 := Lib.hid (HD.out.grown hg5 (by intro e; injection e with e; omega))
            have HT5 := Lib.hid (HT.out.grown hg5 (by intro e; injection e with e; omega))
            have HB5 := Lib.hid (HB.out.grown hg5 HB.out.size (fun k e => by injection e with e; omega))
            clear hg5 hs5 HA HD HT HB
            go_wp2_with fail
            exact ⟨⟨_, .inr (⟨_, _, rfl, rfl⟩), HD5.out, HS5.out, HT5.out, HB5.out⟩, by simp [slLen]⟩
          · rw [hst] at hS
            have HSUM2 := Lib.hid HSUM.out
            rw [HTN.out] at HSUM2
            have HB := Lib.hid hB
            have HD := Lib.hid hD
            obtain ⟨SF, hSF⟩ : ∃ SF, Dg.blocks K S1 T 1 = SF := ⟨_, rfl⟩
            have HSF := Lib.hid (show Dg.sum K I l = Dg.bytes SF from by rw [← hSF]; exact HSUM2.out)
            rw [hSF] at hS
            obtain ⟨m0, m1, m2, m3, m4, m5, m6, m7⟩ := Dg.sc_cells hS
            clear hD hS hT hB hSF HSUM HSUM2 HTN HXL hst
            go_wp2_with fail
            clear m0 m1 m2 m3 m4 m5 m6 m7
            go_loopw [54] (fun i w' => ∃ k : Nat, k ≤ 8 ∧ i = .int .i64 k ∧ Has w' w.heap.size 23 (Dg.dc SF k) ∧ Below w.heap.size w w') (fun i _ => 8 - (intOf i).toNat)
            case atStart => exact ⟨0, by omega, rfl, HD.out, HB.out⟩
            case round =>
              clear HD HB
              obtain ⟨k, hk, rfl, hD, hB⟩ := hrel
              by_cases hk8 : k < 8
              · obtain ⟨v, hix, hdp⟩ := Dg.word_of SF k hk8
                have HP := Lib.hid (Dg.put_any wr w.heap.size (4 * k) 4 (32 - 4 * k) 23 (Dg.dc SF k) v.toNat hD (by rw [Dg.dc_len SF k hk]; omega) (by omega) (by have := v.toNat_lt; omega))
                rw [hdp] at HP
                have HB := Lib.hid hB
                have hsl := Dg.slice_at w.heap.size k hk8
                have hvl : v.toNat < 4294967296 := v.toNat_lt
                clear hD hB hdp
                go_wp2_with fail
                ((with_reducible refine HP.out.mono ?_); rintro e w6 ⟨⟨v6, rfl⟩, hg6, hs6⟩)
                have HD6 := Lib.hid hs6
                have HB6 := Lib.hid (HB.out.grown hg6 HB.out.size (fun k e => by injection e with e; omega))
                clear hg6 hs6 HP HB hix hsl
                go_wp2_with fail
                exact ⟨⟨k + 1, by omega, by go_num, HD6.out, HB6.out⟩, by simp [intOf]; omega⟩
              · have hk' : k = 8 := by omega
                rw [hk', Dg.dc_all, ← HSF.out] at hD
                have HB := Lib.hid hB
                have HD := Lib.hid hD
                obtain ⟨D, hDD⟩ : ∃ D, ((Dg.sum K I l).map Dg.b8).toArray = D := ⟨_, rfl⟩
                have hsz : D.size = 32 := by rw [← hDD]; simp [Dg.sum_len]
                have h1c : D.all (·.oneCell') = true := by rw [← hDD]; exact all_oneCell_toArray (one_bytes _)
                have HDD := Lib.hid hDD
                have HDH := Lib.hid (show wr.heap[w.heap.size]? = some (.cells D 23 (0, 0)) from by rw [← hDD]; exact HD.out)
                have HSZ := Lib.hid hsz
                have H1C := Lib.hid h1c
                have hi31 : (Tryd.prog.info? 23).map (·.size) = some 32 := by kernel_rfl
                rw [← hsz] at hi31
                have HI := Lib.hid hi31
                clear hD hB hk' hDD hsz h1c hi31 HSF
                go_wp2_with (first
                  | (with_reducible refine wpList_load_row rfl 23 (.tmp 2) rfl w.heap.size rfl 23 D (0, 0) _ HDH.out Tryd.underlying23 rfl HI.out ?_)
                  | (with_reducible refine wpList_store_row rfl 23 (.tmp 2) (.tmp 68) rfl w.heap.size D rfl rfl 23 D HDH.out HI.out rfl H1C.out ?_))
                have HF := Lib.hid (setRow_heap wr w.heap.size D D 23 (0, 0) HDH.out)
                refine bodyPost_ret (results_cell_row rfl _ _ w.heap.size 23 D (0, 0) _ rfl HF.out Tryd.underlying23 rfl HI.out) rfl ?_
                exact ⟨by rw [HDD.out], below_setRow HB.out (Nat.le_refl _) _⟩
end Go.Proofs.YtideglpjgplpnaaDoor
