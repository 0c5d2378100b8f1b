import Derived.Test.YtideglpjgplpnaaDoorMDgR1
import Derived.Test.YtideglpjgplpnaaDoorMUtil
import Derived.Test.YtideglpjgplpnaaDoorMCdW1
import Derived.Deep.RegionWith
import Derived.Test.YtideglpjgplpnaaDoorMDgP
import Derived.Test.YtideglpjgplpnaaDoorMDgW5
import Derived.Test.YtideglpjgplpnaaDoorMDgW6
/- Contract of the reference's digest: the bytes with their end. -/
namespace Go.Proofs.YtideglpjgplpnaaDoor
open Go.RowKit
set_option linter.unusedVariables false

theorem ownsRow_slice {w : World} {base e size n : Nat} {v : Value} {xs : List Value} (h : w.ownsRow base e size v n xs) : ∃ A c, v = .slice A n c := by
  rcases h.2 with ⟨e, h0⟩ | ⟨g, c, cur, hv, _⟩
  · exact ⟨none, 0, by rw [e, h0]⟩
  · exact ⟨_, c, hv⟩
theorem Dg.zeros_at (n z : Nat) (hz : z ≤ Dg.zeros n) : (n + 1 + z) % 64 = 56 ↔ z = Dg.zeros n := by
  unfold Dg.zeros at *
  omega
theorem Dg.zeros_lt (n : Nat) : Dg.zeros n < 64 := by unfold Dg.zeros; omega
/-- the bytes, the mark and so many zeros -/
def Dg.pz (b : List UInt8) (z : Nat) : List UInt8 := b ++ [0x80] ++ List.replicate z 0
theorem Dg.pz_succ (b : List UInt8) (z : Nat) : Dg.pz b z ++ [0] = Dg.pz b (z + 1) := by
  unfold Dg.pz
  rw [List.replicate_succ', List.append_assoc]
theorem Dg.pz_len (b : List UInt8) (z : Nat) : (Dg.pz b z).length = b.length + 1 + z := by simp [Dg.pz]; omega
set_option maxRecDepth 100000 in
set_option maxHeartbeats 8000000 in
theorem Dg.rpad_any (w : World) (A : Option Addr) (n c : Nat) (l : List UInt8) (hr : RdB w A n l) (hnil : A = none → c = 0) (hn : n ≤ 140737488350000) :
    Calls Tryd.prog 105 #[.slice A n c] w fun e w' => ∃ A' n' c', e = .returned (.slice A' n' c') ∧ Below w.heap.size w w' ∧ w'.ownsRow w.heap.size 5 1 (.slice A' n' c') n' ((Dg.padded l).map Dg.b8) := by
  have hl := hr.len
  have HR := Lib.hid hr
  have HNL := Lib.hid hnil
  clear hr hnil
  have OW0 := Lib.hid (show (w.alloc (.cells #[] 5)).ownsRow w.heap.size 5 1 (.slice (some ⟨w.heap.size, 0, none⟩) 0 0) 0 [] from World.ownsRow_lit (base := w.heap.size) (e := 5) (size := 1) w #[] 0 (Nat.le_refl _) (by decide) rfl)
  have BB0 := Lib.hid (show Below w.heap.size w (w.alloc (.cells #[] 5)) from (Below.refl _ w).alloc (Nat.le_refl _) _)
  have SR0 := Lib.hid (HR.out.keep BB0.out)
  go_enter Tryd.func105, Tryd.ntmps105
  go_upto_region 2 with (first
    | (at_builtin; refine wpList_append_rd rfl (.tmp 6) (.tmp 7) rfl el27 rfl OW0.out rfl SR0.out (one_bytes l) HNL.out (by simp only [maxLen]; omega) (by omega) (by simp) ?_; intro v1 w1 hG1
       have hB1 : Below w.heap.size w w1 := BB0.out.grown hG1.grown (by simp) (fun k e => own_ge OW0.out e)
       have HG1 := Lib.hid hG1
       have HB1 := Lib.hid hB1
       have hO1 := hG1.own
       have hz1 : w.heap.size ≤ w1.heap.size := hB1.size
       clear hB1 hG1)
    | (at_builtin; refine wpList_append_rd rfl (.tmp 8) (.tmp 9) rfl el27 rfl (hO1.alloc _) rfl (rd_new w1 5 1 [.int .u8 128] rfl) (by simp [Value.oneCell']) (fun h => by (cases h)) (by simp only [maxLen]; omega) (by omega) (by simp; omega) ?_; intro v2 w2 hG2))
  have hB2 : Below w.heap.size w w2 := (HB1.out.alloc hz1 _).grown hG2.grown (by simp; omega) (fun k e => own_ge hO1 e)
  have HO2 := Lib.hid (show w2.ownsRow w.heap.size 5 1 v2 (n + 1) ((Dg.pz l 0).map Dg.b8) from by
    have h := hG2.own
    rw [Nat.zero_add] at h
    have e : ([] ++ l.map Dg.b8) ++ [Value.int .u8 128] = (Dg.pz l 0).map Dg.b8 := by simp [Dg.pz]
    rw [← e]
    exact h)
  have HB2 := Lib.hid hB2
  clear hO1 hz1 hG2 HG1 HB1 hB2 SR0 BB0 OW0
  go_loopw [3] (fun v wr => ∃ z A' c', z ≤ Dg.zeros n ∧ v = .slice A' (n + 1 + z) c' ∧ wr.ownsRow w.heap.size 5 1 (.slice A' (n + 1 + z) c') (n + 1 + z) ((Dg.pz l z).map Dg.b8) ∧ Below w.heap.size w wr) (fun v _ => 64 - ((match v with | .slice _ m _ => m | _ => 0) - (n + 1)))
  case atStart =>
    obtain ⟨A2, c2, rfl⟩ := ownsRow_slice HO2.out
    exact ⟨0, A2, c2, by omega, rfl, HO2.out, HB2.out⟩
  case round =>
    clear HO2 HB2
    obtain ⟨z, A', c', hz, rfl, hO, hB⟩ := hrel
    have hzl := Dg.zeros_lt n
    have hat := Dg.zeros_at n z hz
    have HO := Lib.hid hO
    have HB := Lib.hid hB
    have hz1 : w.heap.size ≤ wr.heap.size := hB.size
    clear hO hB
    by_cases hlt : z < Dg.zeros n
    · have hne : ¬ (n + 1 + z) % 64 = 56 := fun h => by have := hat.1 h; omega
      go_wp2_with (first
        | (at_builtin; refine wpList_append_rd rfl (.tmp 15) (.tmp 16) rfl el27 rfl (HO.out.alloc _) rfl (rd_new wr 5 1 [.int .u8 0] rfl) (by simp [Value.oneCell']) (fun h => by (cases h)) (by simp only [maxLen]; omega) (by omega) (by simp; omega) ?_; intro v2 w2 hG2))
      have hB2 : Below w.heap.size w w2 := (HB.out.alloc hz1 _).grown hG2.grown (by simp; omega) (fun k e => own_ge HO.out e)
      have h := hG2.own
      rw [show (Dg.pz l z).map Dg.b8 ++ [Value.int .u8 0] = (Dg.pz l (z + 1)).map Dg.b8 from by rw [← Dg.pz_succ, List.map_append]; rfl] at h
      obtain ⟨A2, c2, rfl⟩ := ownsRow_slice h
      exact ⟨⟨z + 1, A2, c2, by omega, rfl, h, hB2⟩, by simp; omega⟩
    · have hze : z = Dg.zeros n := by omega
      have heq : (n + 1 + z) % 64 = 56 := hat.2 hze
      have hmul : IntKind.u64.wrap ((n : Int) * 8) = ((8 * n : Nat) : Int) := by
        rw [show (n : Int) * 8 = ((8 * n : Nat) : Int) by omega]
        simp [IntKind.wrap, IntKind.bits, IntKind.signed]
        omega
      have hcv : IntKind.u64.wrap (n : Int) = (n : Int) := by
        simp [IntKind.wrap, IntKind.bits, IntKind.signed]
        omega
      have HZE := Lib.hid hze
      clear hat hze hlt
      go_wp2_with fail
      rw [show (((n : Int) + 1 + (z : Int)) % 64 != 56) = false from by
        have h : ((n : Int) + 1 + (z : Int)) % 64 = 56 := by omega
        rw [h]; rfl]
      go_loopw [3, 5] (fun v i wr => ∃ j A' c', j ≤ 8 ∧ i = .int .i64 (7 - (j : Nat)) ∧ v = .slice A' (n + 1 + z + j) c' ∧ wr.ownsRow w.heap.size 5 1 (.slice A' (n + 1 + z + j) c') (n + 1 + z + j) ((Dg.pz l z ++ (Dg.put8 (8 * n)).take j).map Dg.b8) ∧ Below w.heap.size w wr) (fun _ i _ => (intOf i + 1).toNat)
      case atStart => exact ⟨0, A', c', by omega, rfl, rfl, by simpa using HO.out, HB.out⟩
      case round =>
        clear HO HB
        obtain ⟨j, A1, c1, hj, rfl, rfl, hO, hB⟩ := hrel
        have HO := Lib.hid hO
        have HB := Lib.hid hB
        have hz1 : w.heap.size ≤ wr.heap.size := hB.size
        clear hO hB
        obtain rfl | rfl | rfl | rfl | rfl | rfl | rfl | rfl | rfl : j = 0 ∨ j = 1 ∨ j = 2 ∨ j = 3 ∨ j = 4 ∨ j = 5 ∨ j = 6 ∨ j = 7 ∨ j = 8 := by omega
        · go_wp2_with (first
            | (at_builtin; refine wpList_append_rd rfl (.tmp 26) (.tmp 32) rfl el27 rfl (HO.out.alloc _) rfl (rd_new wr 5 1 [_] rfl) (by simp [Value.oneCell']) (fun h => by (cases h)) (by simp only [maxLen]; omega) (by omega) (by simp; omega) ?_; intro v2 w2 hG2))
          have hB2 : Below w.heap.size w w2 := (HB.out.alloc hz1 _).grown hG2.grown (by simp; omega) (fun k e => own_ge HO.out e)
          have h := hG2.own
          have e : ∀ X : Int, X = ((UInt8.ofNat (8 * n / 72057594037927936 % 256)).toNat : Int) → (Dg.pz l z ++ (Dg.put8 (8 * n)).take 0).map Dg.b8 ++ [Value.int .u8 X] = (Dg.pz l z ++ (Dg.put8 (8 * n)).take 1).map Dg.b8 := fun X hX => by
            rw [hX, show (Dg.put8 (8 * n)).take 1 = (Dg.put8 (8 * n)).take 0 ++ [UInt8.ofNat (8 * n / 72057594037927936 % 256)] from rfl, ← List.append_assoc, List.map_append (l₁ := Dg.pz l z ++ (Dg.put8 (8 * n)).take 0)]
            rfl
          rw [e] at h
          · obtain ⟨A2, c2, rfl⟩ := ownsRow_slice h
            refine ⟨?_, by first | (simp [intOf]; done) | (simp [intOf]; omega)⟩
            exact ⟨1, A2, c2, by omega, rfl, rfl, h, hB2⟩
          · rw [UInt8.toNat_ofNat']; omega
        · go_wp2_with (first
            | (at_builtin; refine wpList_append_rd rfl (.tmp 26) (.tmp 32) rfl el27 rfl (HO.out.alloc _) rfl (rd_new wr 5 1 [_] rfl) (by simp [Value.oneCell']) (fun h => by (cases h)) (by simp only [maxLen]; omega) (by omega) (by simp; omega) ?_; intro v2 w2 hG2))
          have hB2 : Below w.heap.size w w2 := (HB.out.alloc hz1 _).grown hG2.grown (by simp; omega) (fun k e => own_ge HO.out e)
          have h := hG2.own
          have e : ∀ X : Int, X = ((UInt8.ofNat (8 * n / 281474976710656 % 256)).toNat : Int) → (Dg.pz l z ++ (Dg.put8 (8 * n)).take 1).map Dg.b8 ++ [Value.int .u8 X] = (Dg.pz l z ++ (Dg.put8 (8 * n)).take 2).map Dg.b8 := fun X hX => by
            rw [hX, show (Dg.put8 (8 * n)).take 2 = (Dg.put8 (8 * n)).take 1 ++ [UInt8.ofNat (8 * n / 281474976710656 % 256)] from rfl, ← List.append_assoc, List.map_append (l₁ := Dg.pz l z ++ (Dg.put8 (8 * n)).take 1)]
            rfl
          rw [e] at h
          · obtain ⟨A2, c2, rfl⟩ := ownsRow_slice h
            refine ⟨?_, by first | (simp [intOf]; done) | (simp [intOf]; omega)⟩
            exact ⟨2, A2, c2, by omega, rfl, rfl, h, hB2⟩
          · rw [UInt8.toNat_ofNat']; omega
        · go_wp2_with (first
            | (at_builtin; refine wpList_append_rd rfl (.tmp 26) (.tmp 32) rfl el27 rfl (HO.out.alloc _) rfl (rd_new wr 5 1 [_] rfl) (by simp [Value.oneCell']) (fun h => by (cases h)) (by simp only [maxLen]; omega) (by omega) (by simp; omega) ?_; intro v2 w2 hG2))
          have hB2 : Below w.heap.size w w2 := (HB.out.alloc hz1 _).grown hG2.grown (by simp; omega) (fun k e => own_ge HO.out e)
          have h := hG2.own
          have e : ∀ X : Int, X = ((UInt8.ofNat (8 * n / 1099511627776 % 256)).toNat : Int) → (Dg.pz l z ++ (Dg.put8 (8 * n)).take 2).map Dg.b8 ++ [Value.int .u8 X] = (Dg.pz l z ++ (Dg.put8 (8 * n)).take 3).map Dg.b8 := fun X hX => by
            rw [hX, show (Dg.put8 (8 * n)).take 3 = (Dg.put8 (8 * n)).take 2 ++ [UInt8.ofNat (8 * n / 1099511627776 % 256)] from rfl, ← List.append_assoc, List.map_append (l₁ := Dg.pz l z ++ (Dg.put8 (8 * n)).take 2)]
            rfl
          rw [e] at h
          · obtain ⟨A2, c2, rfl⟩ := ownsRow_slice h
            refine ⟨?_, by first | (simp [intOf]; done) | (simp [intOf]; omega)⟩
            exact ⟨3, A2, c2, by omega, rfl, rfl, h, hB2⟩
          · rw [UInt8.toNat_ofNat']; omega
        · go_wp2_with (first
            | (at_builtin; refine wpList_append_rd rfl (.tmp 26) (.tmp 32) rfl el27 rfl (HO.out.alloc _) rfl (rd_new wr 5 1 [_] rfl) (by simp [Value.oneCell']) (fun h => by (cases h)) (by simp only [maxLen]; omega) (by omega) (by simp; omega) ?_; intro v2 w2 hG2))
          have hB2 : Below w.heap.size w w2 := (HB.out.alloc hz1 _).grown hG2.grown (by simp; omega) (fun k e => own_ge HO.out e)
          have h := hG2.own
          have e : ∀ X : Int, X = ((UInt8.ofNat (8 * n / 4294967296 % 256)).toNat : Int) → (Dg.pz l z ++ (Dg.put8 (8 * n)).take 3).map Dg.b8 ++ [Value.int .u8 X] = (Dg.pz l z ++ (Dg.put8 (8 * n)).take 4).map Dg.b8 := fun X hX => by
            rw [hX, show (Dg.put8 (8 * n)).take 4 = (Dg.put8 (8 * n)).take 3 ++ [UInt8.ofNat (8 * n / 4294967296 % 256)] from rfl, ← List.append_assoc, List.map_append (l₁ := Dg.pz l z ++ (Dg.put8 (8 * n)).take 3)]
            rfl
          rw [e] at h
          · obtain ⟨A2, c2, rfl⟩ := ownsRow_slice h
            refine ⟨?_, by first | (simp [intOf]; done) | (simp [intOf]; omega)⟩
            exact ⟨4, A2, c2, by omega, rfl, rfl, h, hB2⟩
          · rw [UInt8.toNat_ofNat']; omega
        · go_wp2_with (first
            | (at_builtin; refine wpList_append_rd rfl (.tmp 26) (.tmp 32) rfl el27 rfl (HO.out.alloc _) rfl (rd_new wr 5 1 [_] rfl) (by simp [Value.oneCell']) (fun h => by (cases h)) (by simp only [maxLen]; omega) (by omega) (by simp; omega) ?_; intro v2 w2 hG2))
          have hB2 : Below w.heap.size w w2 := (HB.out.alloc hz1 _).grown hG2.grown (by simp; omega) (fun k e => own_ge HO.out e)
          have h := hG2.own
          have e : ∀ X : Int, X = ((UInt8.ofNat (8 * n / 16777216 % 256)).toNat : Int) → (Dg.pz l z ++ (Dg.put8 (8 * n)).take 4).map Dg.b8 ++ [Value.int .u8 X] = (Dg.pz l z ++ (Dg.put8 (8 * n)).take 5).map Dg.b8 := fun X hX => by
            rw [hX, show (Dg.put8 (8 * n)).take 5 = (Dg.put8 (8 * n)).take 4 ++ [UInt8.ofNat (8 * n / 16777216 % 256)] from rfl, ← List.append_assoc, List.map_append (l₁ := Dg.pz l z ++ (Dg.put8 (8 * n)).take 4)]
            rfl
          rw [e] at h
          · obtain ⟨A2, c2, rfl⟩ := ownsRow_slice h
            refine ⟨?_, by first | (simp [intOf]; done) | (simp [intOf]; omega)⟩
            exact ⟨5, A2, c2, by omega, rfl, rfl, h, hB2⟩
          · rw [UInt8.toNat_ofNat']; omega
        · go_wp2_with (first
            | (at_builtin; refine wpList_append_rd rfl (.tmp 26) (.tmp 32) rfl el27 rfl (HO.out.alloc _) rfl (rd_new wr 5 1 [_] rfl) (by simp [Value.oneCell']) (fun h => by (cases h)) (by simp only [maxLen]; omega) (by omega) (by simp; omega) ?_; intro v2 w2 hG2))
          have hB2 : Below w.heap.size w w2 := (HB.out.alloc hz1 _).grown hG2.grown (by simp; omega) (fun k e => own_ge HO.out e)
          have h := hG2.own
          have e : ∀ X : Int, X = ((UInt8.ofNat (8 * n / 65536 % 256)).toNat : Int) → (Dg.pz l z ++ (Dg.put8 (8 * n)).take 5).map Dg.b8 ++ [Value.int .u8 X] = (Dg.pz l z ++ (Dg.put8 (8 * n)).take 6).map Dg.b8 := fun X hX => by
            rw [hX, show (Dg.put8 (8 * n)).take 6 = (Dg.put8 (8 * n)).take 5 ++ [UInt8.ofNat (8 * n / 65536 % 256)] from rfl, ← List.append_assoc, List.map_append (l₁ := Dg.pz l z ++ (Dg.put8 (8 * n)).take 5)]
            rfl
          rw [e] at h
          · obtain ⟨A2, c2, rfl⟩ := ownsRow_slice h
            refine ⟨?_, by first | (simp [intOf]; done) | (simp [intOf]; omega)⟩
            exact ⟨6, A2, c2, by omega, rfl, rfl, h, hB2⟩
          · rw [UInt8.toNat_ofNat']; omega
        · go_wp2_with (first
            | (at_builtin; refine wpList_append_rd rfl (.tmp 26) (.tmp 32) rfl el27 rfl (HO.out.alloc _) rfl (rd_new wr 5 1 [_] rfl) (by simp [Value.oneCell']) (fun h => by (cases h)) (by simp only [maxLen]; omega) (by omega) (by simp; omega) ?_; intro v2 w2 hG2))
          have hB2 : Below w.heap.size w w2 := (HB.out.alloc hz1 _).grown hG2.grown (by simp; omega) (fun k e => own_ge HO.out e)
          have h := hG2.own
          have e : ∀ X : Int, X = ((UInt8.ofNat (8 * n / 256 % 256)).toNat : Int) → (Dg.pz l z ++ (Dg.put8 (8 * n)).take 6).map Dg.b8 ++ [Value.int .u8 X] = (Dg.pz l z ++ (Dg.put8 (8 * n)).take 7).map Dg.b8 := fun X hX => by
            rw [hX, show (Dg.put8 (8 * n)).take 7 = (Dg.put8 (8 * n)).take 6 ++ [UInt8.ofNat (8 * n / 256 % 256)] from rfl, ← List.append_assoc, List.map_append (l₁ := Dg.pz l z ++ (Dg.put8 (8 * n)).take 6)]
            rfl
          rw [e] at h
          · obtain ⟨A2, c2, rfl⟩ := ownsRow_slice h
            refine ⟨?_, by first | (simp [intOf]; done) | (simp [intOf]; omega)⟩
            exact ⟨7, A2, c2, by omega, rfl, rfl, h, hB2⟩
          · rw [UInt8.toNat_ofNat']; omega
        · go_wp2_with (first
            | (at_builtin; refine wpList_append_rd rfl (.tmp 26) (.tmp 32) rfl el27 rfl (HO.out.alloc _) rfl (rd_new wr 5 1 [_] rfl) (by simp [Value.oneCell']) (fun h => by (cases h)) (by simp only [maxLen]; omega) (by omega) (by simp; omega) ?_; intro v2 w2 hG2))
          have hB2 : Below w.heap.size w w2 := (HB.out.alloc hz1 _).grown hG2.grown (by simp; omega) (fun k e => own_ge HO.out e)
          have h := hG2.own
          have e : ∀ X : Int, X = ((UInt8.ofNat (8 * n / 1 % 256)).toNat : Int) → (Dg.pz l z ++ (Dg.put8 (8 * n)).take 7).map Dg.b8 ++ [Value.int .u8 X] = (Dg.pz l z ++ (Dg.put8 (8 * n)).take 8).map Dg.b8 := fun X hX => by
            rw [hX, show (Dg.put8 (8 * n)).take 8 = (Dg.put8 (8 * n)).take 7 ++ [UInt8.ofNat (8 * n / 1 % 256)] from rfl, ← List.append_assoc, List.map_append (l₁ := Dg.pz l z ++ (Dg.put8 (8 * n)).take 7)]
            rfl
          rw [e] at h
          · obtain ⟨A2, c2, rfl⟩ := ownsRow_slice h
            refine ⟨?_, by first | (simp [intOf]; done) | (simp [intOf]; omega)⟩
            exact ⟨8, A2, c2, by omega, rfl, rfl, h, hB2⟩
          · rw [UInt8.toNat_ofNat']; omega
        · have HP := Lib.hid (show Dg.pz l z ++ (Dg.put8 (8 * n)).take 8 = Dg.padded l from by
            rw [HZE.out, show (Dg.put8 (8 * n)).take 8 = Dg.put8 (8 * n) from rfl]
            unfold Dg.pz Dg.padded
            rw [hl])
          rw [HP.out] at HO
          go_wp2_with fail
          go_ret
          exact ⟨_, _, _, rfl, HB.out, HO.out⟩
end Go.Proofs.YtideglpjgplpnaaDoor
/- Contract of the reference's digest: Sum. -/
namespace Go.Proofs.YtideglpjgplpnaaDoor
open Go.RowKit
set_option linter.unusedVariables false

/-- the digest's cells, the first k bytes of it written -/
def Dg.bc (s : Dg.S) (k : Nat) : List Value := ((Dg.bytes s).take k).map Dg.b8 ++ List.replicate (32 - k) (.int .u8 0)
theorem Dg.bc_some (s : Dg.S) (k : Nat) (h : k < 32) : (Dg.bc s k)[k]? = some (.int .u8 0) := by
  unfold Dg.bc
  rw [List.getElem?_append_right (by simp [Dg.bytes_len]; omega), List.getElem?_replicate]
  simp [Dg.bytes_len]
  omega
theorem Dg.bc_set (s : Dg.S) (k : Nat) (h : k < 32) : (Dg.bc s k).set k (Dg.b8 (Dg.bytes s)[k]!) = Dg.bc s (k + 1) := by
  unfold Dg.bc
  have hl := Dg.bytes_len s
  rw [List.set_append_right _ _ (by simp [hl]; omega), List.take_add_one, List.getElem?_eq_getElem (by omega), getElem!_def, List.getElem?_eq_getElem (by omega)]
  have e : k - (((Dg.bytes s).take k).map Dg.b8).length = 0 := by simp [hl]; omega
  rw [e, show 32 - k = (32 - (k + 1)) + 1 by omega, List.replicate_succ, List.map_append, List.append_assoc]
  rfl
theorem Dg.bc_all (s : Dg.S) : Dg.bc s 32 = (Dg.bytes s).map Dg.b8 := by
  unfold Dg.bc
  rw [List.take_of_length_le (by rw [Dg.bytes_len]; omega)]
  simp
theorem Dg.sc_at (s : Dg.S) (q : Nat) (h : q < 8) : (Dg.sc s)[q]? = some (.int .u32 (((Dg.sl s)[q]!).toNat : Int)) := by
  match q, h with
  | 0, _ => rfl
  | 1, _ => rfl
  | 2, _ => rfl
  | 3, _ => rfl
  | 4, _ => rfl
  | 5, _ => rfl
  | 6, _ => rfl
  | 7, _ => rfl
theorem Dg.byte_at (s : Dg.S) (q r : Nat) (hr : r < 4) : q < 8 → IntKind.u8.wrap ((((Dg.sl s)[q]!).toNat : Int) / 2 ^ (8 * (3 - r))) = (((Dg.bytes s)[4 * q + r]!).toNat : Int) := fun hq => by
  rw [Dg.byte]
  have e : (Dg.bytes s)[4 * q + r]! = UInt8.ofNat (((Dg.sl s)[q]!).toNat / 256 ^ (3 - r) % 256) := by
    obtain rfl | rfl | rfl | rfl : r = 0 ∨ r = 1 ∨ r = 2 ∨ r = 3 := by omega
    all_goals
      match q, hq with
      | 0, _ => rfl
      | 1, _ => rfl
      | 2, _ => rfl
      | 3, _ => rfl
      | 4, _ => rfl
      | 5, _ => rfl
      | 6, _ => rfl
      | 7, _ => rfl
  rw [e]
theorem Dg.run_z32 (W : World) : (Instr.build 23 #[]).run Tryd.prog W = .ok (.agg Dg.z32.toArray) W := run_build W _ _ _ (by kernel_rfl)
set_option maxRecDepth 100000 in
set_option maxHeartbeats 8000000 in
theorem Dg.rsum_any (w : World) (A : Option Addr) (n c : Nat) (l : List UInt8) (hr : RdB w A n l) (hnil : A = none → c = 0) (hn : n ≤ 140737488350000) :
    Calls Tryd.prog 81 #[.slice A n c] w fun e w' => e = .returned (.agg ((Dg.sum Rc.K0 Rc.I0 l).map Dg.b8).toArray) ∧ Below w.heap.size w w' := by
  obtain ⟨W1, hW1⟩ : ∃ W1, W1 = (w.alloc (.cells Dg.z32.toArray 23)).alloc (.cells (Dg.sc Rc.I0).toArray 94) := ⟨_, rfl⟩
  have HS1 := Lib.hid (show St w W1 [(w.heap.size + 1, 94, Dg.sc Rc.I0), (w.heap.size, 23, Dg.z32)] from by
    rw [hW1]
    have h := ((St.start w).new 23 Dg.z32).new 94 (Dg.sc Rc.I0)
    simp only [World.size_alloc] at h
    exact h)
  have HPD := Lib.hid (Dg.rpad_any W1 A n c l (hr.keep HS1.out.below) hnil hn)
  have HFIN := Lib.hid (show Dg.sum Rc.K0 Rc.I0 l = Dg.bytes (Dg.blocks Rc.K0 Rc.I0 (Dg.padded l) ((Dg.padded l).length / 64)) from rfl)
  have HPL := Lib.hid (Dg.padded_len l)
  have HPN := Lib.hid (show (Dg.padded l).length ≤ 140737488350200 from by
    have := hr.len
    unfold Dg.padded Dg.zeros Dg.put8
    simp only [List.length_append, List.length_replicate, List.length_cons, List.length_nil, List.length_map, List.length_range]
    omega)
  generalize Dg.padded l = P at HPD HFIN HPL HPN
  generalize Dg.sum Rc.K0 Rc.I0 l = R at HFIN ⊢
  have HZ1 := Lib.hid (show W1.heap.size = w.heap.size + 2 from by rw [hW1]; simp)
  clear hr hnil hn
  go_enter Tryd.func81, Tryd.ntmps81
  go_upto_region 2 with fail
  change Code.wp _ _ _ _ ((w.alloc (.cells Dg.z32.toArray 23)).alloc (.cells (Dg.sc Rc.I0).toArray 94))
  rw [← hW1]
  clear hW1
  go_wp2_with fail
  (refine HPD.out.mono ?_; rintro e w2 ⟨A2, n2, c2, rfl, hb2, hO⟩)
  have hn2 : P.length = n2 := by have := hO.1; simpa using this
  have HS2 := Lib.hid (HS1.out.keep hb2)
  have HR2 := Lib.hid (show RdB w2 A2 n2 P from rd_of_own hO)
  clear hb2 HS1 HPD
  obtain ⟨hc1, hc2⟩ := Rc.own_caps hO
  unfold maxLen at hc2
  rw [hn2] at HFIN HPL HPN
  have hpl := HPL.out
  have hpn := HPN.out
  have HFA := Lib.hid (show Fresh (w.heap.size + 2) A2 from by
    have h := own_fresh hO
    rwa [HZ1.out] at h)
  clear hO HPL HPN
  go_wp2_with fail
  go_loopw [5] (fun i wr => ∃ m s, m ≤ n2 / 64 ∧ i = .int .i64 ((64 * m : Nat) : Int) ∧ s = Dg.blocks Rc.K0 Rc.I0 P m ∧ Has wr (w.heap.size + 1) 94 (Dg.sc s) ∧ St w wr [(w.heap.size, 23, Dg.z32)] ∧ RdB wr A2 n2 P) (fun i _ => n2 - (intOf i).toNat)
  case atStart => exact ⟨0, Rc.I0, by omega, rfl, rfl, HS2.out.nth 0 rfl, HS2.out.less (fun x hx => .tail _ hx), HR2.out⟩
  case round =>
    clear HS2 HR2
    obtain ⟨m, s, hm, rfl, hs, hT, hS, hR⟩ := hrel
    by_cases hlt : m < n2 / 64
    · obtain ⟨b, off, rfl, hb, hcell⟩ := hR.2 (by omega)
      have HRB := Lib.hid (show ∀ W', (∀ p : Addr, p.block < wr.heap.size → W'.cell? p = wr.cell? p) → wr.heap.size ≤ W'.heap.size → RdB W' (some ⟨b, off + 64 * m, none⟩) 64 ((P.drop (64 * m)).take 64) from fun W' hw hz => by
        refine ⟨by simp; omega, fun _ => ⟨b, off + 64 * m, rfl, Nat.lt_of_lt_of_le hb hz, fun j u hu => ?_⟩⟩
        have hj : j < 64 := by
          have := (List.getElem?_eq_some_iff.1 hu).1
          simp at this
          omega
        rw [List.map_take, List.getElem?_take_of_lt hj, List.map_drop, List.getElem?_drop] at hu
        have h2 := (hw ⟨b, off + (64 * m + j), none⟩ hb).trans (hcell (64 * m + j) u hu)
        rw [show off + 64 * m + j = off + (64 * m + j) by omega]
        exact h2)
      have HST := Lib.hid (show Dg.blocks Rc.K0 Rc.I0 P (m + 1) = Dg.absorb Rc.K0 s ((P.drop (64 * m)).take 64) from by rw [hs]; rfl)
      have HBK := Lib.hid (Dg.rblock_any wr.drew s (some ⟨b, off + 64 * m, none⟩) 64 (c2 - 64 * m) ((P.drop (64 * m)).take 64) (HRB.out wr.drew (fun _ _ => rfl) (Nat.le_refl _)) (by omega) (by omega) (by unfold maxLen; omega))
      generalize Dg.absorb Rc.K0 s ((P.drop (64 * m)).take 64) = s' at HST HBK
      obtain ⟨m0, m1, m2, m3, m4, m5, m6, m7⟩ := Dg.sc_cells hT
      have HT := Lib.hid hT
      have HS := Lib.hid hS
      have HR := Lib.hid hR
      have q1 : IntKind.i64.wrap (64 * (m : Int) + 64) = 64 * (m : Int) + 64 := IntWalk.i64_in _ (by omega)
      have hl1 : 64 * (m : Int) < (n2 : Int) := by omega
      have hl2 : (0 : Int) ≤ 64 * (m : Int) := by omega
      have hl3 : 64 * (m : Int) ≤ 64 * (m : Int) + 64 := by omega
      have hl4 : 64 * (m : Int) + 64 ≤ (c2 : Int) := by omega
      have hl5 : (0 : Int) ≤ 64 * (m : Int) + 64 := by omega
      have t1 : (64 * (m : Int)).toNat = 64 * m := by omega
      have t2 : (64 * (m : Int) + 64).toNat = 64 * m + 64 := by omega
      have t3 : 64 * m + 64 - 64 * m = 64 := by omega
      have t4 : ¬ c2 = 64 * m := by omega
      have hz5 := hT.lt
      unfold Dg.sc Dg.v at HBK
      clear hT hS hR hs hcell HRB
      go_wp2_with fail
      go_region_with (first
        | (go_at_call 106
           refine (HBK.out).mono ?_
           rintro e w5 ⟨rfl, hb5⟩
           have g5 := HT.out.drew.keep hb5
           obtain ⟨n0, n1, n2', n3, n4, n5, n6, n7⟩ := Dg.sc_cells g5
           have f0 := g5.frozen 0
           have f1 := g5.frozen 1
           have f2 := g5.frozen 2
           have f3 := g5.frozen 3
           have f4 := g5.frozen 4
           have f5 := g5.frozen 5
           have f6 := g5.frozen 6
           have f7 := g5.frozen 7
           have HG5 := Lib.hid g5
           have HS5 := Lib.hid (HS.out.drew.keep hb5)
           have HR5 := Lib.hid (HR.out.keep ((Below.refl _ wr).drew.trans hb5))
           clear g5 hb5))
      have HT6 := Lib.hid ((((((((HG5.out.set 0 (.int .u32 (s'.a.toNat : Int))).set 1 (.int .u32 (s'.b.toNat : Int))).set 2 (.int .u32 (s'.c.toNat : Int))).set 3 (.int .u32 (s'.d.toNat : Int))).set 4 (.int .u32 (s'.e.toNat : Int))).set 5 (.int .u32 (s'.f.toNat : Int))).set 6 (.int .u32 (s'.g.toNat : Int))).set 7 (.int .u32 (s'.h.toNat : Int)))
      have HR6 := Lib.hid (RdB.kept HR5.out (grown_setCell (grown_setCell (grown_setCell (grown_setCell (grown_setCell (grown_setCell (grown_setCell (grown_setCell (grown_refl w5 (some (w.heap.size + 1))) 0 (.int .u32 (s'.a.toNat : Int))) 1 (.int .u32 (s'.b.toNat : Int))) 2 (.int .u32 (s'.c.toNat : Int))) 3 (.int .u32 (s'.d.toNat : Int))) 4 (.int .u32 (s'.e.toNat : Int))) 5 (.int .u32 (s'.f.toNat : Int))) 6 (.int .u32 (s'.g.toNat : Int))) 7 (.int .u32 (s'.h.toNat : Int))) (fun b' off' e he => by
        have h1 := HFA.out b' off' e
        injection he with he
        omega))
      have HS6 := Lib.hid (show St w _ [(w.heap.size, 23, Dg.z32)] from ⟨((((((((HS5.out.below.setCell (p := ⟨w.heap.size + 1, 0, none⟩) (by show w.heap.size ≤ w.heap.size + 1; omega) (.int .u32 (s'.a.toNat : Int))).setCell (p := ⟨w.heap.size + 1, 1, none⟩) (by show w.heap.size ≤ w.heap.size + 1; omega) (.int .u32 (s'.b.toNat : Int))).setCell (p := ⟨w.heap.size + 1, 2, none⟩) (by show w.heap.size ≤ w.heap.size + 1; omega) (.int .u32 (s'.c.toNat : Int))).setCell (p := ⟨w.heap.size + 1, 3, none⟩) (by show w.heap.size ≤ w.heap.size + 1; omega) (.int .u32 (s'.d.toNat : Int))).setCell (p := ⟨w.heap.size + 1, 4, none⟩) (by show w.heap.size ≤ w.heap.size + 1; omega) (.int .u32 (s'.e.toNat : Int))).setCell (p := ⟨w.heap.size + 1, 5, none⟩) (by show w.heap.size ≤ w.heap.size + 1; omega) (.int .u32 (s'.f.toNat : Int))).setCell (p := ⟨w.heap.size + 1, 6, none⟩) (by show w.heap.size ≤ w.heap.size + 1; omega) (.int .u32 (s'.g.toNat : Int))).setCell (p := ⟨w.heap.size + 1, 7, none⟩) (by show w.heap.size ≤ w.heap.size + 1; omega) (.int .u32 (s'.h.toNat : Int))), fun x hx => by
        have hx1 : x.1 = w.heap.size := by
          simp only [List.mem_cons, List.not_mem_nil, or_false] at hx
          rw [hx]
        exact (((((((((HS5.out.has x hx).far (p := ⟨w.heap.size + 1, 0, none⟩) (by show x.1 ≠ w.heap.size + 1; omega) (.int .u32 (s'.a.toNat : Int))).far (p := ⟨w.heap.size + 1, 1, none⟩) (by show x.1 ≠ w.heap.size + 1; omega) (.int .u32 (s'.b.toNat : Int))).far (p := ⟨w.heap.size + 1, 2, none⟩) (by show x.1 ≠ w.heap.size + 1; omega) (.int .u32 (s'.c.toNat : Int))).far (p := ⟨w.heap.size + 1, 3, none⟩) (by show x.1 ≠ w.heap.size + 1; omega) (.int .u32 (s'.d.toNat : Int))).far (p := ⟨w.heap.size + 1, 4, none⟩) (by show x.1 ≠ w.heap.size + 1; omega) (.int .u32 (s'.e.toNat : Int))).far (p := ⟨w.heap.size + 1, 5, none⟩) (by show x.1 ≠ w.heap.size + 1; omega) (.int .u32 (s'.f.toNat : Int))).far (p := ⟨w.heap.size + 1, 6, none⟩) (by show x.1 ≠ w.heap.size + 1; omega) (.int .u32 (s'.g.toNat : Int))).far (p := ⟨w.heap.size + 1, 7, none⟩) (by show x.1 ≠ w.heap.size + 1; omega) (.int .u32 (s'.h.toNat : Int)))⟩)
      clear HT HS HR HG5 HS5 HR5 m0 m1 m2 m3 m4 m5 m6 m7 n0 n1 n2' n3 n4 n5 n6 n7 f0 f1 f2 f3 f4 f5 f6 f7
      go_wp2_with fail
      exact ⟨⟨m + 1, s', by omega, by go_num, HST.out.symm, HT6.out, HS6.out, HR6.out⟩, by simp [intOf]; omega⟩
    · have hme : m = n2 / 64 := by omega
      have HRE := Lib.hid (show R = Dg.bytes s from by rw [HFIN.out, hs, hme])
      have HT := Lib.hid hT
      have HS := Lib.hid hS
      have HN := Lib.hid (show (wr.alloc (.cells Dg.z32.toArray 23)).heap[wr.heap.size]? = some (.cells Dg.z32.toArray 23 (0, 0)) from World.alloc_heap_new _ _)
      have HI := Lib.hid (show (Tryd.prog.info? 23).map (·.size) = some Dg.z32.toArray.size from by kernel_rfl)
      have H1 := Lib.hid (show Dg.z32.toArray.all (·.oneCell') = true from by kernel_rfl)
      have hnl : ¬ ((64 * m : Nat) : Int) < (n2 : Int) := by omega
      have hnl2 : ¬ 64 * (m : Int) < (n2 : Int) := by omega
      clear hT hS hR hs hme HFIN HFA
      go_upto_region 8 with (first
        | ((refine wpList_buildR rfl 23 _ rfl [] rfl _ _ (Dg.run_z32 _) ?_))
        | ((refine wpList_store_row (o := ⟨none, .store 23 (.tmp 6) (.tmp 24), _, _, _, _⟩) rfl 23 (.tmp 6) (.tmp 24) rfl wr.heap.size Dg.z32.toArray rfl rfl 23 Dg.z32.toArray HN.out HI.out rfl H1.out ?_)))
      obtain ⟨W7, hW7⟩ : ∃ W7, W7 = (wr.alloc (.cells Dg.z32.toArray 23)).setRow wr.heap.size Dg.z32.toArray := ⟨_, rfl⟩
      change Code.wp _ _ _ _ ((wr.alloc (.cells Dg.z32.toArray 23)).setRow wr.heap.size Dg.z32.toArray)
      have hX7 : Has W7 wr.heap.size 23 Dg.z32 := by rw [hW7]; exact setRow_heap _ wr.heap.size _ Dg.z32.toArray 23 (0, 0) HN.out
      have hB7 : Below wr.heap.size wr W7 := by rw [hW7]; exact below_setRow ((Below.refl _ wr).alloc (Nat.le_refl _) _) (Nat.le_refl _) _
      have HT7 := Lib.hid (HT.out.keep hB7)
      have HS7 := Lib.hid (HS.out.keep hB7)
      obtain ⟨gd, hgd⟩ : ∃ gd, gd = wr.heap.size := ⟨_, rfl⟩
      have hgdz : w.heap.size + 1 < gd := by rw [hgd]; exact HT.out.lt
      rw [← hW7, ← hgd]
      rw [← hgd] at hX7
      have HX7 := Lib.hid hX7
      clear hW7 hgd hX7 hB7 HT HS HN HI H1 hnl hnl2
      go_wp2_with fail
      go_loopw [7] (fun i wr => ∃ k : Nat, k ≤ 32 ∧ i = .int .i64 k ∧ Has wr gd 23 (Dg.bc s k) ∧ Has wr (w.heap.size + 1) 94 (Dg.sc s) ∧ St w wr [(w.heap.size, 23, Dg.z32)]) (fun i _ => 32 - (intOf i).toNat)
      case atStart => exact ⟨0, by omega, rfl, HX7.out, HT7.out, HS7.out⟩
      case round =>
        clear HX7 HT7 HS7
        obtain ⟨k, hk, rfl, hX, hT, hS⟩ := hrel
        by_cases hlt2 : k < 32
        · have cc := (hX.cell k).trans (Dg.bc_some s k hlt2)
          have fz := hX.frozen k
          have HBS := Lib.hid (Dg.bc_set s k hlt2)
          obtain ⟨q, r, hqr, hr4, hq8⟩ : ∃ q r, k = 4 * q + r ∧ r < 4 ∧ q < 8 := ⟨k / 4, k % 4, by omega, by omega, by omega⟩
          have hcell := (hT.cell q).trans (Dg.sc_at s q hq8)
          have HBA := Lib.hid (Dg.byte_at s q r hr4 hq8)
          rw [← hqr] at HBA
          generalize (Dg.bytes s)[k]! = y at HBS HBA
          generalize (Dg.sl s)[q]! = x at hcell HBA
          have HX := Lib.hid hX
          have HT := Lib.hid hT
          have HS := Lib.hid hS
          have hq1 : (k : Int) / 4 = (q : Int) := by omega
          have hr1 : (k : Int) % 4 = (r : Int) := by omega
          have hkk : (k : Int) < 32 := by omega
          clear hX hT hS hqr
          obtain rfl | rfl | rfl | rfl : r = 0 ∨ r = 1 ∨ r = 2 ∨ r = 3 := by omega
          · have HV := Lib.hid (show (x.toNat : Int) / 16777216 % 256 = (y.toNat : Int) from by
              have h := HBA.out
              rw [IntKind.wrap_u8] at h
              simpa using h)
            go_wp2_with fail
            rw [HV.out]
            exact ⟨⟨k + 1, by omega, by go_num, by rw [← HBS.out]; exact HX.out.set k _, HT.out.far (p := ⟨gd, k, none⟩) (by show w.heap.size + 1 ≠ gd; omega) _, ⟨HS.out.below.setCell (p := ⟨gd, k, none⟩) (by show w.heap.size ≤ gd; omega) _, fun x' hx' => (HS.out.has x' hx').far (by
              simp only [List.mem_cons, List.not_mem_nil, or_false] at hx'
              rw [hx']
              show w.heap.size ≠ gd
              omega) _⟩⟩, by simp [intOf]; omega⟩
          · have HV := Lib.hid (show (x.toNat : Int) / 65536 % 256 = (y.toNat : Int) from by
              have h := HBA.out
              rw [IntKind.wrap_u8] at h
              simpa using h)
            go_wp2_with fail
            rw [HV.out]
            exact ⟨⟨k + 1, by omega, by go_num, by rw [← HBS.out]; exact HX.out.set k _, HT.out.far (p := ⟨gd, k, none⟩) (by show w.heap.size + 1 ≠ gd; omega) _, ⟨HS.out.below.setCell (p := ⟨gd, k, none⟩) (by show w.heap.size ≤ gd; omega) _, fun x' hx' => (HS.out.has x' hx').far (by
              simp only [List.mem_cons, List.not_mem_nil, or_false] at hx'
              rw [hx']
              show w.heap.size ≠ gd
              omega) _⟩⟩, by simp [intOf]; omega⟩
          · have HV := Lib.hid (show (x.toNat : Int) / 256 % 256 = (y.toNat : Int) from by
              have h := HBA.out
              rw [IntKind.wrap_u8] at h
              simpa using h)
            go_wp2_with fail
            rw [HV.out]
            exact ⟨⟨k + 1, by omega, by go_num, by rw [← HBS.out]; exact HX.out.set k _, HT.out.far (p := ⟨gd, k, none⟩) (by show w.heap.size + 1 ≠ gd; omega) _, ⟨HS.out.below.setCell (p := ⟨gd, k, none⟩) (by show w.heap.size ≤ gd; omega) _, fun x' hx' => (HS.out.has x' hx').far (by
              simp only [List.mem_cons, List.not_mem_nil, or_false] at hx'
              rw [hx']
              show w.heap.size ≠ gd
              omega) _⟩⟩, by simp [intOf]; omega⟩
          · have HV := Lib.hid (show (x.toNat : Int) % 256 = (y.toNat : Int) from by
              have h := HBA.out
              rw [IntKind.wrap_u8] at h
              simpa using h)
            go_wp2_with fail
            rw [HV.out]
            exact ⟨⟨k + 1, by omega, by go_num, by rw [← HBS.out]; exact HX.out.set k _, HT.out.far (p := ⟨gd, k, none⟩) (by show w.heap.size + 1 ≠ gd; omega) _, ⟨HS.out.below.setCell (p := ⟨gd, k, none⟩) (by show w.heap.size ≤ gd; omega) _, fun x' hx' => (HS.out.has x' hx').far (by
              simp only [List.mem_cons, List.not_mem_nil, or_false] at hx'
              rw [hx']
              show w.heap.size ≠ gd
              omega) _⟩⟩, by simp [intOf]; omega⟩
        · have hk32 : k = 32 := by omega
          rw [hk32] at hX
          have HX := Lib.hid (show Has wr gd 23 (R.map Dg.b8) from by rw [HRE.out, ← Dg.bc_all]; exact hX)
          have HS := Lib.hid hS
          have hRl : R.length = 32 := by rw [HRE.out]; exact Dg.bytes_len s
          have HI := Lib.hid (show (Tryd.prog.info? 23).map (·.size) = some (R.map Dg.b8).toArray.size from by rw [List.size_toArray, List.length_map, hRl]; exact Rc.info31)
          have HZ := Lib.hid (show Dg.z32.toArray.size = (R.map Dg.b8).toArray.size from by rw [List.size_toArray, List.size_toArray, List.length_map, hRl]; rfl)
          have H1 := Lib.hid (show (R.map Dg.b8).toArray.all (·.oneCell') = true from all_oneCell_toArray (one_bytes R))
          have HZ0 := Lib.hid (HS.out.nth 0 rfl)
          have hn1 : ¬ (k : Int) < 32 := by omega
          clear hX hT hS hk32 hRl
          go_wp2_with (first
            | ((refine wpList_load_row rfl 23 (.tmp 6) rfl gd rfl 23 (R.map Dg.b8).toArray (0, 0) _ HX.out Tryd.underlying23 rfl HI.out ?_))
            | ((refine wpList_store_row (o := ⟨none, .store 23 (.tmp 2) (.tmp 41), _, _, _, _⟩) rfl 23 (.tmp 2) (.tmp 41) rfl w.heap.size (R.map Dg.b8).toArray rfl rfl 23 Dg.z32.toArray HZ0.out HI.out HZ.out H1.out ?_)))
          have HF := Lib.hid (setRow_heap _ w.heap.size _ (R.map Dg.b8).toArray 23 (0, 0) HZ0.out)
          refine bodyPost_ret (results_cell_row rfl _ _ w.heap.size 23 (R.map Dg.b8).toArray (0, 0) _ rfl HF.out Tryd.underlying23 rfl HI.out) rfl ?_
          exact ⟨rfl, below_setRow HS.out.below (Nat.le_refl _) _⟩
end Go.Proofs.YtideglpjgplpnaaDoor
/- Contract of the reference's digest: Tagged. -/
namespace Go.Proofs.YtideglpjgplpnaaDoor
open Go.RowKit
set_option linter.unusedVariables false

set_option maxRecDepth 100000 in
set_option maxHeartbeats 4000000 in
theorem Dg.rtag_any (w : World) (tag : List UInt8) (A : Option Addr) (n c : Nat) (l : List UInt8) (hr : RdB w A n l) (hq : A = none → c = 0) (hn : n ≤ 1099511627776) (ht : tag.length ≤ 1000) :
    Calls Tryd.prog 53 #[.string ⟨tag.toArray⟩, .slice A n c] w fun e w' => e = .returned (.agg ((Dg.tagged Rc.K0 Rc.I0 tag l).map Dg.b8).toArray) ∧ Below w.heap.size w w' := by
  have HR := Lib.hid hr
  have HQ := Lib.hid hq
  obtain ⟨hsz1, h1c1, hi1⟩ := Dg.d_facts Rc.K0 Rc.I0 tag
  obtain ⟨hsz2, h1c2, hi2⟩ := Dg.d_facts Rc.K0 Rc.I0 (Dg.sum Rc.K0 Rc.I0 tag ++ l)
  have HT1 := Lib.hid (Dg.sum_len Rc.K0 Rc.I0 tag)
  have HF := Lib.hid (show Dg.tagged Rc.K0 Rc.I0 tag l = Dg.sum Rc.K0 Rc.I0 (Dg.sum Rc.K0 Rc.I0 tag ++ l) from rfl)
  obtain ⟨d1, hd1⟩ : ∃ d1, Dg.sum Rc.K0 Rc.I0 tag = d1 := ⟨_, rfl⟩
  rw [hd1] at hsz1 h1c1 hi1 hsz2 h1c2 hi2 HT1 HF
  have HD1 := Lib.hid hd1
  obtain ⟨d2, hd2⟩ : ∃ d2, Dg.sum Rc.K0 Rc.I0 (d1 ++ l) = d2 := ⟨_, rfl⟩
  rw [hd2] at hsz2 h1c2 hi2 HF
  have HD2 := Lib.hid hd2
  obtain ⟨D1, hDD1⟩ : ∃ D, (d1.map Dg.b8).toArray = D := ⟨_, rfl⟩
  rw [hDD1] at hsz1 h1c1 hi1
  obtain ⟨D2, hDD2⟩ : ∃ D, (d2.map Dg.b8).toArray = D := ⟨_, rfl⟩
  rw [hDD2] at hsz2 h1c2 hi2
  have HDD1 := Lib.hid hDD1
  have HDD2 := Lib.hid hDD2
  have HS1 := Lib.hid hsz1
  have H11 := Lib.hid h1c1
  have HI1 := Lib.hid hi1
  have HS2b := Lib.hid hsz2
  have H12 := Lib.hid h1c2
  have HI2 := Lib.hid hi2
  rw [HF.out, hDD2]
  clear hr hq hd1 hd2 hDD1 hDD2 hsz1 h1c1 hi1 hsz2 h1c2 hi2
  go_enter Tryd.func53, Tryd.ntmps53
  go_upto_region 1 with fail
  obtain ⟨W0, hW0⟩ : ∃ W0, W0 = w.alloc (.cells Dg.z32.toArray 23) := ⟨_, rfl⟩
  have HB0 := Lib.hid (show Below w.heap.size w W0 from by rw [hW0]; exact (Below.refl _ w).alloc (Nat.le_refl _) _)
  have HZ0 := Lib.hid (show Has W0 w.heap.size 23 Dg.z32 from by rw [hW0]; exact Has.new _ _ _)
  change Code.wp _ _ _ _ (w.alloc (.cells Dg.z32.toArray 23))
  rw [← hW0]
  clear hW0
  obtain ⟨At, ct, W1, hcv, hrt, htc, hcm, hqt, hb1⟩ := Dg.conv tag (by omega) W0
  have HCV := Lib.hid hcv
  have HB1 := Lib.hid (HB0.out.trans (hb1.mono HB0.out.size))
  have HZ1 := Lib.hid (HZ0.out.keep hb1)
  have HS := Lib.hid (by have h := Dg.rsum_any W1 At tag.length ct tag hrt hqt (by omega); rw [HD1.out, HDD1.out] at h; exact h)
  clear hrt htc hcm hqt hb1
  go_wp2_with fail
  ((with_reducible refine HS.out.mono ?_); rintro e w2 ⟨rfl, hb2⟩)
  have HB2 := Lib.hid (HB1.out.trans (hb2.mono HB1.out.size))
  have HZ2 := Lib.hid (HZ1.out.keep hb2)
  clear hb2 hcv HCV
  have HN2 := Lib.hid (show (w2.alloc (.cells Dg.z32.toArray 23)).heap[w2.heap.size]? = some (.cells Dg.z32.toArray 23 (0, 0)) from World.alloc_heap_new _ _)
  go_upto_region 2 with (first
    | (refine wpList_store_row (o := ⟨none, .store 23 (.tmp 5) (.tmp 8), _, _, _, _⟩) rfl 23 (.tmp 5) (.tmp 8) rfl w2.heap.size D1 rfl rfl 23 Dg.z32.toArray HN2.out HI1.out HS1.out.symm H11.out ?_))
  obtain ⟨w3, hw3⟩ : ∃ w3, w3 = (w2.alloc (.cells Dg.z32.toArray 23)).setRow w2.heap.size D1 := ⟨_, rfl⟩
  change Code.wp _ _ _ _ ((w2.alloc (.cells Dg.z32.toArray 23)).setRow w2.heap.size D1)
  have hD3 : Has w3 w2.heap.size 23 (d1.map Dg.b8) := by
    rw [hw3]
    show _ = _
    rw [setRow_heap _ w2.heap.size _ D1 23 (0, 0) HN2.out, HDD1.out]
  have hB3 : Below w2.heap.size w2 w3 := by
    rw [hw3]
    exact below_setRow ((Below.refl _ w2).alloc (Nat.le_refl _) _) (Nat.le_refl _) _
  have HB3 := Lib.hid (HB2.out.trans (hB3.mono HB2.out.size))
  have HZ3 := Lib.hid (HZ2.out.keep hB3)
  obtain ⟨gd, hgd⟩ : ∃ gd, gd = w2.heap.size := ⟨_, rfl⟩
  rw [← hw3, ← hgd]
  rw [← hgd] at hD3
  have HD3 := Lib.hid hD3
  clear hw3 hgd hD3 hB3 HN2
  have OW0 := Lib.hid (show (w3.alloc (.cells #[] 5)).ownsRow w3.heap.size 5 1 (.slice (some ⟨w3.heap.size, 0, none⟩) 0 0) 0 [] from World.ownsRow_lit (base := w3.heap.size) (e := 5) (size := 1) w3 #[] 0 (Nat.le_refl _) (by decide) rfl)
  have BB0 := Lib.hid (show Below w3.heap.size w3 (w3.alloc (.cells #[] 5)) from (Below.refl _ w3).alloc (Nat.le_refl _) _)
  have SR0 := Lib.hid (show RdB (w3.alloc (.cells #[] 5)) (some ⟨gd, 0, none⟩) 32 d1 from RdB.keep (⟨by simp [HT1.out], fun _ => ⟨gd, 0, rfl, HD3.out.lt, fun j u hu => by rw [Nat.zero_add, HD3.out.cell j]; exact hu⟩⟩ : RdB w3 _ 32 d1) BB0.out)
  have HLN := HR.out.len
  have HRl := Lib.hid (HR.out.keep (HB3.out.trans (BB0.out.mono HB3.out.size)))
  go_wp2_with (first
    | (at_builtin; refine wpList_append_rd rfl (.tmp 9) (.tmp 10) rfl el27 rfl OW0.out rfl SR0.out (one_bytes d1) (fun h => by (cases h)) (by simp only [maxLen]; omega) (by omega) (by simp) ?_; intro v1 w4 hG1
       have hB4 : Below w3.heap.size w3 w4 := BB0.out.grown hG1.grown (by simp) (fun k e => own_ge OW0.out e)
       have HB4 := Lib.hid hB4
       have hO1 := hG1.own
       have hz1 : w3.heap.size ≤ w4.heap.size := hB4.size
       have HRm := Lib.hid (HR.out.keep (HB3.out.trans (hB4.mono HB3.out.size)))
       clear hB4 hG1)
    | (at_builtin; refine wpList_append_rd rfl (.tmp 11) (.tmp 12) rfl el27 rfl hO1 rfl HRm.out (one_bytes l) HQ.out (by simp only [maxLen]; omega) (by omega) hz1 ?_; intro v2 w5 hG2))
  have hB5 : Below w3.heap.size w3 w5 := HB4.out.grown hG2.grown hz1 (fun k e => own_ge hO1 e)
  have hO5 := hG2.own
  rw [show ([] ++ d1.map Dg.b8) ++ l.map Dg.b8 = (d1 ++ l).map Dg.b8 from by simp] at hO5
  obtain ⟨A5, c5, rfl⟩ := ownsRow_slice hO5
  have HB5 := Lib.hid (HB3.out.trans (hB5.mono HB3.out.size))
  have HZ5 := Lib.hid (HZ3.out.keep hB5)
  have HS5 := Lib.hid (by have h := Dg.rsum_any w5 A5 (0 + 32 + n) c5 (d1 ++ l) (rd_of_own hO5) (own_nil hO5) (by omega); rw [HD2.out, HDD2.out] at h; exact h)
  clear hB5 hO5 hG2 hO1 hz1 HB4 HRm
  ((refine HS5.out.mono ?_); rintro e w6 ⟨rfl, hb6⟩)
  have HB6 := Lib.hid (HB5.out.trans (hb6.mono HB5.out.size))
  have HZ6 := Lib.hid (HZ5.out.keep hb6)
  clear hb6
  go_wp2_with (first
    | (refine wpList_store_row (o := ⟨none, .store 23 (.tmp 4) (.tmp 14), _, _, _, _⟩) rfl 23 (.tmp 4) (.tmp 14) rfl w.heap.size D2 rfl rfl 23 Dg.z32.toArray HZ6.out HI2.out HS2b.out.symm H12.out ?_))
  have HFF := Lib.hid (setRow_heap _ w.heap.size _ D2 23 (0, 0) HZ6.out)
  refine bodyPost_ret (results_cell_row rfl _ _ w.heap.size 23 D2 (0, 0) _ rfl HFF.out Tryd.underlying23 rfl HI2.out) rfl ?_
  exact ⟨rfl, below_setRow HB6.out (Nat.le_refl _) _⟩
end Go.Proofs.YtideglpjgplpnaaDoor
