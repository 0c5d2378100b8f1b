import Derived.Deep.RegionWith
import Derived.Deep.CutRange
import Derived.Test.YtideglpjgplpnaaDoorMFldR1
import Derived.Test.YtideglpjgplpnaaDoorMFldTim
/- Contract of the reference's times: the product of a polynomial and one of two coefficients. -/
namespace Go.Proofs.YtideglpjgplpnaaDoor
open Go.RowKit Go.Shelf
set_option linter.unusedVariables false

set_option maxRecDepth 100000 in
set_option maxHeartbeats 2000000 in
theorem Fld.rtimes_any (A : Option Addr) (n c : Nat) (l : List UInt8) (a b : UInt8) (w : World) (hrd : RdB w A n l) (hn : n ≤ 1000000) :
    Calls Tryd.prog 94 #[.slice A n c, B8 a, B8 b] w fun e w' => e = .returned (.slice (some ⟨w.heap.size, 0, none⟩) (n + 1) (n + 1)) ∧ Has w' w.heap.size 5 ((Fld.tim l a b).map B8) ∧ Below w.heap.size w w' := by
  have HR := Lib.hid hrd
  have HL := Lib.hid hrd.len
  clear hrd
  obtain ⟨w1, hmk, hH, hb⟩ := Fld.make8 (n + 1) ((n : Int) + 1) (by omega) (by omega) w
  have HH1 := Lib.hid hH
  have HB1 := Lib.hid hb
  clear hH hb
  obtain ⟨g, hg⟩ : ∃ g, g = w.heap.size := ⟨_, rfl⟩
  have HG := Lib.hid hg
  rw [← hg] at hmk HH1 ⊢
  clear hg
  go_enter Tryd.func94, Tryd.ntmps94
  go_wp2_with fail
  clear hmk
  go_loopw [8] (fun i wr => ∃ k : Nat, k ≤ n ∧ i = .int .i64 k ∧ Has wr g 5 ((Fld.timp l a b k).map B8) ∧ Below g w wr) (fun i _ => n - (intOf i).toNat)
  case atStart => exact ⟨0, by omega, rfl, by rw [Fld.timp_zero, HL.out]; exact HH1.out, by rw [HG.out]; exact HB1.out⟩
  case round =>
    obtain ⟨k, hk, rfl, hH, hB⟩ := hrel
    have HH := Lib.hid hH
    have HB := Lib.hid hB
    clear hH hB HH1 HB1
    by_cases hlt : k < n
    · obtain ⟨bl, off, rfl, hbl, ec0⟩ := HR.out.byte k hlt
      have ec := (HB.out.cell (p := ⟨bl, off + k, none⟩) (show bl < g by rw [HG.out]; exact hbl)).trans ec0
      have hblw : bl < wr.heap.size := by have := HB.out.size; have := HG.out; omega
      have hne : ¬ bl = g := by have := HG.out; omega
      have hne2 : ¬ g = bl := by have := HG.out; omega
      have HS := Lib.hid (Fld.timp_set l a b k (by rw [HL.out]; exact hlt))
      have HTL := Lib.hid (Fld.timp_len l a b k)
      have hxl : (Fld.timp l a b k).length = n + 1 := by rw [HTL.out, HL.out]
      have e1 := HH.out.byte k (by rw [hxl]; omega)
      have f1 := HH.out.frozen k
      have zg := HH.out.lt
      have HE2 := Lib.hid (HH.out.byte (k + 1) (by rw [hxl]; omega))
      have HHx := Lib.hid (show ∀ v : UInt8, Has (wr.setCell ⟨g, k, none⟩ (B8 v)).drew g 5 (((Fld.timp l a b k).set k v).map B8) ∧ Below g w (wr.setCell ⟨g, k, none⟩ (B8 v)).drew from fun v => ⟨by rw [List.map_set]; exact (HH.out.set k (B8 v)).drew, (HB.out.setCell (Nat.le_refl _) _).drew⟩)
      have HE3 := Lib.hid (show ∀ v : UInt8, ((Fld.timp l a b k).set k v).getD (k + 1) 0 = (Fld.timp l a b k).getD (k + 1) 0 from fun v => by rw [Fld.getD_set _ _ _ _ (by rw [hxl]; omega), if_neg (by omega)])
      have HHy := Lib.hid (show ∀ (v u : UInt8) (W : World), Has W g 5 (((Fld.timp l a b k).set k v).map B8) → Has (W.setCell ⟨g, k + 1, none⟩ (B8 u)) g 5 ((((Fld.timp l a b k).set k v).set (k + 1) u).map B8) from fun v u W h => by rw [List.map_set (l := (Fld.timp l a b k).set k v)]; exact h.set (k + 1) (B8 u))
      have HXL := Lib.hid hxl
      have HEC := Lib.hid ec0
      clear hxl ec0
      generalize l.getD k 0 = lk at ec HS HEC
      generalize (Fld.timp l a b k).getD k 0 = x0 at e1 HS
      generalize (Fld.timp l a b k).getD (k + 1) 0 = x1 at HE2 HE3 HS
      have HX1 := Lib.hid (Fld.xor8 x0 (Fld.mul lk a))
      have HX2 := Lib.hid (Fld.xor8 x1 (Fld.mul lk b))
      go_wp2_with fail
      go_cut [] from 13 to 48 (fun wx => Has wx g 5 (((Fld.timp l a b k).set k (x0 ^^^ Fld.mul lk a)).map B8) ∧ Below g w wx)
      case first =>
        go_region_with (go_at_call 88; refine (Fld.rmul_any lk a _).mono ?_; rintro e w8 ⟨rfl, rfl⟩)
        all_goals (
          rw [HX1.out]
          go_wp2_with fail
          go_meet
          exact HHx.out (x0 ^^^ Fld.mul lk a))
      case rest =>
        obtain ⟨h5, b5⟩ := hcut
        clear e1 f1 ec zg hblw
        have e5 := h5.byte (k + 1) (by rw [List.length_set, HXL.out]; omega)
        rw [HE3.out] at e5
        have f5 := h5.frozen (k + 1)
        have z5 := h5.lt
        have ec5 := (b5.cell (p := ⟨bl, off + k, none⟩) (show bl < g by rw [HG.out]; exact hbl)).trans HEC.out
        have hbl5 : bl < wc.heap.size := by have := b5.size; have := HG.out; omega
        have H5 := Lib.hid h5
        have B5 := Lib.hid b5
        clear h5 b5
        have hw1 : IntKind.i64.wrap ((k : Int) + 1) = (k : Int) + 1 := IntWalk.i64_in _ (by omega)
        have j1 : (0 : Int) ≤ (k : Int) + 1 := by omega
        have j2 : (k : Int) + 1 < (n : Int) + 1 := by omega
        have j3 : k + 1 < n + 1 := by omega
        go_wp2_with fail
        go_region_with (go_at_call 88; refine (Fld.rmul_any lk b _).mono ?_; rintro e w9 ⟨rfl, rfl⟩)
        all_goals (
          rw [HX2.out]
          have h9 := (HHy.out (x0 ^^^ Fld.mul lk a) (x1 ^^^ Fld.mul lk b) wc H5.out).drew
          rw [HS.out] at h9
          have b9 := (B5.out.setCell (p := ⟨g, k + 1, none⟩) (Nat.le_refl _) (B8 (x1 ^^^ Fld.mul lk b))).drew
          have H9 := Lib.hid h9
          have B9 := Lib.hid b9
          clear h9 b9 e5 f5 z5 ec5 hbl5
          go_wp2_with fail
          go_roundw
          case rel => exact ⟨k + 1, by omega, by go_num, H9.out, B9.out⟩
          case measure => simp [intOf]; omega)
    · obtain rfl : k = n := by omega
      have HT := Lib.hid (show Fld.timp l a b k = Fld.tim l a b by rw [← HL.out]; exact Fld.timp_all l a b)
      go_wp2_with fail
      go_ret
      exact ⟨rfl, by rw [← HT.out]; exact HH.out, HB.out⟩
end Go.Proofs.YtideglpjgplpnaaDoor
