import Derived.Deep.Cut
import Derived.Test.YtideglpjgplpnaaDoorMSlW1
/- Contract of seals.Seal. -/
namespace Go.Proofs.YtideglpjgplpnaaDoor
open Go.RowKit Go.Shelf
set_option linter.unusedVariables false
set_option linter.unusedSimpArgs false

/-- a sealed body, shares and an error are handed back -/
def Sl.RetSl (w : World) (s : Sl.W) (l : List Shr.S) (z : Int) (e : Ending) (w' : World) : Prop := ∃ Ad cd Am cA A c, e = .returned (.tuple #[.agg (Sl.row s Ad cd Am cA).toArray, .slice A l.length c, .int .i64 z]) ∧ Sl.Ok s w' Ad cd Am cA ∧ Shr.RdV w' A l.length l ∧ l.length ≤ c ∧ c ≤ maxLen ∧ Below w.heap.size w w'
theorem Sl.selE_yes (nb nk : Nat) (th mn : Int) (nc : Nat) (h : Sl.selE nb nk th mn nc = 0) : 1 ≤ nb ∧ nb ≤ 64 ∧ nk = nb ∧ 1 ≤ th ∧ th ≤ mn ∧ mn ≤ 8 ∧ (nc : Int) = (nb : Int) * (th - 1) := by
  unfold Sl.selE at h
  split at h
  · cases h
  · rename_i h2
    obtain ⟨_, a, b, c, _, _, d⟩ := Shr.spE_pos _ _ _ _ _ h
    have hk : nk = nb := by omega
    subst hk
    exact ⟨by omega, by omega, rfl, a, b, c, d⟩
theorem Sl.rdB_has {W : World} {g : Nat} {t : TypeId} {l : List UInt8} (h : Has W g t (l.map B8)) (n : Nat) (hl : l.length = n) : RdB W (some ⟨g, 0, none⟩) n l :=
  ⟨by simp [hl], fun _ => ⟨g, 0, rfl, h.lt, fun j u hu => by rw [Nat.zero_add, h.cell j]; exact hu⟩⟩
theorem Sl.spl_mem {sec coins : List UInt8} {t m : Nat} {x : Shr.S} (h : x ∈ Shr.spl sec 0 t m coins) : x.ep = 0 ∧ 1 ≤ x.ix ∧ x.ix ≤ m ∧ x.th = t ∧ x.mn = m ∧ x.d.length = sec.length := by
  unfold Shr.spl at h
  obtain ⟨i, hi, rfl⟩ := List.mem_map.1 h
  rw [List.mem_range] at hi
  exact ⟨rfl, by show (1 : Int) ≤ ((i + 1 : Nat) : Int); omega, by show ((i + 1 : Nat) : Int) ≤ m; omega, rfl, rfl, by simp [Shr.dat]⟩

set_option maxRecDepth 100000 in
set_option maxHeartbeats 8000000 in
theorem Sl.seal_yes (Ab Ak Ac : Option Addr) (n cb ck nc cc t m : Nat) (body key coins : List UInt8) (w : World) (hb : RdB w Ab n body) (hk : RdB w Ak n key) (hco : RdB w Ac nc coins)
    (hbn : Ab = none → cb = 0) (hcc : nc ≤ cc) (hccm : cc ≤ maxLen) (hnil : Ac = none → cc = 0) (hn1 : 1 ≤ n) (hn64 : n ≤ 64) (ht1 : 1 ≤ t) (htm : t ≤ m) (hm8 : m ≤ 8) (hnc : nc = n * (t - 1)) (hG : Dg.G w Rc.K0 Rc.I0) :
    Calls Tryd.prog 16 #[.slice Ab n cb, .slice Ak n ck, .int .i64 t, .int .i64 m, .slice Ac nc cc] w (Sl.RetSl w (Sl.selW body key t m coins) (Sl.selS key t m coins) 0) := by
  have HB := Lib.hid hb
  have HK := Lib.hid hk
  have HCO := Lib.hid hco
  have HBN := Lib.hid hbn
  have HCC := Lib.hid hcc
  have HCM := Lib.hid hccm
  have HNIL := Lib.hid hnil
  have HNC := Lib.hid hnc
  have HG := Lib.hid hG
  have HLB := Lib.hid hb.len
  have HLK := Lib.hid hk.len
  have HIW := Lib.hid (show (Tryd.prog.info? 27).map (·.size) = some Sl.z36.toArray.size from Sl.infoW)
  obtain ⟨W1, hW1⟩ : ∃ W1, W1 = w.alloc (.cells Sl.z36.toArray 27) := ⟨_, rfl⟩
  have HB1 := Lib.hid (show Below w.heap.size w W1 from by rw [hW1]; exact (Below.refl _ w).alloc (Nat.le_refl _) _)
  have HS1 := Lib.hid (show Has W1 w.heap.size 27 Sl.z36 from by rw [hW1]; exact Has.new w _ _)
  have q1 : ((n : Int) != (n : Int)) = false := by simp
  clear hb hk hco hbn hcc hccm hnil hnc hG
  go_enter Tryd.func16, Tryd.ntmps16
  go_upto_region 1 with fail
  change Code.wp _ _ _ _ (w.alloc (.cells Sl.z36.toArray 27))
  rw [← hW1]
  clear hW1
  go_wp2_with fail
  ((with_reducible refine (Shr.split_yes Ak Ac n ck nc cc 0 t m key coins W1 (HK.out.keep HB1.out) (HCO.out.keep HB1.out) HCC.out HCM.out HNIL.out hn64 ht1 htm hm8 (by omega) (by omega) HNC.out).mono ?_); rintro e w5 ⟨v5, zs, rfl, hO5, hfr5, hv5, hb5⟩)
  obtain ⟨A5, c5, rfl⟩ := own_form hO5.row
  have HO5 := Lib.hid hO5
  have HF5 := Lib.hid hfr5
  have HV5 := Lib.hid hv5
  have HB5 := Lib.hid (HB1.out.trans (hb5.mono HB1.out.size))
  have HS5 := Lib.hid (HS1.out.keep hb5)
  have HZ1 := Lib.hid HS1.out.lt
  clear hO5 hfr5 hv5 hb5 q1
  have HTG := Lib.hid (Dg.tagged_any w5 Sl.tgC Ab n cb body Rc.K0 Rc.I0 (HB.out.keep HB5.out) HBN.out (by omega) (by decide) (HG.out.keep HB5.out))
  rw [show Dg.tagged Rc.K0 Rc.I0 Sl.tgC body = Sl.com body from rfl] at HTG
  have HD32 := Lib.hid (Sl.com_len body)
  have HDE := Lib.hid (show Sl.com body = (Sl.selW body key t m coins).cm from rfl)
  generalize Sl.com body = D at HTG HD32 HDE
  go_wp2_with fail
  ((with_reducible refine HTG.out.mono ?_); rintro e w6 ⟨rfl, hb6⟩)
  have HB6 := Lib.hid (HB5.out.trans (hb6.mono HB5.out.size))
  have HS6 := Lib.hid (HS5.out.keep hb6)
  have HO6 := Lib.hid (HO5.out.keep hb6)
  clear hb6
  go_wp2_with fail
  ((with_reducible refine (Sl.xor_any Ab Ak n cb ck body key w6 (HB.out.keep HB6.out) (HK.out.keep HB6.out) (by omega)).mono ?_); rintro e w7 ⟨rfl, hx7, hb7⟩)
  have HX7 := Lib.hid hx7
  have HB7 := Lib.hid (HB6.out.trans (hb7.mono HB6.out.size))
  have HS7 := Lib.hid (HS6.out.keep hb7)
  have HO7 := Lib.hid (HO6.out.keep hb7)
  have HGX := Lib.hid (show w.heap.size < w6.heap.size from HS6.out.lt)
  obtain ⟨gx, hgx⟩ : ∃ gx, gx = w6.heap.size := ⟨_, rfl⟩
  rw [← hgx] at HX7 HGX ⊢
  clear hx7 hb7 hgx
  have HI7 := Lib.hid (show (Tryd.prog.info? 27).map (·.size) = some (Sl.rowV D (.slice (some ⟨gx, 0, none⟩) n n) t m (.slice none 0 0)).toArray.size from by rw [List.size_toArray, Sl.rowV_len HD32.out]; exact Sl.infoW)
  have HZ7 := Lib.hid (show Sl.z36.toArray.size = (Sl.rowV D (.slice (some ⟨gx, 0, none⟩) n n) t m (.slice none 0 0)).toArray.size from by rw [List.size_toArray, List.size_toArray, Sl.rowV_len HD32.out]; rfl)
  have H17 := Lib.hid (show (Sl.rowV D (.slice (some ⟨gx, 0, none⟩) n n) t m (.slice none 0 0)).toArray.all (·.oneCell') = true from all_oneCell_toArray (Sl.rowV_one _ _ _ _ _ _ _ _ _))
  have hml : zs.length = m := by have h := HV5.out; rw [← Shr.vals_len, h, Shr.spl_len]
  have HML := Lib.hid hml
  clear hml
  go_wp2_with (first
    | (refine wpList_buildR (o := ⟨some 50, _, _, _, _, _⟩) rfl 27 _ rfl [(0, .agg (D.map Dg.b8).toArray), (1, .slice (some ⟨gx, 0, none⟩) n n), (2, .int .i64 t), (3, .int .i64 m)] rfl (.agg (Sl.rowV D (.slice (some ⟨gx, 0, none⟩) n n) t m (.slice none 0 0)).toArray) _ (Sl.bld _ (by rw [List.length_map]; exact HD32.out) _ _ _ _ _ _) ?_)
    | ((refine wpList_store_row (o := ⟨none, .store 27 (.tmp 10) (.tmp 50), _, _, _, _⟩) rfl 27 (.tmp 10) (.tmp 50) rfl w.heap.size (Sl.rowV D (.slice (some ⟨gx, 0, none⟩) n n) t m (.slice none 0 0)).toArray rfl rfl 27 Sl.z36.toArray HS7.out HI7.out HZ7.out H17.out ?_)
       obtain ⟨W8, hW8⟩ : ∃ W8, W8 = w7.setRow w.heap.size (Sl.rowV D (.slice (some ⟨gx, 0, none⟩) n n) t m (.slice none 0 0)).toArray := ⟨_, rfl⟩
       change wpList _ _ _ _ _ (w7.setRow w.heap.size (Sl.rowV D (.slice (some ⟨gx, 0, none⟩) n n) t m (.slice none 0 0)).toArray)
       have HS8 := Lib.hid (show Has W8 w.heap.size 27 (Sl.rowV D (.slice (some ⟨gx, 0, none⟩) n n) t m (.slice none 0 0)) from by rw [hW8]; exact setRow_heap w7 w.heap.size _ _ 27 (0, 0) HS7.out)
       have HG8 := Lib.hid (show w7.grownBy W8 (some w.heap.size) from by rw [hW8]; exact grown_row _ _ _)
       rw [← hW8]
       clear hW8))
  have HO5r := Lib.hid HO7.out.row
  have hw52 : w.heap.size < W8.heap.size := by have h1 := HS8.out.lt; exact h1
  have HZW := Lib.hid hw52
  have HR8 := Lib.hid (show Shr.Rds W8 A5 m zs from HO7.out.rds.kept HG8.out (fun b off e e2 => by have h1 := HO7.out.row.lt b (by rw [e]; rfl); have h2 := HZ1.out; injection e2 with e2; omega) (fun x hx b off e e2 => by have h1 := HF5.out x hx b off e; have h2 := HZ1.out; injection e2 with e2; omega))
  have HFA := Lib.hid (show Far A5 (some w.heap.size) from fun b off e e2 => by have h1 := HO7.out.row.lt b (by rw [e]; rfl); have h2 := HZ1.out; injection e2 with e2; omega)
  have HFX := Lib.hid (show ∀ x, x ∈ zs → Far x.A (some w.heap.size) from fun x hx b off e e2 => by have h1 := HF5.out x hx b off e; have h2 := HZ1.out; injection e2 with e2; omega)
  have HX8 := Lib.hid (show Has W8 gx 5 ((Sl.xorl body key).map B8) from HX7.out.grown HG8.out (fun e => by injection e with e; have := HGX.out; omega))
  have HB8 := Lib.hid (show Below w.heap.size w W8 from HB7.out.grown HG8.out HB7.out.size (fun g e => by injection e with e; omega))
  clear HO7 HS7 HX7 HG8 HB7 HI7 HZ7 H17 HO6 HO5 HS6 HS5 HS1 HB6 HB5 HB1 hw52
  go_loopw [53] (fun i wr => ∃ (k : Nat) (V : Value), k ≤ m ∧ i = .int .i64 k ∧ Has wr w.heap.size 27 (Sl.rowV D (.slice (some ⟨gx, 0, none⟩) n n) t m V) ∧ wr.ownsRow W8.heap.size 23 32 V k (Sl.mcs (((Shr.vals zs).map Sl.mark).take k)) ∧ W8.grownBy wr (some w.heap.size)) (fun i _ => m - (intOf i).toNat)
  case atStart => exact ⟨0, .slice none 0 0, by omega, rfl, HS8.out, ⟨by simp [Sl.mcs], .inl ⟨rfl, rfl⟩⟩, ⟨rfl, rfl, rfl, Nat.le_refl _, fun _ _ _ => rfl⟩⟩
  case round =>
    clear HS8
    obtain ⟨k, V, hk, rfl, hS, hO, hGr⟩ := hrel
    obtain ⟨Av, cv, rfl⟩ := Dg.own_form hO
    have HG0 := Lib.hid HG.out
    clear HG
    have HG := Lib.hid hGr
    have hFA : Far A5 (some w.heap.size) ∧ ∀ x, x ∈ zs → Far x.A (some w.heap.size) := ⟨HFA.out, HFX.out⟩
    have HR := Lib.hid (HR8.out.kept hGr hFA.1 hFA.2)
    have HBW := Lib.hid (show Below w.heap.size w wr from HB8.out.grown hGr HB8.out.size (fun g e => by injection e with e; omega))
    by_cases hlt : k < m
    · obtain ⟨x, hx⟩ : ∃ x, zs[k]? = some x := ⟨_, List.getElem?_eq_getElem (by rw [HML.out]; exact hlt)⟩
      obtain ⟨hok, bl, ol, rfl, hbl, hrx⟩ := HR.out.get k x hx
      have HOK := Lib.hid hok
      have HRX := Lib.hid hrx
      have HI5 := Lib.hid (show (Tryd.prog.info? 43).map (·.size) = some x.cells.length from Sl.infoS)
      have HI5b := Lib.hid (show (Tryd.prog.info? 43).map (·.size) = some x.cells.toArray.size from Sl.infoS)
      have HZ5 := Lib.hid (show Sl.z5.toArray.size = x.cells.toArray.size from rfl)
      have H15 := Lib.hid (show x.cells.toArray.all (·.oneCell') = true from all_oneCell_toArray (Sl.cells_one x))
      have HN1 := Lib.hid (show (wr.alloc (.cells Sl.z5.toArray 43)).heap[wr.heap.size]? = some (.cells Sl.z5.toArray 43 (0, 0)) from World.alloc_heap_new _ _)
      have HMS := Lib.hid (show ((Shr.vals zs).map Sl.mark).take (k + 1) = ((Shr.vals zs).map Sl.mark).take k ++ [Sl.mark x.s] from by
        have hvx : ((Shr.vals zs).map Sl.mark)[k]? = some (Sl.mark x.s) := by rw [Shr.vals, List.getElem?_map, List.getElem?_map, hx]; rfl
        rw [List.take_add_one, hvx]
        rfl)
      have HM32 := Lib.hid (Sl.mark_len x.s)
      have hxm : x.s ∈ Shr.spl key 0 t m coins := by rw [← HV5.out]; exact List.mem_map.2 ⟨x, List.mem_of_getElem? hx, rfl⟩
      have HXM := Lib.hid (Sl.spl_mem hxm)
      have HOV := Lib.hid hO
      have HS := Lib.hid hS
      have i1 : (0 : Int) ≤ (k : Int) := by omega
      have i2 : (k : Int) < (m : Int) := by omega
      clear hS hO hGr hx hrx hok hxm hFA
      go_wp2_with (first
        | (with_reducible refine wpList_load_mid rfl 43 (.tmp 55) rfl bl (ol + k * 5) rfl x.cells _ HRX.out Tryd.underlying43 rfl HI5.out ?_)
        | ((refine wpList_store_row (o := ⟨none, .store 43 (.tmp 14) (.tmp 56), _, _, _, _⟩) rfl 43 (.tmp 14) (.tmp 56) rfl wr.heap.size x.cells.toArray rfl rfl 43 Sl.z5.toArray HN1.out HI5b.out HZ5.out H15.out ?_)
           obtain ⟨W2, hW2⟩ : ∃ W2, W2 = (wr.alloc (.cells Sl.z5.toArray 43)).setRow wr.heap.size x.cells.toArray := ⟨_, rfl⟩
           change wpList _ _ _ _ _ ((wr.alloc (.cells Sl.z5.toArray 43)).setRow wr.heap.size x.cells.toArray)
           have HX2 := Lib.hid (show Has W2 wr.heap.size 43 x.cells from by rw [hW2]; exact setRow_heap _ wr.heap.size _ x.cells.toArray 43 (0, 0) HN1.out)
           have HB2 := Lib.hid (show Below wr.heap.size wr W2 from by rw [hW2]; exact below_setRow ((Below.refl _ wr).alloc (Nat.le_refl _) _) (Nat.le_refl _) _)
           rw [← hW2]
           clear hW2))
      have hput : ∀ a : Act, a.put none undef = a := fun _ => rfl
      rw [hput]
      have s0 : Below W2.heap.size W2 W2.drew := (Below.refl _ W2).drew
      have HS2 := Lib.hid (HS.out.keep HB2.out)
      have x35 : W2.cell? ⟨w.heap.size, 35, none⟩ = some (.slice Av k cv) := (HS2.out.cell 35).trans (Sl.rowV_at HD32.out _ _ _ _)
      have KP := Lib.hid (fun (w' : World) (h : Below W2.heap.size W2 w') => (⟨(h.cell (p := ⟨w.heap.size, 35, none⟩) HS2.out.lt).trans x35, fun i v hv => by rw [Nat.zero_add]; exact ((HX2.out.keep h).cell i).trans hv, h⟩ : w'.cell? ⟨w.heap.size, 35, none⟩ = some (.slice Av k cv) ∧ w'.rangeAt wr.heap.size 0 x.cells ∧ Below W2.heap.size W2 w'))
      have HEN := Lib.hid (enters_of Tryd.func38 (by kernel_rfl) rfl)
      have HMA := Lib.hid (fun (w' : World) (h : Below W2.heap.size W2 w') => (Sl.mark_any x.s x.A x.c w' (HOK.out.rd.keep (HB2.out.trans (h.mono HB2.out.size))) (by have := HXM.out.2.2.2.2.2; have := HLK.out; omega) (by have := HXM.out.1; unfold Rc.in64; omega) (by have := HXM.out.2.1; have := HXM.out.2.2.1; unfold Rc.in64; omega) (by have := HXM.out.2.2.2.1; unfold Rc.in64; omega) (by have := HXM.out.2.2.2.2.1; unfold Rc.in64; omega) (HG0.out.keep (HBW.out.trans ((HB2.out.trans (h.mono HB2.out.size)).mono HBW.out.size)))))
      clear x35
      refine Code.wp_mono (Q := NormalOnly (fun a' W' => ∃ (u57 u58 u59 u60 u61 u62 u63 u64 : Value) (A' : Option Addr) (c' : Nat), a' = { tmps := List.toArray ((Value.slice Ab n cb) :: (Value.slice Ak n ck) :: (Value.int IntKind.i64 (t : Int)) :: (Value.int IntKind.i64 (m : Int)) :: (Value.slice Ac nc cc) :: (undef) :: (undef) :: (undef) :: (undef) :: (undef) :: (Value.pointer (some { block := w.heap.size, off := 0 })) :: (Value.slice (some { block := bl, off := ol }) m c5) :: (Value.int IntKind.i64 0) :: (undef) :: (Value.pointer (some { block := wr.heap.size, off := 0 })) :: (Value.slice Ab n cb) :: (Value.int IntKind.i64 (n : Int)) :: (Value.bool (decide ((n : Int) < 1))) :: (Value.bool (decide ((n : Int) < 1))) :: (Value.slice Ab n cb) :: (Value.int IntKind.i64 (n : Int)) :: (Value.bool (decide (64 < (n : Int)))) :: (Value.bool (decide ((n : Int) < 1) || decide (64 < (n : Int)))) :: (Value.bool (decide ((n : Int) < 1) || decide (64 < (n : Int)))) :: (Value.slice Ak n ck) :: (Value.int IntKind.i64 (n : Int)) :: (Value.slice Ab n cb) :: (Value.int IntKind.i64 (n : Int)) :: (Value.bool false) :: (Value.bool (decide ((n : Int) < 1) || decide (64 < (n : Int)))) :: (undef) :: (Value.tuple #[Value.slice (some { block := bl, off := ol }) m c5, Value.int IntKind.i64 0]) :: (Value.slice Ak n ck) :: (Value.int IntKind.i64 (t : Int)) :: (Value.int IntKind.i64 (m : Int)) :: (Value.slice Ac nc cc) :: (Value.tuple #[Value.slice (some { block := bl, off := ol }) m c5, Value.int IntKind.i64 0]) :: (Value.slice (some { block := bl, off := ol }) m c5) :: (Value.int IntKind.i64 0) :: (Value.int IntKind.i64 0) :: (Value.bool false) :: (undef) :: (undef) :: (Value.slice Ab n cb) :: (Value.agg (List.map Dg.b8 D).toArray) :: (Value.slice Ab n cb) :: (Value.slice Ak n ck) :: (Value.slice (some { block := gx, off := 0 }) n n) :: (Value.int IntKind.i64 (t : Int)) :: (Value.int IntKind.i64 (m : Int)) :: (Value.agg (rowV D (Value.slice (some { block := gx, off := 0 }) n n) ((t : Int)) ((m : Int)) (Value.slice none 0 0)).toArray) :: (Value.slice (some { block := bl, off := ol }) m c5) :: (Value.int IntKind.i64 (m : Int)) :: (Value.int IntKind.i64 (k : Int)) :: (Value.bool true) :: (Value.pointer (some { block := bl, off := ol + k * 5 })) :: (Value.agg x.cells.toArray) :: (u57) :: (u58) :: (u59) :: (u60) :: (u61) :: (u62) :: (u63) :: (u64) :: (u65) :: (undef) :: (undef) :: []), defers := [] } ∧ Has W' w.heap.size 27 (Sl.rowV D (.slice (some ⟨gx, 0, none⟩) n n) t m (.slice A' (k + 1) c')) ∧ W'.ownsRow W8.heap.size 23 32 (.slice A' (k + 1) c') (k + 1) (Sl.mcs (((Shr.vals zs).map Sl.mark).take (k + 1))) ∧ W8.grownBy W' (some w.heap.size))) ?tail ?region
      case region =>
        refine wp_region_named (fun ops hops => ?_)
        refine wp_region_T (by kernel_rfl) [6, 7, 8] (fun w' => w'.cell? ⟨w.heap.size, 35, none⟩ = some (.slice Av k cv) ∧ w'.rangeAt wr.heap.size 0 x.cells ∧ Below W2.heap.size W2 w') ?_
        rw [show ops.size = 9 from by rw [hops]; rfl]
        have HNS : Region.noSelect ops = true := by rw [hops]; kernel_rfl
        have hHeld := KP.out _ s0
        obtain ⟨o0, h0, d0, p0, g0⟩ := op_at5 hops 0 rfl (d := some 57) (p := Op.fieldAddr 27 (Operand.tmp 10) 4) (g := none) rfl rfl rfl
        obtain ⟨o1, h1, d1, p1, g1⟩ := op_at5 hops 1 rfl (d := some 58) (p := Op.load 25 (Operand.tmp 57)) (g := none) rfl rfl rfl
        obtain ⟨o2, h2, d2, p2, g2⟩ := op_at5 hops 2 rfl (d := some 59) (p := Op.load 43 (Operand.tmp 14)) (g := none) rfl rfl rfl
        obtain ⟨o3, h3, d3, p3, g3⟩ := op_at5 hops 3 rfl (d := some 60) (p := Op.build 69 #[(0, Operand.tmp 59)]) (g := none) rfl rfl rfl
        obtain ⟨o4, h4, d4, p4, g4⟩ := op_at5 hops 4 rfl (d := some 61) (p := Op.call { callee := Callee.value (Operand.func 38), args := #[Operand.tmp 60], argTypes := #[69] }) (g := none) rfl rfl rfl
        obtain ⟨o5, h5, d5, p5, g5⟩ := op_at5 hops 5 rfl (d := some 62) (p := Op.buildSlice 25 1 #[(0, Operand.tmp 61)]) (g := none) rfl rfl rfl
        obtain ⟨o6, h6, d6, p6, g6⟩ := op_at5 hops 6 rfl (d := some 63) (p := Op.call { callee := Callee.builtin Builtin.append, args := #[Operand.tmp 58, Operand.tmp 62], argTypes := #[25, 25] }) (g := none) rfl rfl rfl
        obtain ⟨o7, h7, d7, p7, g7⟩ := op_at5 hops 7 rfl (d := some 64) (p := Op.fieldAddr 27 (Operand.tmp 10) 4) (g := none) rfl rfl rfl
        obtain ⟨o8, h8, d8, p8, g8⟩ := op_at5 hops 8 rfl (d := none) (p := Op.store 25 (Operand.tmp 64) (Operand.tmp 63)) (g := none) rfl rfl rfl
        refine wpAnyT_take (i := 0) (v := .pointer (some ⟨w.heap.size, 35, none⟩)) [0, 1, 6, 7, 8] h0 HNS (by rw [hops]; kernel_rfl) (by rw [hops]; kernel_rfl) (by rw [hops]; kernel_rfl) (fun _ _ _ => NormalOnly.hQ _ _ _) (Or.inl ⟨(wanted_none g0), fun w' _ => by unfold execOp; rw [p0]; first | rfl | kernel_rfl⟩) hHeld ?_
        rw [d0]
        simp only [Act.put, List.setIfInBounds_toArray, List.set_cons_zero, List.set_cons_succ]
        refine wpAnyT_take (i := 1) (v := .slice Av k cv) [1, 6, 7, 8] h1 HNS (by rw [hops]; kernel_rfl) (by rw [hops]; kernel_rfl) (by rw [hops]; kernel_rfl) (fun _ _ _ => NormalOnly.hQ _ _ _) (Or.inl ⟨(wanted_none g1), fun w' h => run_op_load_cell 25 _ p1 w.heap.size 35 (by rfl) _ h.1 _ Tryd.underlying25 rfl⟩) hHeld ?_
        rw [d1]
        simp only [Act.put, List.setIfInBounds_toArray, List.set_cons_zero, List.set_cons_succ]
        refine wpAnyT_take (i := 2) (v := .agg x.cells.toArray) [2, 3, 4, 5, 6, 7, 8] h2 HNS (by rw [hops]; kernel_rfl) (by rw [hops]; kernel_rfl) (by rw [hops]; kernel_rfl) (fun _ _ _ => NormalOnly.hQ _ _ _) (Or.inl ⟨(wanted_none g2), fun w' h => run_op_load_mid 43 _ p2 wr.heap.size 0 (by rfl) x.cells _ h.2.1 Tryd.underlying43 rfl HI5.out⟩) hHeld ?_
        rw [d2]
        simp only [Act.put, List.setIfInBounds_toArray, List.set_cons_zero, List.set_cons_succ]
        refine wpAnyT_take (i := 3) (v := .agg x.cells.toArray) [3, 4, 5, 6, 7, 8] h3 HNS (by rw [hops]; kernel_rfl) (by rw [hops]; kernel_rfl) (by rw [hops]; kernel_rfl) (fun _ _ _ => NormalOnly.hQ _ _ _) (Or.inl ⟨(wanted_none g3), fun w' _ => run_op_buildR 69 _ p3 [(0, .agg x.cells.toArray)] (by rfl) _ w' (by kernel_rfl)⟩) hHeld ?_
        rw [d3]
        simp only [Act.put, List.setIfInBounds_toArray, List.set_cons_zero, List.set_cons_succ]
        refine wpAnyT_one (by rw [hops]; kernel_rfl) h4 (wanted_none g4) (fun K hK => ?_)
        refine wp_call1 38 _ _ (.agg x.cells.toArray) p4 HEN.out (by rfl) ?_
        (refine (HMA.out _ s0).mono ?_; rintro e w9 ⟨rfl, hb9⟩)
        have s9 : Below W2.heap.size W2 w9 := s0.trans (hb9.mono s0.size)
        clear hb9
        refine ⟨_, rfl, ?_⟩
        rw [d4]
        simp only [Act.put, List.setIfInBounds_toArray, List.set_cons_zero, List.set_cons_succ]
        refine hK.out _ _ (fun _ => KP.out _ s9) ?_
        clear hK K hHeld
        generalize Sl.mark x.s = M at HM32 HMS ⊢
        refine wpAnyT_one (by rw [hops]; kernel_rfl) h5 (wanted_none g5) (fun K hK => ?_)
        refine wp_runG (run_op_buildSliceR 25 1 _ p5 [(0, .agg (M.map Dg.b8).toArray)] (by rfl) (.slice (some ⟨w9.heap.size, 0, none⟩) 1 1) (w9.alloc (.cells (M.map Dg.b8).toArray 23)) (Sl.bs1 _ (by rw [List.length_map]; exact HM32.out) _)) ?_
        rw [d5]
        simp only [Act.put, List.setIfInBounds_toArray, List.set_cons_zero, List.set_cons_succ]
        refine hK.out _ _ (fun _ => KP.out _ (s9.alloc s9.size _)) ?_
        clear hK K
        have hOV := own_below HOV.out (HB2.out.trans (s9.mono HB2.out.size))
        have hOV1 := own_below (w' := w9.alloc (.cells (M.map Dg.b8).toArray 23)) hOV ((Below.refl _ _).alloc (Nat.le_refl _) _)
        refine wpAnyT_one (by rw [hops]; kernel_rfl) h6 (wanted_none g6) (fun K hK => ?_)
        refine wp_append_rd (.tmp 58) (.tmp 62) p6 Sl.elD (by rfl) hOV1 (by rfl) (rd_new w9 23 32 (M.map Dg.b8) (by rw [List.length_map]; exact HM32.out)) (one_bytes _) (fun e => by cases e) (by unfold maxLen; omega) (by omega) (by rw [World.size_alloc]; have := s9.size; have := HB2.out.size; have := HG.out.size; omega) (fun v' w11 hGr => ?_)
        obtain ⟨hown, hgr, hat⟩ := hGr
        obtain ⟨A11, c11, rfl⟩ := Dg.own_form hown
        rw [d6]
        simp only [Act.put, List.setIfInBounds_toArray, List.set_cons_zero, List.set_cons_succ]
        refine hK.out _ _ (fun h => absurd (by decide) h) ?_
        clear hK K hat
        refine wpAnyT_one (by rw [hops]; kernel_rfl) h7 (wanted_none g7) (fun K hK => ?_)
        refine wp_runG (w' := w11) (v := .pointer (some ⟨w.heap.size, 35, none⟩)) (by unfold execOp; rw [p7]; first | rfl | kernel_rfl) ?_
        rw [d7]
        simp only [Act.put, List.setIfInBounds_toArray, List.set_cons_zero, List.set_cons_succ]
        refine hK.out _ _ (fun h => absurd (by decide) h) ?_
        clear hK K
        have hS11 := ((HS2.out.keep s9).alloc (.cells (M.map Dg.b8).toArray 23)).grown hgr (fun e => by have := (hOV.lt _ e).1; have := HZW.out; omega)
        have c11' : w11.cell? ⟨w.heap.size, 35, none⟩ = some (.slice Av k cv) := (hS11.cell 35).trans (Sl.rowV_at HD32.out _ _ _ _)
        have f11 := hS11.frozen 35
        refine wpAnyT_one (by rw [hops]; kernel_rfl) h8 (wanted_none g8) (fun K hK => ?_)
        refine wp_runS (w' := w11.setCell ⟨w.heap.size, 35, none⟩ (.slice A11 (k + 1) c11)) (run_op_store_cell 25 _ _ p8 w.heap.size 35 (by rfl) A11 (k + 1) c11 (by rfl) _ c11' f11 (by kernel_rfl)) ?_
        rw [d8]
        simp only [Act.put, List.setIfInBounds_toArray, List.set_cons_zero, List.set_cons_succ]
        refine hK.out _ _ (fun h => absurd (by decide) h) ?_
        clear hK K
        have hS12 := hS11.set 35 (.slice A11 (k + 1) c11)
        rw [Sl.rowV_set HD32.out] at hS12
        have hO12 : (w11.setCell ⟨w.heap.size, 35, none⟩ (.slice A11 (k + 1) c11)).ownsRow W8.heap.size 23 32 (.slice A11 (k + 1) c11) (k + 1) (Sl.mcs (((Shr.vals zs).map Sl.mark).take (k + 1))) := by
          rw [HMS.out, Sl.mcs_snoc]
          exact own_far hown (p := ⟨w.heap.size, 35, none⟩) HZW.out _
        have hG12 : W8.grownBy (w11.setCell ⟨w.heap.size, 35, none⟩ (.slice A11 (k + 1) c11)) (some w.heap.size) := by
          have hb11 : Below W8.heap.size wr w11 := (((HB2.out.mono HG.out.size).trans (s9.mono (Nat.le_trans HG.out.size HB2.out.size))).alloc (Nat.le_trans HG.out.size (Nat.le_trans HB2.out.size s9.size)) _).grown hgr (by rw [World.size_alloc]; have := s9.size; have := HB2.out.size; have := HG.out.size; omega) (fun g e => (hOV.lt g e).1)
          have h11 := grown_then HG.out hb11
          exact grown_cell h11 h11.size
        refine wpAnyT_done (by rw [hops]; kernel_rfl) ⟨rfl, _, _, _, _, _, _, _, _, _, _, rfl, hS12, hO12, hG12⟩ _
      case tail =>
        rintro e a' W5 ⟨rfl, v57, v58, v59, v60, v61, v62, v63, v64, A', c', rfl, hS5, hO5, hG5⟩
        have HS5 := Lib.hid hS5
        have HO5 := Lib.hid hO5
        have HG5 := Lib.hid hG5
        clear hS5 hO5 hG5
        go_wp2_with fail
        go_roundw
        case rel => exact ⟨k + 1, _, by omega, by go_num, HS5.out, HO5.out, HG5.out⟩
        case measure => simp [intOf]; omega
    · have hkm : k = m := by omega
      subst hkm
      have hrow : Sl.rowV D (.slice (some ⟨gx, 0, none⟩) n n) t k (.slice Av k cv) = Sl.row (Sl.selW body key t k coins) (some ⟨gx, 0, none⟩) n Av cv := by
        unfold Sl.rowV Sl.row
        rw [HDE.out]
        simp [Sl.selW, Sl.selS, Shr.spl_len, Sl.xorl_len, HLB.out]
      rw [hrow] at hS
      have hi36 : (Sl.row (Sl.selW body key t k coins) (some ⟨gx, 0, none⟩) n Av cv).length = 36 := Sl.row_len (by rw [← HDE.out]; exact HD32.out) _ _ _ _
      have HI9 := Lib.hid (show (Tryd.prog.info? 27).map (·.size) = some (Sl.row (Sl.selW body key t k coins) (some ⟨gx, 0, none⟩) n Av cv).toArray.size from by rw [List.size_toArray, hi36]; exact Sl.infoW)
      have H19 := Lib.hid (show (Sl.row (Sl.selW body key t k coins) (some ⟨gx, 0, none⟩) n Av cv).toArray.all (·.oneCell') = true from all_oneCell_toArray (Sl.row_one _ _ _ _ _))
      have HS9 := Lib.hid (show wr.heap[w.heap.size]? = some (.cells (Sl.row (Sl.selW body key t k coins) (some ⟨gx, 0, none⟩) n Av cv).toArray 27 (0, 0)) from hS)
      have HO9 := Lib.hid (show wr.ownsRow W8.heap.size 23 32 (.slice Av k cv) k (Sl.mcs (Sl.selW body key t k coins).ms) from by
        have h2 : ((Shr.vals zs).map Sl.mark).take k = (Sl.selW body key t k coins).ms := by
          rw [List.take_of_length_le (by rw [List.length_map, Shr.vals_len, HML.out]; exact Nat.le_refl _), HV5.out]
          rfl
        rw [← h2]
        exact hO)
      have HX9 := Lib.hid (show Has wr gx 5 ((Sl.xorl body key).map B8) from HX8.out.grown hGr (fun e => by injection e with e; have := HGX.out; omega))
      have HRV := Lib.hid (show Shr.RdV wr A5 k (Sl.selS key t k coins) from ⟨zs, HR.out, HV5.out⟩)
      have HOC := Lib.hid (own_cap HO5r.out)
      clear hS hO hGr hFA HR8 HX8 HB8 HG0 HG
      go_wp2_with (first
        | (with_reducible refine wpList_load_row rfl 27 (.tmp 10) rfl w.heap.size rfl 27 (Sl.row (Sl.selW body key t k coins) (some ⟨gx, 0, none⟩) n Av cv).toArray (0, 0) _ HS9.out Tryd.underlying27 rfl HI9.out ?_)
        | ((refine wpList_store_row (o := ⟨none, .store 27 (.tmp 10) (.tmp 66), _, _, _, _⟩) rfl 27 (.tmp 10) (.tmp 66) rfl w.heap.size (Sl.row (Sl.selW body key t k coins) (some ⟨gx, 0, none⟩) n Av cv).toArray rfl rfl 27 (Sl.row (Sl.selW body key t k coins) (some ⟨gx, 0, none⟩) n Av cv).toArray HS9.out HI9.out rfl H19.out ?_)
           obtain ⟨W9, hW9⟩ : ∃ W9, W9 = wr.setRow w.heap.size (Sl.row (Sl.selW body key t k coins) (some ⟨gx, 0, none⟩) n Av cv).toArray := ⟨_, rfl⟩
           change wpList _ _ _ _ _ (wr.setRow w.heap.size (Sl.row (Sl.selW body key t k coins) (some ⟨gx, 0, none⟩) n Av cv).toArray)
           have HSA := Lib.hid (show Has W9 w.heap.size 27 (Sl.row (Sl.selW body key t k coins) (some ⟨gx, 0, none⟩) n Av cv) from by rw [hW9]; exact setRow_heap wr w.heap.size _ _ 27 (0, 0) HS9.out)
           have HGA := Lib.hid (show wr.grownBy W9 (some w.heap.size) from by rw [hW9]; exact grown_row _ _ _)
           rw [← hW9]
           clear hW9))
      refine bodyPost_ret (results_cell_row3 rfl _ _ w.heap.size 27 (Sl.row (Sl.selW body key t k coins) (some ⟨gx, 0, none⟩) n Av cv).toArray (0, 0) _ rfl HSA.out Tryd.underlying27 rfl HI9.out) rfl ?_
      have hsl : (Sl.selS key t k coins).length = k := by unfold Sl.selS; exact Shr.spl_len _ _ _ _ _
      refine ⟨some ⟨gx, 0, none⟩, n, Av, cv, A5, c5, ?_, ?_, ?_, ?_, ?_, ?_⟩
      · rw [hsl]; rfl
      · refine ⟨by rw [← HDE.out]; exact HD32.out, fun M hM => ?_, ?_, ?_, ?_, ?_, fun e => by cases e⟩
        · obtain ⟨y, _, rfl⟩ := List.mem_map.1 hM
          exact Sl.mark_len y
        · exact Sl.rdB_has (HX9.out.grown HGA.out (fun e => by injection e with e; have := HGX.out; omega)) _ rfl
        · have h2 : (Sl.selW body key t k coins).ms.length = k := by simp [Sl.selW, Sl.selS, Shr.spl_len]
          rw [h2]
          exact rd_of_own (own_other HO9.out HGA.out (fun g e => by have h3 := own_ge HO9.out e; have h4 := HZW.out; intro e2; injection e2 with e2; omega))
        · show (Sl.xorl body key).length ≤ _
          rw [Sl.xorl_len, HLB.out]; unfold maxLen; omega
        · have h2 : (Sl.selW body key t k coins).ms.length = k := by simp [Sl.selW, Sl.selS, Shr.spl_len]
          rw [h2]; unfold maxLen; omega
      · rw [hsl]
        obtain ⟨ys, h2, h3⟩ := HRV.out
        refine ⟨zs, HR.out.kept HGA.out HFA.out HFX.out, HV5.out⟩
      · rw [hsl]; exact HOC.out.1
      · exact HOC.out.2
      · exact HBW.out.grown HGA.out HBW.out.size (fun g e => by injection e with e; omega)
end Go.Proofs.YtideglpjgplpnaaDoor
/- Contract of seals.Seal where it refuses. -/
namespace Go.Proofs.YtideglpjgplpnaaDoor
open Go.RowKit Go.Shelf
set_option linter.unusedVariables false
set_option linter.unusedSimpArgs false

def Sl.RetNo (w : World) (z : Int) (e : Ending) (w' : World) : Prop := e = .returned (.tuple #[.agg Sl.z36.toArray, .slice none 0 0, .int .i64 z]) ∧ Below w.heap.size w w'
theorem Sl.store36 {w1 w2 : World} {g : Nat} (h : Has w1 g 27 Sl.z36) (he : w2 = w1.setRow g Sl.z36.toArray) : w2.heap[g]? = some (.cells Sl.z36.toArray 27 (0, 0)) := by
  rw [he]
  exact setRow_heap w1 g _ Sl.z36.toArray 27 (0, 0) h

set_option maxRecDepth 100000 in
set_option maxHeartbeats 8000000 in
theorem Sl.seal_arg (Ab Ak Ac : Option Addr) (nb cb nk ck nc cc : Nat) (th mn : Int) (w : World) (hnb : nb ≤ maxLen) (hnk : nk ≤ maxLen) (h : nb < 1 ∨ 64 < nb ∨ nk ≠ nb) :
    Calls Tryd.prog 16 #[.slice Ab nb cb, .slice Ak nk ck, .int .i64 th, .int .i64 mn, .slice Ac nc cc] w (Sl.RetNo w 1) := by
  unfold maxLen at hnb hnk
  have HIW := Lib.hid (show (Tryd.prog.info? 27).map (·.size) = some Sl.z36.toArray.size from Sl.infoW)
  have H1 := Lib.hid (show Sl.z36.toArray.all (·.oneCell') = true from by kernel_rfl)
  obtain ⟨W1, hW1⟩ : ∃ W1, W1 = w.alloc (.cells Sl.z36.toArray 27) := ⟨_, rfl⟩
  have HB1 := Lib.hid (show Below w.heap.size w W1 from by rw [hW1]; exact (Below.refl _ w).alloc (Nat.le_refl _) _)
  have HS1 := Lib.hid (show Has W1 w.heap.size 27 Sl.z36 from by rw [hW1]; exact Has.new w _ _)
  have HS1r := Lib.hid (show W1.heap[w.heap.size]? = some (.cells Sl.z36.toArray 27 (0, 0)) from HS1.out)
  have key : ∀ b : Bool, b = true → b = true := fun _ h => h
  go_enter Tryd.func16, Tryd.ntmps16
  go_upto_region 1 with fail
  change Code.wp _ _ _ _ (w.alloc (.cells Sl.z36.toArray 27))
  rw [← hW1]
  clear hW1
  by_cases h1 : nb < 1
  · clear h
    go_wp2_with (first
      | (refine wpList_buildR (o := ⟨some 30, _, _, _, _, _⟩) rfl 27 _ rfl [] rfl (.agg Sl.z36.toArray) _ (Sl.bld0 _) ?_)
      | (refine wpList_store_row (o := ⟨none, .store 27 (.tmp 10) (.tmp 30), _, _, _, _⟩) rfl 27 (.tmp 10) (.tmp 30) rfl w.heap.size Sl.z36.toArray rfl rfl 27 Sl.z36.toArray HS1r.out HIW.out rfl H1.out ?_))
    refine bodyPost_ret (results_cell_row3 rfl _ _ w.heap.size 27 Sl.z36.toArray (0, 0) _ rfl (Sl.store36 HS1.out rfl) Tryd.underlying27 rfl HIW.out) rfl ?_
    exact ⟨rfl, below_setRow HB1.out (Nat.le_refl _) _⟩
  · by_cases h2 : 64 < nb
    · clear h
      go_wp2_with (first
        | (refine wpList_buildR (o := ⟨some 30, _, _, _, _, _⟩) rfl 27 _ rfl [] rfl (.agg Sl.z36.toArray) _ (Sl.bld0 _) ?_)
        | (refine wpList_store_row (o := ⟨none, .store 27 (.tmp 10) (.tmp 30), _, _, _, _⟩) rfl 27 (.tmp 10) (.tmp 30) rfl w.heap.size Sl.z36.toArray rfl rfl 27 Sl.z36.toArray HS1r.out HIW.out rfl H1.out ?_))
      refine bodyPost_ret (results_cell_row3 rfl _ _ w.heap.size 27 Sl.z36.toArray (0, 0) _ rfl (Sl.store36 HS1.out rfl) Tryd.underlying27 rfl HIW.out) rfl ?_
      exact ⟨rfl, below_setRow HB1.out (Nat.le_refl _) _⟩
    · have q1 : ((nk : Int) != (nb : Int)) = true := by
        have h3 : nk ≠ nb := by omega
        simpa using fun e : (nk : Int) = (nb : Int) => h3 (by omega)
      clear h
      go_wp2_with (first
        | (refine wpList_buildR (o := ⟨some 30, _, _, _, _, _⟩) rfl 27 _ rfl [] rfl (.agg Sl.z36.toArray) _ (Sl.bld0 _) ?_)
        | (refine wpList_store_row (o := ⟨none, .store 27 (.tmp 10) (.tmp 30), _, _, _, _⟩) rfl 27 (.tmp 10) (.tmp 30) rfl w.heap.size Sl.z36.toArray rfl rfl 27 Sl.z36.toArray HS1r.out HIW.out rfl H1.out ?_))
      refine bodyPost_ret (results_cell_row3 rfl _ _ w.heap.size 27 Sl.z36.toArray (0, 0) _ rfl (Sl.store36 HS1.out rfl) Tryd.underlying27 rfl HIW.out) rfl ?_
      exact ⟨rfl, below_setRow HB1.out (Nat.le_refl _) _⟩
set_option maxRecDepth 100000 in
set_option maxHeartbeats 8000000 in
theorem Sl.seal_spl (Ab Ak Ac : Option Addr) (n cb ck nc cc : Nat) (th mn : Int) (w : World) (hn1 : 1 ≤ n) (hn64 : n ≤ 64) (hnc : nc ≤ maxLen) (hth : -9223372036854775808 ≤ th ∧ th ≤ 9223372036854775807) (h : Shr.spE n 0 th mn nc ≠ 0) :
    Calls Tryd.prog 16 #[.slice Ab n cb, .slice Ak n ck, .int .i64 th, .int .i64 mn, .slice Ac nc cc] w (Sl.RetNo w (Shr.spE n 0 th mn nc)) := by
  have HIW := Lib.hid (show (Tryd.prog.info? 27).map (·.size) = some Sl.z36.toArray.size from Sl.infoW)
  have H1 := Lib.hid (show Sl.z36.toArray.all (·.oneCell') = true from by kernel_rfl)
  have HC := Lib.hid (fun (W : World) => Shr.split_no Ak Ac n ck nc cc 0 th mn W (by unfold maxLen; omega) hnc hth h)
  obtain ⟨z, hz⟩ : ∃ z, Shr.spE n 0 th mn nc = z := ⟨_, rfl⟩
  rw [hz] at HC h ⊢
  have q2 : (z != 0) = true := by simpa using h
  have q1 : ((n : Int) != (n : Int)) = false := by simp
  obtain ⟨W1, hW1⟩ : ∃ W1, W1 = w.alloc (.cells Sl.z36.toArray 27) := ⟨_, rfl⟩
  have HB1 := Lib.hid (show Below w.heap.size w W1 from by rw [hW1]; exact (Below.refl _ w).alloc (Nat.le_refl _) _)
  have HS1 := Lib.hid (show Has W1 w.heap.size 27 Sl.z36 from by rw [hW1]; exact Has.new w _ _)
  clear hnc hth h hz
  go_enter Tryd.func16, Tryd.ntmps16
  go_upto_region 1 with fail
  change Code.wp _ _ _ _ (w.alloc (.cells Sl.z36.toArray 27))
  rw [← hW1]
  clear hW1
  go_wp2_with fail
  ((with_reducible refine (HC.out W1).mono ?_); rintro e w2 ⟨rfl, hb2⟩)
  have HB2 := Lib.hid (HB1.out.trans (hb2.mono HB1.out.size))
  have HS2 := Lib.hid (HS1.out.keep hb2)
  have HS2r := Lib.hid (show w2.heap[w.heap.size]? = some (.cells Sl.z36.toArray 27 (0, 0)) from HS2.out)
  clear hb2 q1
  go_wp2_with (first
    | (refine wpList_buildR (o := ⟨some 41, _, _, _, _, _⟩) rfl 27 _ rfl [] rfl (.agg Sl.z36.toArray) _ (Sl.bld0 _) ?_)
    | (refine wpList_store_row (o := ⟨none, .store 27 (.tmp 10) (.tmp 41), _, _, _, _⟩) rfl 27 (.tmp 10) (.tmp 41) rfl w.heap.size Sl.z36.toArray rfl rfl 27 Sl.z36.toArray HS2r.out HIW.out rfl H1.out ?_))
  refine bodyPost_ret (results_cell_row3 rfl _ _ w.heap.size 27 Sl.z36.toArray (0, 0) _ rfl (Sl.store36 HS2.out rfl) Tryd.underlying27 rfl HIW.out) rfl ?_
  exact ⟨rfl, below_setRow HB2.out (Nat.le_refl _) _⟩
theorem Sl.seal_no (Ab Ak Ac : Option Addr) (nb cb nk ck nc cc : Nat) (th mn : Int) (w : World) (hnb : nb ≤ maxLen) (hnk : nk ≤ maxLen) (hnc : nc ≤ maxLen) (hth : -9223372036854775808 ≤ th ∧ th ≤ 9223372036854775807) (h : Sl.selE nb nk th mn nc ≠ 0) :
    Calls Tryd.prog 16 #[.slice Ab nb cb, .slice Ak nk ck, .int .i64 th, .int .i64 mn, .slice Ac nc cc] w (Sl.RetNo w (Sl.selE nb nk th mn nc)) := by
  by_cases h1 : nb < 1 ∨ 64 < nb ∨ nk ≠ nb
  · rw [show Sl.selE nb nk th mn nc = 1 from by unfold Sl.selE; rw [if_pos h1]]
    exact Sl.seal_arg Ab Ak Ac nb cb nk ck nc cc th mn w hnb hnk h1
  · have he : Sl.selE nb nk th mn nc = Shr.spE nk 0 th mn nc := by unfold Sl.selE; rw [if_neg h1]
    rw [he] at h ⊢
    have hk : nk = nb := by omega
    subst hk
    exact Sl.seal_spl Ab Ak Ac nk cb ck nc cc th mn w (by omega) (by omega) hnc hth h
end Go.Proofs.YtideglpjgplpnaaDoor
