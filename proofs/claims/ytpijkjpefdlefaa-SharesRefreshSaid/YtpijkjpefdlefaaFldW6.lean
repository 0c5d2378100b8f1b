/- Contract of field.Coefficients: the polynomial through points. -/
import Derived.Deep.RegionHeld3
import Derived.Deep.RegionWith
import Derived.Test.YtpijkjpefdlefaaFldStep
import Derived.Test.YtpijkjpefdlefaaFldW5
namespace Go.Proofs.Ytpijkjpefdlefaa
open Go.RowKit Go.Shelf
set_option linter.unusedVariables false

theorem Has.rd {w : World} {g : Nat} {t : TypeId} {xs : List Value} {n : Nat} (h : Has w g t xs) (hn : xs.length = n) : Rd w w.heap.size 1 (some ⟨g, 0, none⟩) n xs :=
  ⟨by rw [hn, Nat.mul_one], fun _ => ⟨g, 0, rfl, h.lt, fun j u hu => by rw [Nat.zero_add, h.cell j]; exact hu⟩⟩
theorem Has.byte {w : World} {g : Nat} {t : TypeId} {z : List UInt8} (h : Has w g t (z.map B8)) (k : Nat) (hk : k < z.length) : w.cell? ⟨g, k, none⟩ = some (B8 (z.getD k 0)) := by
  rw [h.cell k, List.getElem?_map, List.getElem?_eq_getElem hk]
  simp [List.getElem?_eq_getElem hk]

theorem Fld.coef_no (A A2 : Option Addr) (m c m2 c2 : Nat) (l l2 : List UInt8) (w : World) (hl : l.length = m) (hl2 : l2.length = m2) (hm : m ≤ maxLen) (hm2 : m2 ≤ maxLen) (hrd : Rd w w.heap.size 1 A m (l.map B8)) (hp : Fld.ptsB l l2 = false) :
    Calls Try.prog 39 #[.slice A m c, .slice A2 m2 c2] w fun e w' => e = .returned (.tuple #[.slice none 0 0, .int .i64 1]) ∧ Below w.heap.size w w' := by
  have HL := Lib.hid hl
  have HL2 := Lib.hid hl2
  have HP := Lib.hid hp
  clear hl hl2 hp
  go_enter Try.func39, Try.ntmps39
  go_wp2_with fail
  refine (Fld.points_any A A2 m c m2 c2 l l2 _ HL.out HL2.out hm hm2 hrd).mono ?_
  rintro e w1 ⟨rfl, hb1⟩
  rw [HP.out]
  have HB1 := Lib.hid hb1
  clear hb1
  go_wp2
  go_ret2
  exact ⟨rfl, HB1.out⟩

/-- what Coefficients hands back -/
def Fld.CoefPost (w : World) (m : Nat) (r : List UInt8) (e : Ending) (w' : World) : Prop :=
  ∃ v, e = .returned (.tuple #[v, .int .i64 0]) ∧ w'.ownsRow w.heap.size 5 1 v m (r.map B8) ∧ Below w.heap.size w w'

theorem Fld.info8 : (Try.prog.info? 5).map (fun i => (i.zero, i.size, i.bytes)) = some (some (.int .u8 0), 1, 1) := by kernel_rfl
theorem own_form {w : World} {base e size n : Nat} {v : Value} {xs : List Value} (h : w.ownsRow base e size v n xs) : ∃ A c, v = .slice A n c := by
  rcases h.2 with ⟨rfl, rfl⟩ | ⟨g, c, cur, rfl, _⟩
  · exact ⟨_, _, rfl⟩
  · exact ⟨_, _, rfl⟩
theorem own_some {w : World} {base e size n : Nat} {v : Value} {xs : List Value} (h : w.ownsRow base e size v n xs) (hn : 0 < n) : ∃ g c, v = .slice (some ⟨g, 0, none⟩) n c ∧ base ≤ g ∧ g < w.heap.size := by
  rcases h.2 with ⟨_, rfl⟩ | ⟨g, c, cur, rfl, h1, h2, _⟩
  · omega
  · exact ⟨g, c, rfl, h1, (Array.getElem?_eq_some_iff.1 h2).1⟩
theorem Fld.eval_ev (A : Option Addr) (m c : Nat) (l : List UInt8) (a : UInt8) (w : World) (hl : l.length = m) (hm : m ≤ maxLen) (hrd : Rd w w.heap.size 1 A m (l.map B8)) :
    Calls Try.prog 29 #[.slice A m c, B8 a] w fun e w' => e = .returned (B8 (Fld.ev l a)) ∧ Below w.heap.size w w' :=
  (Fld.eval_any A m c l a w hl hm hrd).mono fun _ _ ⟨he, hb⟩ => ⟨by rw [he, ← hl, Fld.evs_eq], hb⟩
theorem Fld.xor8 (a b : UInt8) : bits .xor .u8 (a.toNat : Int) (b.toNat : Int) = ((a ^^^ b).toNat : Int) := by rw [u8_xor_nat _ _ a.toNat_lt b.toNat_lt, UInt8.toNat_xor]

/-- slice lv of n bytes holds ll, block g holds z; nothing of what was there has changed -/
def Fld.CR (w : World) (n : Nat) (lv : Value) (ll : List UInt8) (g : Nat) (z : List UInt8) (wr : World) : Prop :=
  wr.ownsRow w.heap.size 5 1 lv n (ll.map B8) ∧ Has wr g 5 (z.map B8) ∧ w.heap.size ≤ g ∧ lv.ownBlock ≠ some g ∧ Below w.heap.size w wr
section
variable {w wr w' : World} {n g : Nat} {lv : Value} {ll z : List UInt8}
theorem Fld.CR.keep (h : Fld.CR w n lv ll g z wr) (hb : Below wr.heap.size wr w') : Fld.CR w n lv ll g z w' :=
  ⟨own_below h.1 hb, h.2.1.keep hb, h.2.2.1, h.2.2.2.1, h.2.2.2.2.trans (hb.mono h.2.2.2.2.size)⟩
theorem Fld.CR.drew (h : Fld.CR w n lv ll g z wr) : Fld.CR w n lv ll g z wr.drew := ⟨own_drew h.1, h.2.1.drew, h.2.2.1, h.2.2.2.1, h.2.2.2.2.drew⟩
theorem Fld.CR.rd {A : Option Addr} {c : Nat} (h : Fld.CR w n (.slice A n c) ll g z wr) : Rd wr wr.heap.size 1 A n (ll.map B8) := rd_of_own h.1
theorem Fld.CR.below (h : Fld.CR w n lv ll g z wr) : Below w.heap.size w wr := h.2.2.2.2
end

/-- behind an append of one byte -/
theorem Fld.CR.grow {w wr w' : World} {n g : Nat} {lv v' : Value} {ll z : List UInt8} {o : Obj} (h : Fld.CR w n lv ll g z wr) (ho : w'.ownsRow w.heap.size 5 1 v' (n + 1) (ll.map B8 ++ [.int .u8 0])) (hg : (wr.alloc o).grownBy w' lv.ownBlock)
    (hat : v'.ownBlock = lv.ownBlock ∨ v'.ownBlock = some (wr.alloc o).heap.size) : Fld.CR w (n + 1) v' (ll ++ [0]) g z w' := by
  refine ⟨by rw [List.map_append]; exact ho, (h.2.1.alloc o).grown hg h.2.2.2.1, h.2.2.1, ?_, (h.below.alloc h.below.size o).grown hg (by have := h.below.size; simp; omega) (fun k e => own_ge h.1 e)⟩
  rcases hat with e | e
  · rw [e]; exact h.2.2.2.1
  · rw [e]
    have := h.2.1.lt
    simp
    omega
/-- behind a store into the slice -/
theorem Fld.CR.store {w wr : World} {n g g2 c : Nat} {ll z : List UInt8} (h : Fld.CR w n (.slice (some ⟨g2, 0, none⟩) n c) ll g z wr) (j : Nat) (u : UInt8) : Fld.CR w n (.slice (some ⟨g2, 0, none⟩) n c) (ll.set j u) g z (wr.setCell ⟨g2, j, none⟩ (B8 u)) := by
  have h2 := h.1.stored j (B8 u)
  refine ⟨by rw [List.map_set]; exact h2.1, h.2.1.far (fun e => h.2.2.2.1 (by rw [e]; rfl)) _, h.2.2.1, h.2.2.2.1, h.below.setCell (show w.heap.size ≤ g2 from own_ge h.1 rfl) _⟩
theorem Fld.CR.cell {w wr : World} {n g g2 c : Nat} {ll z : List UInt8} (h : Fld.CR w n (.slice (some ⟨g2, 0, none⟩) n c) ll g z wr) (j : Nat) (hj : j < n) : wr.cell? ⟨g2, j, none⟩ = some (B8 (ll.getD j 0)) ∧ wr.frozen? ⟨g2, j, none⟩ = false ∧ g2 < wr.heap.size := by
  have hl := h.1.1
  rw [List.length_map] at hl
  refine ⟨?_, h.1.frozenAt j, (h.1.lt g2 rfl).2⟩
  rw [h.1.cellAt j (by omega), List.getElem?_map, List.getElem?_eq_getElem (by omega)]
  simp [List.getElem?_eq_getElem (show j < ll.length by omega)]
theorem Fld.CR.zcell {w wr : World} {n g : Nat} {lv : Value} {ll z : List UInt8} (h : Fld.CR w n lv ll g z wr) (j : Nat) (hj : j < z.length) : wr.cell? ⟨g, j, none⟩ = some (B8 (z.getD j 0)) := h.2.1.byte j hj
theorem new1 (w : World) (t : TypeId) (v : Value) : ∀ j u, [v][j]? = some u → (w.alloc (.cells #[v] t)).cell? ((⟨w.heap.size, 0, none⟩ : Addr).add j) = some u := by
  intro j u hu
  have h := Has.new w t [v]
  match j, hu with
  | 0, hu => exact h.c1.trans hu
  | j + 1, hu => simp at hu

theorem grownBy_set (w : World) (g j : Nat) (u : Value) : w.grownBy (w.setCell ⟨g, j, none⟩ u) (some g) :=
  ⟨rfl, rfl, rfl, by simp, fun k _ hk => Below.heap_setCell w ⟨g, j, none⟩ u k (fun e => hk (by rw [e]))⟩
theorem Fld.CR.zstore {w wr : World} {n g : Nat} {lv : Value} {ll z : List UInt8} (h : Fld.CR w n lv ll g z wr) (j : Nat) (u : UInt8) : Fld.CR w n lv ll g (z.set j u) (wr.setCell ⟨g, j, none⟩ (B8 u)) :=
  ⟨h.1.kept (grownBy_set wr g j _) (.inr h.2.2.2.1), by rw [List.map_set]; exact h.2.1.set j _, h.2.2.1, h.2.2.2.1, h.below.setCell h.2.2.1 _⟩
theorem Fld.CR.zfar {w wr : World} {n g : Nat} {lv : Value} {ll z : List UInt8} (h : Fld.CR w n lv ll g z wr) {g3 : Nat} (hne : g ≠ g3) (hlv : lv.ownBlock ≠ some g3) (hg3 : w.heap.size ≤ g3) (j : Nat) (u : Value) : Fld.CR w n lv ll g z (wr.setCell ⟨g3, j, none⟩ u) :=
  ⟨h.1.kept (grownBy_set wr g3 j _) (.inr hlv), h.2.1.far hne _, h.2.2.1, h.2.2.2.1, h.below.setCell hg3 _⟩
theorem Fld.CR.made {w wr w' : World} {n g : Nat} {lv : Value} {ll z z' : List UInt8} (h : Fld.CR w n lv ll g z wr) (hb : Below wr.heap.size wr w') (hh : Has w' wr.heap.size 5 (z'.map B8)) : Fld.CR w n lv ll wr.heap.size z' w' :=
  ⟨(h.keep hb).1, hh, h.below.size, fun e => by have := (h.1.lt _ e).2; omega, (h.keep hb).below⟩
theorem Fld.make8 (n : Nat) (i : Int) (hi : i = (n : Int)) (hn : n ≤ 2000000) (w : World) : ∃ w', (Instr.makeSlice 23 (.int .i64 i) (.int .i64 i)).run Try.prog w = .ok (.slice (some ⟨w.heap.size, 0, none⟩) n n) w' ∧ Has w' w.heap.size 5 ((List.replicate n (0 : UInt8)).map B8) ∧ Below w.heap.size w w' := by
  subst hi
  obtain ⟨i0, hi0, hz0, hz1, hz2⟩ := info_parts Fld.info8
  have hr := run_make (P := Try.prog) w 23 5 i0 _ Try.underlying23 hi0 hz0 .i64 .i64 n n (by omega) (Int.le_refl _) (by rw [hz2]; omega) (by omega)
  simp only [Int.toNat_natCast] at hr
  refine ⟨_, hr, ?_, (Below.refl _ _).alloc (Nat.le_refl _) _⟩
  have e : (madeCells (Value.int .u8 0).cells (n * i0.size)) = ((List.replicate n (0 : UInt8)).map B8).toArray := by
    apply Array.ext'
    rw [hz1, Nat.mul_one]
    have := toList_madeCells_one (.int .u8 0) n
    rw [List.map_replicate]
    exact this
  rw [e]
  exact Has.new w _ _

set_option maxRecDepth 100000 in
set_option maxHeartbeats 2000000 in
theorem Fld.coef_yes (A A2 : Option Addr) (m c m2 c2 : Nat) (l l2 : List UInt8) (w : World) (hl : l.length = m) (hl2 : l2.length = m2) (hm : m ≤ 1000000) (hm2 : m2 ≤ maxLen) (hrd : Rd w w.heap.size 1 A m (l.map B8)) (hrd2 : Rd w w.heap.size 1 A2 m2 (l2.map B8)) (hp : Fld.ptsB l l2 = true) :
    Calls Try.prog 39 #[.slice A m c, .slice A2 m2 c2] w (Fld.CoefPost w m (Fld.coefs l l2)) := by
  have HL := Lib.hid hl
  have HL2 := Lib.hid hl2
  have HP := Lib.hid hp
  obtain rfl : m = m2 := by have := of_decide_eq_true hp; omega
  clear hl hl2 hp
  go_enter Try.func39, Try.ntmps39
  go_wp2_with fail
  refine (Fld.points_any A A2 m c m c2 l l2 _ HL.out HL2.out hm2 hm2 hrd).mono ?_
  rintro e w1 ⟨rfl, hb1⟩
  rw [HP.out]
  have HB1 := Lib.hid hb1
  clear hb1
  go_wp2_with fail
  go_loopw [4, 6, 24] (fun lv zv i wr => ∃ k g : Nat, k ≤ m ∧ i = .int .i64 k ∧ zv = .slice (some ⟨g, 0, none⟩) (k + 1) (k + 1) ∧ Fld.CR w k lv (Fld.co l l2 k).2 g (Fld.co l l2 k).1 wr) (fun _ _ i _ => m - (intOf i).toNat)
  case atStart =>
    have h := Has.new w1 5 [B8 1]
    exact ⟨0, w1.heap.size, by omega, rfl, rfl, World.ownsRow_nil _ _ _ _, h, HB1.out.size, by simp [Value.ownBlock], HB1.out.alloc HB1.out.size _⟩
  case round =>
    obtain ⟨k, g, hk, rfl, rfl, hC⟩ := hrel
    have HC := Lib.hid hC
    obtain ⟨hzl, hll⟩ := Fld.co_len l l2 k
    have HZL := Lib.hid hzl
    have HLL := Lib.hid hll
    clear hC hzl hll
    by_cases hlt : k < m
    · obtain ⟨b, off, rfl, hbB, ec⟩ := (hrd.keep (w' := wr) (fun p hp => HC.out.below.cell hp)).byte k hlt
      obtain ⟨b2, off2, rfl, hbB2, ec2⟩ := (hrd2.keep (w' := wr) (fun p hp => HC.out.below.cell hp)).byte k hlt
      have HCO := Lib.hid (show Fld.co l l2 (k + 1) = (Fld.nxt (l.getD k 0) (Fld.co l l2 k).1, Fld.lnew (Fld.mul (l2.getD k 0 ^^^ Fld.ev (Fld.co l l2 k).2 (l.getD k 0)) (Fld.inv (Fld.ev (Fld.co l l2 k).1 (l.getD k 0)))) (Fld.co l l2 k).2 (Fld.co l l2 k).1) from rfl)
      generalize (Fld.co l l2 k).1 = z at HC HZL HLL HCO
      generalize (Fld.co l l2 k).2 = ll at HC HZL HLL HCO
      generalize l.getD k 0 = x at ec HCO
      generalize l2.getD k 0 = y at ec2 HCO
      go_wp2_with fail
      refine (Fld.eval_ev (some ⟨g, 0, none⟩) (k + 1) (k + 1) z x _ HZL.out (by unfold maxLen; omega) (HC.out.2.1.rd (by simp [HZL.out]))).mono ?_
      rintro e w2 ⟨rfl, hb2⟩
      generalize Fld.ev z x = ez at HCO ⊢
      have HC2 := Lib.hid (HC.out.keep hb2)
      have ec2' := (hb2.cell (p := ⟨b2, off2 + k, none⟩) (Nat.lt_of_lt_of_le hbB2 HC.out.below.size)).trans ec2
      clear hb2 ec ec2 HC
      go_wp2_with fail
      refine (Fld.inv_any ez _).mono ?_
      rintro e w3 ⟨rfl, hb3⟩
      generalize Fld.inv ez = iz at HCO ⊢
      generalize Fld.invE ez = ie
      have HC3 := Lib.hid (HC2.out.keep hb3)
      have ec3 := (hb3.cell (p := ⟨b2, off2 + k, none⟩) (Nat.lt_of_lt_of_le hbB2 HC2.out.below.size)).trans ec2'
      clear hb3 ec2' HC2
      obtain ⟨A3, c3, rfl⟩ := own_form HC3.out.1
      have hxr := Fld.xor8 y (Fld.ev ll x)
      have hb2w : b2 < w3.heap.size := Nat.lt_of_lt_of_le hbB2 HC3.out.below.size
      go_wp2_with fail
      go_region_held3 (fun w' => w'.cell? ⟨b2, off2 + k, none⟩ = some (B8 y) ∧ Fld.CR w k (.slice A3 k c3) ll g z w')
        (first | exact ⟨ec3, HC3.out⟩ | exact ⟨ec3, HC3.out.drew⟩ | exact ⟨kc5, k5⟩ | exact ⟨kc4, k4⟩)
        (first | (go_at_call 29; refine (Fld.eval_ev A3 k c3 ll x _ HLL.out (by unfold maxLen; omega) HC3.out.drew.rd).mono ?_; rintro e w4 ⟨rfl, hb4⟩; have k4 := HC3.out.drew.keep hb4; have kc4 := (hb4.cell (p := ⟨b2, off2 + k, none⟩) hb2w).trans ec3) | (go_at_call 43; refine (Fld.mul_any (y ^^^ Fld.ev ll x) iz _).mono ?_; rintro e w5 ⟨rfl, hb5⟩; have k5 := Fld.CR.keep k4 hb5; have kc5 := (hb5.cell (p := ⟨b2, off2 + k, none⟩) (Nat.lt_of_lt_of_le hbB2 k4.below.size)).trans kc4))
      generalize Fld.mul (y ^^^ Fld.ev ll x) iz = cc at HCO ⊢
      have HC5 := Lib.hid k5
      clear hxr hb2w kc5 kc4 k5 k4 hb4 hb5 ec3 HC3
      obtain ⟨i0, hi0, hz0, hz1, hz2⟩ := info_parts Fld.info8
      go_wp2_with (at_builtin; refine wpList_append_own_at _ rfl _ _ 23 rfl w.heap.size 5 i0 _ 1 1 Try.underlying23 hi0 hz0 hz1 hz2 rfl (by decide) _ _ _ rfl (HC5.out.1.alloc _) ⟨w5.heap.size, 0, none⟩ 1 1 [.int .u8 0] rfl rfl (new1 w5 _ _) (by simp [Value.oneCell']) (by simp only [maxLen]; omega) (by omega) (by have := HC5.out.below.size; simp; omega) ?_; intro v6 w6 hown6 hg6 _ hat6)
      have HC6 := Lib.hid (HC5.out.grow hown6 hg6 hat6)
      clear hown6 hg6 hat6 HC5 hi0 hz0 hz1 hz2
      obtain ⟨g2, c4, rfl, _, _⟩ := own_some HC6.out.1 (by omega)
      go_wp2_with fail
      go_loopw [51] (fun i wr => ∃ j : Nat, j ≤ k + 1 ∧ i = .int .i64 j ∧ Fld.CR w (k + 1) (.slice (some ⟨g2, 0, none⟩) (k + 1) c4) (Fld.lpart cc ll z j) g z wr) (fun i _ => k + 1 - (intOf i).toNat)
      case atStart => exact ⟨0, by omega, rfl, by rw [Fld.lpart_zero]; exact HC6.out⟩
      case round =>
        obtain ⟨j, hj, rfl, hC⟩ := hrel
        have HC7 := Lib.hid hC
        clear hC HC6
        by_cases hlt2 : j < k + 1
        · have e1 := HC7.out.zcell j (by rw [HZL.out]; exact hlt2)
          obtain ⟨e2, f2, z2⟩ := HC7.out.cell j hlt2
          have HS := Lib.hid (Fld.lpart_set cc ll z (by rw [HZL.out, HLL.out]) j (by rw [HLL.out]; exact hlt2))
          have HG := Lib.hid (Fld.lpart_getD cc ll z (by rw [HZL.out, HLL.out]) j (by rw [HLL.out]; exact hlt2))
          rw [HG.out] at e2
          clear HG
          generalize z.getD j 0 = zj at e1 HS
          generalize ll.getD j 0 = lj at e2 HS
          go_wp2_with fail
          go_region_with (go_at_call 43; refine (Fld.mul_any cc zj _).mono ?_; rintro e w8 ⟨rfl, hb8⟩; have e8 := (hb8.cell (p := ⟨g2, j, none⟩) z2).trans e2; have f8 := (hb8.frozen (p := ⟨g2, j, none⟩) z2).trans f2; have HC8 := Lib.hid (HC7.out.drew.keep hb8); clear hb8; generalize Fld.mul cc zj = qp at HS ⊢)
          all_goals (
            go_wp2_with fail
            go_roundw
            case rel => exact ⟨j + 1, by omega, by go_num, by rw [← HS.out, Fld.xor8]; exact HC8.out.store j _⟩
            case measure => simp [intOf]; omega)
        · obtain rfl : j = k + 1 := by omega
          obtain ⟨w9, hmk, hH9, hb9⟩ := Fld.make8 (k + 1 + 1) ((k : Int) + 1 + 1) (by omega) (by omega) wr
          have HC9 := Lib.hid (HC7.out.keep hb9)
          have HD9 := Lib.hid (HC7.out.made hb9 hH9)
          have hne := Nat.ne_of_lt HC7.out.2.1.lt
          generalize wr.heap.size = g3 at hmk HD9 hne
          clear hH9 hb9 HC7
          have HLP := Lib.hid (show Fld.lpart cc ll z (k + 1) = Fld.lnew cc ll z by rw [← HLL.out]; exact Fld.lpart_all cc ll z (by rw [HZL.out, HLL.out]))
          rw [HLP.out] at HC9 HD9
          go_wp2_with fail
          clear hmk
          go_loopw [72] (fun i wr => ∃ j : Nat, j ≤ k + 1 ∧ i = .int .i64 j ∧ Fld.CR w (k + 1) (.slice (some ⟨g2, 0, none⟩) (k + 1) c4) (Fld.lnew cc ll z) g z wr ∧ Fld.CR w (k + 1) (.slice (some ⟨g2, 0, none⟩) (k + 1) c4) (Fld.lnew cc ll z) g3 (Fld.nxtp x z j) wr) (fun i _ => k + 1 - (intOf i).toNat)
          case atStart => exact ⟨0, by omega, rfl, HC9.out, by rw [Fld.nxtp_zero, HZL.out]; exact HD9.out⟩
          case round =>
            obtain ⟨j, hj, rfl, hC, hD⟩ := hrel
            have HC := Lib.hid hC
            have HD := Lib.hid hD
            clear hC hD HC9 HD9
            by_cases hlt3 : j < k + 1
            · have e1 := HC.out.zcell j (by rw [HZL.out]; exact hlt3)
              have e2 := HD.out.zcell j (by rw [Fld.nxtp_len, HZL.out]; omega)
              have e3 := HD.out.zcell (j + 1) (by rw [Fld.nxtp_len, HZL.out]; omega)
              have f2 := HD.out.2.1.frozen j
              have f3 := HD.out.2.1.frozen (j + 1)
              have z2 := HD.out.2.1.lt
              have HS := Lib.hid (Fld.nxtp_set x z j (by rw [HZL.out]; exact hlt3))
              have hg3 := HD.out.2.2.1
              have hlv := Lib.hid HD.out.2.2.2.1
              generalize z.getD j 0 = zj at e1 HS
              generalize (Fld.nxtp x z j).getD j 0 = n0 at e2 HS
              generalize (Fld.nxtp x z j).getD (j + 1) 0 = n1 at e3 HS
              go_wp2_with fail
              go_region_with (go_at_call 43; refine (Fld.mul_any zj x _).mono ?_; rintro e w8 ⟨rfl, hb8⟩; have e8 := (hb8.cell (p := ⟨g3, j, none⟩) z2).trans e2; have f8 := (hb8.frozen (p := ⟨g3, j, none⟩) z2).trans f2; have e9 := (hb8.cell (p := ⟨g3, j + 1, none⟩) z2).trans e3; have f9 := (hb8.frozen (p := ⟨g3, j + 1, none⟩) z2).trans f3; have HC8 := Lib.hid (HC.out.drew.keep hb8); have HD8 := Lib.hid (HD.out.drew.keep hb8); clear hb8; generalize Fld.mul zj x = qp at HS ⊢)
              all_goals (
                go_wp2_with fail
                go_roundw
                case rel =>
                  repeat apply Exists.intro
                  refine ⟨?_, rfl⟩
                  exact ⟨j + 1, by omega, by go_num, (HC8.out.zfar hne hlv.out hg3 _ _).zfar hne hlv.out hg3 _ _, by rw [← HS.out, Fld.xor8, Fld.xor8]; exact (HD8.out.zstore j _).zstore (j + 1) _⟩
                case measure => simp [intOf]; omega)
            · obtain rfl : j = k + 1 := by omega
              go_wp2_with fail
              go_roundw
              case rel => exact ⟨k + 1, g3, by omega, by go_num, rfl, by rw [HCO.out, ← Fld.nxtp_all, HZL.out]; exact HD.out⟩
              case measure => simp [intOf]; omega
    · obtain rfl : k = m := by omega
      go_wp2_with fail
      go_ret2
      exact ⟨_, rfl, by rw [Fld.coefs, HL.out]; exact HC.out.1, HC.out.below⟩
end Go.Proofs.Ytpijkjpefdlefaa
