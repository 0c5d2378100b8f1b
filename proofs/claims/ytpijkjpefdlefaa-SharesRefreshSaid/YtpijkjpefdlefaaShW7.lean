/- Contract of shares.points: the points of shares for a byte. -/
import Derived.Test.YtpijkjpefdlefaaShW6
namespace Go.Proofs.Ytpijkjpefdlefaa
open Go.RowKit Go.Shelf
set_option linter.unusedVariables false

/-- two slices of bytes of the call's own, in two blocks -/
structure Two (W : World) (base : Nat) (v1 v2 : Value) (n : Nat) (X Y : List UInt8) : Prop where
  x : W.ownsRow base 5 1 v1 n (X.map B8)
  y : W.ownsRow base 5 1 v2 n (Y.map B8)
  xy : v1.ownBlock = none ∨ v1.ownBlock ≠ v2.ownBlock
theorem Two.keep {W W' : World} {base n : Nat} {v1 v2 : Value} {X Y : List UInt8} (h : Two W base v1 v2 n X Y) (hb : Below W.heap.size W W') : Two W' base v1 v2 n X Y := ⟨own_below h.x hb, own_below h.y hb, h.xy⟩
theorem two_sym {a b : Option Nat} (h : a = none ∨ a ≠ b) : b = none ∨ b ≠ a := by
  cases b with
  | none => exact .inl rfl
  | some g =>
    refine .inr fun e => ?_
    rcases h with h | h
    · rw [h] at e; cases e
    · exact h e.symm
/-- what an append leaves is in none of the blocks that the old slice was apart from -/
theorem Grew.apart {w w' : World} {base e size n : Nat} {v v' : Value} {xs : List Value} (hG : Grew w base e size v n xs v' w') {row : Option Nat} (h : v.ownBlock = none ∨ v.ownBlock ≠ row) (hlt : ∀ g, row = some g → g < w.heap.size) : v'.ownBlock = none ∨ v'.ownBlock ≠ row := by
  rcases hG.at_ with e | e
  · rw [e]; exact h
  · rw [e]
    refine .inr fun e2 => ?_
    have := hlt _ e2.symm
    omega
/-- behind two appends, one onto each -/
theorem Two.step {W w0 pre wA wm wB : World} {base n : Nat} {v1 v2 vA vB : Value} {X Y : List UInt8} {a b : UInt8} (h : Two w0 base v1 v2 n X Y) (hB0 : Below base W w0) (hbase : base ≤ w0.heap.size) (hpre : Below w0.heap.size w0 pre)
    (hGA : Grew pre base 5 1 v1 (n + 1) (X.map B8 ++ [B8 a]) vA wA) (hmid : Below wA.heap.size wA wm) (hGB : Grew wm base 5 1 v2 (n + 1) (Y.map B8 ++ [B8 b]) vB wB) :
    Two wB base vA vB (n + 1) (X ++ [a]) (Y ++ [b]) ∧ Below base W wB := by
  have h2lt : ∀ g, v2.ownBlock = some g → g < pre.heap.size := fun g e => Nat.lt_of_lt_of_le (h.y.lt g e).2 hpre.size
  have hA2 := hGA.apart h.xy h2lt
  have hsz := hGA.grown.size
  have hsp := hpre.size
  have hsm := hmid.size
  have hAlt : ∀ g, vA.ownBlock = some g → g < wm.heap.size := fun g e => Nat.lt_of_lt_of_le (hGA.own.lt g e).2 hmid.size
  refine ⟨⟨by rw [List.map_append]; exact (own_below hGA.own hmid).kept hGB.grown hA2, by rw [List.map_append]; exact hGB.own, two_sym (hGB.apart (two_sym hA2) hAlt)⟩, ?_⟩
  have b1 : Below base W pre := hB0.trans (hpre.mono hbase)
  have b2 : Below base W wA := b1.grown hGA.grown (by omega) (fun g e => own_ge h.x e)
  have b3 : Below base W wm := b2.trans (hmid.mono (by omega))
  exact b3.grown hGB.grown (by omega) (fun g e => own_ge h.y e)
theorem Rd.keptB {w w' : World} {B size n : Nat} {A : Option Addr} {xs : List Value} {row : Option Nat} (h : Rd w B size A n xs) (hg : w.grownBy w' row) (hf : Far A row) : Rd w' B size A n xs :=
  ⟨h.1, fun hn => by
    obtain ⟨b, off, e, hb, hc⟩ := h.2 hn
    exact ⟨b, off, e, hb, fun j u hu => hg.cell (hc j u hu) (hf b off e)⟩⟩
theorem far_new {b : Nat} {row : Option Nat} (h : ∀ g, row = some g → g < b) : Far (some ⟨b, 0, none⟩) row := by
  rintro b' off e e2
  injection e with e
  injection e with e1
  subst e1
  have := h b e2.symm
  omega
theorem rd_old (w : World) (t : TypeId) (v : Value) (o : Obj) : Rd ((w.alloc (.cells [v].toArray t)).alloc o) (w.alloc (.cells [v].toArray t)).heap.size 1 (some ⟨w.heap.size, 0, none⟩) 1 [v] :=
  (rd_new w t 1 [v] rfl).below ((Below.refl _ _).alloc (Nat.le_refl _) _) (Nat.le_refl _)

theorem Rd.drew {w : World} {B size n : Nat} {A : Option Addr} {xs : List Value} (h : Rd w B size A n xs) : Rd w.drew B size A n xs := h
theorem rd_second (w : World) (t : TypeId) (v : Value) (o : Obj) : Rd ((w.alloc o).alloc (.cells [v].toArray t)) ((w.alloc o).alloc (.cells [v].toArray t)).heap.size 1 (some ⟨w.heap.size + 1, 0, none⟩) 1 [v] := by
  have h := rd_new (w.alloc o) t 1 [v] rfl
  rw [World.size_alloc w o] at h
  exact h

/-- the place of a share, as a byte -/
def Shr.S.bx (s : Shr.S) : UInt8 := UInt8.ofNat s.ix.toNat
theorem u8_wrapI (i : Int) (h0 : 0 ≤ i) (h : i ≤ 255) : IntKind.u8.wrap i = ((UInt8.ofNat i.toNat).toNat : Int) := by
  have := u8_wrap i.toNat (by omega)
  rwa [Int.toNat_of_nonneg h0] at this
/-- the points of shares are handed back -/
def Shr.RetP (w : World) (n : Nat) (X Y : List UInt8) (e : Ending) (w' : World) : Prop := ∃ v1 v2, e = .returned (.tuple #[v1, v2]) ∧ Two w' w.heap.size v1 v2 n X Y ∧ Below w.heap.size w w'
def Shr.ptX (l : List Shr.S) : List UInt8 := l.map Shr.S.bx
def Shr.ptY (l : List Shr.S) (k : Nat) : List UInt8 := l.map fun s => s.d.getD k 0
theorem Shr.ptX_take (xs : List Shr.C) (k : Nat) (hk : k < xs.length) : (Shr.ptX (Shr.vals xs)).take (k + 1) = (Shr.ptX (Shr.vals xs)).take k ++ [(xs[k]!).s.bx] := by
  rw [List.take_succ_eq_append_getElem (by simp [Shr.ptX, Shr.vals]; exact hk), getElem!_pos xs k hk]
  simp [Shr.ptX, Shr.vals]
theorem Shr.ptY_take (xs : List Shr.C) (a k : Nat) (hk : k < xs.length) : (Shr.ptY (Shr.vals xs) a).take (k + 1) = (Shr.ptY (Shr.vals xs) a).take k ++ [(xs[k]!).s.d.getD a 0] := by
  rw [List.take_succ_eq_append_getElem (by simp [Shr.ptY, Shr.vals]; exact hk), getElem!_pos xs k hk]
  simp [Shr.ptY, Shr.vals]

set_option maxRecDepth 100000 in
set_option maxHeartbeats 1000000 in
theorem Shr.points_any (A : Option Addr) (n c a : Nat) (xs : List Shr.C) (w : World) (hr : Shr.Rds w A n xs) (hn : n ≤ 1000) (hd : ∀ x, x ∈ xs → a < x.s.d.length) (hix : ∀ x, x ∈ xs → 0 ≤ x.s.ix ∧ x.s.ix ≤ 255) :
    Calls Try.prog 35 #[.slice A n c, .int .i64 a] w (Shr.RetP w n (Shr.ptX (Shr.vals xs)) (Shr.ptY (Shr.vals xs) a)) := by
  have HR := Lib.hid hr
  have HD := Lib.hid hd
  have HIX := Lib.hid hix
  have HL := Lib.hid hr.len
  clear hr hd hix
  go_enter Try.func35, Try.ntmps35
  go_wp2_with fail
  go_loopw [4, 5, 10] (fun v1 v2 i wr => ∃ k : Nat, k ≤ n ∧ i = .int .i64 k ∧ Two wr w.heap.size v1 v2 k ((Shr.ptX (Shr.vals xs)).take k) ((Shr.ptY (Shr.vals xs) a).take k) ∧ Below w.heap.size w wr) (fun _ _ i _ => n - (intOf i).toNat)
  case atStart => exact ⟨0, by omega, rfl, ⟨World.ownsRow_nil _ _ _ _, World.ownsRow_nil _ _ _ _, .inl rfl⟩, Below.refl _ _⟩
  case round =>
    obtain ⟨k, hk, rfl, hT, hB⟩ := hrel
    have HT := Lib.hid hT
    have HB := Lib.hid hB
    clear hT hB
    by_cases hlt : k < n
    · obtain ⟨b, off, rfl, hbw, e0, e1, e2, e3, e4⟩ := (HR.out.keep HB.out).at k hlt
      have hmem : xs[k]! ∈ xs := by rw [getElem!_pos xs k (by rw [HL.out]; exact hlt)]; exact List.getElem_mem _
      have hok := HR.out.mem k hlt
      have hda := HD.out _ hmem
      have hix := HIX.out _ hmem
      have HTX := Lib.hid (Shr.ptX_take xs k (by rw [HL.out]; exact hlt))
      have HTY := Lib.hid (Shr.ptY_take xs a k (by rw [HL.out]; exact hlt))
      generalize xs[k]! = x at e0 e1 e2 e3 e4 hok hda hix HTX HTY
      obtain ⟨bd, offd, hxA, hbd, ed0⟩ := hok.rd.byte a hda
      have ed := (HB.out.cell (p := ⟨bd, offd + a, none⟩) hbd).trans ed0
      have hlenm := hok.len
      rw [hxA] at e4
      clear hok hmem hxA ed0
      have hwx := u8_wrapI x.s.ix hix.1 hix.2
      generalize x.s.d.getD a 0 = y at ed HTY
      have HBX := Lib.hid (show x.s.bx = UInt8.ofNat x.s.ix.toNat from rfl)
      generalize x.s.d.length = dl at e4 hda hlenm
      generalize x.s.bx = bx at HTX HBX
      rw [← HBX.out] at hwx
      unfold maxLen at hlenm
      have hszw := HB.out.size
      have hxlt : ∀ g, u4.ownBlock = some g → g < wr.heap.size := fun g e => (HT.out.x.lt g e).2
      have hylt : ∀ g, u5.ownBlock = some g → g < wr.heap.size := fun g e => (HT.out.y.lt g e).2
      have hxge : ∀ g, u4.ownBlock = some g → w.heap.size ≤ g := fun g e => own_ge HT.out.x e
      have hyge : ∀ g, u5.ownBlock = some g → w.heap.size ≤ g := fun g e => own_ge HT.out.y e
      have HXL := Lib.hid hxlt
      have HYL := Lib.hid hylt
      have n1 : some wr.heap.size ≠ u4.ownBlock := fun e => by have := hxlt _ e.symm; omega
      have n2 : some wr.heap.size ≠ u5.ownBlock := fun e => by have := hylt _ e.symm; omega
      have n3 : some bd ≠ u4.ownBlock := fun e => by have := hxge _ e.symm; omega
      have n4 : some bd ≠ u5.ownBlock := fun e => by have := hyge _ e.symm; omega
      have N1 := Lib.hid n1
      have N2 := Lib.hid n2
      have N3 := Lib.hid n3
      have N4 := Lib.hid n4
      clear hxlt hylt hxge hyge n1 n2 n3 n4
      have hxd0 : (0 : Int) ≤ (a : Int) := by omega
      have hxd1 : (a : Int) < (dl : Int) := by omega
      go_wp2_with fail
      clear e0 e1 e2 e3 e4
      generalize hwW : wr.alloc (.cells #[.int .i64 x.s.ep, .int .i64 x.s.ix, .int .i64 x.s.th, .int .i64 x.s.mn, .slice (some ⟨bd, offd, none⟩) dl x.c] 41) = w0
      have HH0 := Lib.hid (show Has w0 wr.heap.size 41 [.int .i64 x.s.ep, .int .i64 x.s.ix, .int .i64 x.s.th, .int .i64 x.s.mn, .slice (some ⟨bd, offd, none⟩) dl x.c] by rw [← hwW]; exact Has.new wr _ _)
      have c1 := HH0.out.cell 1
      have c4 := HH0.out.cell 4
      simp only [List.getElem?_cons_succ, List.getElem?_cons_zero] at c1 c4
      have hBw := (Below.refl wr.heap.size wr).alloc (Nat.le_refl _) (.cells #[.int .i64 x.s.ep, .int .i64 x.s.ix, .int .i64 x.s.th, .int .i64 x.s.mn, .slice (some ⟨bd, offd, none⟩) dl x.c] 41)
      rw [hwW] at hBw
      have hz0 : w0.heap.size = wr.heap.size + 1 := by rw [← hwW]; simp
      have HT0 := Lib.hid (HT.out.keep hBw)
      have HB0 := Lib.hid (HB.out.trans (hBw.mono HB.out.size))
      have cd := (hBw.cell (p := ⟨bd, offd + a, none⟩) (show bd < wr.heap.size by omega)).trans ed
      have F0 := Lib.hid (show Far (some ⟨w0.heap.size, 0, none⟩) u4.ownBlock from far_new fun g e => by have := HXL.out g e; omega)
      have F1 := Lib.hid (show Far (some ⟨w0.heap.size + 1, 0, none⟩) u4.ownBlock from far_new fun g e => by have := HXL.out g e; omega)
      have HYX := Lib.hid (two_sym HT.out.xy)
      have HZ0 := Lib.hid hz0
      clear hwW hBw ed HT HB hz0
      go_region_held3 (fun w' => w'.cell? ⟨wr.heap.size, 1, none⟩ = some (.int .i64 x.s.ix) ∧ w'.cell? ⟨wr.heap.size, 4, none⟩ = some (.slice (some ⟨bd, offd, none⟩) dl x.c) ∧ w'.cell? ⟨bd, offd + a, none⟩ = some (B8 y))
        (first
          | exact ⟨c1, c4, cd⟩
          | go_keep
          | (go_split_ands
             refine ⟨?_, ?_, ?_⟩
             · first | (rw [hGB.grown.cell_far _ (by have := HZ0.out; have := hszw; simp; omega) N2.out]; assumption) | (rw [hGA.grown.cell_far _ (by have := HZ0.out; have := hszw; simp; omega) N1.out]; assumption)
             · first | (rw [hGB.grown.cell_far _ (by have := HZ0.out; have := hszw; simp; omega) N2.out]; assumption) | (rw [hGA.grown.cell_far _ (by have := HZ0.out; have := hszw; simp; omega) N1.out]; assumption)
             · first | (rw [hGB.grown.cell_far _ (by have := HZ0.out; have := hszw; simp; omega) N4.out]; assumption) | (rw [hGA.grown.cell_far _ (by have := HZ0.out; have := hszw; simp; omega) N3.out]; assumption)))
        (first
          | (refine step_append_rd (by rfl) (.tmp 14) (.tmp 18) (by rfl) el8 (by rfl) (own_drew (HT0.out.x.alloc _)) (by rfl) (rd_new _ 5 1 [B8 bx] rfl) (by simp [Value.oneCell']) (fun h => by (cases h)) (by unfold maxLen; omega) (by omega) (by have := HZ0.out; simp; omega) ?_; intro vA wA hGA; have hYa := (own_drew (HT0.out.y.alloc _)).kept hGA.grown HYX.out; have sA : wr.heap.size < wA.heap.size := (by have h1 := hGA.grown.size; have h2 := HZ0.out; simp at h1; omega))
          | (refine step_append_rd (by rfl) (.tmp 14) (.tmp 18) (by rfl) el8 (by rfl) (own_drew ((HT0.out.x.alloc _).alloc _)) (by rfl) (rd_second _ 5 (B8 bx) _) (by simp [Value.oneCell']) (fun h => by (cases h)) (by unfold maxLen; omega) (by omega) (by have := HZ0.out; simp; omega) ?_; intro vA wA hGA; have hYa := (own_drew ((HT0.out.y.alloc _).alloc _)).kept hGA.grown HYX.out; have sA : wr.heap.size < wA.heap.size := (by have h1 := hGA.grown.size; have h2 := HZ0.out; simp at h1; omega))
          | (refine step_append_rd (by rfl) (.tmp 14) (.tmp 18) (by rfl) el8 (by rfl) (own_drew ((HT0.out.x.alloc _).alloc _)) (by rfl) (rd_old _ 5 (B8 bx) _) (by simp [Value.oneCell']) (fun h => by (cases h)) (by unfold maxLen; omega) (by omega) (by have := HZ0.out; simp; omega) ?_; intro vA wA hGA; have hYa := (own_drew ((HT0.out.y.alloc _).alloc _)).kept hGA.grown HYX.out; have sA : wr.heap.size < wA.heap.size := (by have h1 := hGA.grown.size; have h2 := HZ0.out; simp at h1; omega))
          | (refine step_append_rd (by rfl) (.tmp 20) (.tmp 26) (by rfl) el8 (by rfl) (hYa.alloc _) (by rfl) (rd_new _ 5 1 [B8 y] rfl) (by simp [Value.oneCell']) (fun h => by (cases h)) (by unfold maxLen; omega) (by omega) (by have h1 := hGA.grown.size; have h2 := HZ0.out; simp at h1; simp; omega) ?_; intro vB wB hGB)
          | (refine step_append_rd (by rfl) (.tmp 20) (.tmp 26) (by rfl) el8 (by rfl) (hYa) (by rfl) ((rd_second _ 5 (B8 y) _).drew.keptB hGA.grown F1.out) (by simp [Value.oneCell']) (fun h => by (cases h)) (by unfold maxLen; omega) (by omega) (by have h1 := hGA.grown.size; have h2 := HZ0.out; simp at h1; simp; omega) ?_; intro vB wB hGB)
          | (refine step_append_rd (by rfl) (.tmp 20) (.tmp 26) (by rfl) el8 (by rfl) (hYa) (by rfl) ((rd_old _ 5 (B8 y) _).drew.keptB hGA.grown F0.out) (by simp [Value.oneCell']) (fun h => by (cases h)) (by unfold maxLen; omega) (by omega) (by have h1 := hGA.grown.size; have h2 := HZ0.out; simp at h1; simp; omega) ?_; intro vB wB hGB))
      all_goals (
        have hst : Two wB w.heap.size vA vB (k + 1) ((Shr.ptX (Shr.vals xs)).take (k + 1)) ((Shr.ptY (Shr.vals xs) a).take (k + 1)) ∧ Below w.heap.size w wB := by
          rw [HTX.out, HTY.out]
          have hle : w.heap.size ≤ w0.heap.size := by have := HZ0.out; omega
          first
            | exact HT0.out.step HB0.out hle ((Below.refl _ _).alloc (Nat.le_refl _) _).drew hGA ((Below.refl _ _).alloc (Nat.le_refl _) _) hGB
            | exact HT0.out.step HB0.out hle (((Below.refl _ _).alloc (Nat.le_refl _) _).alloc (by simp) _).drew hGA (Below.refl _ _) hGB
        have HST := Lib.hid hst
        clear hst hGA hGB hYa sA
        go_wp2_with fail
        go_roundw
        case rel => exact ⟨k + 1, by omega, by go_num, HST.out.1, HST.out.2⟩
        case measure => simp [intOf]; omega)
    · obtain rfl : k = n := by omega
      go_wp2_with fail
      go_ret2
      refine ⟨_, _, rfl, ?_, HB.out⟩
      have e1 := List.take_of_length_le (l := Shr.ptX (Shr.vals xs)) (i := k) (by simp [Shr.ptX, Shr.vals, HL.out])
      have e2 := List.take_of_length_le (l := Shr.ptY (Shr.vals xs) a) (i := k) (by simp [Shr.ptY, Shr.vals, HL.out])
      rw [e1, e2] at HT
      exact HT.out
end Go.Proofs.Ytpijkjpefdlefaa
