import Derived.Test.YtideglpjgplpnaaDoorMShW6
/- Contract of shares.Join. -/
namespace Go.Proofs.YtideglpjgplpnaaDoor
open Go.RowKit Go.Shelf
set_option linter.unusedVariables false

theorem below_n1 {w w' : World} {o1 : Obj} (hb : Below (w.alloc o1).heap.size (w.alloc o1) w') : Below w.heap.size w w' :=
  ((Below.refl _ _).alloc (Nat.le_refl _) _).trans (hb.mono (by simp))
theorem below_n2 {w w' : World} {o1 o2 : Obj} (hb : Below ((w.alloc o1).alloc o2).heap.size ((w.alloc o1).alloc o2) w') : Below w.heap.size w w' :=
  (((Below.refl _ _).alloc (Nat.le_refl _) _).alloc (by simp) _).trans (hb.mono (by simp; omega))
/-- what the closure of Join sees -/
structure Shr.Jn (bl bt : Nat) (A : Option Addr) (n c t : Nat) (xs : List Shr.C) (W : World) : Prop where
  l : W.cell? ⟨bl, 0, none⟩ = some (.slice A n c)
  t : W.cell? ⟨bt, 0, none⟩ = some (.int .i64 (t : Int))
  r : Shr.Rds W A n xs
  zl : bl < W.heap.size
  zt : bt < W.heap.size
theorem Shr.Jn.keep {bl bt : Nat} {A : Option Addr} {n c t : Nat} {xs : List Shr.C} {W W' : World} (h : Shr.Jn bl bt A n c t xs W) (hb : Below W.heap.size W W') : Shr.Jn bl bt A n c t xs W' :=
  ⟨(hb.cell (p := ⟨bl, 0, none⟩) h.zl).trans h.l, (hb.cell (p := ⟨bt, 0, none⟩) h.zt).trans h.t, h.r.keep hb, Nat.lt_of_lt_of_le h.zl hb.size, Nat.lt_of_lt_of_le h.zt hb.size⟩

set_option maxHeartbeats 1000000 in
theorem Shr.jn1_any (bl bt : Nat) (A : Option Addr) (n c t k : Nat) (xs : List Shr.C) (W : World) (hS : Shr.Jn bl bt A n c t xs W) (ht : t ≤ n) (hpos : 0 < t) (hn : n ≤ 8) (hc : n ≤ c) (hcm : c ≤ maxLen) (hk : k < 64) (hd : ∀ x, x ∈ xs → k < x.s.d.length) (hix : ∀ x, x ∈ xs → 0 ≤ x.s.ix ∧ x.s.ix ≤ 255) :
    Calls Tryd.prog 57 #[.int .i64 k, .pointer (some ⟨bl, 0, none⟩), .pointer (some ⟨bt, 0, none⟩)] W fun e W' => e = .returned (B8 (Fld.thrV (Shr.ptX (Shr.vals (xs.take t))) (Shr.ptY (Shr.vals (xs.take t)) k) 0)) ∧ Below W.heap.size W W' := by
  unfold maxLen at hcm
  obtain ⟨b, off, rfl, _⟩ := hS.r.first (by omega)
  have e1 := hS.l
  have e2 := hS.t
  have HR := Lib.hid (hS.r.take t ht)
  have HD := Lib.hid (show ∀ x, x ∈ xs.take t → k < x.s.d.length from fun x hx => hd x (List.mem_of_mem_take hx))
  have HIX := Lib.hid (show ∀ x, x ∈ xs.take t → 0 ≤ x.s.ix ∧ x.s.ix ≤ 255 from fun x hx => hix x (List.mem_of_mem_take hx))
  clear hS hd hix
  have hne : ¬ c = 0 := by omega
  go_enter Tryd.func57, Tryd.ntmps57
  go_wp2_with fail
  refine (Shr.points_any (some ⟨b, off, none⟩) t c k (xs.take t) W HR.out (by omega) HD.out HIX.out).mono ?_
  rintro e w1 ⟨v1, v2, rfl, hT, hb1⟩
  have HB1 := Lib.hid hb1
  obtain ⟨A1, c1, rfl⟩ := own_form hT.x
  obtain ⟨A2, c2, rfl⟩ := own_form hT.y
  have HX := Lib.hid (RdB.of_own hT.x)
  have HY := Lib.hid (RdB.of_own hT.y)
  clear hT hb1
  go_wp2_with fail
  refine (Fld.through_any A1 A2 t c1 t c2 _ _ 0 w1 (by omega) (by unfold maxLen; omega) HX.out HY.out).mono ?_
  rintro e w2 ⟨rfl, hb2⟩
  have HB2 := Lib.hid (HB1.out.trans (hb2.mono HB1.out.size))
  clear hb2
  go_wp2_with fail
  go_ret
  exact ⟨rfl, HB2.out⟩

/-- bytes are handed back, without an error -/
def RetBE (w : World) (n : Nat) (r : List UInt8) (e : Ending) (w' : World) : Prop := ∃ A c, e = .returned (.tuple #[.slice A n c, .int .i64 0]) ∧ (A = none → c = 0) ∧ RdB w' A n r ∧ Fresh w.heap.size A ∧ (∀ b off, A = some ⟨b, off, none⟩ → b < w'.heap.size) ∧ Below w.heap.size w w'

set_option maxHeartbeats 1000000 in
theorem Shr.join_no (A : Option Addr) (n c : Nat) (xs : List Shr.C) (w : World) (hr : Shr.Rds w A n xs) (hn : n ≤ maxLen) (h : Shr.joinE (Shr.vals xs) ≠ 0) :
    Calls Tryd.prog 32 #[.slice A n c] w fun e w' => e = .returned (.tuple #[.slice none 0 0, .int .i64 (Shr.joinE (Shr.vals xs))]) ∧ Below w.heap.size w w' := by
  have HN := Lib.hid hn
  by_cases h1 : Shr.chkE (Shr.vals xs) = 0
  · have hg := Shr.good _ h1
    have hlt : ((Shr.vals xs).length : Int) < (Shr.vals xs)[0]!.th := by
      unfold Shr.joinE at h
      rw [if_neg (by simp [h1])] at h
      by_cases hh : ((Shr.vals xs).length : Int) < (Shr.vals xs)[0]!.th
      · exact hh
      · rw [if_neg hh] at h; exact absurd rfl h
    have HE := Lib.hid (show Shr.joinE (Shr.vals xs) = 60 by unfold Shr.joinE; rw [if_neg (by simp [h1]), if_pos hlt])
    have hpos : 0 < n := by have := hg.pos; rw [Shr.vals_len, hr.len] at this; exact this
    obtain ⟨b, off, rfl, hb, e0, e1, e2, e3, e4⟩ := hr.first hpos
    have hth8 : (Shr.vals xs)[0]!.th ≤ 8 := by have := hg.thm; have := hg.mn8; omega
    rw [Shr.vals_len, hr.len] at hlt
    rw [Shr.vals_at xs 0 (by rw [hr.len]; exact hpos)] at hlt hth8
    have HR := Lib.hid hr
    have H1 := Lib.hid h1
    clear hr h1 h hg e0 e1 e3 e4 hn
    generalize (xs[0]!).s.th = th at e2 hlt hth8
    go_enter Tryd.func32, Tryd.ntmps32
    go_wp2_with fail
    refine (Shr.check_any (some ⟨b, off, none⟩) n c xs _ (HR.out.alloc _) HN.out).mono ?_
    rintro e w1 ⟨rfl, hb1⟩
    rw [H1.out]
    have c2 := (hb1.cell (p := ⟨b, off + 2, none⟩) (show b < _ by simp; omega)).trans ((((Below.refl w.heap.size w).alloc (Nat.le_refl _) _).cell (p := ⟨b, off + 2, none⟩) hb).trans e2)
    have HB1 := Lib.hid (below_n1 hb1)
    obtain ⟨z1, d1⟩ := ((Has.new w 28 [.slice (some ⟨b, off, none⟩) n c]).keep hb1).r1
    have hbw1 : b < w1.heap.size := Nat.lt_of_lt_of_le hb HB1.out.size
    clear hb1 e2
    go_wp2_with fail
    go_ret2
    exact ⟨by rw [HE.out]; rfl, HB1.out.alloc HB1.out.size _⟩
  · have HE := Lib.hid (show Shr.joinE (Shr.vals xs) = Shr.chkE (Shr.vals xs) by unfold Shr.joinE; rw [if_pos h1])
    have HR := Lib.hid hr
    clear hr h
    have hq : ∀ z : Int, z = Shr.chkE (Shr.vals xs) → (z != 0) = true := fun z e => by subst e; simpa using h1
    clear hn h1
    go_enter Tryd.func32, Tryd.ntmps32
    go_wp2_with fail
    refine (Shr.check_any A n c xs _ (HR.out.alloc _) HN.out).mono ?_
    rintro e w1 ⟨rfl, hb1⟩
    rw [← HE.out] at hq
    rw [← HE.out]
    generalize hje : Shr.joinE (Shr.vals xs) = je at hq ⊢
    have HJE := Lib.hid hje
    have hq2 := hq je rfl
    have HB1 := Lib.hid (below_n1 hb1)
    clear hb1 hq HE hje
    go_wp2_with fail
    go_ret2
    exact ⟨by rw [HJE.out]; rfl, HB1.out⟩

set_option maxHeartbeats 1000000 in
theorem Shr.join_yes (A : Option Addr) (n c : Nat) (xs : List Shr.C) (w : World) (hr : Shr.Rds w A n xs) (hnc : n ≤ c) (hcm : c ≤ maxLen) (h : Shr.joinE (Shr.vals xs) = 0) :
    Calls Tryd.prog 32 #[.slice A n c] w (RetBE w (Shr.vals xs)[0]!.d.length (Shr.joinV (Shr.vals xs))) := by
  have h1 : Shr.chkE (Shr.vals xs) = 0 := by
    unfold Shr.joinE at h
    by_cases h1 : Shr.chkE (Shr.vals xs) = 0
    · exact h1
    · rw [if_pos h1] at h; exact absurd h h1
  have hg := Shr.good _ h1
  have hlt : (Shr.vals xs)[0]!.th ≤ ((Shr.vals xs).length : Int) := by
    unfold Shr.joinE at h
    rw [if_neg (by simp [h1])] at h
    by_cases hh : ((Shr.vals xs).length : Int) < (Shr.vals xs)[0]!.th
    · rw [if_pos hh] at h; exact absurd h (by decide)
    · omega
  have hfew := hg.few
  have hpos : 0 < n := by have := hg.pos; rw [Shr.vals_len, hr.len] at this; exact this
  obtain ⟨b, off, rfl, hb, e0, e1, e2, e3, e4⟩ := hr.first hpos
  have hv0 := Shr.vals_at xs 0 (by rw [hr.len]; exact hpos)
  have hth1 := hg.th1
  have hd64 := hg.d64
  have HIX := Lib.hid hg.ix_of
  have HDL := Lib.hid hg.dl_of
  rw [Shr.vals_len, hr.len] at hlt hfew
  have HT := Lib.hid (show Shr.tt (Shr.vals xs) = (xs[0]!).s.th.toNat by rw [Shr.tt, hv0])
  have HJ := Lib.hid (show ∀ t : Nat, (xs[0]!).s.th = (t : Int) → ∀ dl : Nat, (xs[0]!).s.d.length = dl → Shr.joinV (Shr.vals xs) = (List.range dl).map (fun k => Fld.thrV (Shr.ptX (Shr.vals (xs.take t))) (Shr.ptY (Shr.vals (xs.take t)) k) 0) from fun t ht dl hdl => by
    unfold Shr.joinV
    rw [hv0, hdl]
    refine List.map_congr_left fun k _ => ?_
    rw [Shr.joinB, HT.out, ht, Int.toNat_natCast, Shr.vals_take])
  rw [hv0] at hlt hth1 hd64 HDL ⊢
  have HR := Lib.hid hr
  have H1 := Lib.hid h1
  have HCM := Lib.hid hcm
  obtain ⟨t, ht⟩ : ∃ t : Nat, (xs[0]!).s.th = (t : Int) := ⟨(xs[0]!).s.th.toNat, by omega⟩
  obtain ⟨dl, hdl⟩ : ∃ dl : Nat, (xs[0]!).s.d.length = dl := ⟨_, rfl⟩
  have HJ2 := Lib.hid (HJ.out t ht dl hdl)
  rw [ht] at e2 hlt hth1
  rw [hdl] at e4 hd64 HDL ⊢
  clear hr h1 h hg e0 e1 e3 hv0 HT HJ ht hdl hcm
  generalize (xs[0]!).A = A0 at e4
  generalize (xs[0]!).c = c0 at e4
  go_enter Tryd.func32, Tryd.ntmps32
  go_wp2_with fail
  refine (Shr.check_any (some ⟨b, off, none⟩) n c xs _ (HR.out.alloc _) (by unfold maxLen; omega)).mono ?_
  rintro e w1 ⟨rfl, hb1⟩
  rw [H1.out]
  have c2 := (hb1.cell (p := ⟨b, off + 2, none⟩) (show b < _ by simp; omega)).trans ((((Below.refl w.heap.size w).alloc (Nat.le_refl _) _).cell (p := ⟨b, off + 2, none⟩) hb).trans e2)
  have c4 := (hb1.cell (p := ⟨b, off + 4, none⟩) (show b < _ by simp; omega)).trans ((((Below.refl w.heap.size w).alloc (Nat.le_refl _) _).cell (p := ⟨b, off + 4, none⟩) hb).trans e4)
  have HB1 := Lib.hid (below_n1 hb1)
  have HH := Lib.hid ((Has.new w 28 [.slice (some ⟨b, off, none⟩) n c]).keep hb1)
  obtain ⟨z1, d1⟩ := HH.out.r1
  have hbw1 : b < w1.heap.size := Nat.lt_of_lt_of_le hb HB1.out.size
  clear hb1 e2 e4
  go_wp2_with fail
  have HB2 := Lib.hid (HB1.out.alloc HB1.out.size (.cells #[.int .i64 (t : Int)] 3))
  have hf : ∀ (k : Nat) (W : World), k < dl → Shr.Jn w.heap.size w1.heap.size (some ⟨b, off, none⟩) n c t xs W → Calls Tryd.prog 57 (#[.int .i64 (k : Int)] ++ #[.pointer (some ⟨w.heap.size, 0, none⟩), .pointer (some ⟨w1.heap.size, 0, none⟩)]) W fun e W' => e = .returned (B8 (Fld.thrV (Shr.ptX (Shr.vals (xs.take t))) (Shr.ptY (Shr.vals (xs.take t)) k) 0)) ∧ Below W.heap.size W W' :=
    fun k W hk hS => Shr.jn1_any _ _ (some ⟨b, off, none⟩) n c t k xs W hS (by omega) (by omega) hfew hnc HCM.out (by omega) (fun x hx => by rw [HDL.out x hx]; exact hk) HIX.out
  have hC := Shr.cols8 57 #[.pointer (some ⟨w.heap.size, 0, none⟩), .pointer (some ⟨w1.heap.size, 0, none⟩)] dl (fun k => Fld.thrV (Shr.ptX (Shr.vals (xs.take t))) (Shr.ptY (Shr.vals (xs.take t)) k) 0) (Shr.Jn w.heap.size w1.heap.size (some ⟨b, off, none⟩) n c t xs) (w1.alloc (.cells #[.int .i64 (t : Int)] 3)) (enters_of Tryd.func57 (by kernel_rfl) rfl)
    (fun W W' h hb => h.keep hb) hf ⟨(HH.out.alloc _).c1, (Has.new w1 3 [.int .i64 (t : Int)]).c1, HR.out.keep HB2.out, by simp; omega, by simp⟩ (by omega)
  ((with_reducible refine hC.mono ?_); rintro e w3 ⟨A3, c3, rfl, hn3, hr3, hfr3, hlt3, hb3⟩)
  clear hf hC
  have HB3 := Lib.hid (HB2.out.trans (hb3.mono HB2.out.size))
  have HR3 := Lib.hid hr3
  have HF3 := Lib.hid hfr3
  have HL3 := Lib.hid hlt3
  have HN3 := Lib.hid hn3
  clear hb3 hn3 hr3 hfr3 hlt3
  go_wp2_with fail
  go_ret2
  exact ⟨A3, c3, rfl, HN3.out, by rw [HJ2.out]; exact HR3.out, HF3.out.mono HB2.out.size, HL3.out, HB3.out⟩
end Go.Proofs.YtideglpjgplpnaaDoor
/- Plain mathematics of explaining shares: the points with which a secret is explained are points. No condition; no program in sight. -/
namespace Go.Proofs.YtideglpjgplpnaaDoor

def Shr.explE (l : List Shr.S) (ns : Nat) : Int := if Shr.chkE l ≠ 0 then Shr.chkE l else if l[0]!.th ≤ (l.length : Int) then 60 else if ns ≠ l[0]!.d.length then 1 else 0
/-- the places: those of the shares, 0, and j more -/
def Shr.exX (l : List Shr.S) (j : Nat) : List UInt8 := Shr.ptX l ++ [0] ++ (List.range j).map fun i => UInt8.ofNat (9 + i)
/-- the values there -/
def Shr.exY (l : List Shr.S) (k : Nat) (b : UInt8) (j : Nat) : List UInt8 := Shr.ptY l k ++ [b] ++ List.replicate j 0
def Shr.exC (l : List Shr.S) (t k : Nat) (b : UInt8) : List UInt8 := Fld.coefs (Shr.exX l (t - l.length - 1)) (Shr.exY l k b (t - l.length - 1))
/-- the coins of the first k bytes -/
def Shr.exV (l : List Shr.S) (t : Nat) (sec : List UInt8) (k : Nat) : List UInt8 := (List.range k).flatMap fun i => (Shr.exC l t i (sec.getD i 0)).drop 1
def Shr.explV (l : List Shr.S) (sec : List UInt8) : List UInt8 := Shr.exV l (Shr.tt l) sec sec.length

theorem Shr.exX_len (l : List Shr.S) (j : Nat) : (Shr.exX l j).length = l.length + 1 + j := by simp [Shr.exX, Shr.ptX]; omega
theorem Shr.exY_len (l : List Shr.S) (k : Nat) (b : UInt8) (j : Nat) : (Shr.exY l k b j).length = l.length + 1 + j := by simp [Shr.exY, Shr.ptY]; omega
theorem Shr.exX_snoc (l : List Shr.S) (j : Nat) : Shr.exX l (j + 1) = Shr.exX l j ++ [UInt8.ofNat (9 + j)] := by simp [Shr.exX, List.range_succ]
theorem Shr.exY_snoc (l : List Shr.S) (k : Nat) (b : UInt8) (j : Nat) : Shr.exY l k b (j + 1) = Shr.exY l k b j ++ [0] := by simp [Shr.exY, List.replicate_succ']
theorem Shr.exX_zero (l : List Shr.S) : Shr.exX l 0 = Shr.ptX l ++ [0] := by simp [Shr.exX]
theorem Shr.exY_zero (l : List Shr.S) (k : Nat) (b : UInt8) : Shr.exY l k b 0 = Shr.ptY l k ++ [b] := by simp [Shr.exY]
theorem Shr.exC_len (l : List Shr.S) (t k : Nat) (b : UInt8) (h : l.length < t) : (Shr.exC l t k b).length = t := by rw [Shr.exC, Fld.coefs_len, Shr.exX_len]; omega
theorem Shr.exV_succ (l : List Shr.S) (t : Nat) (sec : List UInt8) (k : Nat) : Shr.exV l t sec (k + 1) = Shr.exV l t sec k ++ (Shr.exC l t k (sec.getD k 0)).drop 1 := by
  rw [Shr.exV, List.range_succ, List.flatMap_append, List.flatMap_singleton]; rfl
theorem Shr.exV_len (l : List Shr.S) (t : Nat) (sec : List UInt8) (h : l.length < t) : ∀ k, (Shr.exV l t sec k).length = k * (t - 1)
  | 0 => by simp [Shr.exV]
  | k + 1 => by rw [Shr.exV_succ, List.length_append, Shr.exV_len l t sec h k, List.length_drop, Shr.exC_len _ _ _ _ h, Nat.add_mul, Nat.one_mul]
theorem Shr.ptX_at (l : List Shr.S) (i : Nat) (hi : i < (Shr.ptX l).length) : (Shr.ptX l)[i] = l[i]!.bx := by
  have hi' : i < l.length := by simpa [Shr.ptX] using hi
  rw [getElem!_pos l i hi']
  simp [Shr.ptX]
theorem Shr.Good.bx {l : List Shr.S} (h : Shr.Good l) (k : Nat) (hk : k < l.length) : (l[k]!.bx.toNat : Int) = l[k]!.ix := by
  have h1 := h.rise k hk
  have := h.mn8
  rw [Shr.S.bx, UInt8.toNat_ofNat', Nat.mod_eq_of_lt (by omega)]
  omega
theorem Shr.Good.nodup {l : List Shr.S} (h : Shr.Good l) : (Shr.ptX l).Nodup := by
  rw [List.Nodup, List.pairwise_iff_getElem]
  intro i j hi hj hij e
  rw [Shr.ptX_at, Shr.ptX_at] at e
  have hi' : i < l.length := by simpa [Shr.ptX] using hi
  have hj' : j < l.length := by simpa [Shr.ptX] using hj
  have h1 := h.bx i hi'
  have h2 := h.bx j hj'
  have h3 := (h.rise j hj').2.2 i hij
  rw [e] at h1
  omega
theorem Shr.Good.bx_mem {l : List Shr.S} (h : Shr.Good l) {a : UInt8} (ha : a ∈ Shr.ptX l) : 1 ≤ a.toNat ∧ a.toNat ≤ 8 := by
  obtain ⟨k, hk, rfl⟩ := List.getElem_of_mem ha
  rw [Shr.ptX_at]
  have hk' : k < l.length := by simpa [Shr.ptX] using hk
  have h1 := h.bx k hk'
  have h2 := h.rise k hk'
  have := h.mn8
  omega
theorem Shr.Good.exX_nodup {l : List Shr.S} (h : Shr.Good l) (j : Nat) (hj : j ≤ 8) : (Shr.exX l j).Nodup := by
  rw [Shr.exX, List.nodup_append, List.nodup_append]
  refine ⟨⟨h.nodup, by simp, fun a ha b hb e => ?_⟩, ?_, fun a ha b hb e => ?_⟩
  · rw [List.mem_singleton] at hb
    have := h.bx_mem ha
    rw [e, hb] at this
    exact absurd this.1 (by decide)
  · rw [List.Nodup, List.pairwise_map]
    refine List.Pairwise.imp_of_mem ?_ (List.nodup_range (n := j))
    intro a b ha hb hab e
    have ha' := List.mem_range.1 ha
    have hb' := List.mem_range.1 hb
    have := congrArg UInt8.toNat e
    rw [UInt8.toNat_ofNat', UInt8.toNat_ofNat', Nat.mod_eq_of_lt (by omega), Nat.mod_eq_of_lt (by omega)] at this
    omega
  · obtain ⟨i, hi, rfl⟩ := List.mem_map.1 hb
    have hi' := List.mem_range.1 hi
    have e2 : a.toNat = 9 + i := by rw [e, UInt8.toNat_ofNat', Nat.mod_eq_of_lt (by omega)]
    rcases List.mem_append.1 ha with ha | ha
    · have := h.bx_mem ha; omega
    · rw [List.mem_singleton] at ha
      rw [ha] at e2
      have : (0 : UInt8).toNat = 0 := rfl
      omega
theorem Shr.Good.ex_pts {l : List Shr.S} (h : Shr.Good l) (j : Nat) (hj : j ≤ 8) (k : Nat) (b : UInt8) : Fld.ptsB (Shr.exX l j) (Shr.exY l k b j) = true :=
  decide_eq_true ⟨h.exX_nodup j hj, by rw [Shr.exX_len, Shr.exY_len]⟩
end Go.Proofs.YtideglpjgplpnaaDoor
/- Contract of shares.Explain. -/
namespace Go.Proofs.YtideglpjgplpnaaDoor
open Go.RowKit Go.Shelf
set_option linter.unusedVariables false

theorem Shr.expl_cases (l : List Shr.S) (ns : Nat) (h : Shr.explE l ns = 0) : Shr.chkE l = 0 ∧ (l.length : Int) < l[0]!.th ∧ ns = l[0]!.d.length := by
  unfold Shr.explE at h
  by_cases h1 : Shr.chkE l = 0
  · rw [if_neg (by simp [h1])] at h
    by_cases h2 : l[0]!.th ≤ (l.length : Int)
    · rw [if_pos h2] at h; exact absurd h (by decide)
    · rw [if_neg h2] at h
      by_cases h3 : ns = l[0]!.d.length
      · exact ⟨h1, by omega, h3⟩
      · rw [if_pos h3] at h; exact absurd h (by decide)
  · rw [if_pos h1] at h; exact absurd h h1

set_option maxHeartbeats 1000000 in
theorem Shr.expl_no (A : Option Addr) (n c : Nat) (A2 : Option Addr) (ns cs : Nat) (xs : List Shr.C) (w : World) (hr : Shr.Rds w A n xs) (hn : n ≤ maxLen) (hns : ns ≤ maxLen) (h : Shr.explE (Shr.vals xs) ns ≠ 0) :
    Calls Tryd.prog 45 #[.slice A n c, .slice A2 ns cs] w fun e w' => e = .returned (.tuple #[.slice none 0 0, .int .i64 (Shr.explE (Shr.vals xs) ns)]) ∧ Below w.heap.size w w' := by
  have HN := Lib.hid hn
  unfold maxLen at hn hns
  by_cases h1 : Shr.chkE (Shr.vals xs) = 0
  · have hg := Shr.good _ h1
    have hpos : 0 < n := by have := hg.pos; rw [Shr.vals_len, hr.len] at this; exact this
    obtain ⟨b, off, rfl, hb, e0, e1, e2, e3, e4⟩ := hr.first hpos
    have hd64 := hg.d64
    have hth8 : (Shr.vals xs)[0]!.th ≤ 8 := by have := hg.thm; have := hg.mn8; omega
    have hv0 := Shr.vals_at xs 0 (by rw [hr.len]; exact hpos)
    have hE : ∀ (th : Int) (dl : Nat), th = (xs[0]!).s.th → dl = (xs[0]!).s.d.length → Shr.explE (Shr.vals xs) ns = if th ≤ (n : Int) then 60 else if ns ≠ dl then 1 else 0 := by
      rintro _ _ rfl rfl
      unfold Shr.explE
      rw [if_neg (by simp [h1]), Shr.vals_len, hr.len, hv0]
    obtain ⟨th, hth⟩ : ∃ th, th = (xs[0]!).s.th := ⟨_, rfl⟩
    obtain ⟨dl, hdl⟩ : ∃ dl, dl = (xs[0]!).s.d.length := ⟨_, rfl⟩
    have hE2 := hE th dl hth hdl
    rw [hv0] at hd64 hth8
    rw [← hth] at e2 hth8
    rw [← hdl] at e4 hd64
    have HR := Lib.hid hr
    have H1 := Lib.hid h1
    clear hr h1 hg e0 e1 e3 hE hth hdl hv0
    generalize (xs[0]!).A = A0 at e4
    generalize (xs[0]!).c = c0 at e4
    by_cases h2 : th ≤ (n : Int)
    · rw [if_pos h2] at hE2
      have HE := Lib.hid hE2
      clear hE2 h
      go_enter Tryd.func45, Tryd.ntmps45
      go_wp2_with fail
      refine (Shr.check_any (some ⟨b, off, none⟩) n c xs _ HR.out HN.out).mono ?_
      rintro e w1 ⟨rfl, hb1⟩
      rw [H1.out]
      have c2 := (hb1.cell (p := ⟨b, off + 2, none⟩) hb).trans e2
      have hbw1 : b < w1.heap.size := Nat.lt_of_lt_of_le hb hb1.size
      have HB1 := Lib.hid hb1
      clear hb1 e2 e4
      go_wp2_with fail
      go_ret2
      exact ⟨by rw [HE.out]; rfl, HB1.out⟩
    · rw [if_neg h2] at hE2
      have h3 : ns ≠ dl := fun e => h (by rw [hE2, if_neg (by simp [e])])
      rw [if_pos h3] at hE2
      have HE := Lib.hid hE2
      have hq : ((ns : Int) != (dl : Int)) = true := by simp; omega
      clear hE2 h h3
      go_enter Tryd.func45, Tryd.ntmps45
      go_wp2_with fail
      refine (Shr.check_any (some ⟨b, off, none⟩) n c xs _ HR.out HN.out).mono ?_
      rintro e w1 ⟨rfl, hb1⟩
      rw [H1.out]
      have c2 := (hb1.cell (p := ⟨b, off + 2, none⟩) hb).trans e2
      have c4 := (hb1.cell (p := ⟨b, off + 4, none⟩) hb).trans e4
      have hbw1 : b < w1.heap.size := Nat.lt_of_lt_of_le hb hb1.size
      have HB1 := Lib.hid hb1
      clear hb1 e2 e4
      go_wp2_with fail
      go_ret2
      exact ⟨by rw [HE.out]; rfl, HB1.out⟩
  · have HE := Lib.hid (show Shr.explE (Shr.vals xs) ns = Shr.chkE (Shr.vals xs) by unfold Shr.explE; rw [if_pos h1])
    have HR := Lib.hid hr
    obtain ⟨je, hje⟩ : ∃ je, je = Shr.chkE (Shr.vals xs) := ⟨_, rfl⟩
    have hq : (je != 0) = true := by rw [hje]; simpa using h1
    have HJE := Lib.hid hje
    clear hr h h1 hje
    go_enter Tryd.func45, Tryd.ntmps45
    go_wp2_with fail
    refine (Shr.check_any A n c xs _ HR.out HN.out).mono ?_
    rintro e w1 ⟨rfl, hb1⟩
    rw [← HJE.out]
    have HB1 := Lib.hid hb1
    clear hb1
    go_wp2_with fail
    go_ret2
    exact ⟨by rw [HE.out, ← HJE.out]; rfl, HB1.out⟩

theorem own_cap {w : World} {base e size n : Nat} {A : Option Addr} {c : Nat} {xs : List Value} (h : w.ownsRow base e size (.slice A n c) n xs) : n ≤ c ∧ c ≤ maxLen := by
  rcases h.2 with ⟨e, rfl⟩ | ⟨_, _, _, e, _, _, e2, e3, _⟩
  · injection e with _ _ e; subst e; exact ⟨Nat.le_refl _, by decide⟩
  · injection e with _ _ e; subst e; exact ⟨e2, e3⟩
/-- a slice of bytes and no error, with the bounds of its capacity -/
def RetBC (w : World) (n : Nat) (r : List UInt8) (e : Ending) (w' : World) : Prop := ∃ A c, e = .returned (.tuple #[.slice A n c, .int .i64 0]) ∧ (A = none → c = 0) ∧ RdB w' A n r ∧ Fresh w.heap.size A ∧ (∀ b off, A = some ⟨b, off, none⟩ → b < w'.heap.size) ∧ Below w.heap.size w w' ∧ n ≤ c ∧ c ≤ maxLen
set_option maxRecDepth 100000 in
set_option maxHeartbeats 2000000 in
theorem Shr.expl_cap (A : Option Addr) (n c : Nat) (A2 : Option Addr) (ns cs : Nat) (xs : List Shr.C) (sec : List UInt8) (w : World) (hr : Shr.Rds w A n xs) (hn : n ≤ maxLen) (hsec : RdB w A2 ns sec) (hns : ns ≤ maxLen) (h : Shr.explE (Shr.vals xs) ns = 0) :
    Calls Tryd.prog 45 #[.slice A n c, .slice A2 ns cs] w (RetBC w (ns * (Shr.tt (Shr.vals xs) - 1)) (Shr.explV (Shr.vals xs) sec)) := by
  obtain ⟨h1, hlt, hdl⟩ := Shr.expl_cases _ _ h
  have hg := Shr.good _ h1
  have hpos : 0 < n := by have := hg.pos; rw [Shr.vals_len, hr.len] at this; exact this
  obtain ⟨b, off, rfl, hb, e0, e1, e2, e3, e4⟩ := hr.first hpos
  have hd64 := hg.d64
  have hth8 : (Shr.vals xs)[0]!.th ≤ 8 := by have := hg.thm; have := hg.mn8; omega
  have hv0 := Shr.vals_at xs 0 (by rw [hr.len]; exact hpos)
  have HIX := Lib.hid hg.ix_of
  have HDL := Lib.hid hg.dl_of
  have HG := Lib.hid hg
  have HLS := Lib.hid (show (Shr.vals xs).length = n by rw [Shr.vals_len, hr.len])
  rw [Shr.vals_len, hr.len] at hlt
  obtain ⟨t, ht⟩ : ∃ t : Nat, (xs[0]!).s.th = (t : Int) := ⟨(xs[0]!).s.th.toNat, by have := hg.th1; rw [hv0] at this; omega⟩
  have HTT := Lib.hid (show Shr.tt (Shr.vals xs) = t by rw [Shr.tt, hv0, ht]; simp)
  rw [← hdl] at hd64 HDL
  rw [hv0] at hlt hth8 hdl
  rw [ht] at e2 hlt hth8
  rw [← hdl] at e4
  have HSL := Lib.hid hsec.len
  have HV := Lib.hid (show Shr.explV (Shr.vals xs) sec = Shr.exV (Shr.vals xs) t sec ns by rw [Shr.explV, HTT.out, HSL.out])
  rw [HTT.out]
  have HR := Lib.hid hr
  have HS := Lib.hid hsec
  have H1 := Lib.hid h1
  have HN := Lib.hid hn
  unfold maxLen at hn hns
  clear hr h1 hg e0 e1 e3 hv0 ht hdl h hsec
  generalize (xs[0]!).A = A0 at e4
  generalize (xs[0]!).c = c0 at e4
  have dtn : decide (t ≤ n) = false := decide_eq_false (by omega)
  go_enter Tryd.func45, Tryd.ntmps45
  go_wp2_with fail
  refine (Shr.check_any (some ⟨b, off, none⟩) n c xs _ HR.out HN.out).mono ?_
  rintro e w1 ⟨rfl, hb1⟩
  rw [H1.out]
  have c2 := (hb1.cell (p := ⟨b, off + 2, none⟩) hb).trans e2
  have c4 := (hb1.cell (p := ⟨b, off + 4, none⟩) hb).trans e4
  have hbw1 : b < w1.heap.size := Nat.lt_of_lt_of_le hb hb1.size
  have HB1 := Lib.hid hb1
  clear hb1 e2 e4
  go_wp2_with fail
  clear c2 c4 dtn
  go_loopw [4, 37] (fun v i wr => ∃ k : Nat, k ≤ ns ∧ i = .int .i64 k ∧ wr.ownsRow w.heap.size 5 1 v (k * (t - 1)) ((Shr.exV (Shr.vals xs) t sec k).map B8) ∧ Below w.heap.size w wr) (fun _ i _ => ns - (intOf i).toNat)
  case atStart => exact ⟨0, by omega, rfl, by rw [Nat.zero_mul]; exact World.ownsRow_nil _ _ _ _, HB1.out⟩
  case round =>
    obtain ⟨wo, rfl⟩ : ∃ wo : World, wo = wr := ⟨_, rfl⟩
    obtain ⟨k, hk, rfl, hO, hB⟩ := hrel
    have HO := Lib.hid hO
    have HB := Lib.hid hB
    clear hO hB HB1
    by_cases hlt2 : k < ns
    · obtain ⟨bs, offs, rfl, hbs, es0⟩ := HS.out.byte k hlt2
      have es := (HB.out.cell (p := ⟨bs, offs + k, none⟩) hbs).trans es0
      have hbsw : bs < wo.heap.size := Nat.lt_of_lt_of_le hbs HB.out.size
      obtain ⟨y, hy⟩ : ∃ y, y = sec.getD k 0 := ⟨_, rfl⟩
      rw [← hy] at es
      have HVS := Lib.hid (show Shr.exV (Shr.vals xs) t sec (k + 1) = Shr.exV (Shr.vals xs) t sec k ++ (Shr.exC (Shr.vals xs) t k y).drop 1 by rw [hy]; exact Shr.exV_succ _ _ _ _)
      clear es0 hy
      go_wp2_with fail
      refine (Shr.points_any (some ⟨b, off, none⟩) n c k xs wo (HR.out.keep HB.out) (by omega) (fun x hx => by rw [HDL.out x hx]; exact hlt2) HIX.out).mono ?_
      rintro e w2 ⟨v1, v2, rfl, hT2, hb2⟩
      have HT2 := Lib.hid hT2
      have HO2 := Lib.hid (own_below HO.out hb2)
      have HB2 := Lib.hid (HB.out.trans (hb2.mono HB.out.size))
      have hz2 := hb2.size
      have HW2 := Lib.hid hb2
      clear hT2 hb2 es
      go_wp2_with (first
        | (at_builtin; refine wpList_append_rd rfl (.tmp 48) (.tmp 49) rfl el8 rfl (HT2.out.x.alloc _) rfl (rd_new w2 5 1 [B8 0] rfl) (by simp [Value.oneCell']) (fun h => by (cases h)) (by simp only [maxLen]; omega) (by omega) (by simp; omega) ?_; intro v3 w3 hG3; have hY3 := (HT2.out.y.alloc (.cells #[B8 0] 5)).kept hG3.grown (two_sym HT2.out.xy); have hz3 := hG3.grown.size; simp only [World.size_alloc] at hz3)
        | (at_builtin; refine wpList_append_rd rfl (.tmp 51) (.tmp 53) rfl el8 rfl (hY3.alloc _) rfl (rd_new w3 5 1 [B8 y] rfl) (by simp [Value.oneCell']) (fun h => by (cases h)) (by simp only [maxLen]; omega) (by omega) (by simp; omega) ?_; intro v4 w4 hG4))
      have HST := Lib.hid (HT2.out.step HW2.out hz2 ((Below.refl _ _).alloc (Nat.le_refl _) _) hG3 ((Below.refl _ _).alloc (Nat.le_refl _) _) hG4)
      rw [← Shr.exX_zero, ← Shr.exY_zero] at HST
      clear hG3 hG4 hY3 HT2 HW2 HO2 HB2
      go_loopw [9, 10, 11] (fun a b x wq => ∃ j : Nat, j ≤ t - n - 1 ∧ x = .int .u8 ((9 + j : Nat) : Int) ∧ Two wq wo.heap.size a b (n + 1 + j) (Shr.exX (Shr.vals xs) j) (Shr.exY (Shr.vals xs) k y j) ∧ Below wo.heap.size wo wq) (fun _ _ x _ => 20 - (intOf x).toNat)
      case atStart => exact ⟨0, by omega, rfl, HST.out.1, HST.out.2⟩
      case round =>
        obtain ⟨j, hj, rfl, hT, hBq⟩ := hrel
        obtain ⟨A5, c5, rfl⟩ := own_form hT.x
        have HT := Lib.hid hT
        have HBQ := Lib.hid hBq
        have hzq := hBq.size
        clear hT hBq HST
        by_cases hlt3 : n + 1 + j < t
        · go_wp2_with (first
            | (at_builtin; refine wpList_append_rd rfl (.tmp 61) (.tmp 63) rfl el8 rfl (HT.out.x.alloc _) rfl (rd_new wr 5 1 [.int .u8 ((9 + j : Nat) : Int)] rfl) (by simp [Value.oneCell']) (fun h => by (cases h)) (by simp only [maxLen]; omega) (by omega) (by simp; omega) ?_; intro v6 w6 hG6; have hY6 := (HT.out.y.alloc (.cells #[.int .u8 ((9 + j : Nat) : Int)] 5)).kept hG6.grown (two_sym HT.out.xy); have hz6 := hG6.grown.size; simp only [World.size_alloc] at hz6)
            | (at_builtin; refine wpList_append_rd rfl (.tmp 65) (.tmp 66) rfl el8 rfl (hY6.alloc _) rfl (rd_new w6 5 1 [B8 0] rfl) (by simp [Value.oneCell']) (fun h => by (cases h)) (by simp only [maxLen]; omega) (by omega) (by simp; omega) ?_; intro v7 w7 hG7))
          have e9 : Value.int .u8 ((9 + j : Nat) : Int) = B8 (UInt8.ofNat (9 + j)) := by rw [B8, UInt8.toNat_ofNat', Nat.mod_eq_of_lt (by omega)]
          rw [e9] at hG6
          have st := HT.out.step HBQ.out hzq ((Below.refl _ _).alloc (Nat.le_refl _) _) hG6 ((Below.refl _ _).alloc (Nat.le_refl _) _) hG7
          exact ⟨⟨j + 1, by omega, by go_num, by rw [Shr.exX_snoc, Shr.exY_snoc]; exact st.1, st.2⟩, by simp [intOf]; omega⟩
        · obtain ⟨A6, c6, rfl⟩ := own_form HT.out.y
          have HCX := Lib.hid (show Shr.exC (Shr.vals xs) t k y = Fld.coefs (Shr.exX (Shr.vals xs) j) (Shr.exY (Shr.vals xs) k y j) by rw [Shr.exC, HLS.out, show t - n - 1 = j by omega])
          have HCL := Lib.hid (Shr.exC_len (Shr.vals xs) t k y (by rw [HLS.out]; omega))
          have HP := Lib.hid (HG.out.ex_pts j (by omega) k y)
          have HXL := Lib.hid (show (Shr.exX (Shr.vals xs) j).length = t by rw [Shr.exX_len, HLS.out]; omega)
          have HYL := Lib.hid (show (Shr.exY (Shr.vals xs) k y j).length = t by rw [Shr.exY_len, HLS.out]; omega)
          have e : n + 1 + j = t := by omega
          rw [e] at HT ⊢
          clear e
          go_wp2_with fail
          refine (Fld.coef_yes A5 A6 t c5 t c6 _ _ wr HXL.out HYL.out (by omega) (by unfold maxLen; omega) (RdB.of_own HT.out.x) (RdB.of_own HT.out.y) HP.out).mono ?_
          rintro e w8 ⟨v8, rfl, hO8, hb8⟩
          rw [← HCX.out] at hO8
          obtain ⟨g8, c8, rfl, hg8, hg8'⟩ := own_some hO8 (by omega)
          have hcap : t ≤ c8 := by
            rcases hO8.2 with ⟨e, _⟩ | ⟨_, _, _, e, _, _, e2, _⟩
            · simp at e
            · injection e with _ _ e; omega
          have hcapm : c8 ≤ maxLen := by
            rcases hO8.2 with ⟨e, _⟩ | ⟨_, _, _, e, _, _, _, e2, _⟩
            · simp at e
            · injection e with _ _ e; omega
          unfold maxLen at hcapm
          have HR8 := Lib.hid (show RdB w8 (some ⟨g8, 1, none⟩) (t - 1) ((Shr.exC (Shr.vals xs) t k y).drop 1) by
            have h := (RdB.of_own hO8).part 1 (t - 1) (by omega)
            rw [List.take_of_length_le (by rw [List.length_drop, HCL.out]; omega), Nat.zero_add] at h
            exact h)
          have HBo := Lib.hid (HBQ.out.trans (hb8.mono hzq))
          have HO8 := Lib.hid (own_below HO.out HBo.out)
          have HB8 := Lib.hid (HB.out.trans (HBo.out.mono HB.out.size))
          have hz8 := HB8.out.size
          have hc1 : ¬ c8 = 1 := by omega
          clear hO8 hb8 HT HBQ HO HB HXL HYL
          have hkt : k * (t - 1) ≤ 64 * 8 := Nat.mul_le_mul (by omega) (by omega)
          go_wp2_with (at_builtin; refine wpList_append_rd rfl _ _ rfl el8 rfl HO8.out rfl HR8.out (one_bytes _) (fun h => by (cases h)) (by simp only [maxLen]; omega) (by omega) hz8 ?_; intro v9 w9 hG9)
          have HO9 := Lib.hid (show w9.ownsRow w.heap.size 5 1 v9 ((k + 1) * (t - 1)) ((Shr.exV (Shr.vals xs) t sec (k + 1)).map B8) by
            rw [HVS.out, List.map_append, Nat.add_mul, Nat.one_mul]
            exact hG9.own)
          have HB9 := Lib.hid (HB8.out.grown hG9.grown hz8 (fun g e => own_ge HO8.out e))
          clear hG9
          go_wp2_with fail
          go_roundw
          case rel => exact ⟨k + 1, by omega, by go_num, HO9.out, HB9.out⟩
          case measure => simp [intOf]; omega
    · obtain rfl : k = ns := by omega
      obtain ⟨A9, c9, rfl⟩ := own_form HO.out
      go_wp2_with fail
      go_ret2
      exact ⟨A9, c9, rfl, own_nil HO.out, by rw [HV.out]; exact RdB.of_own HO.out, own_fresh HO.out, own_lt HO.out, HB.out, (own_cap HO.out).1, (own_cap HO.out).2⟩
theorem Shr.expl_yes (A : Option Addr) (n c : Nat) (A2 : Option Addr) (ns cs : Nat) (xs : List Shr.C) (sec : List UInt8) (w : World) (hr : Shr.Rds w A n xs) (hn : n ≤ maxLen) (hsec : RdB w A2 ns sec) (hns : ns ≤ maxLen) (h : Shr.explE (Shr.vals xs) ns = 0) :
    Calls Tryd.prog 45 #[.slice A n c, .slice A2 ns cs] w (RetBE w (ns * (Shr.tt (Shr.vals xs) - 1)) (Shr.explV (Shr.vals xs) sec)) :=
  (Shr.expl_cap A n c A2 ns cs xs sec w hr hn hsec hns h).mono fun e w' ⟨A', c', h1, h2, h3, h4, h5, h6, _⟩ => ⟨A', c', h1, h2, h3, h4, h5, h6⟩
end Go.Proofs.YtideglpjgplpnaaDoor
/- Slices of shares as values: what is handed back. No program in sight. -/
namespace Go.Proofs.YtideglpjgplpnaaDoor
open Go.RowKit Go.Shelf
set_option linter.unusedVariables false

/-- the slice at A reads as these shares -/
def Shr.RdV (w : World) (A : Option Addr) (n : Nat) (l : List Shr.S) : Prop := ∃ xs, Shr.Rds w A n xs ∧ Shr.vals xs = l
theorem Shr.RdV.keep {w w' : World} {A : Option Addr} {n : Nat} {l : List Shr.S} (h : Shr.RdV w A n l) (hb : Below w.heap.size w w') : Shr.RdV w' A n l := by
  obtain ⟨xs, h1, h2⟩ := h
  exact ⟨xs, h1.keep hb, h2⟩
theorem Shr.RdV.alloc {w : World} {A : Option Addr} {n : Nat} {l : List Shr.S} (h : Shr.RdV w A n l) (o : Obj) : Shr.RdV (w.alloc o) A n l := h.keep ((Below.refl _ _).alloc (Nat.le_refl _) _)
/-- share number k: its cells, and its data -/
theorem Shr.RdV.at {w : World} {b off n : Nat} {l : List Shr.S} (h : Shr.RdV w (some ⟨b, off, none⟩) n l) (k : Nat) (hk : k < n) : ∃ A' c', b < w.heap.size ∧ w.cell? ⟨b, off + k * 5, none⟩ = some (.int .i64 l[k]!.ep) ∧ w.cell? ⟨b, off + k * 5 + 1, none⟩ = some (.int .i64 l[k]!.ix) ∧ w.cell? ⟨b, off + k * 5 + 2, none⟩ = some (.int .i64 l[k]!.th) ∧
    w.cell? ⟨b, off + k * 5 + 3, none⟩ = some (.int .i64 l[k]!.mn) ∧ w.cell? ⟨b, off + k * 5 + 4, none⟩ = some (.slice A' l[k]!.d.length c') ∧ RdB w A' l[k]!.d.length l[k]!.d ∧ (A' = none → c' = 0) := by
  obtain ⟨xs, h1, rfl⟩ := h
  have hk' : k < xs.length := by rw [h1.len]; exact hk
  obtain ⟨hb, e0, e1, e2, e3, e4⟩ := h1.at2 k hk
  have ok := h1.mem k hk
  rw [Shr.vals_at xs k hk']
  exact ⟨_, _, hb, e0, e1, e2, e3, e4, ok.rd, ok.nil⟩
theorem Shr.RdV.addr {w : World} {A : Option Addr} {n : Nat} {l : List Shr.S} (h : Shr.RdV w A n l) (hn : 0 < n) : ∃ b off, A = some ⟨b, off, none⟩ := by
  obtain ⟨xs, h1, _⟩ := h
  obtain ⟨b, off, e, _⟩ := h1.first hn
  exact ⟨b, off, e⟩
theorem Shr.Rds.drop {w : World} {b off n : Nat} {xs : List Shr.C} (h : Shr.Rds w (some ⟨b, off, none⟩) n xs) (m : Nat) (hm : m ≤ n) : Shr.Rds w (some ⟨b, off + m * 5, none⟩) (n - m) (xs.drop m) := by
  refine ⟨⟨by rw [Shr.flat_len, List.length_drop, h.len], fun hp => ?_⟩, by rw [List.length_drop, h.len], fun x hx => h.ok x (List.mem_of_mem_drop hx)⟩
  obtain ⟨b', off', e, hb, hc⟩ := h.rd.2 (by omega)
  injection e with e
  injection e with e1 e2
  subst e1 e2
  refine ⟨b, off + m * 5, rfl, hb, fun j u hu => ?_⟩
  rw [Nat.add_assoc]
  refine hc (m * 5 + j) u ?_
  have e2 : xs.flatMap Shr.C.cells = (xs.take m).flatMap Shr.C.cells ++ (xs.drop m).flatMap Shr.C.cells := by rw [← List.flatMap_append, List.take_append_drop]
  have hl : ((xs.take m).flatMap Shr.C.cells).length = m * 5 := by rw [Shr.flat_len, List.length_take, h.len, Nat.min_eq_left hm]
  rw [e2, List.getElem?_append_right (by omega), hl, Nat.add_sub_cancel_left]
  exact hu
theorem Shr.vals_drop (xs : List Shr.C) (k : Nat) : Shr.vals (xs.drop k) = (Shr.vals xs).drop k := by rw [Shr.vals, Shr.vals, List.map_drop]
/-- shares are handed back -/
def Shr.RetV (w : World) (n : Nat) (l : List Shr.S) (e : Ending) (w' : World) : Prop := ∃ A c, e = .returned (.tuple #[.slice A n c, .int .i64 0]) ∧ Shr.RdV w' A n l ∧ n ≤ c ∧ c ≤ maxLen ∧ Below w.heap.size w w'
theorem Shr.retV {w W w' : World} {n : Nat} {l : List Shr.S} {e : Ending} (h : Shr.RetS W n l e w') (hb : Below w.heap.size w W) : Shr.RetV w n l e w' := by
  obtain ⟨v, xs, rfl, hO, _, hv, hb2⟩ := h
  obtain ⟨A, c, rfl⟩ := own_form hO.row
  obtain ⟨h1, h2⟩ := own_cap hO.row
  exact ⟨A, c, rfl, ⟨xs, hO.rds, hv⟩, h1, h2, hb.trans (hb2.mono hb.size)⟩
theorem below_of2 (w : World) (o1 o2 : Obj) : Below w.heap.size w ((w.alloc o1).alloc o2) := ((Below.refl _ _).alloc (Nat.le_refl _) _).alloc (by simp) _
theorem RdB.second (w : World) (t : TypeId) (l : List UInt8) (o : Obj) : RdB ((w.alloc o).alloc (.cells (l.map fun a => Value.int .u8 (a.toNat : Int)).toArray t)) (some ⟨w.heap.size + 1, 0, none⟩) l.length l := by
  have h := RdB.new (w.alloc o) t l
  rw [World.size_alloc w o] at h
  exact h
/-- bytes are handed back -/
def Shr.RetC (w : World) (n : Nat) (l : List UInt8) (e : Ending) (w' : World) : Prop := ∃ A c, e = .returned (.tuple #[.slice A n c, .int .i64 0]) ∧ RdB w' A n l ∧ Below w.heap.size w w'
theorem hBw2 {W wr : World} {g i : Nat} {v : Value} (hb : Below W.heap.size W wr) (h : W.cell? ⟨g, i, none⟩ = some v) (hg : g < W.heap.size) : wr.cell? ⟨g, i, none⟩ = some v := (hb.cell (p := ⟨g, i, none⟩) hg).trans h
theorem Has.second (w : World) (t : TypeId) (cs : List Value) (o : Obj) : Has ((w.alloc o).alloc (.cells cs.toArray t)) (w.heap.size + 1) t cs := by
  have h := Has.new (w.alloc o) t cs
  rw [World.size_alloc w o] at h
  exact h
theorem Shr.Rds.setFar {W : World} {A : Option Addr} {n : Nat} {xs : List Shr.C} (h : Shr.Rds W A n xs) {g : Nat} (hA : Far A (some g)) (hx : ∀ x, x ∈ xs → Far x.A (some g)) (j : Nat) (u : Value) : Shr.Rds (W.setCell ⟨g, j, none⟩ u) A n xs :=
  ⟨Rd.kept h.rd (grownBy_set W g j u) hA, h.len, fun x hxm => (h.ok x hxm).kept (grownBy_set W g j u) (hx x hxm)⟩
end Go.Proofs.YtideglpjgplpnaaDoor
