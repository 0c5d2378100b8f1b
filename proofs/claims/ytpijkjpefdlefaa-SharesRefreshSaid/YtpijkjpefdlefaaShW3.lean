/- Contracts of shares.piece and of what the columns of Split are made of. -/
import Derived.Test.YtpijkjpefdlefaaShW2
namespace Go.Proofs.Ytpijkjpefdlefaa
open Go.RowKit Go.Shelf
set_option linter.unusedVariables false

/-- a part of a slice of bytes -/
theorem RdB.part {w : World} {b off n : Nat} {l : List UInt8} (h : RdB w (some ⟨b, off, none⟩) n l) (p m : Nat) (hm : p + m ≤ n) : RdB w (some ⟨b, off + p, none⟩) m ((l.drop p).take m) := by
  have hl := h.len
  refine ⟨by simp; omega, fun hp => ?_⟩
  obtain ⟨b', off', e, hb, hc⟩ := h.2 (by omega)
  injection e with e
  injection e with e1 e2
  subst e1 e2
  refine ⟨b, off + p, rfl, hb, fun j u hu => ?_⟩
  rw [Nat.add_assoc]
  refine hc (p + j) u ?_
  rw [List.getElem?_map] at hu ⊢
  rw [List.getElem?_take] at hu
  split at hu
  · rw [List.getElem?_drop] at hu; exact hu
  · simp at hu
theorem Shr.mul_in (a m : Nat) (ha : a < 2000) (hm : m < 2000) : wrap64 ((a : Int) * (m : Int)) = ((a * m : Nat) : Int) := by
  have h : a * m ≤ 2000 * 2000 := Nat.mul_le_mul (by omega) (by omega)
  rw [← Int.natCast_mul]
  exact IntWalk.wrap64_in _ ⟨by omega, by omega⟩

/-- what piece hands back -/
def Shr.PiecePost (w : World) (m : Nat) (r : List UInt8) (e : Ending) (w' : World) : Prop := ∃ A' c', e = .returned (.slice A' m c') ∧ (A' = none → c' = 0) ∧ RdB w A' m r ∧ w = w'

theorem Shr.piece_any (A : Option Addr) (n c at_ m : Nat) (l : List UInt8) (w : World) (hr : RdB w A n l) (h : (at_ + 1) * m ≤ n) (hc : n ≤ c) (hcm : c ≤ maxLen) (hat : at_ < 1000) (hm : m < 1000) (hnil : A = none → c = 0) :
    Calls Try.prog 26 #[.slice A n c, .int .i64 at_, .int .i64 m] w (Shr.PiecePost w m ((l.drop (at_ * m)).take m)) := by
  unfold maxLen at hcm
  have e1 := Shr.mul_in at_ m (by omega) (by omega)
  have e2 := Shr.mul_in (at_ + 1) m (by omega) (by omega)
  rw [Nat.add_mul, Nat.one_mul] at h e2
  have hpb : at_ * m ≤ 1000000 := Nat.mul_le_mul (show at_ ≤ 1000 by omega) (show m ≤ 1000 by omega)
  generalize at_ * m = p at *
  have e2' : wrap64 (((at_ : Int) + 1) * (m : Int)) = (p : Int) + (m : Int) := by rw [← Int.natCast_add, ← e2]; rfl
  clear e2
  have t1 : ((p : Int) + (m : Int)).toNat = p + m := by omega
  by_cases h0 : m = 0
  · subst h0
    go_enter Try.func26, Try.ntmps26
    go_wp2
    go_ret
    exact ⟨A, 0, rfl, fun _ => rfl, by rw [List.take_zero]; exact RdB.none_, rfl⟩
  · obtain ⟨b, off, rfl, _, _⟩ := hr.byte 0 (by omega)
    have hne : ¬ p + m = p := by omega
    have HP := Lib.hid (hr.part p m (by omega))
    clear hr
    go_enter Try.func26, Try.ntmps26
    go_wp2
    go_ret
    exact ⟨_, m, rfl, fun h => by (cases h), HP.out, rfl⟩

theorem el8 : EltOk Try.prog 23 5 (.int .u8 0) 1 1 := ⟨Try.underlying23, by kernel_rfl, rfl, by decide⟩
/-- what the closures of Split see -/
structure Shr.Sp (bs bc bt : Nat) (As Ac : Option Addr) (ns cs nc cc t : Nat) (sec coins : List UInt8) (W : World) : Prop where
  s : W.cell? ⟨bs, 0, none⟩ = some (.slice As ns cs)
  c : W.cell? ⟨bc, 0, none⟩ = some (.slice Ac nc cc)
  t : W.cell? ⟨bt, 0, none⟩ = some (.int .i64 t)
  rs : RdB W As ns sec
  rc : RdB W Ac nc coins
  zs : bs < W.heap.size
  zc : bc < W.heap.size
  zt : bt < W.heap.size
theorem Shr.Sp.keep {bs bc bt : Nat} {As Ac : Option Addr} {ns cs nc cc t : Nat} {sec coins : List UInt8} {W W' : World} (h : Shr.Sp bs bc bt As Ac ns cs nc cc t sec coins W) (hb : Below W.heap.size W W') : Shr.Sp bs bc bt As Ac ns cs nc cc t sec coins W' :=
  ⟨(hb.cell (p := ⟨bs, 0, none⟩) h.zs).trans h.s, (hb.cell (p := ⟨bc, 0, none⟩) h.zc).trans h.c, (hb.cell (p := ⟨bt, 0, none⟩) h.zt).trans h.t, h.rs.keep hb, h.rc.keep hb, Nat.lt_of_lt_of_le h.zs hb.size, Nat.lt_of_lt_of_le h.zc hb.size, Nat.lt_of_lt_of_le h.zt hb.size⟩
/-- a slice of bytes is handed back -/
def RetB (w : World) (n : Nat) (r : List UInt8) (e : Ending) (w' : World) : Prop := ∃ A c, e = .returned (.slice A n c) ∧ (A = none → c = 0) ∧ RdB w' A n r ∧ Fresh w.heap.size A ∧ (∀ b off, A = some ⟨b, off, none⟩ → b < w'.heap.size) ∧ Below w.heap.size w w'

set_option maxHeartbeats 2000000 in
theorem Shr.sp1_any (bs bc bt : Nat) (As Ac : Option Addr) (ns cs nc cc t k : Nat) (sec coins : List UInt8) (W : World) (hS : Shr.Sp bs bc bt As Ac ns cs nc cc t sec coins W)
    (hk : k < ns) (hns : ns ≤ 64) (ht1 : 1 ≤ t) (ht8 : t ≤ 8) (hnc : nc = ns * (t - 1)) (hcc : nc ≤ cc) (hccm : cc ≤ maxLen) (hnil : Ac = none → cc = 0) :
    Calls Try.prog 25 #[.int .i64 k, .pointer (some ⟨bs, 0, none⟩), .pointer (some ⟨bc, 0, none⟩), .pointer (some ⟨bt, 0, none⟩)] W (RetB W t (Shr.line sec coins t k)) := by
  obtain ⟨m, rfl⟩ : ∃ m, t = m + 1 := ⟨t - 1, by omega⟩
  rw [Nat.add_sub_cancel] at hnc
  have HB1 := Lib.hid (show (k + 1) * m ≤ nc by rw [hnc]; exact Nat.mul_le_mul (by omega) (Nat.le_refl m))
  have HCCM := Lib.hid hccm
  have HLN := Lib.hid (show Shr.line sec coins (m + 1) k = [sec.getD k 0] ++ (coins.drop (k * m)).take m by rw [Shr.line, Nat.add_sub_cancel]; rfl)
  obtain ⟨b, off, rfl, hbB, ec⟩ := hS.rs.byte k hk
  generalize sec.getD k 0 = x at ec HLN
  have e1 := hS.s
  have e2 := hS.c
  have e3 := hS.t
  have HS := Lib.hid hS
  have z1 := hS.zs
  have z2 := hS.zc
  have z3 := hS.zt
  have HNIL := Lib.hid hnil
  have hw : IntKind.i64.wrap (m : Int) = (m : Int) := IntWalk.i64_in _ (by omega)
  clear hS hccm hnil hnc
  go_enter Try.func25, Try.ntmps25
  go_wp2_with fail
  go_region_held3 (fun w' => w'.cell? ⟨bs, 0, none⟩ = some (.slice (some ⟨b, off, none⟩) ns cs) ∧ w'.cell? ⟨bc, 0, none⟩ = some (.slice Ac nc cc) ∧ w'.cell? ⟨bt, 0, none⟩ = some (.int .i64 ((m + 1 : Nat) : Int)) ∧ w'.cell? ⟨b, off + k, none⟩ = some (B8 x))
    (first | exact ⟨e1, e2, e3, ec⟩ | exact ⟨(hb2.cell (p := ⟨bs, 0, none⟩) z1).trans e1, (hb2.cell (p := ⟨bc, 0, none⟩) z2).trans e2, (hb2.cell (p := ⟨bt, 0, none⟩) z3).trans e3, (hb2.cell (p := ⟨b, off + k, none⟩) hbB).trans ec⟩ | go_keep)
    (first
      | (refine step_append_rd (by rfl) _ _ (by rfl) el8 (by rfl) (own_drew (World.ownsRow_lit (base := W.heap.size) (e := 5) (size := 1) W #[B8 x] 1 (Nat.le_refl _) (by decide) rfl)) (by rfl) (show Rd _ (W.alloc (.cells #[B8 x] 5)).drew.heap.size 1 _ _ _ by first | exact hrd | exact RdB.alloc hrd _) (one_bytes _) hn2 (by unfold maxLen; omega) (by omega) (by simp) ?_; intro v2 w2 hG; have hb2 : Below W.heap.size W w2 := ((((Below.refl _ W).alloc (Nat.le_refl _) (.cells #[B8 x] 5)).drew).grown hG.grown (by simp) (fun g e => by cases e; exact Nat.le_refl _)))
      | (go_at_call 26; refine (Shr.piece_any Ac nc cc k m coins _ (by first | exact HS.out.rc.drew | exact (HS.out.rc.alloc _).drew) HB1.out hcc HCCM.out (by omega) (by omega) HNIL.out).mono ?_; rintro e w1 ⟨A2, c2, rfl, hn2, hrd, rfl⟩))
  all_goals (
    have HG := Lib.hid hG
    have HB2 := Lib.hid hb2
    obtain ⟨A3, c3, rfl⟩ := own_form hG.own
    clear hG hb2
    go_wp2_with fail
    go_ret
    refine ⟨A3, c3, by rw [Nat.add_comm 1 m]; rfl, own_nil HG.out.own, ?_, own_fresh HG.out.own, own_lt HG.out.own, HB2.out⟩
    · rw [HLN.out, Nat.add_comm m 1]
      exact RdB.of_own (l := [x] ++ (coins.drop (k * m)).take m) (by rw [List.map_append]; exact HG.out.own))
end Go.Proofs.Ytpijkjpefdlefaa
