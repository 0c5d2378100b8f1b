/- Contract of the second closure of shares.Split. -/
import Derived.Test.YtpijkjpefdlefaaShW4
namespace Go.Proofs.Ytpijkjpefdlefaa
open Go.RowKit Go.Shelf
set_option linter.unusedVariables false

/-- what the second closure of Split sees -/
structure Shr.Sq (bl bi : Nat) (AL : Option Addr) (n cL i : Nat) (qs : List Bq) (W : World) : Prop where
  l : W.cell? ⟨bl, 0, none⟩ = some (.slice AL n cL)
  i : W.cell? ⟨bi, 0, none⟩ = some (.int .i64 (i : Int))
  q : RdQ W AL n qs
  zl : bl < W.heap.size
  zi : bi < W.heap.size
theorem Shr.Sq.keep {bl bi : Nat} {AL : Option Addr} {n cL i : Nat} {qs : List Bq} {W W' : World} (h : Shr.Sq bl bi AL n cL i qs W) (hb : Below W.heap.size W W') : Shr.Sq bl bi AL n cL i qs W' :=
  ⟨(hb.cell (p := ⟨bl, 0, none⟩) h.zl).trans h.l, (hb.cell (p := ⟨bi, 0, none⟩) h.zi).trans h.i, h.q.keep hb, Nat.lt_of_lt_of_le h.zl hb.size, Nat.lt_of_lt_of_le h.zi hb.size⟩

theorem u8_wrap (i : Nat) (h : i < 256) : IntKind.u8.wrap (i : Int) = ((UInt8.ofNat i).toNat : Int) := by
  rw [UInt8.toNat_ofNat', Nat.mod_eq_of_lt (by omega)]
  simp [IntKind.wrap, IntKind.signed, IntKind.bits]
  omega

set_option maxHeartbeats 2000000 in
theorem Shr.sp2_any (bl bi : Nat) (AL : Option Addr) (n cL i k : Nat) (qs : List Bq) (W : World) (hS : Shr.Sq bl bi AL n cL i qs W) (hk : k < n) (hn : n ≤ 64) (hi : i ≤ 8) (hql : ∀ q, q ∈ qs → q.l.length ≤ 8) :
    Calls Try.prog 28 #[.int .i64 k, .pointer (some ⟨bl, 0, none⟩), .pointer (some ⟨bi, 0, none⟩)] W fun e W' => e = .returned (B8 (Fld.ev (qs[k]!).l (UInt8.ofNat i))) ∧ Below W.heap.size W W' := by
  obtain ⟨b, off, rfl, hb, ec, hok⟩ := hS.q.at k hk
  have hlen : (qs[k]!).l.length ≤ 8 := by
    rw [getElem!_pos qs k (by rw [hS.q.len]; exact hk)]
    exact hql _ (List.getElem_mem _)
  have HOK := Lib.hid hok
  generalize qs[k]! = q at ec HOK hlen ⊢
  have e1 := hS.l
  have e2 := hS.i
  have z1 := hS.zl
  have z2 := hS.zi
  have hw := u8_wrap i (by omega)
  clear hS hok
  have HLE := Lib.hid hlen
  generalize hm : q.l.length = m at ec hlen
  have HM := Lib.hid hm
  clear hm
  go_enter Try.func28, Try.ntmps28
  go_wp2_with fail
  go_region_held3 (fun w' => w'.cell? ⟨bl, 0, none⟩ = some (.slice (some ⟨b, off, none⟩) n cL) ∧ w'.cell? ⟨bi, 0, none⟩ = some (.int .i64 (i : Int)) ∧ w'.cell? ⟨b, off + k, none⟩ = some (.slice q.A m q.c))
    (first | exact ⟨e1, e2, ec⟩ | exact ⟨(hb2.cell (p := ⟨bl, 0, none⟩) z1).trans e1, (hb2.cell (p := ⟨bi, 0, none⟩) z2).trans e2, (hb2.cell (p := ⟨b, off + k, none⟩) hb).trans ec⟩)
    (first | (go_at_call 29; refine (Fld.eval_ev q.A m q.c q.l (UInt8.ofNat i) _ HM.out (by unfold maxLen; omega) (by rw [← HM.out]; exact HOK.out.rd)).mono ?_; rintro e w2 ⟨rfl, hb2⟩))
  have HB := Lib.hid hb2
  clear hb2
  go_wp2_with fail
  go_ret
  exact ⟨rfl, (Below.refl _ _).drew.trans (HB.out.mono (by simp))⟩
end Go.Proofs.Ytpijkjpefdlefaa
