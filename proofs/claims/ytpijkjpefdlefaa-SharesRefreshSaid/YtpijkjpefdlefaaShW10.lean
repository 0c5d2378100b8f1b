/- Contract of the closure of shares.Refresh. -/
import Derived.Test.YtpijkjpefdlefaaShW9
namespace Go.Proofs.Ytpijkjpefdlefaa
open Go.RowKit Go.Shelf
set_option linter.unusedVariables false

/-- what the closure of Refresh sees -/
structure Shr.Rf (bl bi bz : Nat) (A Az : Option Addr) (n c cz i : Nat) (xs zs : List Shr.C) (W : World) : Prop where
  l : W.cell? ⟨bl, 0, none⟩ = some (.slice A n c)
  i : W.cell? ⟨bi, 0, none⟩ = some (.int .i64 (i : Int))
  z : W.cell? ⟨bz, 0, none⟩ = some (.slice Az n cz)
  r : Shr.Rds W A n xs
  rz : Shr.Rds W Az n zs
  zl : bl < W.heap.size
  zi : bi < W.heap.size
  zz : bz < W.heap.size
theorem Shr.Rf.keep {bl bi bz : Nat} {A Az : Option Addr} {n c cz i : Nat} {xs zs : List Shr.C} {W W' : World} (h : Shr.Rf bl bi bz A Az n c cz i xs zs W) (hb : Below W.heap.size W W') : Shr.Rf bl bi bz A Az n c cz i xs zs W' :=
  ⟨(hb.cell (p := ⟨bl, 0, none⟩) h.zl).trans h.l, (hb.cell (p := ⟨bi, 0, none⟩) h.zi).trans h.i, (hb.cell (p := ⟨bz, 0, none⟩) h.zz).trans h.z, h.r.keep hb, h.rz.keep hb, Nat.lt_of_lt_of_le h.zl hb.size, Nat.lt_of_lt_of_le h.zi hb.size, Nat.lt_of_lt_of_le h.zz hb.size⟩

set_option maxHeartbeats 1000000 in
theorem Shr.rf1_any (bl bi bz : Nat) (A Az : Option Addr) (n c cz i k : Nat) (xs zs : List Shr.C) (W : World) (hS : Shr.Rf bl bi bz A Az n c cz i xs zs W) (hi : i < n) (hn : n ≤ 8) (hk : k < (xs[i]!).s.d.length) (hkz : k < (zs[i]!).s.d.length) (hk64 : k < 64) :
    Calls Try.prog 41 #[.int .i64 k, .pointer (some ⟨bl, 0, none⟩), .pointer (some ⟨bi, 0, none⟩), .pointer (some ⟨bz, 0, none⟩)] W fun e W' => e = .returned (B8 ((xs[i]!).s.d.getD k 0 ^^^ (zs[i]!).s.d.getD k 0)) ∧ Below W.heap.size W W' := by
  obtain ⟨b, off, rfl, hb, _, _, _, _, e4⟩ := hS.r.at i hi
  obtain ⟨bq, offq, rfl, hbq, _, _, _, _, f4⟩ := hS.rz.at i hi
  have ok1 := hS.r.mem i hi
  have ok2 := hS.rz.mem i hi
  have l1 := ok1.len
  have l2 := ok2.len
  unfold maxLen at l1 l2
  generalize xs[i]! = x at e4 ok1 l1 hk ⊢
  generalize zs[i]! = z at f4 ok2 l2 hkz ⊢
  obtain ⟨bd, offd, hA1, hbd, ed⟩ := ok1.rd.byte k hk
  obtain ⟨be, offe, hA2, hbe, ee⟩ := ok2.rd.byte k hkz
  rw [hA1] at e4
  rw [hA2] at f4
  have g1 := hS.l
  have g2 := hS.i
  have g3 := hS.z
  have hx8 := Fld.xor8 (x.s.d.getD k 0) (z.s.d.getD k 0)
  have HX := Lib.hid hx8
  generalize x.s.d.getD k 0 = dx at ed hx8 HX ⊢
  generalize z.s.d.getD k 0 = dz at ee hx8 HX ⊢
  generalize x.s.d.length = lx at e4 hk l1
  generalize z.s.d.length = lz at f4 hkz l2
  clear hS ok1 ok2 hA1 hA2 hx8
  have i1 : (0 : Int) ≤ (k : Int) := by omega
  have i2 : (k : Int) < (lx : Int) := by omega
  have i3 : (k : Int) < (lz : Int) := by omega
  have i4 : (0 : Int) ≤ (i : Int) := by omega
  have i5 : (i : Int) < (n : Int) := by omega
  go_enter Try.func41, Try.ntmps41
  go_wp2_with fail
  go_quiet (fail)
  go_wp2_with fail
  go_ret
  refine ⟨?_, below_drewN (Below.refl _ _) _⟩
  rw [B8, ← HX.out]
  rfl
end Go.Proofs.Ytpijkjpefdlefaa
