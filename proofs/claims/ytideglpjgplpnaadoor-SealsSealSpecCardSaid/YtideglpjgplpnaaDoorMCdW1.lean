import Derived.Laws.BitsAllLaws
import Derived.Laws.Bits64
import Derived.Laws.DeepNot64
import Derived.Test.YtideglpjgplpnaaDoorMUtil
import Derived.Test.YtideglpjgplpnaaDoorProg
import Derived.Deep.RegionLaw
import Derived.Shelf.Abstract
/- Contracts of codec.unsigned and codec.signed: an integer as a number without sign. -/
namespace Go.Proofs.YtideglpjgplpnaaDoor
open Go.RowKit
set_option linter.unusedVariables false

/-- the unsigned form of an integer -/
def Cd.uns (n : Int) : Nat := if 0 ≤ n then 2 * n.toNat else 2 * (-(n + 1)).toNat + 1
/-- the integer with an unsigned form -/
def Cd.sgn (u : Nat) : Int := if u % 2 = 0 then ((u / 2 : Nat) : Int) else -((u / 2 : Nat) : Int) - 1

theorem Cd.uns_lt (n : Int) (hn : -9223372036854775808 ≤ n ∧ n ≤ 9223372036854775807) : Cd.uns n < 18446744073709551616 := by
  unfold Cd.uns
  split <;> omega
theorem Cd.sgn_uns (n : Int) : Cd.sgn (Cd.uns n) = n := by
  unfold Cd.sgn Cd.uns
  by_cases h : 0 ≤ n
  · rw [if_pos h, if_pos (by omega)]; omega
  · rw [if_neg h, if_neg (by omega)]; omega
theorem Cd.uns_sgn (u : Nat) : Cd.uns (Cd.sgn u) = u := by
  unfold Cd.sgn Cd.uns
  by_cases h : u % 2 = 0
  · rw [if_pos h, if_pos (by omega)]; omega
  · rw [if_neg h, if_neg (by omega)]; omega
theorem Cd.sgn_in (u : Nat) (hu : u < 18446744073709551616) : -9223372036854775808 ≤ Cd.sgn u ∧ Cd.sgn u ≤ 9223372036854775807 := by
  unfold Cd.sgn
  split <;> omega
theorem Cd.xor_ones (x : Nat) (hx : x < 18446744073709551616) : x ^^^ 18446744073709551615 = 18446744073709551615 - x := by
  have h : (BitVec.ofNat 64 x ^^^ BitVec.allOnes 64) = ~~~(BitVec.ofNat 64 x) := BitVec.xor_allOnes
  have h2 := congrArg BitVec.toNat h
  rw [BitVec.toNat_xor, BitVec.toNat_not, BitVec.toNat_allOnes, BitVec.toNat_ofNat, Nat.mod_eq_of_lt (by omega)] at h2
  exact h2
theorem Cd.u64_wrap (n : Int) : IntKind.u64.wrap n = n % 18446744073709551616 := by
  simp [IntKind.wrap, IntKind.signed, IntKind.bits]

theorem Cd.unsigned_any (n : Int) (w : World) (hn : -9223372036854775808 ≤ n ∧ n ≤ 9223372036854775807) :
    Calls Tryd.prog 98 #[.int .i64 n] w fun e w' => e = .returned (.int .u64 (Cd.uns n)) ∧ w = w' := by
  have HE := Lib.hid (show bits .xor .u64 (IntKind.u64.wrap (IntKind.u64.wrap n * 2)) (IntKind.u64.wrap (n / 9223372036854775808)) = ((Cd.uns n : Nat) : Int) by
    rw [Cd.u64_wrap, Cd.u64_wrap, Cd.u64_wrap]
    unfold Cd.uns
    by_cases h : 0 ≤ n
    · rw [if_pos h, show (n % 18446744073709551616 * 2 % 18446744073709551616) = ((2 * n.toNat : Nat) : Int) by omega, show (n / 9223372036854775808 % 18446744073709551616) = ((0 : Nat) : Int) by omega, u64_xor_nat _ _ (by omega) (by omega), Nat.xor_zero]
    · rw [if_neg h, show (n % 18446744073709551616 * 2 % 18446744073709551616) = ((18446744073709551615 - (2 * (-(n + 1)).toNat + 1) : Nat) : Int) by omega, show (n / 9223372036854775808 % 18446744073709551616) = ((18446744073709551615 : Nat) : Int) by omega, u64_xor_nat _ _ (by omega) (by omega), Cd.xor_ones _ (by omega)]
      omega)
  go_enter Tryd.func98, Tryd.ntmps98
  go_wp2_with fail
  go_ret
  exact ⟨by rw [← HE.out]; rfl, rfl⟩

theorem Cd.i64_xor_ones (a : Nat) (ha : a < 9223372036854775808) : bits .xor .i64 (a : Int) (-1) = -1 - (a : Int) := by
  rw [← i64_not a ha]
  show IntKind.i64.wrap ((BitVec.ofInt 64 (a : Int) ^^^ BitVec.ofInt 64 (-1)).toNat : Int) = IntKind.i64.wrap ((BitVec.ofInt 64 (-1) ^^^ BitVec.ofInt 64 (a : Int)).toNat : Int)
  rw [BitVec.xor_comm]
theorem Cd.i64_xor_zero (a : Nat) (ha : a < 9223372036854775808) : bits .xor .i64 (a : Int) 0 = (a : Int) := by
  show IntKind.i64.wrap ((BitVec.ofInt 64 (a : Int) ^^^ BitVec.ofInt 64 (0 : Int)).toNat : Int) = _
  rw [show BitVec.ofInt 64 (0 : Int) = 0#64 from rfl, BitVec.xor_zero, BitVec.ofInt_natCast, BitVec.toNat_ofNat, Nat.mod_eq_of_lt (by omega)]
  exact IntWalk.i64_in _ (by omega)

end Go.Proofs.YtideglpjgplpnaaDoor
/- What several appends onto a slice of the caller's own leave; contract of codec.numeral. -/
namespace Go.Proofs.YtideglpjgplpnaaDoor
open Go.RowKit
set_option linter.unusedVariables false

/-- what appends leave: an own slice of n bytes in the place of v; nothing else has changed -/
structure Grw (w : World) (base : Nat) (v : Value) (n : Nat) (xs : List UInt8) (v' : Value) (w' : World) : Prop where
  own : w'.ownsRow base 5 1 v' n (xs.map fun a => Value.int .u8 (a.toNat : Int))
  grown : w.grownBy w' v.ownBlock
  at_ : v'.ownBlock = v.ownBlock ∨ ∃ g, w.heap.size ≤ g ∧ v'.ownBlock = some g
theorem Grw.refl {w : World} {base n : Nat} {v : Value} {xs : List UInt8} (h : w.ownsRow base 5 1 v n (xs.map fun a => Value.int .u8 (a.toNat : Int))) : Grw w base v n xs v w := ⟨h, grown_refl _ _, .inl rfl⟩
theorem Grw.trans {w w1 w2 : World} {base n1 n2 : Nat} {v v1 v2 : Value} {x1 x2 : List UInt8} (h1 : Grw w base v n1 x1 v1 w1) (h2 : Grw w1 base v1 n2 x2 v2 w2) : Grw w base v n2 x2 v2 w2 := by
  refine ⟨h2.own, ⟨h2.grown.os.trans h1.grown.os, h2.grown.tape.trans h1.grown.tape, h2.grown.output.trans h1.grown.output, Nat.le_trans h1.grown.size h2.grown.size, fun k hk hne => ?_⟩, ?_⟩
  · refine (h2.grown.block k (Nat.lt_of_lt_of_le hk h1.grown.size) ?_).trans (h1.grown.block k hk hne)
    rcases h1.at_ with e | ⟨g, hg, e⟩
    · rw [e]; exact hne
    · rw [e]; intro e2; injection e2 with e2; omega
  · rcases h2.at_ with e | ⟨g, hg, e⟩
    · rw [e]; exact h1.at_
    · exact .inr ⟨g, Nat.le_trans h1.grown.size hg, e⟩
theorem Grw.of {w w' : World} {base n : Nat} {v v' : Value} {xs : List UInt8} {ys : List Value} (h : Grew w base 5 1 v n ys v' w') (e : ys = xs.map fun a => Value.int .u8 (a.toNat : Int)) : Grw w base v n xs v' w' :=
  ⟨by rw [← e]; exact h.own, h.grown, by rcases h.at_ with e | e; exact .inl e; exact .inr ⟨_, Nat.le_refl _, e⟩⟩
/-- ahead of the appends nothing that was there has changed -/
theorem Grw.pre {w w0 w' : World} {base n : Nat} {v v' : Value} {xs : List UInt8} (hb : Below w.heap.size w w0) (h : Grw w0 base v n xs v' w') : Grw w base v n xs v' w' := by
  refine ⟨h.own, ⟨h.grown.os.trans hb.os, h.grown.tape.trans hb.tape, h.grown.output.trans hb.output, Nat.le_trans hb.size h.grown.size, fun k hk hne => (h.grown.block k (Nat.lt_of_lt_of_le hk hb.size) hne).trans (hb.block k hk)⟩, ?_⟩
  rcases h.at_ with e | ⟨g, hg, e⟩
  · exact .inl e
  · exact .inr ⟨g, Nat.le_trans hb.size hg, e⟩
/-- nothing below the base has changed -/
theorem Grw.below {w w' : World} {base n m : Nat} {v v' : Value} {xs : List UInt8} {ys : List Value} {B : Nat} (h : Grw w base v n xs v' w') (hv : w.ownsRow base 5 1 v m ys) (hB : B ≤ base) (hw : B ≤ w.heap.size) : Below B w w' :=
  (Below.refl B w).grown h.grown hw (fun g e => Nat.le_trans hB (own_ge hv e))

/-- the digits of a number, with so many more than one at most -/
def Cd.numF : Nat → Nat → List UInt8
  | 0, u => [UInt8.ofNat u]
  | f + 1, u => if u < 128 then [UInt8.ofNat u] else UInt8.ofNat (u % 128 + 128) :: Cd.numF f (u / 128)
def Cd.num (u : Nat) : List UInt8 := Cd.numF 9 u
theorem Cd.numF_more (f : Nat) : ∀ u, u < 128 ^ (f + 1) → Cd.numF (f + 1) u = Cd.numF f u := by
  induction f with
  | zero =>
    intro u hu
    have e1 : Cd.numF (0 + 1) u = if u < 128 then [UInt8.ofNat u] else UInt8.ofNat (u % 128 + 128) :: Cd.numF 0 (u / 128) := rfl
    rw [e1, if_pos (by simpa using hu)]
    rfl
  | succ f ih =>
    intro u hu
    have e1 : Cd.numF (f + 1 + 1) u = if u < 128 then [UInt8.ofNat u] else UInt8.ofNat (u % 128 + 128) :: Cd.numF (f + 1) (u / 128) := rfl
    have e2 : Cd.numF (f + 1) u = if u < 128 then [UInt8.ofNat u] else UInt8.ofNat (u % 128 + 128) :: Cd.numF f (u / 128) := rfl
    rw [e1, e2]
    by_cases h : u < 128
    · rw [if_pos h, if_pos h]
    · rw [if_neg h, if_neg h, ih (u / 128) (by rw [Nat.pow_succ] at hu; omega)]
theorem Cd.num_lo (u : Nat) (h : u < 128) : Cd.num u = [UInt8.ofNat u] := by
  show Cd.numF (8 + 1) u = _
  rw [Cd.numF, if_pos h]
theorem Cd.num_hi (u : Nat) (h : ¬ u < 128) (hu : u < 18446744073709551616) : Cd.num u = UInt8.ofNat (u % 128 + 128) :: Cd.num (u / 128) := by
  have hp : (128 : Nat) ^ (8 + 1) = 9223372036854775808 := by decide
  have e1 : Cd.numF (8 + 1) u = if u < 128 then [UInt8.ofNat u] else UInt8.ofNat (u % 128 + 128) :: Cd.numF 8 (u / 128) := rfl
  show Cd.numF (8 + 1) u = _
  rw [e1, if_neg h, Cd.num, ← Cd.numF_more 8 (u / 128) (by rw [hp]; omega)]
theorem Cd.numF_len (f : Nat) : ∀ u, (Cd.numF f u).length ≤ f + 1 := by
  induction f with
  | zero => intro u; simp [Cd.numF]
  | succ f ih =>
    intro u
    rw [Cd.numF]
    split
    · simp
    · have := ih (u / 128); simp; omega
theorem Cd.num_len (u : Nat) : (Cd.num u).length ≤ 10 := Cd.numF_len 9 u
theorem Cd.or128 (u : Nat) : bits .or .u8 ((u : Int) % 256) 128 = ((UInt8.ofNat (u % 128 + 128)).toNat : Int) := by
  have H : ∀ n : Nat, n < 256 → n ||| 128 = n % 128 + 128 := by decide +kernel
  have h1 : (u : Int) % 256 = ((u % 256 : Nat) : Int) := by omega
  have h2 := u8_or_nat (u % 256) 128 (by omega) (by omega)
  rw [h1]
  refine h2.trans ?_
  have e : (UInt8.ofNat (u % 128 + 128)).toNat = u % 128 + 128 := by rw [UInt8.toNat_ofNat']; omega
  rw [e, H (u % 256) (by omega)]
  omega
theorem Cd.byte_lo (u : Nat) (h : u < 128) : (u : Int) = ((UInt8.ofNat u).toNat : Int) := by
  have e : (UInt8.ofNat u).toNat = u := by rw [UInt8.toNat_ofNat']; omega
  rw [e]
theorem el27 : EltOk Tryd.prog 24 5 (.int .u8 0) 1 1 := ⟨Tryd.underlying24, by kernel_rfl, rfl, by decide⟩

/-- an own slice of bytes is handed back, in the place of v -/
def Cd.RetG (w : World) (base : Nat) (v : Value) (xs : List UInt8) (e : Ending) (w' : World) : Prop := ∃ v', e = .returned v' ∧ Grw w base v xs.length xs v' w'

set_option maxRecDepth 100000 in
set_option maxHeartbeats 1000000 in
theorem Cd.numeral_any (v : Value) (base u : Nat) (xs : List UInt8) (w : World) (hown : w.ownsRow base 5 1 v xs.length (xs.map fun a => Value.int .u8 (a.toNat : Int))) (hbase : base ≤ w.heap.size) (hu : u < 18446744073709551616) (hlen : xs.length ≤ 1000000000) :
    Calls Tryd.prog 97 #[v, .int .u64 u] w (Cd.RetG w base v (xs ++ Cd.num u)) := by
  have HO := Lib.hid hown
  have HL := Lib.hid (Cd.num_len u)
  clear hown
  go_enter Tryd.func97, Tryd.ntmps97
  go_wp2_with fail
  go_loopw [0, 1] (fun v' i wr => ∃ (q : Nat) (ds : List UInt8), i = .int .u64 q ∧ q ≤ u ∧ ds ++ Cd.num q = Cd.num u ∧ Grw w base v (xs.length + ds.length) (xs ++ ds) v' wr) (fun _ i _ => (intOf i).toNat)
  case atStart => exact ⟨u, [], rfl, Nat.le_refl _, rfl, by simpa using Grw.refl HO.out⟩
  case round =>
    obtain ⟨q, ds, rfl, hq, hd, hG⟩ := hrel
    have HD := Lib.hid hd
    have HG := Lib.hid hG
    have hz := hG.grown.size
    clear hd hG
    have hdl : ds.length ≤ 10 := by
      have h := congrArg List.length HD.out
      rw [List.length_append] at h
      have := HL.out
      omega
    by_cases hlt : q < 128
    · have HN := Lib.hid (Cd.num_lo q hlt)
      have HBY := Lib.hid (Cd.byte_lo q hlt)
      have d1 : decide ((128 : Int) ≤ (q : Int)) = false := decide_eq_false (by omega)
      generalize UInt8.ofNat q = y at HN HBY
      go_wp2_with (at_builtin; refine wpList_append_rd rfl _ _ rfl el27 rfl (HG.out.own.alloc _) rfl (rd_new wr 5 1 [.int .u8 (q : Int)] rfl) (by simp [Value.oneCell']) (fun h => by (cases h)) (by simp only [maxLen]; omega) (by omega) (by simp; omega) ?_; intro v4 w4 hG4)
      have HG4 := Lib.hid (show Grw w base v (xs ++ Cd.num u).length (xs ++ Cd.num u) v4 w4 by
        have e : xs ++ Cd.num u = (xs ++ ds) ++ [y] := by rw [← HD.out, HN.out, List.append_assoc]
        have h1 := Grw.pre ((Below.refl wr.heap.size wr).alloc (Nat.le_refl _) _) (Grw.of hG4 (xs := (xs ++ ds) ++ [y]) (by rw [List.map_append (l₂ := [y])]; exact congrArg (fun z : Int => List.map (fun a : UInt8 => Value.int .u8 (a.toNat : Int)) (xs ++ ds) ++ [Value.int .u8 z]) HBY.out))
        rw [e, show ((xs ++ ds) ++ [y]).length = xs.length + ds.length + 1 by simp; omega]
        exact HG.out.trans h1)
      clear hG4
      go_wp2_with fail
      go_ret
      exact ⟨_, rfl, HG4.out⟩
    · have HN := Lib.hid (Cd.num_hi q hlt (by omega))
      have ho := Cd.or128 q
      have d1 : decide ((128 : Int) ≤ (q : Int)) = true := decide_eq_true (by omega)
      generalize UInt8.ofNat (q % 128 + 128) = y at HN ho
      go_wp2_with (at_builtin; refine wpList_append_rd rfl _ _ rfl el27 rfl (HG.out.own.alloc _) rfl (rd_new wr 5 1 [.int .u8 (y.toNat : Int)] rfl) (by simp [Value.oneCell']) (fun h => by (cases h)) (by simp only [maxLen]; omega) (by omega) (by simp; omega) ?_; intro v4 w4 hG4)
      have HG4 := Lib.hid (show Grw w base v (xs.length + (ds ++ [y]).length) (xs ++ (ds ++ [y])) v4 w4 by
        have e : xs ++ (ds ++ [y]) = (xs ++ ds) ++ [y] := by rw [List.append_assoc]
        have h1 := Grw.pre ((Below.refl wr.heap.size wr).alloc (Nat.le_refl _) _) (Grw.of hG4 (xs := (xs ++ ds) ++ [y]) (by rw [List.map_append (l₂ := [y])]; rfl))
        rw [e, show xs.length + (ds ++ [y]).length = xs.length + ds.length + 1 by simp; omega]
        exact HG.out.trans h1)
      clear hG4 ho
      go_wp2_with fail
      go_roundw
      case rel => exact ⟨q / 128, ds ++ [y], by go_num, by omega, by rw [List.append_assoc, ← HD.out, HN.out]; rfl, HG4.out⟩
      case measure => simp [intOf]; omega
end Go.Proofs.YtideglpjgplpnaaDoor
/- Plain values of package codec: well-formed ones, their depth, their encoding; how they read in memory. No condition; no program in sight. -/
namespace Go.Proofs.YtideglpjgplpnaaDoor
open Go.RowKit
set_option linter.unusedVariables false

/-- a value -/
inductive Cd.T where
  | mk (k n : Int) (s : List UInt8) (l : List Cd.T)
instance : Inhabited Cd.T := ⟨.mk 0 0 [] []⟩
def Cd.T.k : Cd.T → Int | .mk k _ _ _ => k
def Cd.T.n : Cd.T → Int | .mk _ n _ _ => n
def Cd.T.s : Cd.T → List UInt8 | .mk _ _ s _ => s
def Cd.T.l : Cd.T → List Cd.T | .mk _ _ _ l => l

mutual
/-- the depth of a well-formed value -/
def Cd.T.fd : Cd.T → Option Nat
  | .mk k n s l =>
    if k = 1 then (if s = [] ∧ l = [] then some 0 else none)
    else if k = 2 then (if n = 0 ∧ l = [] then some 0 else none)
    else if k = 3 then (if n = 0 ∧ s = [] then (Cd.T.fds l).map (· + 1) else none)
    else none
/-- the greatest depth of well-formed values -/
def Cd.T.fds : List Cd.T → Option Nat
  | [] => some 0
  | x :: l => match x.fd, Cd.T.fds l with
    | some a, some b => some (max a b)
    | _, _ => none
end
mutual
/-- how high a value is built -/
def Cd.T.hgt : Cd.T → Nat
  | .mk _ _ _ l => Cd.T.hgts l + 1
def Cd.T.hgts : List Cd.T → Nat
  | [] => 0
  | x :: l => max x.hgt (Cd.T.hgts l)
end
mutual
/-- the encoding -/
def Cd.T.enc : Cd.T → List UInt8
  | .mk k n s l => if k = 1 then 1 :: Cd.num (Cd.uns n) else if k = 2 then 2 :: (Cd.num s.length ++ s) else 3 :: (Cd.num l.length ++ Cd.T.encs l)
def Cd.T.encs : List Cd.T → List UInt8
  | [] => []
  | x :: l => x.enc ++ Cd.T.encs l
end
theorem Cd.T.hgts_mem {x : Cd.T} : ∀ {l : List Cd.T}, x ∈ l → x.hgt ≤ Cd.T.hgts l
  | [], h => by cases h
  | y :: l, h => by
    rw [Cd.T.hgts]
    rcases List.mem_cons.1 h with rfl | h
    · exact Nat.le_max_left _ _
    · exact Nat.le_trans (Cd.T.hgts_mem h) (Nat.le_max_right _ _)
theorem Cd.T.fds_snoc (x : Cd.T) : ∀ l : List Cd.T, Cd.T.fds (l ++ [x]) = match Cd.T.fds l, x.fd with | some a, some b => some (max a b) | _, _ => none
  | [] => by
    show Cd.T.fds [x] = _
    rw [Cd.T.fds, Cd.T.fds]
    cases x.fd with
    | none => rfl
    | some b => simp [Cd.T.fds]
  | y :: l => by
    rw [List.cons_append, Cd.T.fds, Cd.T.fds, Cd.T.fds_snoc x l]
    cases y.fd <;> cases Cd.T.fds l <;> cases x.fd <;> simp [Nat.max_assoc]
theorem Cd.T.fds_bad {x : Cd.T} (hx : x.fd = none) : ∀ {l : List Cd.T}, x ∈ l → Cd.T.fds l = none
  | [], h => by cases h
  | y :: l, h => by
    rw [Cd.T.fds]
    rcases List.mem_cons.1 h with rfl | h
    · rw [hx]
    · rw [Cd.T.fds_bad hx h]; cases y.fd <;> rfl
theorem Cd.T.encs_snoc (x : Cd.T) : ∀ l : List Cd.T, Cd.T.encs (l ++ [x]) = Cd.T.encs l ++ x.enc
  | [] => by simp [Cd.T.encs]
  | y :: l => by rw [List.cons_append, Cd.T.encs, Cd.T.encs, Cd.T.encs_snoc x l, List.append_assoc]
mutual
theorem Cd.T.fd_hgt : ∀ (x : Cd.T) (d : Nat), x.fd = some d → d ≤ x.hgt
  | .mk k n s l, d, h => by
    rw [Cd.T.fd] at h
    rw [Cd.T.hgt]
    split at h
    · split at h
      · injection h with h; omega
      · cases h
    · split at h
      · split at h
        · injection h with h; omega
        · cases h
      · split at h
        · split at h
          · cases hl : Cd.T.fds l with
            | none => rw [hl] at h; cases h
            | some b =>
              rw [hl] at h
              have h2 := Cd.T.fds_hgt l b hl
              simp only [Option.map_some, Option.some.injEq] at h
              omega
          · cases h
        · cases h
theorem Cd.T.fds_hgt : ∀ (l : List Cd.T) (d : Nat), Cd.T.fds l = some d → d ≤ Cd.T.hgts l
  | [], d, h => by
    rw [Cd.T.fds] at h
    injection h with h; omega
  | x :: l, d, h => by
    rw [Cd.T.fds] at h
    rw [Cd.T.hgts]
    cases hx : x.fd with
    | none => rw [hx] at h; cases h
    | some a =>
      cases hl : Cd.T.fds l with
      | none => rw [hx, hl] at h; cases h
      | some b =>
        rw [hx, hl] at h
        have h1 := Cd.T.fd_hgt x a hx
        have h2 := Cd.T.fds_hgt l b hl
        simp only [Option.some.injEq] at h
        omega
end

/-- the four cells read as the value -/
inductive Cd.Cell (w : World) : Cd.T → List Value → Prop where
  | mk (k n : Int) (s : List UInt8) (l : List Cd.T) (A : Option Addr) (c : Nat) (xss : List (List Value)) (hl : xss.length = l.length) (hx : ∀ i, i < l.length → Cd.Cell w l[i]! xss[i]!) (hr : Rd w w.heap.size 4 A l.length xss.flatten) (hn : A = none → c = 0) (hm : l.length ≤ maxLen) (hs : s.length ≤ maxLen) :
    Cd.Cell w (.mk k n s l) [.int .i64 k, .int .i64 n, .string ⟨s.toArray⟩, .slice A l.length c]
theorem Cd.Cell.keep {w w' : World} {t : Cd.T} {cs : List Value} (h : Cd.Cell w t cs) (hb : Below w.heap.size w w') : Cd.Cell w' t cs := by
  induction h with
  | mk k n s l A c xss hl hx hr hn hm hs ih => exact .mk k n s l A c xss hl (fun i hi => ih i hi) ((hr.below hb (Nat.le_refl _)).more hb.size) hn hm hs
theorem Cd.Cell.len {w : World} {t : Cd.T} {cs : List Value} (h : Cd.Cell w t cs) : cs.length = 4 := by cases h; rfl
end Go.Proofs.YtideglpjgplpnaaDoor
/- Steps of regions that draw; contract of the writer of integers. -/
namespace Go.Proofs.YtideglpjgplpnaaDoor
open Go.RowKit Go.Shelf
set_option linter.unusedVariables false

section
variable {P : Program} {ops : Array Oper} {o : Oper} {a : Act} {w : World} {K : Act → World → Prop} {Q : Exit → Act → World → Prop} {F : Prop}
/-- a call of one argument that leaves memory as it was, as one step of a region that draws -/
theorem step_call1 {v : Value} (f : FuncId) (x : Operand) (tys : Array TypeId) (vx : Value) (hgd : o.guard = none)
    (ho : o.op = .call { callee := .value (.func f), args := #[x], argTypes := tys }) (heg : ∀ args w, (callFunc f args).run P w = .ok (.enter f args) w) (hx : a.eval x = vx) (hC : Calls P f #[vx] w fun e w' => e = .returned v ∧ w = w') (h : K (a.put o.dst v) w) :
    if Region.wanted o (yielded ops a.tmps) = true then Oper.wp P o a w K Q else F := by
  rw [if_pos (by simp [Region.wanted, hgd])]
  have hrun : (execOp a.eval o).run P w = .ok (.enter f #[vx]) w := by
    subst hx
    simp [execOp, ho, resolve, invoke, Act.eval, Deferred.ofValue, go_sem, heg]
  unfold Oper.wp
  rw [hrun, Oper.upon_enter]
  exact hC.mono fun e w' ⟨he, hw⟩ => by subst he hw; exact h
/-- a call of two arguments, as one step of a region that draws -/
theorem step_callR (R : Ending → World → Prop) (f : FuncId) (x y : Operand) (tys : Array TypeId) (vx vy : Value) (hgd : o.guard = none)
    (ho : o.op = .call { callee := .value (.func f), args := #[x, y], argTypes := tys }) (heg : ∀ args w, (callFunc f args).run P w = .ok (.enter f args) w) (hx : a.eval x = vx) (hy : a.eval y = vy) (hC : Calls P f #[vx, vy] w R)
    (hR : ∀ e w', R e w' → ∃ v, e = .returned v) (h : ∀ v w', R (.returned v) w' → K (a.put o.dst v) w') :
    if Region.wanted o (yielded ops a.tmps) = true then Oper.wp P o a w K Q else F := by
  rw [if_pos (by simp [Region.wanted, hgd])]
  have hrun : (execOp a.eval o).run P w = .ok (.enter f #[vx, vy]) w := by
    subst hx hy
    simp [execOp, ho, resolve, invoke, Act.eval, Deferred.ofValue, go_sem, heg]
  unfold Oper.wp
  rw [hrun, Oper.upon_enter]
  refine hC.mono fun e w' hr => ?_
  obtain ⟨v, rfl⟩ := hR e w' hr
  exact h v w' hr
end

set_option maxRecDepth 100000 in
set_option maxHeartbeats 2000000 in
theorem Cd.wInt_any (v : Value) (base : Nat) (k n : Int) (s : ByteArray) (A : Option Addr) (ln c : Nat) (xs : List UInt8) (w : World) (hown : w.ownsRow base 5 1 v xs.length (xs.map fun a => Value.int .u8 (a.toNat : Int))) (hbase : base ≤ w.heap.size) (hn : -9223372036854775808 ≤ n ∧ n ≤ 9223372036854775807) (hlen : xs.length ≤ 100000000) :
    Calls Tryd.prog 96 #[v, .agg #[.int .i64 k, .int .i64 n, .string s, .slice A ln c]] w (Cd.RetG w base v (xs ++ (1 :: Cd.num (Cd.uns n)))) := by
  have HO := Lib.hid hown
  have HN := Lib.hid hn
  have HUL := Lib.hid (Cd.uns_lt n hn)
  clear hown hn
  go_enter Tryd.func96, Tryd.ntmps96
  go_wp2_with fail
  obtain ⟨w0, hw0⟩ : ∃ w0, w0 = w.alloc (.cells #[.int .i64 k, .int .i64 n, .string s, .slice A ln c] 77) := ⟨_, rfl⟩
  have HB0 := Lib.hid (show Below w.heap.size w w0 by rw [hw0]; exact (Below.refl _ _).alloc (Nat.le_refl _) _)
  have HH0 := Lib.hid (show Has w0 w.heap.size 77 [.int .i64 k, .int .i64 n, .string s, .slice A ln c] by rw [hw0]; exact Has.new _ _ _)
  have HO0 := Lib.hid (own_below HO.out HB0.out)
  have hz0 : w0.heap.size = w.heap.size + 1 := by rw [hw0]; simp
  rw [← hw0]
  clear hw0
  have c1 := HH0.out.cell 1
  simp only [List.getElem?_cons_succ, List.getElem?_cons_zero] at c1
  have HEU := Lib.hid (enters_of Tryd.func98 (by kernel_rfl) rfl)
  have HEN := Lib.hid (enters_of Tryd.func97 (by kernel_rfl) rfl)
  have HUN := Lib.hid (Cd.unsigned_any n)
  have OW := Lib.hid (show ((w0.alloc (.cells #[.int .u8 1] 5)).drew).ownsRow base 5 1 v xs.length (xs.map fun a => Value.int .u8 (a.toNat : Int)) from own_drew (HO0.out.alloc _))
  have SR := Lib.hid (show Rd ((w0.alloc (.cells #[.int .u8 1] 5)).drew) (w0.heap.size + 1) 1 (some ⟨w0.heap.size, 0, none⟩) 1 [.int .u8 1] by have h := rd_new w0 5 1 [.int .u8 1] rfl; rw [World.size_alloc] at h; exact h)
  have H1 := Lib.hid (show ∀ u ∈ [Value.int .u8 1], u.oneCell' = true by simp [Value.oneCell'])
  have H63 := Lib.hid (show xs.length + 1 ≤ maxLen by unfold maxLen; omega)
  have H64 := Lib.hid (show (xs.length + 1) * 1 ≤ 140737488355328 by omega)
  have HPB := Lib.hid (show Below w0.heap.size w0 ((w0.alloc (.cells #[.int .u8 1] 5)).drew) from ((Below.refl _ _).alloc (Nat.le_refl _) _).drew)
  have HBS := Lib.hid (show base ≤ ((w0.alloc (.cells #[.int .u8 1] 5)).drew).heap.size from Nat.le_trans (by omega) HPB.out.size)
  have HGW := Lib.hid (show ∀ v4 w4, Grew ((w0.alloc (.cells #[.int .u8 1] 5)).drew) base 5 1 v (xs.length + 1) ((xs.map fun a => Value.int .u8 (a.toNat : Int)) ++ [.int .u8 1]) v4 w4 → Grw w0 base v (xs.length + 1) (xs ++ [1]) v4 w4 from fun v4 w4 hG =>
    Grw.pre HPB.out (Grw.of hG (by rw [List.map_append (l₂ := [1])]; rfl)))
  have HNU := Lib.hid (show ∀ v4 w4, Grw w0 base v (xs.length + 1) (xs ++ [1]) v4 w4 → Calls Tryd.prog 97 #[v4, .int .u64 (Cd.uns n)] w4 (Cd.RetG w4 base v4 ((xs ++ [1]) ++ Cd.num (Cd.uns n))) from fun v4 w4 hG =>
    Cd.numeral_any v4 base (Cd.uns n) (xs ++ [1]) w4 (by have h := hG.own; rw [show (xs ++ [(1 : UInt8)]).length = xs.length + 1 by simp]; exact h) (by have := hG.grown.size; omega) HUL.out (by simp; omega))
  have HCL := Lib.hid (show ∀ v4 w4, Grw w0 base v (xs.length + 1) (xs ++ [1]) v4 w4 → w4.cell? ⟨w.heap.size, 1, none⟩ = some (.int .i64 n) from fun v4 w4 hG => by
    have h := (HH0.out.grown hG.grown (fun e => by have := (HO.out.lt _ e).2; omega)).cell 1
    simpa using h)
  have HSZ := Lib.hid (show ∀ v4 w4, Grw w0 base v (xs.length + 1) (xs ++ [1]) v4 w4 → w.heap.size < w4.heap.size from fun v4 w4 hG => by have := hG.grown.size; omega)
  obtain ⟨un, hun⟩ : ∃ un, Cd.uns n = un := ⟨_, rfl⟩
  rw [hun] at HUN HNU
  have HEQ := Lib.hid hun
  clear hun
  have c1a := (HH0.out.alloc (.cells #[.int .u8 1] 5)).cell 1
  simp only [List.getElem?_cons_succ, List.getElem?_cons_zero] at c1a
  have z0 := HH0.out.lt
  clear hz0
  go_region_law (first
    | (refine step_append_rd (by rfl) (.tmp 5) (.tmp 6) (by rfl) el27 (by rfl) OW.out (by rfl) SR.out H1.out (fun h => by (cases h)) H63.out H64.out HBS.out ?_; intro v4 w4 hG4; have HG4 := Lib.hid (HGW.out v4 w4 hG4); have c14 := HCL.out v4 w4 HG4.out; have z14 := HSZ.out v4 w4 HG4.out; clear hG4)
    | (refine step_call1 98 (.tmp 9) _ (.int .i64 n) (by rfl) (by rfl) HEU.out (by rfl) (HUN.out _ HN.out) ?_)
    | (refine step_callR _ 97 (.tmp 7) (.tmp 10) _ v4 (.int .u64 (un : Int)) (by rfl) (by rfl) HEN.out (by rfl) (by rfl) (HNU.out v4 w4 HG4.out) (fun e w' h => by obtain ⟨v', e', _⟩ := h; exact ⟨v', e'⟩) ?_; intro v5 w5 hR5))
  all_goals (
    have HG6 := Lib.hid (show Grw w base v (xs ++ (1 :: Cd.num un)).length (xs ++ (1 :: Cd.num un)) v5 w5 by
      obtain ⟨v6, e6, hG6⟩ := hR5
      injection e6 with e6
      subst e6
      rw [show xs ++ (1 :: Cd.num un) = (xs ++ [1]) ++ Cd.num un by simp]
      exact Grw.pre HB0.out (HG4.out.trans hG6))
    clear hR5 c14 z14
    go_wp2_with fail
    go_ret
    exact ⟨_, rfl, by rw [HEQ.out]; exact HG6.out⟩)
end Go.Proofs.YtideglpjgplpnaaDoor
