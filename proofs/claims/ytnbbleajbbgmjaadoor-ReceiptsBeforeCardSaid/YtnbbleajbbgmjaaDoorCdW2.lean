/- What several appends onto a slice of the caller's own leave; contract of codec.numeral. -/
import Derived.Test.YtnbbleajbbgmjaaDoorCdW1
namespace Go.Proofs.YtnbbleajbbgmjaaDoor
open Go.RowKit
set_option linter.unusedVariables false

/-- what appends leave: an own slice of n bytes in the place of v; nothing else has changed -/
structure Grw (w : World) (base : Nat) (v : Value) (n : Nat) (xs : List UInt8) (v' : Value) (w' : World) : Prop where
  own : w'.ownsRow base 5 1 v' n (xs.map fun a => Value.int .u8 (a.toNat : Int))
  grown : w.grownBy w' v.ownBlock
  at_ : v'.ownBlock = v.ownBlock ∨ ∃ g, w.heap.size ≤ g ∧ v'.ownBlock = some g
theorem Grw.refl {w : World} {base n : Nat} {v : Value} {xs : List UInt8} (h : w.ownsRow base 5 1 v n (xs.map fun a => Value.int .u8 (a.toNat : Int))) : Grw w base v n xs v w := ⟨h, grown_refl _ _, .inl rfl⟩
theorem Grw.trans {w w1 w2 : World} {base n1 n2 : Nat} {v v1 v2 : Value} {x1 x2 : List UInt8} (h1 : Grw w base v n1 x1 v1 w1) (h2 : Grw w1 base v1 n2 x2 v2 w2) : Grw w base v n2 x2 v2 w2 := by
  refine ⟨h2.own, ⟨h2.grown.os.trans h1.grown.os, h2.grown.tape.trans h1.grown.tape, h2.grown.output.trans h1.grown.output, Nat.le_trans h1.grown.size h2.grown.size, fun k hk hne => ?_⟩, ?_⟩
  · refine (h2.grown.block k (Nat.lt_of_lt_of_le hk h1.grown.size) ?_).trans (h1.grown.block k hk hne)
    rcases h1.at_ with e | ⟨g, hg, e⟩
    · rw [e]; exact hne
    · rw [e]; intro e2; injection e2 with e2; omega
  · rcases h2.at_ with e | ⟨g, hg, e⟩
    · rw [e]; exact h1.at_
    · exact .inr ⟨g, Nat.le_trans h1.grown.size hg, e⟩
theorem Grw.of {w w' : World} {base n : Nat} {v v' : Value} {xs : List UInt8} {ys : List Value} (h : Grew w base 5 1 v n ys v' w') (e : ys = xs.map fun a => Value.int .u8 (a.toNat : Int)) : Grw w base v n xs v' w' :=
  ⟨by rw [← e]; exact h.own, h.grown, by rcases h.at_ with e | e; exact .inl e; exact .inr ⟨_, Nat.le_refl _, e⟩⟩
/-- ahead of the appends nothing that was there has changed -/
theorem Grw.pre {w w0 w' : World} {base n : Nat} {v v' : Value} {xs : List UInt8} (hb : Below w.heap.size w w0) (h : Grw w0 base v n xs v' w') : Grw w base v n xs v' w' := by
  refine ⟨h.own, ⟨h.grown.os.trans hb.os, h.grown.tape.trans hb.tape, h.grown.output.trans hb.output, Nat.le_trans hb.size h.grown.size, fun k hk hne => (h.grown.block k (Nat.lt_of_lt_of_le hk hb.size) hne).trans (hb.block k hk)⟩, ?_⟩
  rcases h.at_ with e | ⟨g, hg, e⟩
  · exact .inl e
  · exact .inr ⟨g, Nat.le_trans hb.size hg, e⟩
/-- nothing below the base has changed -/
theorem Grw.below {w w' : World} {base n m : Nat} {v v' : Value} {xs : List UInt8} {ys : List Value} {B : Nat} (h : Grw w base v n xs v' w') (hv : w.ownsRow base 5 1 v m ys) (hB : B ≤ base) (hw : B ≤ w.heap.size) : Below B w w' :=
  (Below.refl B w).grown h.grown hw (fun g e => Nat.le_trans hB (own_ge hv e))

/-- the digits of a number, with so many more than one at most -/
def Cd.numF : Nat → Nat → List UInt8
  | 0, u => [UInt8.ofNat u]
  | f + 1, u => if u < 128 then [UInt8.ofNat u] else UInt8.ofNat (u % 128 + 128) :: Cd.numF f (u / 128)
def Cd.num (u : Nat) : List UInt8 := Cd.numF 9 u
theorem Cd.numF_more (f : Nat) : ∀ u, u < 128 ^ (f + 1) → Cd.numF (f + 1) u = Cd.numF f u := by
  induction f with
  | zero =>
    intro u hu
    have e1 : Cd.numF (0 + 1) u = if u < 128 then [UInt8.ofNat u] else UInt8.ofNat (u % 128 + 128) :: Cd.numF 0 (u / 128) := rfl
    rw [e1, if_pos (by simpa using hu)]
    rfl
  | succ f ih =>
    intro u hu
    have e1 : Cd.numF (f + 1 + 1) u = if u < 128 then [UInt8.ofNat u] else UInt8.ofNat (u % 128 + 128) :: Cd.numF (f + 1) (u / 128) := rfl
    have e2 : Cd.numF (f + 1) u = if u < 128 then [UInt8.ofNat u] else UInt8.ofNat (u % 128 + 128) :: Cd.numF f (u / 128) := rfl
    rw [e1, e2]
    by_cases h : u < 128
    · rw [if_pos h, if_pos h]
    · rw [if_neg h, if_neg h, ih (u / 128) (by rw [Nat.pow_succ] at hu; omega)]
theorem Cd.num_lo (u : Nat) (h : u < 128) : Cd.num u = [UInt8.ofNat u] := by
  show Cd.numF (8 + 1) u = _
  rw [Cd.numF, if_pos h]
theorem Cd.num_hi (u : Nat) (h : ¬ u < 128) (hu : u < 18446744073709551616) : Cd.num u = UInt8.ofNat (u % 128 + 128) :: Cd.num (u / 128) := by
  have hp : (128 : Nat) ^ (8 + 1) = 9223372036854775808 := by decide
  have e1 : Cd.numF (8 + 1) u = if u < 128 then [UInt8.ofNat u] else UInt8.ofNat (u % 128 + 128) :: Cd.numF 8 (u / 128) := rfl
  show Cd.numF (8 + 1) u = _
  rw [e1, if_neg h, Cd.num, ← Cd.numF_more 8 (u / 128) (by rw [hp]; omega)]
theorem Cd.numF_len (f : Nat) : ∀ u, (Cd.numF f u).length ≤ f + 1 := by
  induction f with
  | zero => intro u; simp [Cd.numF]
  | succ f ih =>
    intro u
    rw [Cd.numF]
    split
    · simp
    · have := ih (u / 128); simp; omega
theorem Cd.num_len (u : Nat) : (Cd.num u).length ≤ 10 := Cd.numF_len 9 u
theorem Cd.or128 (u : Nat) : bits .or .u8 ((u : Int) % 256) 128 = ((UInt8.ofNat (u % 128 + 128)).toNat : Int) := by
  have H : ∀ n : Nat, n < 256 → n ||| 128 = n % 128 + 128 := by decide +kernel
  have h1 : (u : Int) % 256 = ((u % 256 : Nat) : Int) := by omega
  have h2 := u8_or_nat (u % 256) 128 (by omega) (by omega)
  rw [h1]
  refine h2.trans ?_
  have e : (UInt8.ofNat (u % 128 + 128)).toNat = u % 128 + 128 := by rw [UInt8.toNat_ofNat']; omega
  rw [e, H (u % 256) (by omega)]
  omega
theorem Cd.byte_lo (u : Nat) (h : u < 128) : (u : Int) = ((UInt8.ofNat u).toNat : Int) := by
  have e : (UInt8.ofNat u).toNat = u := by rw [UInt8.toNat_ofNat']; omega
  rw [e]
theorem el27 : EltOk Tryd.prog 63 5 (.int .u8 0) 1 1 := ⟨Tryd.underlying63, by kernel_rfl, rfl, by decide⟩

/-- an own slice of bytes is handed back, in the place of v -/
def Cd.RetG (w : World) (base : Nat) (v : Value) (xs : List UInt8) (e : Ending) (w' : World) : Prop := ∃ v', e = .returned v' ∧ Grw w base v xs.length xs v' w'

set_option maxRecDepth 100000 in
set_option maxHeartbeats 1000000 in
theorem Cd.numeral_any (v : Value) (base u : Nat) (xs : List UInt8) (w : World) (hown : w.ownsRow base 5 1 v xs.length (xs.map fun a => Value.int .u8 (a.toNat : Int))) (hbase : base ≤ w.heap.size) (hu : u < 18446744073709551616) (hlen : xs.length ≤ 1000000000) :
    Calls Tryd.prog 72 #[v, .int .u64 u] w (Cd.RetG w base v (xs ++ Cd.num u)) := by
  have HO := Lib.hid hown
  have HL := Lib.hid (Cd.num_len u)
  clear hown
  go_enter Tryd.func72, Tryd.ntmps72
  go_wp2_with fail
  go_loopw [0, 1] (fun v' i wr => ∃ (q : Nat) (ds : List UInt8), i = .int .u64 q ∧ q ≤ u ∧ ds ++ Cd.num q = Cd.num u ∧ Grw w base v (xs.length + ds.length) (xs ++ ds) v' wr) (fun _ i _ => (intOf i).toNat)
  case atStart => exact ⟨u, [], rfl, Nat.le_refl _, rfl, by simpa using Grw.refl HO.out⟩
  case round =>
    obtain ⟨q, ds, rfl, hq, hd, hG⟩ := hrel
    have HD := Lib.hid hd
    have HG := Lib.hid hG
    have hz := hG.grown.size
    clear hd hG
    have hdl : ds.length ≤ 10 := by
      have h := congrArg List.length HD.out
      rw [List.length_append] at h
      have := HL.out
      omega
    by_cases hlt : q < 128
    · have HN := Lib.hid (Cd.num_lo q hlt)
      have HBY := Lib.hid (Cd.byte_lo q hlt)
      have d1 : decide ((128 : Int) ≤ (q : Int)) = false := decide_eq_false (by omega)
      generalize UInt8.ofNat q = y at HN HBY
      go_wp2_with (at_builtin; refine wpList_append_rd rfl _ _ rfl el27 rfl (HG.out.own.alloc _) rfl (rd_new wr 5 1 [.int .u8 (q : Int)] rfl) (by simp [Value.oneCell']) (fun h => by (cases h)) (by simp only [maxLen]; omega) (by omega) (by simp; omega) ?_; intro v4 w4 hG4)
      have HG4 := Lib.hid (show Grw w base v (xs ++ Cd.num u).length (xs ++ Cd.num u) v4 w4 by
        have e : xs ++ Cd.num u = (xs ++ ds) ++ [y] := by rw [← HD.out, HN.out, List.append_assoc]
        have h1 := Grw.pre ((Below.refl wr.heap.size wr).alloc (Nat.le_refl _) _) (Grw.of hG4 (xs := (xs ++ ds) ++ [y]) (by rw [List.map_append (l₂ := [y])]; exact congrArg (fun z : Int => List.map (fun a : UInt8 => Value.int .u8 (a.toNat : Int)) (xs ++ ds) ++ [Value.int .u8 z]) HBY.out))
        rw [e, show ((xs ++ ds) ++ [y]).length = xs.length + ds.length + 1 by simp; omega]
        exact HG.out.trans h1)
      clear hG4
      go_wp2_with fail
      go_ret
      exact ⟨_, rfl, HG4.out⟩
    · have HN := Lib.hid (Cd.num_hi q hlt (by omega))
      have ho := Cd.or128 q
      have d1 : decide ((128 : Int) ≤ (q : Int)) = true := decide_eq_true (by omega)
      generalize UInt8.ofNat (q % 128 + 128) = y at HN ho
      go_wp2_with (at_builtin; refine wpList_append_rd rfl _ _ rfl el27 rfl (HG.out.own.alloc _) rfl (rd_new wr 5 1 [.int .u8 (y.toNat : Int)] rfl) (by simp [Value.oneCell']) (fun h => by (cases h)) (by simp only [maxLen]; omega) (by omega) (by simp; omega) ?_; intro v4 w4 hG4)
      have HG4 := Lib.hid (show Grw w base v (xs.length + (ds ++ [y]).length) (xs ++ (ds ++ [y])) v4 w4 by
        have e : xs ++ (ds ++ [y]) = (xs ++ ds) ++ [y] := by rw [List.append_assoc]
        have h1 := Grw.pre ((Below.refl wr.heap.size wr).alloc (Nat.le_refl _) _) (Grw.of hG4 (xs := (xs ++ ds) ++ [y]) (by rw [List.map_append (l₂ := [y])]; rfl))
        rw [e, show xs.length + (ds ++ [y]).length = xs.length + ds.length + 1 by simp; omega]
        exact HG.out.trans h1)
      clear hG4 ho
      go_wp2_with fail
      go_roundw
      case rel => exact ⟨q / 128, ds ++ [y], by go_num, by omega, by rw [List.append_assoc, ← HD.out, HN.out]; rfl, HG4.out⟩
      case measure => simp [intOf]; omega
end Go.Proofs.YtnbbleajbbgmjaaDoor
