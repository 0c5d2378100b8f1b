import Derived.Test.YtideglpjgplpnaaDoorMDgW1
import Derived.Test.YtideglpjgplpnaaDoorMCdW7
import Derived.Test.YtideglpjgplpnaaDoorMCdW3
import Derived.Test.YtideglpjgplpnaaDoorMUtil
import Derived.Stop.BytesEq
import Derived.Deep.MidRow
import Derived.Test.YtideglpjgplpnaaDoorMDgW6
import Derived.Test.YtideglpjgplpnaaDoorMShW8
/- The digest's numbers and first state. -/
namespace Go.Proofs.YtideglpjgplpnaaDoor
open Go.RowKit
set_option linter.unusedVariables false

/-- the numbers and the first state -/
def Rc.K0 : List UInt32 := [1116352408, 1899447441, 3049323471, 3921009573, 961987163, 1508970993, 2453635748, 2870763221, 3624381080, 310598401, 607225278, 1426881987, 1925078388, 2162078206, 2614888103, 3248222580, 3835390401, 4022224774, 264347078, 604807628, 770255983, 1249150122, 1555081692, 1996064986, 2554220882, 2821834349, 2952996808, 3210313671, 3336571891, 3584528711, 113926993, 338241895, 666307205, 773529912, 1294757372, 1396182291, 1695183700, 1986661051, 2177026350, 2456956037, 2730485921, 2820302411, 3259730800, 3345764771, 3516065817, 3600352804, 4094571909, 275423344, 430227734, 506948616, 659060556, 883997877, 958139571, 1322822218, 1537002063, 1747873779, 1955562222, 2024104815, 2227730452, 2361852424, 2428436474, 2756734187, 3204031479, 3329325298]
def Rc.I0 : Dg.S := ⟨1779033703, 3144134277, 1013904242, 2773480762, 1359893119, 2600822924, 528734635, 1541459225⟩
def Rc.zK : List Int := [1116352408, 1899447441, 3049323471, 3921009573, 961987163, 1508970993, 2453635748, 2870763221, 3624381080, 310598401, 607225278, 1426881987, 1925078388, 2162078206, 2614888103, 3248222580, 3835390401, 4022224774, 264347078, 604807628, 770255983, 1249150122, 1555081692, 1996064986, 2554220882, 2821834349, 2952996808, 3210313671, 3336571891, 3584528711, 113926993, 338241895, 666307205, 773529912, 1294757372, 1396182291, 1695183700, 1986661051, 2177026350, 2456956037, 2730485921, 2820302411, 3259730800, 3345764771, 3516065817, 3600352804, 4094571909, 275423344, 430227734, 506948616, 659060556, 883997877, 958139571, 1322822218, 1537002063, 1747873779, 1955562222, 2024104815, 2227730452, 2361852424, 2428436474, 2756734187, 3204031479, 3329325298]
def Rc.zI : List Int := [1779033703, 3144134277, 1013904242, 2773480762, 1359893119, 2600822924, 528734635, 1541459225]
theorem Rc.info31 : (Tryd.prog.info? 23).map (·.size) = some 32 := by kernel_rfl
end Go.Proofs.YtideglpjgplpnaaDoor
/- Values of the codec in memory: numbers, a slice of numbers. -/
namespace Go.Proofs.YtideglpjgplpnaaDoor
open Go.RowKit
set_option linter.unusedVariables false

theorem Rc.elV : EltOk Tryd.prog 75 77 (.agg #[.int .i64 0, .int .i64 0, .string ⟨#[]⟩, .slice none 0 0]) 4 56 := ⟨Tryd.underlying75, by kernel_rfl, rfl, by decide⟩
/-- the cells of a number as a value -/
abbrev Rc.ic (x : Int) : List Value := [.int .i64 1, .int .i64 x, .string ⟨#[]⟩, .slice none 0 0]
def Rc.ics (l : List Int) : List Value := (l.map Rc.ic).flatten
theorem Rc.ics_snoc (l : List Int) (x : Int) : Rc.ics (l ++ [x]) = Rc.ics l ++ Rc.ic x := by simp [Rc.ics]
theorem Rc.ics_len (l : List Int) : (Rc.ics l).length = l.length * 4 := by
  induction l with
  | nil => rfl
  | cons x l ih => rw [Rc.ics, List.map_cons, List.flatten_cons, List.length_append, ← Rc.ics, ih, List.length_cons]; simp; omega
def Rc.in64 (x : Int) : Prop := -9223372036854775808 ≤ x ∧ x ≤ 9223372036854775807
theorem Rc.cell_ic (w : World) (B : Nat) (x : Int) (hx : Rc.in64 x) : Cd.CellB w B (Rc.int x) (Rc.ic x) :=
  .mk 1 x [] [] none 0 [] rfl (fun i hi => absurd hi (by simp)) Rd.none_ (fun _ => rfl) (by simp) (by simp) (by omega) hx
/-- a list of numbers as a value -/
theorem Rc.cell_ints {w : World} {base : Nat} {A : Option Addr} {n c : Nat} {l : List Int} (h : w.ownsRow base 77 4 (.slice A n c) n (Rc.ics l)) (hl : l.length = n) (hx : ∀ x ∈ l, Rc.in64 x) : Cd.CellB w w.heap.size (Rc.ints l) [.int .i64 3, .int .i64 0, .string ⟨#[]⟩, .slice A n c] := by
  have hc := Rc.own_caps h
  have key : Cd.CellB w w.heap.size (.mk 3 0 [] (l.map Rc.int)) [.int .i64 3, .int .i64 0, .string ⟨([] : List UInt8).toArray⟩, .slice A (l.map Rc.int).length c] :=
    .mk 3 0 [] (l.map Rc.int) A c (l.map Rc.ic) (by simp) (fun i hi => by
      have hi2 : i < l.length := by simpa using hi
      rw [getElem!_pos _ i hi, getElem!_pos _ i (by simpa using hi2), List.getElem_map, List.getElem_map]
      exact Rc.cell_ic w _ _ (hx _ (List.getElem_mem _))) (by rw [List.length_map, hl]; exact rd_of_own h) (own_nil h) (by rw [List.length_map, hl]; omega) (by simp) (by omega) (by omega)
  rw [List.length_map, hl] at key
  exact key
end Go.Proofs.YtideglpjgplpnaaDoor
/- Sealed bodies as plain words; how they lie in memory. No program in sight but the numbers of its types. -/
namespace Go.Proofs.YtideglpjgplpnaaDoor
open Go.RowKit Go.Shelf
set_option linter.unusedVariables false

structure Sl.W where
  (cm d : List UInt8) (th mn : Int) (ms : List (List UInt8))
  deriving Inhabited
/-- two rows of bytes, place by place -/
def Sl.xorl (a b : List UInt8) : List UInt8 := (List.range a.length).map fun k => a.getD k 0 ^^^ b.getD k 0
theorem Sl.xorl_len (a b : List UInt8) : (Sl.xorl a b).length = a.length := by simp [Sl.xorl]
/-- a text as a value -/
def Sl.txt (d : List UInt8) : Cd.T := .mk 2 0 d []
/-- a share as a value -/
def Sl.val (x : Shr.S) : Cd.T := .mk 3 0 [] [Rc.int x.ep, Rc.int x.ix, Rc.int x.th, Rc.int x.mn, Sl.txt x.d]
abbrev Sl.tgS : List UInt8 := [115, 104, 97, 114, 101]
abbrev Sl.tgC : List UInt8 := [99, 111, 109, 109, 105, 116]
/-- a share's mark -/
def Sl.mark (x : Shr.S) : List UInt8 := Dg.tagged Rc.K0 Rc.I0 Sl.tgS (Sl.val x).enc
/-- a body's commit -/
def Sl.com (b : List UInt8) : List UInt8 := Dg.tagged Rc.K0 Rc.I0 Sl.tgC b
theorem Sl.mark_len (x : Shr.S) : (Sl.mark x).length = 32 := Dg.sum_len _ _ _
theorem Sl.com_len (b : List UInt8) : (Sl.com b).length = 32 := Dg.sum_len _ _ _
theorem Sl.txt_fd (d : List UInt8) : (Sl.txt d).fd = some 0 := by simp [Sl.txt, Cd.T.fd]
theorem Sl.val_chk (x : Shr.S) : Cd.chkE (Sl.val x) = 0 := by
  have h : (Sl.val x).fd = some 1 := by
    rw [Sl.val, Cd.T.fd]
    simp [Cd.T.fds, Rc.int_fd, Sl.txt_fd]
  unfold Cd.chkE
  rw [h]
  rfl
theorem Sl.val_out (x : Shr.S) : Cd.out (Sl.val x) = (Sl.val x).enc := by unfold Cd.out; rw [if_pos (Sl.val_chk x)]
theorem Sl.txt_len (d : List UInt8) : (Sl.txt d).enc.length ≤ d.length + 11 := by
  have h := Cd.num_len d.length
  rw [Sl.txt, Cd.enc_2 rfl, List.length_cons, List.length_append]
  show (Cd.num d.length).length + d.length + 1 ≤ _
  omega
theorem Sl.val_small (x : Shr.S) (hd : x.d.length ≤ 10000000) : (Sl.val x).hgt ≤ 1000000 ∧ (Sl.val x).enc.length ≤ 90000000 := by
  constructor
  · simp only [Sl.val, Sl.txt, Cd.T.hgt, Cd.T.hgts, Rc.int_hgt]
    omega
  · have h1 := Rc.int_len x.ep
    have h2 := Rc.int_len x.ix
    have h3 := Rc.int_len x.th
    have h4 := Rc.int_len x.mn
    have h5 := Sl.txt_len x.d
    have h6 := Cd.num_len ([Rc.int x.ep, Rc.int x.ix, Rc.int x.th, Rc.int x.mn, Sl.txt x.d] : List Cd.T).length
    rw [Sl.val, Cd.enc_3 rfl]
    simp only [List.length_cons, List.length_append, List.length_nil] at h6 ⊢
    show (Cd.num _).length + _ + 1 ≤ _
    simp only [Cd.T.l, List.length_cons, List.length_nil, Cd.T.encs, List.length_append]
    omega

/-- what Check answers -/
def Sl.chk (s : Sl.W) : Int := if s.d.length < 1 ∨ 64 < s.d.length ∨ s.th < 1 ∨ s.mn < s.th ∨ 8 < s.mn ∨ (s.ms.length : Int) ≠ s.mn then 500 else 0
structure Sl.Good (s : Sl.W) : Prop where
  d1 : 1 ≤ s.d.length
  d64 : s.d.length ≤ 64
  th1 : 1 ≤ s.th
  thm : s.th ≤ s.mn
  mn8 : s.mn ≤ 8
  mkl : (s.ms.length : Int) = s.mn
theorem Sl.good {s : Sl.W} (h : Sl.chk s = 0) : Sl.Good s := by
  unfold Sl.chk at h
  split at h
  · cases h
  · rename_i h2
    exact ⟨by omega, by omega, by omega, by omega, by omega, by omega⟩
theorem Sl.Good.chk {s : Sl.W} (h : Sl.Good s) : Sl.chk s = 0 := by
  have := h.d1; have := h.d64; have := h.th1; have := h.thm; have := h.mn8; have := h.mkl
  unfold Sl.chk
  rw [if_neg (by omega)]
theorem Sl.chk_cases (s : Sl.W) : Sl.chk s = 0 ∨ Sl.chk s = 500 := by unfold Sl.chk; split <;> simp
/-- is a share altered? -/
def Sl.bad (s : Sl.W) (x : Shr.S) : Bool := decide (x.ix < 1) || (decide (s.mn < x.ix) || (s.ms.getD (x.ix - 1).toNat [] != Sl.mark x))
/-- which of the first k shares are altered -/
def Sl.altk (s : Sl.W) (l : List Shr.S) (k : Nat) : List Nat := match l[k]? with | none => [] | some x => if Sl.bad s x = true then [k] else []
def Sl.altp (s : Sl.W) (l : List Shr.S) : Nat → List Nat
  | 0 => []
  | k + 1 => Sl.altp s l k ++ Sl.altk s l k
def Sl.alt (s : Sl.W) (l : List Shr.S) : List Nat := Sl.altp s l l.length
theorem Sl.altp_pre (s : Sl.W) (l : List Shr.S) (k n : Nat) (h : k ≤ n) : ∃ r, Sl.altp s l k ++ r = Sl.altp s l n := by
  induction n with
  | zero => exact ⟨[], by rw [show k = 0 by omega]; rfl⟩
  | succ n ih =>
    by_cases he : k = n + 1
    · exact ⟨[], by rw [he]; simp⟩
    · obtain ⟨r, hr⟩ := ih (by omega)
      exact ⟨r ++ Sl.altk s l n, by rw [← List.append_assoc, hr]; rfl⟩
theorem Sl.altp_le (s : Sl.W) (l : List Shr.S) : ∀ k, (Sl.altp s l k).length ≤ k
  | 0 => Nat.le_refl _
  | k + 1 => by
    have h := Sl.altp_le s l k
    have h2 : (Sl.altk s l k).length ≤ 1 := by
      unfold Sl.altk
      split
      · simp
      · split <;> simp
    rw [Sl.altp, List.length_append]
    omega
theorem Sl.altp_mem (s : Sl.W) (l : List Shr.S) (i : Nat) : ∀ k, i ∈ Sl.altp s l k ↔ i < k ∧ ∃ x, l[i]? = some x ∧ Sl.bad s x = true
  | 0 => by simp [Sl.altp]
  | k + 1 => by
    rw [Sl.altp, List.mem_append, Sl.altp_mem s l i k]
    have h2 : i ∈ Sl.altk s l k ↔ i = k ∧ ∃ x, l[i]? = some x ∧ Sl.bad s x = true := by
      unfold Sl.altk
      cases hx : l[k]? with
      | none =>
        constructor
        · intro h; cases h
        · rintro ⟨rfl, x, h, _⟩; rw [hx] at h; cases h
      | some x =>
        by_cases hb : Sl.bad s x = true
        · simp only [hb, if_true, List.mem_singleton]
          constructor
          · rintro rfl; exact ⟨rfl, x, hx, hb⟩
          · exact fun h => h.1
        · simp only [hb]
          constructor
          · intro h; cases h
          · rintro ⟨rfl, y, h, h3⟩; rw [hx] at h; injection h with h; subst h; exact absurd h3 hb
    rw [h2]
    constructor
    · rintro (⟨h, h3⟩ | ⟨rfl, h3⟩)
      · exact ⟨by omega, h3⟩
      · exact ⟨by omega, h3⟩
    · rintro ⟨h, h3⟩
      by_cases he : i = k
      · exact .inr ⟨he, h3⟩
      · exact .inl ⟨by omega, h3⟩
/-- what Altered answers -/
def Sl.altV (s : Sl.W) (l : List Shr.S) : List Nat := if Sl.chk s = 0 then Sl.alt s l else []
/-- what Open answers -/
def Sl.opnE (s : Sl.W) (l : List Shr.S) : Int :=
  if Sl.chk s ≠ 0 then Sl.chk s else if Sl.alt s l ≠ [] then 501 else if Shr.joinE l ≠ 0 then Shr.joinE l else if l[0]!.d.length ≠ s.d.length then 501 else if Sl.com (Sl.xorl s.d (Shr.joinV l)) ≠ s.cm then 501 else 0
def Sl.opnV (s : Sl.W) (l : List Shr.S) : List UInt8 := if Sl.opnE s l = 0 then Sl.xorl s.d (Shr.joinV l) else []
/-- what Twin answers -/
def Sl.twE (s : Sl.W) (l : List Shr.S) (nb : Nat) : Int := if Sl.chk s ≠ 0 then Sl.chk s else if nb ≠ s.d.length then 1 else Shr.explE l nb
/-- what Seal answers -/
def Sl.selE (nb nk : Nat) (th mn : Int) (nc : Nat) : Int := if nb < 1 ∨ 64 < nb ∨ nk ≠ nb then 1 else Shr.spE nk 0 th mn nc
def Sl.selS (key : List UInt8) (t m : Nat) (coins : List UInt8) : List Shr.S := Shr.spl key 0 t m coins
def Sl.selW (body key : List UInt8) (t m : Nat) (coins : List UInt8) : Sl.W := ⟨Sl.com body, Sl.xorl body key, t, m, (Sl.selS key t m coins).map Sl.mark⟩

theorem flatK (k : Nat) : ∀ (xss : List (List Value)), (∀ xs ∈ xss, xs.length = k) → ∀ (i j : Nat), j < k → xss.flatten[i * k + j]? = (xss[i]?).bind (·[j]?)
  | [], _, i, j, _ => by simp
  | xs :: xss, h, 0, j, hj => by
    have hl := h xs (List.mem_cons_self ..)
    rw [List.flatten_cons, Nat.zero_mul, Nat.zero_add, List.getElem?_append_left (by omega)]
    rfl
  | xs :: xss, h, i + 1, j, hj => by
    have hl := h xs (List.mem_cons_self ..)
    rw [List.flatten_cons, List.getElem?_append_right (by rw [hl, Nat.add_mul]; omega), hl, show (i + 1) * k + j - k = i * k + j by rw [Nat.add_mul]; omega, flatK k xss (fun ys hy => h ys (List.mem_cons_of_mem _ hy)) i j hj]
    rfl
/-- the cells of element number i of a slice that reads as elements of k cells -/
theorem rdK {w : World} {B k n : Nat} {A : Option Addr} {xss : List (List Value)} (hk : 0 < k) (hl : xss.length = n) (hx : ∀ xs ∈ xss, xs.length = k) (hr : Rd w B k A n xss.flatten) (i : Nat) (hi : i < n) (xs : List Value) (he : xss[i]? = some xs) :
    ∃ b off, A = some ⟨b, off, none⟩ ∧ b < B ∧ w.rangeAt b (off + i * k) xs := by
  obtain ⟨b, off, e, hb, hc⟩ := hr.2 (by omega)
  refine ⟨b, off, e, hb, fun j v hj => ?_⟩
  have hxs := hx xs (List.mem_of_getElem? he)
  have hjk : j < k := by rw [← hxs]; exact (List.getElem?_eq_some_iff.1 hj).1
  rw [Nat.add_assoc]
  refine hc (i * k + j) v ?_
  rw [flatK k xss hx i j hjk, he]
  exact hj
/-- digests as cells -/
def Sl.mcs (l : List (List UInt8)) : List Value := (l.map fun m => m.map Dg.b8).flatten
theorem Sl.mcs_snoc (l : List (List UInt8)) (m : List UInt8) : Sl.mcs (l ++ [m]) = Sl.mcs l ++ m.map Dg.b8 := by simp [Sl.mcs]
theorem Sl.mcs_len (l : List (List UInt8)) (h : ∀ m ∈ l, m.length = 32) : (Sl.mcs l).length = l.length * 32 := by
  induction l with
  | nil => rfl
  | cons m l ih =>
    rw [Sl.mcs, List.map_cons, List.flatten_cons, List.length_append, ← Sl.mcs, ih (fun x hx => h x (List.mem_cons_of_mem _ hx)), List.length_map, h m (List.mem_cons_self ..), List.length_cons]
    omega
/-- a sealed body's cells -/
def Sl.row (s : Sl.W) (Ad : Option Addr) (cd : Nat) (Am : Option Addr) (cA : Nat) : List Value := s.cm.map Dg.b8 ++ [.slice Ad s.d.length cd, .int .i64 s.th, .int .i64 s.mn, .slice Am s.ms.length cA]
/-- what its slices hold -/
structure Sl.Ok (s : Sl.W) (w : World) (Ad : Option Addr) (cd : Nat) (Am : Option Addr) (cA : Nat) : Prop where
  cl : s.cm.length = 32
  ml : ∀ m ∈ s.ms, m.length = 32
  rd : RdB w Ad s.d.length s.d
  rm : Rd w w.heap.size 32 Am s.ms.length (Sl.mcs s.ms)
  dl : s.d.length ≤ maxLen
  mm : s.ms.length ≤ maxLen
  dn : Ad = none → cd = 0
theorem Sl.Ok.keep {s : Sl.W} {w w' : World} {Ad : Option Addr} {cd : Nat} {Am : Option Addr} {cA : Nat} (h : Sl.Ok s w Ad cd Am cA) (hb : Below w.heap.size w w') : Sl.Ok s w' Ad cd Am cA :=
  ⟨h.cl, h.ml, h.rd.keep hb, (h.rm.below hb (Nat.le_refl _)).more hb.size, h.dl, h.mm, h.dn⟩
theorem Sl.Ok.drew {s : Sl.W} {w : World} {Ad : Option Addr} {cd : Nat} {Am : Option Addr} {cA : Nat} (h : Sl.Ok s w Ad cd Am cA) : Sl.Ok s w.drew Ad cd Am cA := ⟨h.cl, h.ml, h.rd, h.rm, h.dl, h.mm, h.dn⟩
theorem Sl.Ok.alloc {s : Sl.W} {w : World} {Ad : Option Addr} {cd : Nat} {Am : Option Addr} {cA : Nat} (h : Sl.Ok s w Ad cd Am cA) (o : Obj) : Sl.Ok s (w.alloc o) Ad cd Am cA := h.keep ((Below.refl _ _).alloc (Nat.le_refl _) _)
theorem Sl.row_len {s : Sl.W} (h : s.cm.length = 32) (Ad : Option Addr) (cd : Nat) (Am : Option Addr) (cA : Nat) : (Sl.row s Ad cd Am cA).length = 36 := by simp [Sl.row, h]
theorem Sl.row_one (s : Sl.W) (Ad : Option Addr) (cd : Nat) (Am : Option Addr) (cA : Nat) : ∀ v ∈ Sl.row s Ad cd Am cA, v.oneCell' = true := by
  intro v hv
  unfold Sl.row at hv
  simp only [List.mem_append, List.mem_cons, List.not_mem_nil, or_false] at hv
  rcases hv with hv | rfl | rfl | rfl | rfl
  · exact one_bytes _ v hv
  · rfl
  · rfl
  · rfl
  · rfl
theorem Sl.row_at {s : Sl.W} (h : s.cm.length = 32) (Ad : Option Addr) (cd : Nat) (Am : Option Addr) (cA : Nat) :
    (Sl.row s Ad cd Am cA)[32]? = some (.slice Ad s.d.length cd) ∧ (Sl.row s Ad cd Am cA)[33]? = some (.int .i64 s.th) ∧ (Sl.row s Ad cd Am cA)[34]? = some (.int .i64 s.mn) ∧ (Sl.row s Ad cd Am cA)[35]? = some (.slice Am s.ms.length cA) := by
  have h2 : (s.cm.map Dg.b8).length = 32 := by simp [h]
  refine ⟨?_, ?_, ?_, ?_⟩ <;> (unfold Sl.row; rw [List.getElem?_append_right (by omega), h2]; rfl)
/-- the cells of a mark -/
theorem Sl.Ok.mark {s : Sl.W} {w : World} {Ad : Option Addr} {cd : Nat} {Am : Option Addr} {cA : Nat} (h : Sl.Ok s w Ad cd Am cA) (i : Nat) (hi : i < s.ms.length) :
    ∃ b off, Am = some ⟨b, off, none⟩ ∧ b < w.heap.size ∧ w.rangeAt b (off + i * 32) ((s.ms.getD i []).map Dg.b8) ∧ (s.ms.getD i []).length = 32 := by
  have hg : s.ms[i]? = some (s.ms.getD i []) := by rw [List.getD_eq_getElem?_getD, List.getElem?_eq_getElem hi]; rfl
  obtain ⟨b, off, e, hb, hc⟩ := rdK (by decide) (by rw [List.length_map]) (fun xs hx => by
    obtain ⟨m, hm, rfl⟩ := List.mem_map.1 hx
    rw [List.length_map]
    exact h.ml m hm) h.rm i hi ((s.ms.getD i []).map Dg.b8) (by rw [List.getElem?_map, hg]; rfl)
  exact ⟨b, off, e, hb, hc, h.ml _ (List.mem_of_getElem? hg)⟩
end Go.Proofs.YtideglpjgplpnaaDoor
