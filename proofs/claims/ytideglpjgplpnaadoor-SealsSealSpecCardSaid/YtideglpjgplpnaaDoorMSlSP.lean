import Derived.Test.YtideglpjgplpnaaDoorMSlW7
import Derived.Test.YtideglpjgplpnaaDoorMSlW6
import Derived.Test.YtideglpjgplpnaaDoorMSlW4
import Derived.Test.YtideglpjgplpnaaDoorMSlR1
import Derived.Test.YtideglpjgplpnaaDoorMUtil
import Derived.Deep.RegionWith
import Derived.Deep.RegionHeld3
import Derived.Test.YtideglpjgplpnaaDoorMSlW1
/- What sane's calls answer: plain. -/
namespace Go.Proofs.YtideglpjgplpnaaDoor
open Go.RowKit Go.Shelf
set_option linter.unusedVariables false

/-- the shares of a sealing are not altered -/
theorem Sl.sel_bad {key : List UInt8} {t m : Nat} {coins body : List UInt8} {x : Shr.S} (h : x ∈ Sl.selS key t m coins) : Sl.bad (Sl.selW body key t m coins) x = false := by
  have hm := h
  unfold Sl.selS Shr.spl at hm
  obtain ⟨i, hi, rfl⟩ := List.mem_map.1 hm
  rw [List.mem_range] at hi
  have hx : (Sl.selS key t m coins)[i]? = some ⟨0, ((i + 1 : Nat) : Int), (t : Int), (m : Int), Shr.dat key coins t (i + 1)⟩ := by
    unfold Sl.selS Shr.spl
    rw [List.getElem?_map, List.getElem?_range hi]
    rfl
  have hg : (Sl.selW body key t m coins).ms.getD i [] = Sl.mark ⟨0, ((i + 1 : Nat) : Int), (t : Int), (m : Int), Shr.dat key coins t (i + 1)⟩ := by
    show ((Sl.selS key t m coins).map Sl.mark).getD i [] = _
    rw [List.getD_eq_getElem?_getD, List.getElem?_map, hx]
    rfl
  unfold Sl.bad
  have h1 : decide ((((i + 1 : Nat) : Int)) < 1) = false := by simp; omega
  have h2 : decide ((Sl.selW body key t m coins).mn < ((i + 1 : Nat) : Int)) = false := by
    show decide ((m : Int) < ((i + 1 : Nat) : Int)) = false
    simp; omega
  have h3 : ((((i + 1 : Nat) : Int)) - 1).toNat = i := by omega
  rw [h1, h2, h3, hg]
  simp
theorem Sl.alt_none {s : Sl.W} {l : List Shr.S} (h : ∀ x ∈ l, Sl.bad s x = false) : Sl.alt s l = [] := by
  rw [List.eq_nil_iff_forall_not_mem]
  intro i hi
  unfold Sl.alt at hi
  rw [Sl.altp_mem] at hi
  obtain ⟨_, x, hx, hb⟩ := hi
  rw [h x (List.mem_of_getElem? hx)] at hb
  cases hb
theorem Sl.alt_nil {s : Sl.W} {l : List Shr.S} (h : Sl.alt s l = []) : ∀ x ∈ l, Sl.bad s x = false := by
  intro x hx
  obtain ⟨i, hi, he⟩ := List.mem_iff_getElem.1 hx
  cases hb : Sl.bad s x with
  | false => rfl
  | true =>
    have : i ∈ Sl.alt s l := by
      unfold Sl.alt
      rw [Sl.altp_mem]
      exact ⟨hi, x, by rw [List.getElem?_eq_getElem hi, he], hb⟩
    rw [h] at this
    cases this
theorem Sl.sel_good (body key : List UInt8) (t m : Nat) (coins : List UInt8) (h1 : 1 ≤ body.length) (h64 : body.length ≤ 64) (ht : 1 ≤ t) (hm : t ≤ m) (hm8 : m ≤ 8) : Sl.chk (Sl.selW body key t m coins) = 0 := by
  refine Sl.Good.chk ⟨?_, ?_, ?_, ?_, ?_, ?_⟩
  · show 1 ≤ (Sl.xorl body key).length; rw [Sl.xorl_len]; exact h1
  · show (Sl.xorl body key).length ≤ 64; rw [Sl.xorl_len]; exact h64
  · show (1 : Int) ≤ (t : Int); omega
  · show (t : Int) ≤ (m : Int); omega
  · show (m : Int) ≤ 8; omega
  · show ((((Sl.selS key t m coins).map Sl.mark).length : Nat) : Int) = (m : Int)
    rw [List.length_map]
    unfold Sl.selS
    rw [Shr.spl_len]
theorem Sl.xorl_self (a b : List UInt8) (h : a.length = b.length) : Sl.xorl (Sl.xorl a b) b = a := by
  apply List.ext_getElem
  · rw [Sl.xorl_len, Sl.xorl_len]
  · intro i h1 h2
    have h3 : i < (Sl.xorl a b).length := by rw [Sl.xorl_len]; exact h2
    have e1 : (Sl.xorl a b).getD i 0 = a.getD i 0 ^^^ b.getD i 0 := by
      rw [List.getD_eq_getElem?_getD, List.getElem?_eq_getElem h3]
      simp [Sl.xorl]
    simp only [Sl.xorl, List.getElem_map, List.getElem_range]
    show (Sl.xorl a b).getD i 0 ^^^ b.getD i 0 = _
    rw [e1, UInt8.xor_assoc, UInt8.xor_self, UInt8.xor_zero, List.getD_eq_getElem?_getD, List.getElem?_eq_getElem h2]
    rfl
/-- the two sealings of sane -/
def Sl.s1 : Sl.W := Sl.selW [1, 2] [4, 4] 1 2 []
def Sl.l1 : List Shr.S := Sl.selS [4, 4] 1 2 []
def Sl.s2 : Sl.W := Sl.selW [5] [9] 2 2 [3]
def Sl.l2 : List Shr.S := Sl.selS [9] 2 2 [3]
def Sl.a1 : Shr.S := ⟨0, 1, 1, 2, [4, 4]⟩
def Sl.a2 : Shr.S := ⟨0, 2, 1, 2, [4, 4]⟩
def Sl.b1 : Shr.S := ⟨0, 1, 2, 2, [10]⟩
def Sl.b2 : Shr.S := ⟨0, 2, 2, 2, [15]⟩
theorem Sl.l1_eq : Sl.l1 = [Sl.a1, Sl.a2] := by kernel_rfl
theorem Sl.l2_eq : Sl.l2 = [Sl.b1, Sl.b2] := by kernel_rfl
theorem Sl.s1_d : Sl.s1.d = [5, 6] := by kernel_rfl
theorem Sl.s2_d : Sl.s2.d = [12] := by kernel_rfl
theorem Sl.s1_ok : Sl.chk Sl.s1 = 0 := Sl.sel_good _ _ _ _ _ (by decide) (by decide) (by decide) (by decide) (by decide)
theorem Sl.s2_ok : Sl.chk Sl.s2 = 0 := Sl.sel_good _ _ _ _ _ (by decide) (by decide) (by decide) (by decide) (by decide)
def Sl.zs : Shr.S := ⟨0, 0, 0, 0, []⟩
theorem Sl.alt_z : Sl.altV Sl.s1 [Sl.zs] = [0] := by
  unfold Sl.altV
  rw [if_pos Sl.s1_ok]
  have h : Sl.bad Sl.s1 Sl.zs = true := by unfold Sl.bad; rfl
  show Sl.altp Sl.s1 [Sl.zs] 1 = _
  rw [Sl.altp, Sl.altp, Sl.altk]
  show [] ++ (if Sl.bad Sl.s1 Sl.zs = true then [0] else []) = _
  rw [if_pos h]
  rfl
theorem Sl.opn_n : Sl.opnE Sl.s1 [] = 60 := by
  have h2 : Shr.joinE [] = 60 := by decide
  unfold Sl.opnE
  rw [if_neg (by rw [Sl.s1_ok]; simp), if_neg (by simp [Sl.alt, Sl.altp]), if_pos (by rw [h2]; decide), h2]
theorem Sl.mem_a1 : Sl.a1 ∈ Sl.selS [4, 4] 1 2 [] := by rw [show Sl.selS [4, 4] 1 2 [] = [Sl.a1, Sl.a2] from Sl.l1_eq]; simp
theorem Sl.mem_a2 : Sl.a2 ∈ Sl.selS [4, 4] 1 2 [] := by rw [show Sl.selS [4, 4] 1 2 [] = [Sl.a1, Sl.a2] from Sl.l1_eq]; simp
theorem Sl.opn_2 : Sl.opnE Sl.s1 [Sl.a2] = 0 ∧ Sl.opnV Sl.s1 [Sl.a2] = [1, 2] := by
  have hj : Shr.joinE [Sl.a2] = 0 := by decide
  have hv : Shr.joinV [Sl.a2] = [4, 4] := by kernel_rfl
  have hx : Sl.xorl Sl.s1.d [4, 4] = [1, 2] := by rw [Sl.s1_d]; kernel_rfl
  have ha : Sl.alt Sl.s1 [Sl.a2] = [] := Sl.alt_none (fun x hx => by
    rw [List.mem_singleton] at hx
    subst hx
    exact Sl.sel_bad Sl.mem_a2)
  have h : Sl.opnE Sl.s1 [Sl.a2] = 0 := by
    unfold Sl.opnE
    rw [if_neg (by rw [Sl.s1_ok]; simp), if_neg (by rw [ha]; simp), if_neg (by rw [hj]; simp), if_neg (by rw [Sl.s1_d]; decide), if_neg (by rw [hv, hx]; intro h; exact h rfl)]
  exact ⟨h, by unfold Sl.opnV; rw [h, if_pos rfl, hv, hx]⟩
theorem Sl.alt_2 : Sl.altV Sl.s1 [Sl.a2, Sl.a1] = [] := by
  unfold Sl.altV
  rw [if_pos Sl.s1_ok]
  exact Sl.alt_none (fun x hx => by
    simp only [List.mem_cons, List.not_mem_nil, or_false] at hx
    rcases hx with rfl | rfl
    · exact Sl.sel_bad Sl.mem_a2
    · exact Sl.sel_bad Sl.mem_a1)
theorem Sl.tw_1 : Sl.twE Sl.s1 [Sl.a1] 2 = 60 := by
  have he : Shr.explE [Sl.a1] 2 = 60 := by decide
  unfold Sl.twE
  rw [if_neg (by rw [Sl.s1_ok]; simp), if_neg (by rw [Sl.s1_d]; decide), he]
theorem Sl.tw_2 : Sl.twE Sl.s1 [] 1 = 1 := by
  unfold Sl.twE
  rw [if_neg (by rw [Sl.s1_ok]; simp), if_pos (by rw [Sl.s1_d]; decide)]
theorem Sl.tw_3 : Sl.twE Sl.s2 [Sl.b1] 1 = 0 ∧ Sl.twK Sl.s2 [Sl.b1] [6] = [10] ∧ Sl.twC Sl.s2 [Sl.b1] [6] = [0] := by
  have he : Shr.explE [Sl.b1] 1 = 0 := by decide
  have h : Sl.twE Sl.s2 [Sl.b1] 1 = 0 := by
    unfold Sl.twE
    rw [if_neg (by rw [Sl.s2_ok]; simp), if_neg (by rw [Sl.s2_d]; decide), he]
  refine ⟨h, ?_, ?_⟩
  · unfold Sl.twK
    rw [show ([6] : List UInt8).length = 1 from rfl, h, if_pos rfl, Sl.s2_d]
    kernel_rfl
  · unfold Sl.twC
    rw [show ([6] : List UInt8).length = 1 from rfl, h, if_pos rfl, Sl.s2_d]
    kernel_rfl
theorem Sl.s1_cm : Sl.s1.cm = Sl.com [1, 2] := rfl
theorem Sl.s1_ms : Sl.s1.ms = [Sl.mark Sl.a1, Sl.mark Sl.a2] := by
  show (Sl.selS [4, 4] 1 2 []).map Sl.mark = _
  rw [show Sl.selS [4, 4] 1 2 [] = [Sl.a1, Sl.a2] from Sl.l1_eq]
  rfl
end Go.Proofs.YtideglpjgplpnaaDoor
/- Contracts at the arguments of law50.sane. -/
namespace Go.Proofs.YtideglpjgplpnaaDoor
open Go.RowKit Go.Shelf
set_option linter.unusedVariables false
set_option linter.unusedSimpArgs false

/-- a sealing is handed back -/
def Sl.RetZ (w : World) (s : Sl.W) (l : List Shr.S) (n : Nat) (e : Ending) (w' : World) : Prop := ∃ Ad cd Am cA b off c xs, e = .returned (.tuple #[.agg (Sl.row s Ad cd Am cA).toArray, .slice (some ⟨b, off, none⟩) n c, .int .i64 0]) ∧ Sl.Ok s w' Ad cd Am cA ∧ Shr.Rds w' (some ⟨b, off, none⟩) n xs ∧ Shr.vals xs = l ∧ n ≤ c ∧ c ≤ maxLen ∧ Below w.heap.size w w'
theorem Sl.retZ {w w' : World} {s : Sl.W} {l : List Shr.S} {n : Nat} {e : Ending} (h : Sl.RetSl w s l 0 e w') (hl : l.length = n) (hn : 0 < n) : Sl.RetZ w s l n e w' := by
  obtain ⟨Ad, cd, Am, cA, A, c, rfl, h1, ⟨xs, h2, h3⟩, h4, h5, h6⟩ := h
  rw [hl] at h2 h4
  rw [hl]
  obtain ⟨b, off, rfl, _⟩ := h2.first hn
  exact ⟨Ad, cd, Am, cA, b, off, c, xs, rfl, h1, h2, h3, h4, h5, h6⟩
theorem Sl.z1 (W : World) (ga gb : Nat) (ha : RdB W (some ⟨ga, 0, none⟩) 2 [1, 2]) (hb : RdB W (some ⟨gb, 0, none⟩) 2 [4, 4]) (hG : Dg.G W Rc.K0 Rc.I0) :
    Calls Tryd.prog 16 #[.slice (some ⟨ga, 0, none⟩) 2 2, .slice (some ⟨gb, 0, none⟩) 2 2, .int .i64 1, .int .i64 2, .slice none 0 0] W (Sl.RetZ W Sl.s1 [Sl.a1, Sl.a2] 2) := by
  refine (Sl.seal_yes (some ⟨ga, 0, none⟩) (some ⟨gb, 0, none⟩) none 2 2 2 0 0 1 2 [1, 2] [4, 4] [] W ha hb RdB.none_ (fun e => by cases e) (by decide) (by decide) (fun _ => rfl) (by decide) (by decide) (by decide) (by decide) (by decide) (by decide) hG).mono ?_
  intro e w' h
  have h2 := Sl.retZ (n := 2) h (by rw [show Sl.selS [4, 4] 1 2 [] = [Sl.a1, Sl.a2] from Sl.l1_eq]; rfl) (by decide)
  rw [show Sl.selS [4, 4] 1 2 [] = [Sl.a1, Sl.a2] from Sl.l1_eq] at h2
  exact h2
theorem Sl.z2 (W : World) (ga gb gc : Nat) (ha : RdB W (some ⟨ga, 0, none⟩) 1 [5]) (hb : RdB W (some ⟨gb, 0, none⟩) 1 [9]) (hc : RdB W (some ⟨gc, 0, none⟩) 1 [3]) (hG : Dg.G W Rc.K0 Rc.I0) :
    Calls Tryd.prog 16 #[.slice (some ⟨ga, 0, none⟩) 1 1, .slice (some ⟨gb, 0, none⟩) 1 1, .int .i64 2, .int .i64 2, .slice (some ⟨gc, 0, none⟩) 1 1] W (Sl.RetZ W Sl.s2 [Sl.b1, Sl.b2] 2) := by
  refine (Sl.seal_yes (some ⟨ga, 0, none⟩) (some ⟨gb, 0, none⟩) (some ⟨gc, 0, none⟩) 1 1 1 1 1 2 2 [5] [9] [3] W ha hb hc (fun e => by cases e) (by decide) (by decide) (fun e => by cases e) (by decide) (by decide) (by decide) (by decide) (by decide) (by decide) hG).mono ?_
  intro e w' h
  have h2 := Sl.retZ (n := 2) h (by rw [show Sl.selS [9] 2 2 [3] = [Sl.b1, Sl.b2] from Sl.l2_eq]; rfl) (by decide)
  rw [show Sl.selS [9] 2 2 [3] = [Sl.b1, Sl.b2] from Sl.l2_eq] at h2
  exact h2
theorem Sl.z3 (W : World) : Calls Tryd.prog 16 #[.slice none 0 0, .slice none 0 0, .int .i64 1, .int .i64 1, .slice none 0 0] W (Sl.RetNo W 1) := Sl.seal_arg none none none 0 0 0 0 0 0 1 1 W (by decide) (by decide) (.inl (by decide))
theorem Sl.z4 (W : World) (ga gb : Nat) : Calls Tryd.prog 16 #[.slice (some ⟨ga, 0, none⟩) 1 1, .slice (some ⟨gb, 0, none⟩) 1 1, .int .i64 0, .int .i64 1, .slice none 0 0] W (Sl.RetNo W 60) := by
  have h := Sl.seal_spl (some ⟨ga, 0, none⟩) (some ⟨gb, 0, none⟩) none 1 1 1 0 0 0 1 W (by decide) (by decide) (by decide) (by decide) (by decide)
  rw [show Shr.spE 1 0 0 1 0 = 60 from by decide] at h
  exact h
/-- a sealing in a variable, its shares beside -/
structure Sl.Hold (W : World) (g : Nat) (s : Sl.W) (l : List Shr.S) (Ad : Option Addr) (cd : Nat) (Am : Option Addr) (cA b off n c : Nat) (xs : List Shr.C) : Prop where
  h : Has W g 27 (Sl.row s Ad cd Am cA)
  ok : Sl.Ok s W Ad cd Am cA
  r : Shr.Rds W (some ⟨b, off, none⟩) n xs
  v : Shr.vals xs = l
  nc : n ≤ c
  cm : c ≤ maxLen
theorem Sl.Hold.keep {W W' : World} {g : Nat} {s : Sl.W} {l : List Shr.S} {Ad : Option Addr} {cd : Nat} {Am : Option Addr} {cA b off n c : Nat} {xs : List Shr.C} (h : Sl.Hold W g s l Ad cd Am cA b off n c xs) (hb : Below W.heap.size W W') : Sl.Hold W' g s l Ad cd Am cA b off n c xs :=
  ⟨h.h.keep hb, h.ok.keep hb, h.r.keep hb, h.v, h.nc, h.cm⟩
theorem Sl.Hold.row {W : World} {g : Nat} {s : Sl.W} {l : List Shr.S} {Ad : Option Addr} {cd : Nat} {Am : Option Addr} {cA b off n c : Nat} {xs : List Shr.C} (h : Sl.Hold W g s l Ad cd Am cA b off n c xs) : W.heap[g]? = some (.cells (Sl.row s Ad cd Am cA).toArray 27 (0, 0)) := h.h
theorem Sl.Hold.info {W : World} {g : Nat} {s : Sl.W} {l : List Shr.S} {Ad : Option Addr} {cd : Nat} {Am : Option Addr} {cA b off n c : Nat} {xs : List Shr.C} (h : Sl.Hold W g s l Ad cd Am cA b off n c xs) : (Tryd.prog.info? 27).map (·.size) = some (Sl.row s Ad cd Am cA).toArray.size := by
  rw [List.size_toArray, Sl.row_len h.ok.cl]
  exact Sl.infoW
theorem Sl.Hold.rdy {W : World} {g : Nat} {s : Sl.W} {l : List Shr.S} {Ad : Option Addr} {cd : Nat} {Am : Option Addr} {cA b off n c : Nat} {xs : List Shr.C} (h : Sl.Hold W g s l Ad cd Am cA b off n c xs) (hG : Dg.G W Rc.K0 Rc.I0) {A : Option Addr} {m : Nat} {ys : List Shr.C} (hr : Shr.Rds W A m ys) (hm : m ≤ 1000000) (hg : ∀ x ∈ Shr.vals ys, Sl.rg x ∧ x.d.length ≤ 10000000) : Sl.Rdy W A m ys s Ad cd Am cA :=
  ⟨hr, fun x hx => (hg x.s (List.mem_map.2 ⟨x, hx, rfl⟩)).1, hm, fun x hx => (hg x.s (List.mem_map.2 ⟨x, hx, rfl⟩)).2, h.ok, hG⟩
theorem Sl.z36_one : Sl.z36.toArray.all (·.oneCell') = true := by kernel_rfl
theorem Sl.Hold.make {W : World} {s : Sl.W} {l : List Shr.S} {Ad : Option Addr} {cd : Nat} {Am : Option Addr} {cA b off n c : Nat} {xs : List Shr.C} (ok : Sl.Ok s W Ad cd Am cA) (r : Shr.Rds W (some ⟨b, off, none⟩) n xs) (v : Shr.vals xs = l) (nc : n ≤ c) (cm : c ≤ maxLen) {W' : World} (he : W' = (W.alloc (.cells Sl.z36.toArray 27)).setRow W.heap.size (Sl.row s Ad cd Am cA).toArray) :
    Sl.Hold W' W.heap.size s l Ad cd Am cA b off n c xs ∧ Below W.heap.size W W' := by
  have hb : Below W.heap.size W W' := by rw [he]; exact below_setRow ((Below.refl _ W).alloc (Nat.le_refl _) _) (Nat.le_refl _) _
  refine ⟨⟨?_, ok.keep hb, r.keep hb, v, nc, cm⟩, hb⟩
  rw [he]
  exact setRow_heap _ W.heap.size _ _ 27 (0, 0) (World.alloc_heap_new W _)
theorem Sl.bytes2 (w : World) (a b c d : UInt8) : RdB ((w.alloc (.cells #[.int .u8 (a.toNat : Int), .int .u8 (b.toNat : Int)] 5)).alloc (.cells #[.int .u8 (c.toNat : Int), .int .u8 (d.toNat : Int)] 5)) (some ⟨w.heap.size, 0, none⟩) 2 [a, b] ∧ RdB ((w.alloc (.cells #[.int .u8 (a.toNat : Int), .int .u8 (b.toNat : Int)] 5)).alloc (.cells #[.int .u8 (c.toNat : Int), .int .u8 (d.toNat : Int)] 5)) (some ⟨w.heap.size + 1, 0, none⟩) 2 [c, d] :=
  ⟨(RdB.new w 5 [a, b]).alloc _, RdB.second w 5 [c, d] _⟩
theorem Sl.zs_rds (W : World) : Shr.Rds (W.alloc (.cells #[.int .i64 0, .int .i64 0, .int .i64 0, .int .i64 0, .slice none 0 0] 43)) (some ⟨W.heap.size, 0, none⟩) 1 [⟨Sl.zs, none, 0⟩] := by
  refine ⟨rd_new W 43 5 [.int .i64 0, .int .i64 0, .int .i64 0, .int .i64 0, .slice none 0 0] rfl, rfl, fun x hx => ?_⟩
  rw [List.mem_singleton] at hx
  subst hx
  exact ⟨RdB.none_, by decide, fun _ => rfl⟩
theorem Sl.rg_all (l : List Shr.S) (h : l.all (fun x => decide (-1000 ≤ x.ep ∧ x.ep ≤ 1000 ∧ -1000 ≤ x.ix ∧ x.ix ≤ 1000 ∧ -1000 ≤ x.th ∧ x.th ≤ 1000 ∧ -1000 ≤ x.mn ∧ x.mn ≤ 1000 ∧ x.d.length ≤ 1000)) = true) : ∀ x ∈ l, Sl.rg x ∧ x.d.length ≤ 10000000 := by
  intro x hx
  have h2 := of_decide_eq_true (List.all_eq_true.1 h x hx)
  unfold Sl.rg Rc.in64
  omega

/-- numbers are handed back -/
theorem Sl.y5 {W : World} {g : Nat} {Ad : Option Addr} {cd : Nat} {Am : Option Addr} {cA b off c : Nat} {xs : List Shr.C} (H : Sl.Hold W g Sl.s1 [Sl.a1, Sl.a2] Ad cd Am cA b off 2 c xs) (hG : Dg.G W Rc.K0 Rc.I0) (A : Option Addr) (hz : Shr.Rds W A 1 [⟨Sl.zs, none, 0⟩]) :
    Calls Tryd.prog 14 #[.agg (Sl.row Sl.s1 Ad cd Am cA).toArray, .slice A 1 1] W fun e w' => ∃ A9 c9, e = .returned (.tuple #[.slice A9 1 c9, .int .i64 0]) ∧ Rd w' w'.heap.size 1 A9 1 [Sl.iv 0] ∧ Below W.heap.size W w' := by
  have h := Sl.alt_any A 1 1 _ Sl.s1 Ad cd Am cA W (H.rdy hG hz (by decide) (Sl.rg_all _ (by rfl)))
  rw [show Shr.vals [⟨Sl.zs, none, 0⟩] = [Sl.zs] from rfl, Sl.alt_z, Sl.s1_ok] at h
  exact h
theorem Sl.y6 {W : World} {g : Nat} {Ad : Option Addr} {cd : Nat} {Am : Option Addr} {cA b off c : Nat} {xs : List Shr.C} (H : Sl.Hold W g Sl.s1 [Sl.a1, Sl.a2] Ad cd Am cA b off 2 c xs) (hG : Dg.G W Rc.K0 Rc.I0) :
    Calls Tryd.prog 13 #[.agg (Sl.row Sl.s1 Ad cd Am cA).toArray, .slice none 0 0] W fun e w' => ∃ A9 c9, e = .returned (.tuple #[.slice A9 0 c9, .int .i64 60]) ∧ Below W.heap.size W w' := by
  have h := Sl.open_any none 0 0 [] Sl.s1 Ad cd Am cA W (H.rdy hG Shr.Rds.nil (by decide) (Sl.rg_all _ (by rfl))) (by decide) (by decide)
  rw [show Shr.vals [] = [] from rfl, Sl.opn_n, Sl.opn_no Sl.opn_n (by decide)] at h
  refine h.mono ?_
  rintro e w' ⟨A9, c9, he, _, _, hb⟩
  exact ⟨A9, c9, he, hb⟩
theorem Sl.Hold.two {W : World} {g : Nat} {s : Sl.W} {x1 x2 : Shr.S} {Ad : Option Addr} {cd : Nat} {Am : Option Addr} {cA b off c : Nat} {xs : List Shr.C} (H : Sl.Hold W g s [x1, x2] Ad cd Am cA b off 2 c xs) : ∃ A1 c1 A2 c2, xs = [⟨x1, A1, c1⟩, ⟨x2, A2, c2⟩] := by
  have hv := H.v
  match xs, hv with
  | [⟨y1, A1, c1⟩, ⟨y2, A2, c2⟩], hv =>
    simp only [Shr.vals, List.map_cons, List.map_nil, List.cons.injEq, and_true] at hv
    obtain ⟨rfl, rfl⟩ := hv
    exact ⟨A1, c1, A2, c2, rfl⟩
theorem Sl.y7 {W : World} {g : Nat} {Ad : Option Addr} {cd : Nat} {Am : Option Addr} {cA b off c : Nat} {xs : List Shr.C} (H : Sl.Hold W g Sl.s1 [Sl.a1, Sl.a2] Ad cd Am cA b off 2 c xs) (hG : Dg.G W Rc.K0 Rc.I0) :
    Calls Tryd.prog 13 #[.agg (Sl.row Sl.s1 Ad cd Am cA).toArray, .slice (some ⟨b, off + 5, none⟩) 1 (c - 1)] W fun e w' => ∃ A9 c9, e = .returned (.tuple #[.slice A9 2 c9, .int .i64 0]) ∧ RdB w' A9 2 [1, 2] ∧ Below W.heap.size W w' := by
  obtain ⟨A1, c1, A2, c2, rfl⟩ := H.two
  have hnc := H.nc
  have hcm := H.cm
  have h := Sl.open_any (some ⟨b, off + 5, none⟩) 1 (c - 1) [⟨Sl.a2, A2, c2⟩] Sl.s1 Ad cd Am cA W (H.rdy hG (H.r.drop 1 (by decide)) (by decide) (Sl.rg_all _ (by rfl))) (by omega) (by omega)
  rw [show Shr.vals [⟨Sl.a2, A2, c2⟩] = [Sl.a2] from rfl, Sl.opn_2.1, Sl.opn_2.2] at h
  refine h.mono ?_
  rintro e w' ⟨A9, c9, he, _, hr, hb⟩
  exact ⟨A9, c9, he, hr, hb⟩
theorem Sl.y8 {W : World} {g : Nat} {Ad : Option Addr} {cd : Nat} {Am : Option Addr} {cA b off c : Nat} {xs : List Shr.C} (H : Sl.Hold W g Sl.s1 [Sl.a1, Sl.a2] Ad cd Am cA b off 2 c xs) (hG : Dg.G W Rc.K0 Rc.I0) (gz : Nat) (A1 A2 : Option Addr) (c1 c2 : Nat) (hx : xs = [⟨Sl.a1, A1, c1⟩, ⟨Sl.a2, A2, c2⟩])
    (hz : Has W gz 43 ((⟨Sl.a2, A2, c2⟩ : Shr.C).cells ++ (⟨Sl.a1, A1, c1⟩ : Shr.C).cells)) :
    Calls Tryd.prog 14 #[.agg (Sl.row Sl.s1 Ad cd Am cA).toArray, .slice (some ⟨gz, 0, none⟩) 2 2] W fun e w' => ∃ A9 c9, e = .returned (.tuple #[.slice A9 0 c9, .int .i64 0]) ∧ Below W.heap.size W w' := by
  subst hx
  have hr : Shr.Rds W (some ⟨gz, 0, none⟩) 2 [⟨Sl.a2, A2, c2⟩, ⟨Sl.a1, A1, c1⟩] := ⟨⟨rfl, fun _ => ⟨gz, 0, rfl, hz.lt, fun j u hu => by rw [Nat.zero_add, hz.cell j]; exact hu⟩⟩, rfl, fun x hx => by
    simp only [List.mem_cons, List.not_mem_nil, or_false] at hx
    rcases hx with rfl | rfl
    · exact H.r.ok _ (by simp)
    · exact H.r.ok _ (by simp)⟩
  have h := Sl.alt_any (some ⟨gz, 0, none⟩) 2 2 _ Sl.s1 Ad cd Am cA W (H.rdy hG hr (by decide) (Sl.rg_all _ (by rfl)))
  rw [show Shr.vals [⟨Sl.a2, A2, c2⟩, ⟨Sl.a1, A1, c1⟩] = [Sl.a2, Sl.a1] from rfl, Sl.alt_2, Sl.s1_ok] at h
  refine h.mono ?_
  rintro e w' ⟨A9, c9, he, _, hb⟩
  exact ⟨A9, c9, he, hb⟩
theorem Sl.y9 {W : World} {g : Nat} {Ad : Option Addr} {cd : Nat} {Am : Option Addr} {cA b off c : Nat} {xs : List Shr.C} (H : Sl.Hold W g Sl.s1 [Sl.a1, Sl.a2] Ad cd Am cA b off 2 c xs) (hG : Dg.G W Rc.K0 Rc.I0) (gb : Nat) (hb : RdB W (some ⟨gb, 0, none⟩) 2 [7, 7]) :
    Calls Tryd.prog 26 #[.agg (Sl.row Sl.s1 Ad cd Am cA).toArray, .slice (some ⟨b, off, none⟩) 1 c, .slice (some ⟨gb, 0, none⟩) 2 2] W fun e w' => ∃ A8 n8 c8 A9 n9 c9, e = .returned (.tuple #[.slice A8 n8 c8, .slice A9 n9 c9, .int .i64 60]) ∧ Below W.heap.size W w' := by
  obtain ⟨A1, c1, A2, c2, rfl⟩ := H.two
  have h := Sl.twin_any (some ⟨b, off, none⟩) 1 c [⟨Sl.a1, A1, c1⟩] Sl.s1 Ad cd Am cA (some ⟨gb, 0, none⟩) 2 2 [7, 7] W (H.rdy hG (H.r.take 1 (by decide)) (by decide) (Sl.rg_all _ (by rfl))) hb (by decide)
  rw [show Shr.vals [⟨Sl.a1, A1, c1⟩] = [Sl.a1] from rfl, Sl.tw_1] at h
  refine h.mono ?_
  rintro e w' ⟨A8, c8, A9, c9, he, _, _, _, _, _, _, hb⟩
  exact ⟨A8, _, c8, A9, _, c9, he, hb⟩
theorem Sl.y10 {W : World} {g : Nat} {Ad : Option Addr} {cd : Nat} {Am : Option Addr} {cA b off c : Nat} {xs : List Shr.C} (H : Sl.Hold W g Sl.s1 [Sl.a1, Sl.a2] Ad cd Am cA b off 2 c xs) (hG : Dg.G W Rc.K0 Rc.I0) (gb : Nat) (hb : RdB W (some ⟨gb, 0, none⟩) 1 [7]) :
    Calls Tryd.prog 26 #[.agg (Sl.row Sl.s1 Ad cd Am cA).toArray, .slice none 0 0, .slice (some ⟨gb, 0, none⟩) 1 1] W fun e w' => ∃ A8 n8 c8 A9 n9 c9, e = .returned (.tuple #[.slice A8 n8 c8, .slice A9 n9 c9, .int .i64 1]) ∧ Below W.heap.size W w' := by
  have h := Sl.twin_any none 0 0 [] Sl.s1 Ad cd Am cA (some ⟨gb, 0, none⟩) 1 1 [7] W (H.rdy hG Shr.Rds.nil (by decide) (Sl.rg_all _ (by rfl))) hb (by decide)
  rw [show Shr.vals [] = [] from rfl, Sl.tw_2] at h
  refine h.mono ?_
  rintro e w' ⟨A8, c8, A9, c9, he, _, _, _, _, _, _, hb⟩
  exact ⟨A8, _, c8, A9, _, c9, he, hb⟩
theorem Sl.y12 {W : World} {g : Nat} {Ad : Option Addr} {cd : Nat} {Am : Option Addr} {cA b off c : Nat} {xs : List Shr.C} (H : Sl.Hold W g Sl.s2 [Sl.b1, Sl.b2] Ad cd Am cA b off 2 c xs) (hG : Dg.G W Rc.K0 Rc.I0) (gb : Nat) (hb : RdB W (some ⟨gb, 0, none⟩) 1 [6]) :
    Calls Tryd.prog 26 #[.agg (Sl.row Sl.s2 Ad cd Am cA).toArray, .slice (some ⟨b, off, none⟩) 1 c, .slice (some ⟨gb, 0, none⟩) 1 1] W fun e w' => ∃ A8 c8 A9 c9, e = .returned (.tuple #[.slice A8 1 c8, .slice A9 1 c9, .int .i64 0]) ∧ RdB w' A8 1 [10] ∧ RdB w' A9 1 [0] ∧ Below W.heap.size W w' := by
  obtain ⟨A1, c1, A2, c2, rfl⟩ := H.two
  have h := Sl.twin_any (some ⟨b, off, none⟩) 1 c [⟨Sl.b1, A1, c1⟩] Sl.s2 Ad cd Am cA (some ⟨gb, 0, none⟩) 1 1 [6] W (H.rdy hG (H.r.take 1 (by decide)) (by decide) (Sl.rg_all _ (by rfl))) hb (by decide)
  rw [show Shr.vals [⟨Sl.b1, A1, c1⟩] = [Sl.b1] from rfl, Sl.tw_3.1, Sl.tw_3.2.1, Sl.tw_3.2.2] at h
  refine h.mono ?_
  rintro e w' ⟨A8, c8, A9, c9, he, h1, h2, _, _, _, _, hb⟩
  exact ⟨A8, c8, A9, c9, he, h1, h2, hb⟩
theorem Sl.y13 (W : World) {Ad : Option Addr} {cd : Nat} {Am : Option Addr} {cA : Nat} (hl : Sl.s1.cm.length = 32) : Calls Tryd.prog 21 #[.agg (Sl.row Sl.s1 Ad cd Am cA).toArray] W fun e w' => e = .returned (.int .i64 0) ∧ Below W.heap.size W w' := by
  have h := Sl.check_any Sl.s1 Ad cd Am cA W hl
  rw [Sl.s1_ok] at h
  exact h
theorem Sl.y14 (W : World) : Calls Tryd.prog 21 #[.agg Sl.z36.toArray] W fun e w' => e = .returned (.int .i64 500) ∧ Below W.heap.size W w' := by
  have h := Sl.check_any Sl.zero none 0 none 0 W rfl
  rw [Sl.zero_row] at h
  exact h
end Go.Proofs.YtideglpjgplpnaaDoor
/- Contracts of the references' Same, where the lists are equal. -/
namespace Go.Proofs.YtideglpjgplpnaaDoor
open Go.RowKit Go.Shelf
attribute [local go_sem] Oper.semAt_some
set_option linter.unusedVariables false
set_option linter.unusedSimpArgs false

set_option maxRecDepth 100000 in
set_option maxHeartbeats 1000000 in
theorem Sl.same13 (A B : Option Addr) (n ca cb : Nat) (l : List Int) (w : World) (hx : Rd w w.heap.size 1 A n (l.map (Value.int .i64))) (hy : Rd w w.heap.size 1 B n (l.map (Value.int .i64))) (hn : n ≤ maxLen) :
    Calls Tryd.prog 25 #[.slice A n ca, .slice B n cb] w fun e w' => e = .returned (.bool true) ∧ Below w.heap.size w w' := by
  unfold maxLen at hn
  have HX := Lib.hid hx
  have HY := Lib.hid hy
  have HL := Lib.hid (show l.length = n from by have h := hx.1; simpa using h)
  clear hx hy
  have q1 : ((n : Int) != (n : Int)) = false := by simp
  go_enter Tryd.func25, Tryd.ntmps25
  go_wp2_with fail
  clear q1
  go_loopw [5] (fun i wr => ∃ k : Nat, k ≤ n ∧ i = .int .i64 k ∧ Below w.heap.size w wr) (fun i _ => n - (intOf i).toNat)
  case atStart => exact ⟨0, by omega, rfl, Below.refl _ _⟩
  case round =>
    obtain ⟨k, hk, rfl, hB⟩ := hrel
    have HB := Lib.hid hB
    clear hB
    by_cases hlt : k < n
    · obtain ⟨b, off, rfl, hbx, cx⟩ := HX.out.addr (by omega)
      obtain ⟨bq, offq, rfl, hby, cy⟩ := HY.out.addr (by omega)
      have hg : (l.map (Value.int .i64))[k]? = some (.int .i64 (l.getD k 0)) := by
        rw [List.getElem?_map, List.getElem?_eq_getElem (by rw [HL.out]; exact hlt), List.getD_eq_getElem?_getD, List.getElem?_eq_getElem (by rw [HL.out]; exact hlt)]
        rfl
      have x0 : wr.cell? ⟨b, off + k, none⟩ = some (.int .i64 (l.getD k 0)) := (HB.out.cell (p := ⟨b, off + k, none⟩) hbx).trans (cx k _ hg)
      have y0 : wr.cell? ⟨bq, offq + k, none⟩ = some (.int .i64 (l.getD k 0)) := (HB.out.cell (p := ⟨bq, offq + k, none⟩) hby).trans (cy k _ hg)
      generalize l.getD k 0 = v at x0 y0
      have i1 : (0 : Int) ≤ (k : Int) := by omega
      have i2 : (k : Int) < (n : Int) := by omega
      have q2 : (v != v) = false := by simp
      clear cx cy hg
      go_wp2_with fail
      go_region_held3 (fun w' => w'.cell? ⟨b, off + k, none⟩ = some (.int .i64 v) ∧ w'.cell? ⟨bq, offq + k, none⟩ = some (.int .i64 v)) (first | exact ⟨x0, y0⟩ | go_keep) (fail)
      have HB9 := Lib.hid (HB.out.drew)
      clear x0 y0
      go_wp2_with fail
      go_roundw
      case rel => exact ⟨k + 1, by omega, by go_num, HB9.out⟩
      case measure => simp [intOf]; omega
    · have hkn : k = n := by omega
      go_wp2_with fail
      go_ret
      exact ⟨rfl, HB.out⟩
/-- digests as they read in memory -/
def Sl.Ds (w : World) (A : Option Addr) (n : Nat) (l : List (List UInt8)) : Prop := Rd w w.heap.size 32 A n (Sl.mcs l) ∧ (∀ m ∈ l, m.length = 32) ∧ l.length = n
theorem Sl.Ds.get {w : World} {A : Option Addr} {n : Nat} {l : List (List UInt8)} (h : Sl.Ds w A n l) (i : Nat) (hi : i < n) :
    ∃ b off, A = some ⟨b, off, none⟩ ∧ b < w.heap.size ∧ w.rangeAt b (off + i * 32) ((l.getD i []).map Dg.b8) ∧ (l.getD i []).length = 32 := by
  have hil : i < l.length := by rw [h.2.2]; exact hi
  have hg : l[i]? = some (l.getD i []) := by rw [List.getD_eq_getElem?_getD, List.getElem?_eq_getElem hil]; rfl
  obtain ⟨b, off, e, hb, hc⟩ := rdK (by decide) (by rw [List.length_map, h.2.2]) (fun xs hx => by
    obtain ⟨m, hm, rfl⟩ := List.mem_map.1 hx
    rw [List.length_map]
    exact h.2.1 m hm) h.1 i hi ((l.getD i []).map Dg.b8) (by rw [List.getElem?_map, hg]; rfl)
  exact ⟨b, off, e, hb, hc, h.2.1 _ (List.mem_of_getElem? hg)⟩
set_option maxRecDepth 100000 in
set_option maxHeartbeats 2000000 in
theorem Sl.same02 (A B : Option Addr) (n ca cb : Nat) (l : List (List UInt8)) (w : World) (hx : Sl.Ds w A n l) (hy : Sl.Ds w B n l) (hn : n ≤ maxLen) :
    Calls Tryd.prog 41 #[.slice A n ca, .slice B n cb] w fun e w' => e = .returned (.bool true) ∧ Below w.heap.size w w' := by
  unfold maxLen at hn
  have HX := Lib.hid hx
  have HY := Lib.hid hy
  clear hx hy
  have q1 : ((n : Int) != (n : Int)) = false := by simp
  go_enter Tryd.func41, Tryd.ntmps41
  go_wp2_with fail
  clear q1
  go_loopw [5] (fun i wr => ∃ k : Nat, k ≤ n ∧ i = .int .i64 k ∧ Below w.heap.size w wr) (fun i _ => n - (intOf i).toNat)
  case atStart => exact ⟨0, by omega, rfl, Below.refl _ _⟩
  case round =>
    obtain ⟨k, hk, rfl, hB⟩ := hrel
    have HB := Lib.hid hB
    clear hB
    by_cases hlt : k < n
    · obtain ⟨b, off, rfl, hbx, cx, hm32⟩ := HX.out.get k hlt
      obtain ⟨bq, offq, rfl, hby, cy, _⟩ := HY.out.get k hlt
      obtain ⟨M, hM⟩ : ∃ M, l.getD k [] = M := ⟨_, rfl⟩
      rw [hM] at cx cy hm32
      have HM32 := Lib.hid hm32
      have HM32b := Lib.hid (show (Tryd.prog.info? 23).map (·.size) = some (M.map Dg.b8).length from by rw [List.length_map, hm32]; exact Sl.infoD)
      have HLT := Lib.hid hlt
      have hsz := HB.out.size
      have KP := Lib.hid (fun (w' : World) (h : Below wr.heap.size wr w') => (⟨fun i v hv => (h.cell (p := ⟨b, off + k * 32 + i, none⟩) (Nat.lt_of_lt_of_le hbx hsz)).trans ((HB.out.cell (p := ⟨b, off + k * 32 + i, none⟩) hbx).trans (cx i v hv)), fun i v hv => (h.cell (p := ⟨bq, offq + k * 32 + i, none⟩) (Nat.lt_of_lt_of_le hby hsz)).trans ((HB.out.cell (p := ⟨bq, offq + k * 32 + i, none⟩) hby).trans (cy i v hv)), h⟩ : w'.rangeAt b (off + k * 32) (M.map Dg.b8) ∧ w'.rangeAt bq (offq + k * 32) (M.map Dg.b8) ∧ Below wr.heap.size wr w'))
      have s0 : Below wr.heap.size wr wr.drew := (Below.refl _ wr).drew
      clear cx cy hm32 hM
      go_wp2_with fail
      refine Code.wp_mono (Q := NormalOnly (fun a' W' => ∃ (w17 w18 w19 w20 w21 w22 w23 w24 : Value), a' = { tmps := #[.slice (some ⟨b, off, none⟩) n ca, .slice (some ⟨bq, offq, none⟩) n cb, undef, undef, u4, .int .i64 (k : Int), .slice (some ⟨b, off, none⟩) n ca, .int .i64 (n : Int), .slice (some ⟨bq, offq, none⟩) n cb, .int .i64 (n : Int), .bool false, .int .i64 (k : Int), .slice (some ⟨b, off, none⟩) n ca, .int .i64 (n : Int), .bool true, u15, u16, w17, w18, w19, w20, w21, w22, w23, w24, .bool false], defers := [] } ∧ Below wr.heap.size wr W')) ?tail ?region
      case region =>
        refine wp_region_named (fun ops hops => ?_)
        refine wp_region_T (by kernel_rfl) [] (fun w' => w'.rangeAt b (off + k * 32) (M.map Dg.b8) ∧ w'.rangeAt bq (offq + k * 32) (M.map Dg.b8) ∧ Below wr.heap.size wr w') ?_
        rw [show ops.size = 9 from by rw [hops]; rfl]
        have HNS : Region.noSelect ops = true := by rw [hops]; kernel_rfl
        have hHeld := KP.out _ s0
        obtain ⟨o0, h0, d0, p0, g0⟩ := op_at5 hops 0 rfl (d := some 17) (p := Op.move (Operand.tmp 0)) (g := none) rfl rfl rfl
        obtain ⟨o1, h1, d1, p1, g1⟩ := op_at5 hops 1 rfl (d := some 18) (p := Op.move (Operand.tmp 5)) (g := none) rfl rfl rfl
        obtain ⟨o2, h2, d2, p2, g2⟩ := op_at5 hops 2 rfl (d := some 19) (p := Op.indexAddr 25 (Operand.tmp 17) (Operand.tmp 18)) (g := none) rfl rfl rfl
        obtain ⟨o3, h3, d3, p3, g3⟩ := op_at5 hops 3 rfl (d := some 20) (p := Op.load 23 (Operand.tmp 19)) (g := none) rfl rfl rfl
        obtain ⟨o4, h4, d4, p4, g4⟩ := op_at5 hops 4 rfl (d := some 21) (p := Op.move (Operand.tmp 1)) (g := none) rfl rfl rfl
        obtain ⟨o5, h5, d5, p5, g5⟩ := op_at5 hops 5 rfl (d := some 22) (p := Op.move (Operand.tmp 5)) (g := none) rfl rfl rfl
        obtain ⟨o6, h6, d6, p6, g6⟩ := op_at5 hops 6 rfl (d := some 23) (p := Op.indexAddr 25 (Operand.tmp 21) (Operand.tmp 22)) (g := none) rfl rfl rfl
        obtain ⟨o7, h7, d7, p7, g7⟩ := op_at5 hops 7 rfl (d := some 24) (p := Op.load 23 (Operand.tmp 23)) (g := none) rfl rfl rfl
        obtain ⟨o8, h8, d8, p8, g8⟩ := op_at5 hops 8 rfl (d := some 25) (p := Op.binOp BinOp.neq 23 (Operand.tmp 20) (Operand.tmp 24) 23) (g := none) rfl rfl rfl
        refine wpAnyT_take (i := 0) (v := .slice (some ⟨b, off, none⟩) n ca) [0, 2, 3, 8] h0 HNS (by rw [hops]; kernel_rfl) (by rw [hops]; kernel_rfl) (by rw [hops]; kernel_rfl) (fun _ _ _ => NormalOnly.hQ _ _ _) (Or.inl ⟨(wanted_none g0), fun w' _ => by unfold execOp; rw [p0]; first | rfl | kernel_rfl⟩) hHeld ?_
        rw [d0]
        simp only [Act.put, List.setIfInBounds_toArray, List.set_cons_zero, List.set_cons_succ]
        refine wpAnyT_take (i := 1) (v := .int .i64 (k : Int)) [1, 2, 3, 8] h1 HNS (by rw [hops]; kernel_rfl) (by rw [hops]; kernel_rfl) (by rw [hops]; kernel_rfl) (fun _ _ _ => NormalOnly.hQ _ _ _) (Or.inl ⟨(wanted_none g1), fun w' _ => by unfold execOp; rw [p1]; first | rfl | kernel_rfl⟩) hHeld ?_
        rw [d1]
        simp only [Act.put, List.setIfInBounds_toArray, List.set_cons_zero, List.set_cons_succ]
        refine wpAnyT_take (i := 2) (v := .pointer (some ⟨b, off + k * 32, none⟩)) [2, 3, 8] h2 HNS (by rw [hops]; kernel_rfl) (by rw [hops]; kernel_rfl) (by rw [hops]; kernel_rfl) (fun _ _ _ => NormalOnly.hQ _ _ _) (Or.inl ⟨(wanted_none g2), fun w' _ => run_op_index_mid 25 _ _ p2 b off n ca k (by rfl) (by rfl) HLT.out 23 32 Tryd.underlying25 Sl.infoD⟩) hHeld ?_
        rw [d2]
        simp only [Act.put, List.setIfInBounds_toArray, List.set_cons_zero, List.set_cons_succ]
        refine wpAnyT_take (i := 3) (v := .agg (M.map Dg.b8).toArray) [3, 8] h3 HNS (by rw [hops]; kernel_rfl) (by rw [hops]; kernel_rfl) (by rw [hops]; kernel_rfl) (fun _ _ _ => NormalOnly.hQ _ _ _) (Or.inl ⟨(wanted_none g3), fun w' h => run_op_load_mid 23 _ p3 b (off + k * 32) (by rfl) (M.map Dg.b8) _ h.1 Tryd.underlying23 rfl HM32b.out⟩) hHeld ?_
        rw [d3]
        simp only [Act.put, List.setIfInBounds_toArray, List.set_cons_zero, List.set_cons_succ]
        refine wpAnyT_take (i := 4) (v := .slice (some ⟨bq, offq, none⟩) n cb) [4, 6, 7, 8] h4 HNS (by rw [hops]; kernel_rfl) (by rw [hops]; kernel_rfl) (by rw [hops]; kernel_rfl) (fun _ _ _ => NormalOnly.hQ _ _ _) (Or.inl ⟨(wanted_none g4), fun w' _ => by unfold execOp; rw [p4]; first | rfl | kernel_rfl⟩) hHeld ?_
        rw [d4]
        simp only [Act.put, List.setIfInBounds_toArray, List.set_cons_zero, List.set_cons_succ]
        refine wpAnyT_take (i := 5) (v := .int .i64 (k : Int)) [5, 6, 7, 8] h5 HNS (by rw [hops]; kernel_rfl) (by rw [hops]; kernel_rfl) (by rw [hops]; kernel_rfl) (fun _ _ _ => NormalOnly.hQ _ _ _) (Or.inl ⟨(wanted_none g5), fun w' _ => by unfold execOp; rw [p5]; first | rfl | kernel_rfl⟩) hHeld ?_
        rw [d5]
        simp only [Act.put, List.setIfInBounds_toArray, List.set_cons_zero, List.set_cons_succ]
        refine wpAnyT_take (i := 6) (v := .pointer (some ⟨bq, offq + k * 32, none⟩)) [6, 7, 8] h6 HNS (by rw [hops]; kernel_rfl) (by rw [hops]; kernel_rfl) (by rw [hops]; kernel_rfl) (fun _ _ _ => NormalOnly.hQ _ _ _) (Or.inl ⟨(wanted_none g6), fun w' _ => run_op_index_mid 25 _ _ p6 bq offq n cb k (by rfl) (by rfl) HLT.out 23 32 Tryd.underlying25 Sl.infoD⟩) hHeld ?_
        rw [d6]
        simp only [Act.put, List.setIfInBounds_toArray, List.set_cons_zero, List.set_cons_succ]
        refine wpAnyT_take (i := 7) (v := .agg (M.map Dg.b8).toArray) [7, 8] h7 HNS (by rw [hops]; kernel_rfl) (by rw [hops]; kernel_rfl) (by rw [hops]; kernel_rfl) (fun _ _ _ => NormalOnly.hQ _ _ _) (Or.inl ⟨(wanted_none g7), fun w' h => run_op_load_mid 23 _ p7 bq (offq + k * 32) (by rfl) (M.map Dg.b8) _ h.2.1 Tryd.underlying23 rfl HM32b.out⟩) hHeld ?_
        rw [d7]
        simp only [Act.put, List.setIfInBounds_toArray, List.set_cons_zero, List.set_cons_succ]
        refine wpAnyT_take (i := 8) (v := .bool false) [8] h8 HNS (by rw [hops]; kernel_rfl) (by rw [hops]; kernel_rfl) (by rw [hops]; kernel_rfl) (fun _ _ _ => NormalOnly.hQ _ _ _) (Or.inl ⟨(wanted_none g8), fun w' _ => run_op_neq_agg 23 23 _ _ p8 _ _ _ (by rfl) (by rfl) (by kernel_rfl) ((Sl.neqD _ _ HM32.out HM32.out w').trans (by simp))⟩) hHeld ?_
        rw [d8]
        simp only [Act.put, List.setIfInBounds_toArray, List.set_cons_zero, List.set_cons_succ]
        refine wpAnyT_done (by rw [hops]; kernel_rfl) ⟨rfl, _, _, _, _, _, _, _, _, rfl, s0⟩ _

      case tail =>
        rintro e a' W5 ⟨rfl, v17, v18, v19, v20, v21, v22, v23, v24, rfl, hb5⟩
        have HB9 := Lib.hid (HB.out.trans (hb5.mono HB.out.size))
        clear hb5 KP s0
        go_wp2_with fail
        go_roundw
        case rel => exact ⟨k + 1, by omega, by go_num, HB9.out⟩
        case measure => simp [intOf]; omega
    · have hkn : k = n := by omega
      go_wp2_with fail
      go_ret
      exact ⟨rfl, HB.out⟩
end Go.Proofs.YtideglpjgplpnaaDoor
