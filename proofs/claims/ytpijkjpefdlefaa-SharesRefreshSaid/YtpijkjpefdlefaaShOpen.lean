/- How an argument that is a slice of shares is opened. No condition. -/
import Derived.Test.YtpijkjpefdlefaaOpenB
import Derived.Test.YtpijkjpefdlefaaShMem
namespace Go.Proofs.Ytpijkjpefdlefaa
open Go.ChangeShapes Go.WideShapes Go.ChangeAt Go.RowKit Go.Deep

section
variable {H : Type} {enc : TypeId × Value → H} {P : Program} {w : World} {base : Nat} {spare : Nat → Bool} {held : Bool}

/-- a cell that reads as a slice of bytes -/
theorem open_bytes_cell {t e : TypeId} {fuel : Nat} {v : Value} {y : DataW H × List MemPlace} (ht : P.underlying t = some (.slice e)) (he : P.underlying e = some (.int .u8)) (hC : P.cellsOf e = 1)
    (h : DataW.trod enc P w base spare held fuel t [v] = some y) :
    ∃ (A : Option Addr) (n c : Nat) (l : List UInt8), v = .slice A n c ∧ n ≤ c ∧ c ≤ maxLen ∧ RdB w A n l ∧ (A = none → c = 0) := by
  rcases open_ints ht he hC h with ⟨hcs, _⟩ | ⟨x, l, c, zs, hcs, _, hl, hm, hz, _, hcell, hwz⟩
  · simp only [List.cons.injEq, and_true] at hcs
    subst hcs
    exact ⟨none, 0, 0, [], rfl, Nat.le_refl _, by simp [maxLen], RdB.none_, fun _ => rfl⟩
  · simp only [List.cons.injEq, and_true] at hcs
    subst hcs
    have hz' : l ≤ zs.length := by
      rw [hz]; split <;> omega
    have hrd : Rd w w.heap.size 1 (some x) l ((zs.take l).map (Value.int .u8)) := by
      refine ⟨by simp; omega, fun hn => ?_⟩
      obtain ⟨b, off, spot⟩ := x
      have hc0 := hcell 0 (by omega)
      have hspot : spot = none := by simpa [Addr.add] using World.cell?_spot hc0
      subst hspot
      refine ⟨b, off, rfl, ?_, fun j u hu => ?_⟩
      · have := World.block_lt_of_cell? _ _ hc0
        simpa [Addr.add] using this
      · simp only [List.getElem?_map, Option.map_eq_some_iff] at hu
        obtain ⟨z, hz3, rfl⟩ := hu
        have hj : j < l := by
          have := (List.getElem?_eq_some_iff.1 hz3).1
          rw [List.length_take] at this; omega
        have hjz : j < zs.length := by omega
        have h1 := hcell j hjz
        rw [List.getElem?_take_of_lt hj, List.getElem?_eq_getElem hjz] at hz3
        injection hz3 with hz3
        subst hz3
        rw [List.getD_eq_getElem?_getD, List.getElem?_eq_getElem hjz] at h1
        by_cases h0 : j = 0
        · subst h0; simpa [Addr.add] using h1
        · simpa [Addr.add, h0] using h1
    obtain ⟨ls, hls⟩ := bytes_of (fun z hz2 => hwz z (List.mem_of_mem_take hz2)) hrd
    exact ⟨some x, l, c, ls, rfl, hl, hm, hls, fun e => by cases e⟩

/-- the cells of a share -/
theorem open_share {t te tb e8 : TypeId} {f0 f1 f2 f3 f4 : Field} {m : Nat} {xs : List Value} {y : DataW H × List MemPlace} (hs : P.underlying t = some (.struct #[f0, f1, f2, f3, f4])) (hone : oneCellFields P #[f0, f1, f2, f3, f4] = true) (hl : xs.length = 5)
    (e0 : f0.type = te) (e1 : f1.type = te) (e2 : f2.type = te) (e3 : f3.type = te) (e4 : f4.type = tb) (he : P.underlying te = some (.int .i64)) (hb : P.underlying tb = some (.slice e8)) (he8 : P.underlying e8 = some (.int .u8)) (hC : P.cellsOf e8 = 1) (h : DataW.trod enc P w base spare held m t xs = some y) :
    ∃ x : Shr.C, xs = x.cells ∧ x.Ok w ∧ (Lit.int .i64 x.s.ep).wf = true ∧ (Lit.int .i64 x.s.ix).wf = true ∧ (Lit.int .i64 x.s.th).wf = true ∧ (Lit.int .i64 x.s.mn).wf = true ∧ x.s.d.length ≤ x.c ∧ x.c ≤ maxLen := by
  obtain ⟨x0, x1, x2, x3, x4, rfl⟩ : ∃ x0 x1 x2 x3 x4, xs = [x0, x1, x2, x3, x4] := by
    match xs, hl with
    | [x0, x1, x2, x3, x4], _ => exact ⟨x0, x1, x2, x3, x4, rfl⟩
  obtain ⟨ys, n, _, _, _, hyl, hg⟩ := DataW.trod_struct hs h
  have hys : ∀ i, i < 5 → ∃ z, ys[i]? = some z := fun i hi => ⟨_, List.getElem?_eq_getElem (by rw [hyl]; exact hi)⟩
  obtain ⟨o0, k0⟩ := hone_of hone 0 f0 rfl
  obtain ⟨o1, k1⟩ := hone_of hone 1 f1 rfl
  obtain ⟨o2, k2⟩ := hone_of hone 2 f2 rfl
  obtain ⟨o3, k3⟩ := hone_of hone 3 f3 rfl
  obtain ⟨o4, k4⟩ := hone_of hone 4 f4 rfl
  obtain ⟨z0, hz0⟩ := hys 0 (by omega)
  obtain ⟨z1, hz1⟩ := hys 1 (by omega)
  obtain ⟨z2, hz2⟩ := hys 2 (by omega)
  obtain ⟨z3, hz3⟩ := hys 3 (by omega)
  obtain ⟨z4, hz4⟩ := hys 4 (by omega)
  have h0 := hg 0 f0 rfl
  have h1 := hg 1 f1 rfl
  have h2 := hg 2 f2 rfl
  have h3 := hg 3 f3 rfl
  have h4 := hg 4 f4 rfl
  rw [hz0, o0, k0] at h0
  rw [hz1, o1, k1] at h1
  rw [hz2, o2, k2] at h2
  rw [hz3, o3, k3] at h3
  rw [hz4, o4, k4] at h4
  rw [e0] at h0
  rw [e1] at h1
  rw [e2] at h2
  rw [e3] at h3
  rw [e4] at h4
  obtain ⟨a, ea, _, wa⟩ := DataW.trod_int he (show DataW.trod enc P w base spare held n te [x0] = some z0 from h0)
  obtain ⟨b, eb, _, wb⟩ := DataW.trod_int he (show DataW.trod enc P w base spare held n te [x1] = some z1 from h1)
  obtain ⟨c, ec, _, wc⟩ := DataW.trod_int he (show DataW.trod enc P w base spare held n te [x2] = some z2 from h2)
  obtain ⟨d, ed, _, wd⟩ := DataW.trod_int he (show DataW.trod enc P w base spare held n te [x3] = some z3 from h3)
  obtain ⟨A, k, cp, l, rfl, hkc, hcm, hrd, hnil⟩ := open_bytes_cell hb he8 hC (show DataW.trod enc P w base spare held n tb [x4] = some z4 from h4)
  simp only [List.cons.injEq, and_true] at ea eb ec ed
  have hlk : l.length = k := hrd.len
  subst hlk
  refine ⟨⟨⟨a, b, c, d, l⟩, A, cp⟩, by rw [ea, eb, ec, ed]; rfl, ⟨hrd, Nat.le_trans hkc hcm, hnil⟩, wa, wb, wc, wd, hkc, hcm⟩
end

/-- shares whose numbers are Go's ints -/
structure Shr.Wf (xs : List Shr.C) : Prop where
  ep : ∀ x, x ∈ xs → -9223372036854775808 ≤ x.s.ep ∧ x.s.ep ≤ 9223372036854775807
  ix : ∀ x, x ∈ xs → -9223372036854775808 ≤ x.s.ix ∧ x.s.ix ≤ 9223372036854775807
  th : ∀ x, x ∈ xs → -9223372036854775808 ≤ x.s.th ∧ x.s.th ≤ 9223372036854775807
  mn : ∀ x, x ∈ xs → -9223372036854775808 ≤ x.s.mn ∧ x.s.mn ≤ 9223372036854775807
  cap : ∀ x, x ∈ xs → x.s.d.length ≤ x.c ∧ x.c ≤ maxLen

theorem flat_cells {w : World} : ∀ (xss : List (List Value)), (∀ xs ∈ xss, ∃ x : Shr.C, xs = x.cells ∧ x.Ok w ∧ (Lit.int .i64 x.s.ep).wf = true ∧ (Lit.int .i64 x.s.ix).wf = true ∧ (Lit.int .i64 x.s.th).wf = true ∧ (Lit.int .i64 x.s.mn).wf = true ∧ x.s.d.length ≤ x.c ∧ x.c ≤ maxLen) →
    ∃ xs : List Shr.C, xss.flatten = xs.flatMap Shr.C.cells ∧ xs.length = xss.length ∧ (∀ x, x ∈ xs → x.Ok w) ∧ Shr.Wf xs
  | [], _ => ⟨[], rfl, rfl, (by simp), ⟨by simp, by simp, by simp, by simp, by simp⟩⟩
  | c :: xss, h => by
    obtain ⟨x, rfl, ok, w1, w2, w3, w4, w5, w6⟩ := h c (List.mem_cons_self ..)
    obtain ⟨xs, e, hl, hok, hwf⟩ := flat_cells xss (fun y hy => h y (List.mem_cons_of_mem _ hy))
    refine ⟨x :: xs, by rw [List.flatten_cons, e, List.flatMap_cons], by simp [hl], ?_, ?_, ?_, ?_, ?_, ?_⟩ <;>
    · intro y hy
      rcases List.mem_cons.1 hy with rfl | hy
      · first | exact ok | exact bounds_i64 w1 | exact bounds_i64 w2 | exact bounds_i64 w3 | exact bounds_i64 w4 | exact ⟨w5, w6⟩
      · first | exact hok y hy | exact hwf.ep y hy | exact hwf.ix y hy | exact hwf.th y hy | exact hwf.mn y hy | exact hwf.cap y hy

theorem open_shares {H : Type} {enc : TypeId × Value → H} {w : World} {base : Nat} {spare : Nat → Bool} {held : Bool} {r : Reach} {b0 : Nat} {v : Value} {d : DataW H} {p : List MemPlace}
    (hv : Value.okWide Try.prog w r b0 22 v) (h : DataW.Trod enc Try.prog w base spare held 22 v d p) :
    ∃ (A : Option Addr) (n c : Nat) (xs : List Shr.C), v = .slice A n c ∧ n ≤ c ∧ c ≤ maxLen ∧ Shr.Rds w A n xs ∧ Shr.Wf xs := by
  obtain ⟨A, n, c, xss, rfl, hnc, hcm, hlen, hrd, hel⟩ := open_rd_slice Try.underlying22 (show Try.prog.cellsOf 41 = 5 by kernel_rfl) (by decide) hv h
  obtain ⟨xs, e, hl, hok, hwf⟩ := flat_cells xss (fun cs hcs => by
    obtain ⟨h5, m, y, hy⟩ := hel cs hcs
    exact open_share Try.underlying41 (by kernel_rfl) h5 rfl rfl rfl rfl rfl Try.underlying3 Try.underlying23 Try.underlying5 (by kernel_rfl) hy)
  exact ⟨A, n, c, xs, rfl, hnc, hcm, ⟨by rw [← e]; exact hrd, by rw [hl, hlen], hok⟩, hwf⟩
end Go.Proofs.Ytpijkjpefdlefaa
