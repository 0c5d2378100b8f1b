/- Contract of the reference reader's Value. -/
import Derived.Test.YtnhodcjbmloeeaaCdQ3
import Derived.Test.YtnhodcjbmloeeaaCdD4
namespace Go.Proofs.Ytnhodcjbmloeeaa
open Go.RowKit Go.Shelf
set_option linter.unusedVariables false

theorem Cd.Lq.stop {w wr : World} {B g j : Nat} {lj : List Cd.T} {A : Option Addr} {c : Nat} {b : List UInt8} {at_ : Nat} {Aj : Option Addr} {cj : Nat} {xss : List (List Value)} (h : Cd.Lq w wr B g j lj A c b at_ Aj cj xss)
    {cs : List Value} {at6 : Nat} {w5 w8 : World} {A8 : Option Addr} {c8 : Nat} (hg5 : wr.grownBy w5 (some g)) (hR5 : Cd.Rf w5 B g A c b at6 true) (cs2 : Array Value)
    (hG : Grew (w5.alloc (.cells cs2 24)) (w.heap.size + 1) 24 4 (.slice Aj j cj) (j + 1) (xss.flatten ++ cs) (.slice A8 (j + 1) c8) w8) :
    Cd.Rf (w8.setCell ⟨w.heap.size, 3, none⟩ (.slice A8 (j + 1) c8)) B g A c b at6 true ∧ Has (w8.setCell ⟨w.heap.size, 3, none⟩ (.slice A8 (j + 1) c8)) w.heap.size 24 [.int .i64 3, .int .i64 0, .string ⟨#[]⟩, .slice A8 (j + 1) c8] ∧ w.grownBy (w8.setCell ⟨w.heap.size, 3, none⟩ (.slice A8 (j + 1) c8)) (some g) := by
  have hgq := h.gq
  have hq := h.has.lt
  have hge : ∀ k, (Value.slice Aj j cj).ownBlock = some k → w.heap.size + 1 ≤ k ∧ k < wr.heap.size := fun k e => h.own.lt k e
  have h5 : w.grownBy w5 (some g) := grown_trans h.grown hg5
  have h6 : w.grownBy (w5.alloc (.cells cs2 24)) (some g) := grown_trans h5 (grown_below ((Below.refl _ _).alloc (Nat.le_refl _) _) _)
  have h8 : w.grownBy w8 (some g) := grown_own h6 hG.grown (fun k e => by have := hge k e; omega)
  refine ⟨?_, ?_, grown_setCell h8 (Nat.le_refl _) _⟩
  · have hr6 := hR5.keep ((Below.refl _ _).alloc (Nat.le_refl _) (.cells cs2 24))
    exact (hr6.grown hG.grown (fun k e => by have := hge k e; omega)).set hgq _
  · have hh5 := h.has.grown hg5 (fun e => by injection e with e; omega)
    have hh8 := (hh5.alloc (.cells cs2 24)).grown hG.grown (fun e => by have := hge _ e; omega)
    exact hh8.set 3 _

set_option maxRecDepth 100000 in
set_option maxHeartbeats 16000000 in
theorem Cd.rvalue_step (gap : Nat) (IH0 : ∀ g0, gap = g0 + 1 → ∀ (dep : Nat) (w : World) (B g : Nat) (A : Option Addr) (c : Nat) (b : List UInt8) (at0 : Nat), dep + g0 = 16 → b.length ≤ 1000000000 → Cd.Rf w B g A c b at0 false →
      Calls Try.prog 34 #[.pointer (some ⟨g, 0, none⟩), .int .i64 (dep : Int)] w (Cd.RetRV w B g A c b (Cd.dv g0 (b.drop at0))))
    (dep : Nat) (w : World) (B g : Nat) (A : Option Addr) (c : Nat) (b : List UInt8) (at0 : Nat) (hgap : dep + gap = 16) (hlen : b.length ≤ 1000000000) (hR : Cd.Rf w B g A c b at0 false) :
    Calls Try.prog 34 #[.pointer (some ⟨g, 0, none⟩), .int .i64 (dep : Int)] w (Cd.RetRV w B g A c b (Cd.dv gap (b.drop at0))) := by
    have IH0 := Lib.hid IH0
    obtain ⟨w0, hw0⟩ : ∃ w0, w0 = w.alloc (.cells #[.int .i64 0, .int .i64 0, .string ⟨#[]⟩, .slice none 0 0] 24) := ⟨_, rfl⟩
    have HB0 := Lib.hid (show Below w.heap.size w w0 by rw [hw0]; exact (Below.refl _ _).alloc (Nat.le_refl _) _)
    have HH0 := Lib.hid (show Has w0 w.heap.size 24 [.int .i64 0, .int .i64 0, .string ⟨#[]⟩, .slice none 0 0] by rw [hw0]; exact Has.new _ _ _)
    have hgq : g < w.heap.size := hR.has.lt
    have HR0 := Lib.hid (hR.keep HB0.out)
    have HW0 := Lib.hid hw0
    clear hw0 hR
    have HNX := Lib.hid (Cd.next_any w0 B g A c b at0 HR0.out)
    go_enter Try.func34, Try.ntmps34
    go_upto_region 1 with fail
    rw [← HW0.out]
    go_wp2_with fail
    ((with_reducible refine HNX.out.mono ?_); rintro e w5 ⟨hg5, hx5, hn5⟩)
    have HG5 := Lib.hid (grown_pre HB0.out hg5)
    have HH5 := Lib.hid (HH0.out.grown hg5 (fun e => by injection e with e; omega))
    clear hg5
    cases hdp : b.drop at0 with
    | nil =>
      have HDP := Lib.hid hdp
      obtain ⟨rfl, hR5⟩ := hn5 hdp
      have HR5 := Lib.hid hR5
      have HS := Lib.hid (Cd.dv_nil gap)
      obtain ⟨⟨z0, c0, c1, c2⟩, f1, f2⟩ := hR5.facts
      clear hx5 hn5 hdp hR5
      go_upto_region 26 with fail
      obtain ⟨w6, hw6⟩ : ∃ w6, w6 = w5.setCell ⟨g, 2, none⟩ (.bool true) := ⟨_, rfl⟩
      have HG6 := Lib.hid (show w.grownBy w6 (some g) by rw [hw6]; exact grown_trans HG5.out (grown_set1 g 2 _))
      have HR6 := Lib.hid (show Cd.Rf w6 B g A c b at0 true by rw [hw6]; exact HR5.out.mark true)
      have HH6 := Lib.hid (show Has w6 w.heap.size 24 [.int .i64 0, .int .i64 0, .string ⟨#[]⟩, .slice none 0 0] by rw [hw6]; exact HH5.out.far (by show w.heap.size ≠ g; omega) _)
      rw [← hw6]
      clear hw6 z0 c0 c1 c2 f1 f2
      have q0 := HH6.out.cell 0
      have q1 := HH6.out.cell 1
      have q2 := HH6.out.cell 2
      have q3 := HH6.out.cell 3
      have f0 := HH6.out.frozen 0
      have f1 := HH6.out.frozen 1
      have f2 := HH6.out.frozen 2
      have f3 := HH6.out.frozen 3
      have qz := HH6.out.lt
      simp only [List.getElem?_cons_succ, List.getElem?_cons_zero] at q0 q1 q2 q3
      have HF := Lib.hid (fun v0 v1 v2 v3 => Cd.rbad4 0 0 ⟨#[]⟩ none 0 0 v0 v1 v2 v3 HG6.out HR6.out hgq)
      go_wp2_with fail
      refine bodyPost_ret (v := .agg #[.int .i64 0, .int .i64 0, .string ⟨#[]⟩, .slice none 0 0]) (by simp [results, Try.results34, go_sem, q0, q1, q2, q3]) rfl ?_
      rw [HDP.out, HS.out]
      exact HF.out _ _ _ _
    | cons x r =>
      have HDP := Lib.hid hdp
      obtain ⟨rfl, hdr, hR5⟩ := hx5 x r hdp
      have HR5 := Lib.hid hR5
      have HDR := Lib.hid hdr
      obtain ⟨⟨z0, c0, c1, c2⟩, f1, f2⟩ := hR5.facts
      have hrl : r.length < 1000000000 := by
        have h := congrArg List.length hdp
        rw [List.length_drop, List.length_cons] at h
        omega
      clear hx5 hn5 hdp hR5 hdr
      have hx := x.toNat_lt
      by_cases x1 : x.toNat = 1
      · have ex : x = 1 := UInt8.toNat_inj.1 x1
        subst ex
        have e1 : (((1 : UInt8).toNat : Nat) : Int) = 1 := rfl
        rw [e1]
        clear x1 hx e1
        have HS := Lib.hid (Cd.dv_int gap r)
        have HN := Lib.hid (Cd.rnumber_any w5 B g A c b (at0 + 1) HR5.out)
        rw [HDR.out] at HN
        clear z0 c0 c1 c2 f1 f2
        go_wp2_with fail
        cases hd : Cd.dn r with
        | none =>
          rw [hd] at HN HS
          clear hd
          ((with_reducible refine HN.out.mono ?_); rintro e w7 ⟨rfl, hg7, at7, hR7⟩)
          have HG7 := Lib.hid (grown_trans HG5.out hg7)
          have HR7 := Lib.hid hR7
          have HH7 := Lib.hid (HH5.out.grown hg7 (fun e => by injection e with e; omega))
          clear hg7 hR7
          have q0 := HH7.out.cell 0
          have q1 := HH7.out.cell 1
          have q2 := HH7.out.cell 2
          have q3 := HH7.out.cell 3
          have f0 := HH7.out.frozen 0
          have f1 := HH7.out.frozen 1
          have f2 := HH7.out.frozen 2
          have f3 := HH7.out.frozen 3
          have qz := HH7.out.lt
          simp only [List.getElem?_cons_succ, List.getElem?_cons_zero] at q0 q1 q2 q3
          have HF := Lib.hid (fun v0 v1 v2 v3 => Cd.rbad4 1 0 ⟨#[]⟩ none 0 0 v0 v1 v2 v3 HG7.out HR7.out hgq)
          go_wp2_with fail
          refine bodyPost_ret (v := .agg #[.int .i64 1, .int .i64 0, .string ⟨#[]⟩, .slice none 0 0]) (by simp [results, Try.results34, go_sem, q0, q1, q2, q3]) rfl ?_
          rw [HDP.out, HS.out]
          exact HF.out _ _ _ _
        | some p =>
          obtain ⟨u, r2⟩ := p
          have hu := (Cd.dn_some hd).2
          rw [hd] at HN HS
          clear hd
          ((with_reducible refine HN.out.mono ?_); rintro e w7 ⟨rfl, hg7, at7, hd7, hR7⟩)
          have HG7 := Lib.hid (grown_trans HG5.out hg7)
          have HR7 := Lib.hid hR7
          have HD7 := Lib.hid hd7
          have HH7 := Lib.hid (HH5.out.grown hg7 (fun e => by injection e with e; omega))
          clear hg7 hR7 hd7
          have HSG := Lib.hid (Cd.sgn_in u hu)
          have HX := Lib.hid (show Cd.CellX w7 (fun d => w.heap.size < d) (.mk 1 (Cd.sgn u) [] []) [.int .i64 1, .int .i64 (Cd.sgn u), .string ⟨([] : List UInt8).toArray⟩, .slice none ([] : List Cd.T).length 0] from .mk 1 (Cd.sgn u) [] [] none 0 [] rfl (fun i hi => absurd hi (by simp)) Rd.none_ (fun b off e => by cases e) (fun _ => rfl) (by simp) (by simp) (by omega) HSG.out)
          have q0 := HH7.out.cell 0
          have q1 := HH7.out.cell 1
          have q2 := HH7.out.cell 2
          have q3 := HH7.out.cell 3
          have f0 := HH7.out.frozen 0
          have f1 := HH7.out.frozen 1
          have f2 := HH7.out.frozen 2
          have f3 := HH7.out.frozen 3
          have qz := HH7.out.lt
          simp only [List.getElem?_cons_succ, List.getElem?_cons_zero] at q0 q1 q2 q3
          by_cases hodd : u % 2 = 1
          · have hm : ((u : Int) % 2 == 1) = true := by simp; omega
            have hsg : -((u : Int) / 2) - 1 = Cd.sgn u := by unfold Cd.sgn; rw [if_neg (by omega)]; omega
            have HSQ := Lib.hid hsg
            clear hodd hsg
            have HF := Lib.hid (fun v0 v1 v2 v3 => Cd.rfin4 v0 v1 v2 v3 HG7.out HR7.out HD7.out hgq HX.out)
            go_wp2_with fail
            refine bodyPost_ret (v := .agg #[.int .i64 1, .int .i64 (Cd.sgn u), .string ⟨#[]⟩, .slice none 0 0]) (by rw [← HSQ.out]; simp [results, Try.results34, go_sem, q0, q1, q2, q3]) rfl ?_
            rw [HDP.out, HS.out]
            exact HF.out _ _ _ _
          · have hm : ((u : Int) % 2 == 1) = false := by simp; omega
            have hsg : ((u : Int) / 2) = Cd.sgn u := by unfold Cd.sgn; rw [if_pos (by omega)]; omega
            have HSQ := Lib.hid hsg
            clear hodd hsg
            have HF := Lib.hid (fun v0 v1 v2 v3 => Cd.rfin4 v0 v1 v2 v3 HG7.out HR7.out HD7.out hgq HX.out)
            go_wp2_with fail
            refine bodyPost_ret (v := .agg #[.int .i64 1, .int .i64 (Cd.sgn u), .string ⟨#[]⟩, .slice none 0 0]) (by rw [← HSQ.out]; simp [results, Try.results34, go_sem, q0, q1, q2, q3]) rfl ?_
            rw [HDP.out, HS.out]
            exact HF.out _ _ _ _
      · by_cases x2 : x.toNat = 2
        · have ex : x = 2 := UInt8.toNat_inj.1 x2
          subst ex
          have e1 : (((2 : UInt8).toNat : Nat) : Int) = 2 := rfl
          rw [e1]
          clear x1 x2 hx e1
          have HS := Lib.hid (Cd.dv_text gap r)
          have HN := Lib.hid (Cd.rnumber_any w5 B g A c b (at0 + 1) HR5.out)
          rw [HDR.out] at HN
          clear z0 c0 c1 c2 f1 f2
          go_wp2_with fail
          cases hd : Cd.dn r with
            | none =>
              have HE := Lib.hid (show Cd.dv gap (2 :: r) = none by rw [HS.out, Cd.dl, hd])
              rw [hd] at HN
              clear hd HS
              ((with_reducible refine HN.out.mono ?_); rintro e w7 ⟨rfl, hg7, at7, hR7⟩)
              have HG7 := Lib.hid (grown_trans HG5.out hg7)
              have HR7 := Lib.hid hR7
              have HH7 := Lib.hid (HH5.out.grown hg7 (fun e => by injection e with e; omega))
              clear hg7 hR7
              obtain ⟨⟨z0, c0, c1, c2⟩, f1, f2⟩ := HR7.out.facts
              go_wp2_with fail
              go_quiet (fail)
              go_upto_region 11 with fail
              obtain ⟨w6, hw6⟩ : ∃ w6, w6 = (w7.drewN nq).setCell ⟨g, 2, none⟩ (.bool true) := ⟨_, rfl⟩
              have HGm := Lib.hid (show w.grownBy w6 (some g) by rw [hw6]; exact grown_trans (grown_trans HG7.out (grown_below (below_drewN (Below.refl _ _) nq) _)) (grown_set1 g 2 _))
              have HRm := Lib.hid (show Cd.Rf w6 B g A c b at7 true by rw [hw6]; exact (HR7.out.drewN nq).mark true)
              have HHm := Lib.hid (show Has w6 w.heap.size 24 [.int .i64 0, .int .i64 0, .string ⟨#[]⟩, .slice none 0 0] by rw [hw6]; exact (HH7.out.keep (below_drewN (Below.refl _ _) nq)).far (by show w.heap.size ≠ g; omega) _)
              rw [← hw6]
              clear hw6 z0 c0 c1 c2 f1 f2
              have q0 := HHm.out.cell 0
              have q1 := HHm.out.cell 1
              have q2 := HHm.out.cell 2
              have q3 := HHm.out.cell 3
              have f0 := HHm.out.frozen 0
              have f1 := HHm.out.frozen 1
              have f2 := HHm.out.frozen 2
              have f3 := HHm.out.frozen 3
              have qz := HHm.out.lt
              simp only [List.getElem?_cons_succ, List.getElem?_cons_zero] at q0 q1 q2 q3
              have HF := Lib.hid (fun v0 v1 v2 v3 => Cd.rbad4 0 0 ⟨#[]⟩ none 0 0 v0 v1 v2 v3 HGm.out HRm.out hgq)
              go_wp2_with fail
              refine bodyPost_ret (v := .agg #[.int .i64 0, .int .i64 0, .string ⟨#[]⟩, .slice none 0 0]) (by simp [results, Try.results34, go_sem, q0, q1, q2, q3]) rfl ?_
              rw [HDP.out, HE.out]
              exact HF.out _ _ _ _
            | some p =>
              obtain ⟨n, r2⟩ := p
              have hu := (Cd.dn_some hd).2
              have HS2 := Lib.hid (show Cd.dv gap (2 :: r) = if n ≤ r2.length then some (.mk 2 0 (r2.take n) [], r2.drop n) else none by rw [HS.out, Cd.dl, hd]; by_cases h : n ≤ r2.length <;> simp [h])
              rw [hd] at HN
              clear hd HS
              ((with_reducible refine HN.out.mono ?_); rintro e w7 ⟨rfl, hg7, at7, hd7, hR7⟩)
              have HG7 := Lib.hid (grown_trans HG5.out hg7)
              have HR7 := Lib.hid hR7
              have HD7 := Lib.hid hd7
              have HH7 := Lib.hid (HH5.out.grown hg7 (fun e => by injection e with e; omega))
              clear hg7 hR7 hd7
              obtain ⟨⟨z0, c0, c1, c2⟩, f1, f2⟩ := HR7.out.facts
              have hml : b.length = at7 + r2.length := by
                have h := congrArg List.length HD7.out
                have h2 := HR7.out.at_le
                rw [List.length_drop] at h
                omega
              have hm1 : IntKind.i64.wrap ((b.length : Int) - (at7 : Int)) = (r2.length : Int) := (IntWalk.i64_in _ (by omega)).trans (by omega)
              have hm2 : IntKind.u64.wrap (r2.length : Int) = (r2.length : Int) := by rw [Cd.u64_wrap]; omega
              have HML := Lib.hid hml
              clear hml
              by_cases hn : n ≤ r2.length
              · have HE := Lib.hid (show Cd.dv gap (2 :: r) = some (.mk 2 0 (r2.take n) [], r2.drop n) by rw [HS2.out, if_pos hn])
                have hgt : decide ((r2.length : Int) < (n : Int)) = false := decide_eq_false (by omega)
                have hgt2 : decide (r2.length < n) = false := decide_eq_false (by omega)
                have HN7 := Lib.hid hn
                have hr2 : r2.length ≤ 1000000000 := by have := HML.out; omega
                have hw1 : IntKind.i64.wrap (n : Int) = (n : Int) := IntWalk.i64_in _ (by omega)
                have hw2 : IntKind.i64.wrap ((at7 : Int) + (n : Int)) = (at7 : Int) + (n : Int) := IntWalk.i64_in _ (by have := HML.out; omega)
                clear hn HS2
                go_wp2_with fail
                go_quiet (fail)
                go_upto_region 13 with fail
                obtain ⟨w8, hw8⟩ : ∃ w8, w8 = (w7.drewN nq).setCell ⟨g, 1, none⟩ (.int .i64 ((at7 : Int) + (n : Int))) := ⟨_, rfl⟩
                have hle8 : at7 + n ≤ b.length := by have := HML.out; have := HN7.out; omega
                have R8 := Lib.hid (show Cd.Rf w8 B g A c b (at7 + n) false by rw [hw8]; exact (HR7.out.drewN nq).move (at7 + n) hle8)
                have G8 := Lib.hid (show w.grownBy w8 (some g) by rw [hw8]; exact grown_trans (grown_trans HG7.out (grown_below (below_drewN (Below.refl _ _) nq) _)) (grown_set1 g 1 _))
                have H8 := Lib.hid (show Has w8 w.heap.size 24 [.int .i64 0, .int .i64 0, .string ⟨#[]⟩, .slice none 0 0] by rw [hw8]; exact (HH7.out.keep (below_drewN (Below.refl _ _) nq)).far (by show w.heap.size ≠ g; omega) _)
                rw [← hw8]
                clear hw8 z0 c0 c1 c2 f1 f2
                obtain ⟨⟨z0, c0, c1, c2⟩, f1, f2⟩ := R8.out.facts
                rw [show (((at7 + n : Nat) : Int)) = (at7 : Int) + (n : Int) from rfl] at c1
                have q0 := H8.out.cell 0
                have q1 := H8.out.cell 1
                have q2 := H8.out.cell 2
                have q3 := H8.out.cell 3
                have f0 := H8.out.frozen 0
                have f1 := H8.out.frozen 1
                have f2 := H8.out.frozen 2
                have f3 := H8.out.frozen 3
                have qz := H8.out.lt
                simp only [List.getElem?_cons_succ, List.getElem?_cons_zero] at q0 q1 q2 q3
                have hw3 : IntKind.i64.wrap ((at7 : Int) + (n : Int) - (n : Int)) = (at7 : Int) := (IntWalk.i64_in _ (by have := HML.out; omega)).trans (by omega)
                have HLE := R8.out.le
                have HAT := R8.out.mx
                unfold maxLen at HAT
                have HRW := Lib.hid (show ∀ (w' : World), Below w8.heap.size w8 w' → RdB w' (if c = at7 then A else A.map fun x => x.add at7) n (r2.take n) from fun w' hb => by
                  have h1 := Cd.rd_drop R8.out.rd at7 (by omega)
                  rw [HD7.out] at h1
                  have h2 := Cd.rd_take h1 n HN7.out
                  by_cases hc : c = at7
                  · rw [if_pos hc]
                    obtain rfl : n = 0 := by omega
                    exact ⟨by simp, fun h => absurd h (Nat.lt_irrefl _)⟩
                  · rw [if_neg hc]
                    exact (RdB.keep (h2.more (by have := R8.out.lt; have := R8.out.has.lt; omega)) hb))
                have hsn : at7 + n - at7 = n := Nat.add_sub_cancel_left _ _
                have HTL := Lib.hid (show (r2.take n).length ≤ maxLen by unfold maxLen; rw [List.length_take]; omega)
                have HD8 := Lib.hid (show b.drop (at7 + n) = r2.drop n by rw [← HD7.out, List.drop_drop])
                generalize r2.take n = tx at HRW HTL HE
                generalize r2.drop n = r3 at HD8 HE
                have HX := Lib.hid (show Cd.CellX w8.drew (fun d => w.heap.size < d) (.mk 2 0 tx []) [.int .i64 2, .int .i64 0, .string ⟨tx.toArray⟩, .slice none ([] : List Cd.T).length 0] from .mk 2 0 tx [] none 0 [] rfl (fun i hi => absurd hi (by simp)) Rd.none_ (fun b off e => by cases e) (fun _ => rfl) (by simp) HTL.out (by omega) (by omega))
                have HF := Lib.hid (fun v0 v1 v2 v3 => Cd.rfin4 v0 v1 v2 v3 (grown_trans G8.out (grown_below ((Below.refl _ _).drew) _)) R8.out.drew HD8.out hgq HX.out)
                by_cases hc : c = at7
                · rw [if_pos hc] at HRW
                  obtain rfl : c = at7 := hc
                  have hcv := (HRW.out w8.drew ((Below.refl _ _).drew)).str (P := Try.prog) Try.underlying27 Try.underlying5 Try.underlying9 0
                  have hcv2 := hcv
                  rw [← hsn] at hcv
                  clear hsn
                  go_region
                  all_goals (
                    first | done | skip
                    go_wp2_with fail
                    refine bodyPost_ret (v := .agg #[.int .i64 2, .int .i64 0, .string ⟨tx.toArray⟩, .slice none 0 0]) (by simp [results, Try.results34, go_sem, q0, q1, q2, q3]) rfl ?_
                    rw [HDP.out, HE.out]
                    exact HF.out _ _ _ _)
                · rw [if_neg hc] at HRW
                  have hcd : decide (c = at7) = false := decide_eq_false hc
                  have hcv := (HRW.out w8.drew ((Below.refl _ _).drew)).str (P := Try.prog) Try.underlying27 Try.underlying5 Try.underlying9 (c - at7)
                  have hcv2 := hcv
                  rw [← hsn] at hcv
                  clear hsn
                  go_region
                  all_goals (
                    first | done | skip
                    go_wp2_with fail
                    refine bodyPost_ret (v := .agg #[.int .i64 2, .int .i64 0, .string ⟨tx.toArray⟩, .slice none 0 0]) (by simp [results, Try.results34, go_sem, q0, q1, q2, q3]) rfl ?_
                    rw [HDP.out, HE.out]
                    exact HF.out _ _ _ _)
              · have HE := Lib.hid (show Cd.dv gap (2 :: r) = none by rw [HS2.out, if_neg hn])
                have hgt : decide ((r2.length : Int) < (n : Int)) = true := decide_eq_true (by omega)
                have hgt2 : decide (r2.length < n) = true := decide_eq_true (by omega)
                clear hn HS2
                go_wp2_with fail
                go_quiet (fail)
                go_upto_region 11 with fail
                obtain ⟨w6, hw6⟩ : ∃ w6, w6 = (w7.drewN nq).setCell ⟨g, 2, none⟩ (.bool true) := ⟨_, rfl⟩
                have HGm := Lib.hid (show w.grownBy w6 (some g) by rw [hw6]; exact grown_trans (grown_trans HG7.out (grown_below (below_drewN (Below.refl _ _) nq) _)) (grown_set1 g 2 _))
                have HRm := Lib.hid (show Cd.Rf w6 B g A c b at7 true by rw [hw6]; exact (HR7.out.drewN nq).mark true)
                have HHm := Lib.hid (show Has w6 w.heap.size 24 [.int .i64 0, .int .i64 0, .string ⟨#[]⟩, .slice none 0 0] by rw [hw6]; exact (HH7.out.keep (below_drewN (Below.refl _ _) nq)).far (by show w.heap.size ≠ g; omega) _)
                rw [← hw6]
                clear hw6 z0 c0 c1 c2 f1 f2
                have q0 := HHm.out.cell 0
                have q1 := HHm.out.cell 1
                have q2 := HHm.out.cell 2
                have q3 := HHm.out.cell 3
                have f0 := HHm.out.frozen 0
                have f1 := HHm.out.frozen 1
                have f2 := HHm.out.frozen 2
                have f3 := HHm.out.frozen 3
                have qz := HHm.out.lt
                simp only [List.getElem?_cons_succ, List.getElem?_cons_zero] at q0 q1 q2 q3
                have HF := Lib.hid (fun v0 v1 v2 v3 => Cd.rbad4 0 0 ⟨#[]⟩ none 0 0 v0 v1 v2 v3 HGm.out HRm.out hgq)
                go_wp2_with fail
                refine bodyPost_ret (v := .agg #[.int .i64 0, .int .i64 0, .string ⟨#[]⟩, .slice none 0 0]) (by simp [results, Try.results34, go_sem, q0, q1, q2, q3]) rfl ?_
                rw [HDP.out, HE.out]
                exact HF.out _ _ _ _
        · by_cases x3 : x.toNat = 3
          · have ex : x = 3 := UInt8.toNat_inj.1 x3
            subst ex
            have e1 : (((3 : UInt8).toNat : Nat) : Int) = 3 := rfl
            rw [e1]
            clear x1 x2 x3 hx e1
            have HS := Lib.hid (show Cd.dl r = none → Cd.dv gap (3 :: r) = none from fun h => by
              cases gap with
              | zero => rfl
              | succ g0 => rw [Cd.dv_list, h])
            have HN := Lib.hid (Cd.rnumber_any w5 B g A c b (at0 + 1) HR5.out)
            rw [HDR.out] at HN
            clear z0 c0 c1 c2 f1 f2
            go_wp2_with fail
            cases hd : Cd.dn r with
              | none =>
                have HE := Lib.hid (show Cd.dv gap (3 :: r) = none from HS.out (by rw [Cd.dl, hd]))
                rw [hd] at HN
                clear hd HS
                ((with_reducible refine HN.out.mono ?_); rintro e w7 ⟨rfl, hg7, at7, hR7⟩)
                have HG7 := Lib.hid (grown_trans HG5.out hg7)
                have HR7 := Lib.hid hR7
                have HH7 := Lib.hid (HH5.out.grown hg7 (fun e => by injection e with e; omega))
                clear hg7 hR7
                obtain ⟨⟨z0, c0, c1, c2⟩, f1, f2⟩ := HR7.out.facts
                go_wp2_with fail
                go_quiet (fail)
                go_upto_region 18 with fail
                obtain ⟨w6, hw6⟩ : ∃ w6, w6 = (w7.drewN nq).setCell ⟨g, 2, none⟩ (.bool true) := ⟨_, rfl⟩
                have HGm := Lib.hid (show w.grownBy w6 (some g) by rw [hw6]; exact grown_trans (grown_trans HG7.out (grown_below (below_drewN (Below.refl _ _) nq) _)) (grown_set1 g 2 _))
                have HRm := Lib.hid (show Cd.Rf w6 B g A c b at7 true by rw [hw6]; exact (HR7.out.drewN nq).mark true)
                have HHm := Lib.hid (show Has w6 w.heap.size 24 [.int .i64 0, .int .i64 0, .string ⟨#[]⟩, .slice none 0 0] by rw [hw6]; exact (HH7.out.keep (below_drewN (Below.refl _ _) nq)).far (by show w.heap.size ≠ g; omega) _)
                rw [← hw6]
                clear hw6 z0 c0 c1 c2 f1 f2
                have q0 := HHm.out.cell 0
                have q1 := HHm.out.cell 1
                have q2 := HHm.out.cell 2
                have q3 := HHm.out.cell 3
                have f0 := HHm.out.frozen 0
                have f1 := HHm.out.frozen 1
                have f2 := HHm.out.frozen 2
                have f3 := HHm.out.frozen 3
                have qz := HHm.out.lt
                simp only [List.getElem?_cons_succ, List.getElem?_cons_zero] at q0 q1 q2 q3
                have HF := Lib.hid (fun v0 v1 v2 v3 => Cd.rbad4 0 0 ⟨#[]⟩ none 0 0 v0 v1 v2 v3 HGm.out HRm.out hgq)
                go_wp2_with fail
                refine bodyPost_ret (v := .agg #[.int .i64 0, .int .i64 0, .string ⟨#[]⟩, .slice none 0 0]) (by simp [results, Try.results34, go_sem, q0, q1, q2, q3]) rfl ?_
                rw [HDP.out, HE.out]
                exact HF.out _ _ _ _
              | some p =>
                obtain ⟨n, r2⟩ := p
                have hu := (Cd.dn_some hd).2
                have HDL := Lib.hid (show Cd.dl r = if n ≤ r2.length then some (n, r2) else none by rw [Cd.dl, hd])
                rw [hd] at HN
                clear hd
                ((with_reducible refine HN.out.mono ?_); rintro e w7 ⟨rfl, hg7, at7, hd7, hR7⟩)
                have HG7 := Lib.hid (grown_trans HG5.out hg7)
                have HR7 := Lib.hid hR7
                have HD7 := Lib.hid hd7
                have HH7 := Lib.hid (HH5.out.grown hg7 (fun e => by injection e with e; omega))
                clear hg7 hR7 hd7
                obtain ⟨⟨z0, c0, c1, c2⟩, f1, f2⟩ := HR7.out.facts
                have hml : b.length = at7 + r2.length := by
                  have h := congrArg List.length HD7.out
                  have h2 := HR7.out.at_le
                  rw [List.length_drop] at h
                  omega
                have hm1 : IntKind.i64.wrap ((b.length : Int) - (at7 : Int)) = (r2.length : Int) := (IntWalk.i64_in _ (by omega)).trans (by omega)
                have hm2 : IntKind.u64.wrap (r2.length : Int) = (r2.length : Int) := by rw [Cd.u64_wrap]; omega
                have HML := Lib.hid hml
                clear hml
                by_cases hn : n ≤ r2.length
                · have hgt : decide ((r2.length : Int) < (n : Int)) = false := decide_eq_false (by omega)
                  have hgt2 : decide (r2.length < n) = false := decide_eq_false (by omega)
                  cases gap with
                  | zero =>
                    have HE := Lib.hid (show Cd.dv 0 (3 :: r) = none from rfl)
                    have hdd : ((dep : Int) == 16) = true := by simp; omega
                    clear hn HDL HS
                    go_wp2_with fail
                    go_quiet (fail)
                    go_upto_region 18 with fail
                    obtain ⟨w6, hw6⟩ : ∃ w6, w6 = (w7.drewN nq).setCell ⟨g, 2, none⟩ (.bool true) := ⟨_, rfl⟩
                    have HGm := Lib.hid (show w.grownBy w6 (some g) by rw [hw6]; exact grown_trans (grown_trans HG7.out (grown_below (below_drewN (Below.refl _ _) nq) _)) (grown_set1 g 2 _))
                    have HRm := Lib.hid (show Cd.Rf w6 B g A c b at7 true by rw [hw6]; exact (HR7.out.drewN nq).mark true)
                    have HHm := Lib.hid (show Has w6 w.heap.size 24 [.int .i64 0, .int .i64 0, .string ⟨#[]⟩, .slice none 0 0] by rw [hw6]; exact (HH7.out.keep (below_drewN (Below.refl _ _) nq)).far (by show w.heap.size ≠ g; omega) _)
                    rw [← hw6]
                    clear hw6 z0 c0 c1 c2 f1 f2
                    have q0 := HHm.out.cell 0
                    have q1 := HHm.out.cell 1
                    have q2 := HHm.out.cell 2
                    have q3 := HHm.out.cell 3
                    have f0 := HHm.out.frozen 0
                    have f1 := HHm.out.frozen 1
                    have f2 := HHm.out.frozen 2
                    have f3 := HHm.out.frozen 3
                    have qz := HHm.out.lt
                    simp only [List.getElem?_cons_succ, List.getElem?_cons_zero] at q0 q1 q2 q3
                    have HF := Lib.hid (fun v0 v1 v2 v3 => Cd.rbad4 0 0 ⟨#[]⟩ none 0 0 v0 v1 v2 v3 HGm.out HRm.out hgq)
                    go_wp2_with fail
                    refine bodyPost_ret (v := .agg #[.int .i64 0, .int .i64 0, .string ⟨#[]⟩, .slice none 0 0]) (by simp [results, Try.results34, go_sem, q0, q1, q2, q3]) rfl ?_
                    rw [HDP.out, HE.out]
                    exact HF.out _ _ _ _
                  | succ gap =>
                  have hdd : ((dep : Int) == 16) = false := by simp; omega
                  have HN7 := Lib.hid hn
                  have HE := Lib.hid (show Cd.dv (gap + 1) (3 :: r) = (match Cd.dvs (Cd.dv gap) n r2 with | none => none | some (l, r) => some (.mk 3 0 [] l, r)) by rw [Cd.dv_list, HDL.out, if_pos hn]; rfl)
                  have hr2 : r2.length ≤ 1000000000 := by have := HML.out; omega
                  clear hn HDL HS
                  go_wp2_with fail
                  go_quiet (fail)
                  have N0 := Lib.hid (show Has ((w7.drewN nq).alloc (.cells #[.int .i64 0, .int .i64 0, .string ⟨#[]⟩, .slice none 0 0] 24)) w7.heap.size 24 [.int .i64 0, .int .i64 0, .string ⟨#[]⟩, .slice none 0 0] from by
                    have h := Has.new (w7.drewN nq) 24 [.int .i64 0, .int .i64 0, .string ⟨#[]⟩, .slice none 0 0]
                    simpa using h)
                  have p0 := N0.out.cell 0
                  have p1 := N0.out.cell 1
                  have p2 := N0.out.cell 2
                  have p3 := N0.out.cell 3
                  have g0 := N0.out.frozen 0
                  have g1 := N0.out.frozen 1
                  have g2 := N0.out.frozen 2
                  have g3 := N0.out.frozen 3
                  have pz := N0.out.lt
                  simp only [List.getElem?_cons_succ, List.getElem?_cons_zero] at p0 p1 p2 p3
                  go_upto_region 20 with fail
                  clear z0 c0 c1 c2 f1 f2 p0 p1 p2 p3 g0 g1 g2 g3 pz hgt hgt2 hdd hm1 hm2
                  obtain ⟨w8, hw8⟩ : ∃ w8, w8 = ((((((w7.drewN nq).alloc (.cells #[.int .i64 0, .int .i64 0, .string ⟨#[]⟩, .slice none 0 0] 24)).setCell ⟨w7.heap.size, 0, none⟩ (.int .i64 3)).setCell ⟨w7.heap.size, 1, none⟩ (.int .i64 0)).setCell ⟨w7.heap.size, 2, none⟩ (.string ⟨#[]⟩)).setCell ⟨w7.heap.size, 3, none⟩ (.slice none 0 0)) := ⟨_, rfl⟩
                  have hqz7 := HH7.out.lt
                  have hgz7 : g < w7.heap.size := by omega
                  have HL0 := Lib.hid (show Cd.Lq w7 w8 B g 0 [] A c b at7 none 0 [] from by
                    have hB : Below w7.heap.size w7 w8 := by
                      rw [hw8]
                      exact (((((below_drewN (Below.refl _ _) nq).alloc (Nat.le_refl _) _).setCell (Nat.le_refl _) _).setCell (Nat.le_refl _) _).setCell (Nat.le_refl _) _).setCell (Nat.le_refl _) _
                    refine ⟨hgz7, grown_below hB _, HR7.out.keep hB, ?_, rfl, rfl, World.ownsRow_nil _ _ _ _, fun i hi => absurd hi (by omega)⟩
                    rw [hw8]
                    exact (((N0.out.set 0 _).set 1 _).set 2 _).set 3 _)
                  have HQ8 := Lib.hid (fun (wr : World) (h : w7.grownBy wr (some g)) => HH7.out.grown h (fun e => by injection e with e; omega))
                  rw [← hw8]
                  clear hw8 N0
                  have IH := Lib.hid (fun w at_ h2 => show Calls Try.prog 34 #[.pointer (some ⟨g, 0, none⟩), .int .i64 ((dep : Int) + 1)] w (Cd.RetRV w B g A c b (Cd.dv gap (b.drop at_))) from IH0.out gap rfl (dep + 1) w B g A c b at_ (by omega) hlen h2)
                  go_wp2_with fail
                  go_loopw [9] (fun i wr => ∃ (j : Nat), j ≤ n ∧ i = .int .u64 j ∧ Cd.Lz w7 wr B g A c b (Cd.dv gap) n (Cd.dvs (Cd.dv gap) n r2) j) (fun i _ => n - (intOf i).toNat)
                  case atStart => exact ⟨0, by omega, rfl, .inl ⟨[], at7, none, 0, [], HL0.out, by rw [Nat.sub_zero, HD7.out]; cases hdv : Cd.dvs (Cd.dv gap) n r2 with | none => rfl | some p => rfl⟩⟩
                  case round =>
                    obtain ⟨j, hj, rfl, hz⟩ := hrel
                    rcases hz with ⟨lj, at_, Aj, cj, xss, hL, hleft⟩ | ⟨hnone, at_, m, Aj, cj, hRb, hHb, hGb⟩
                    · have HL := Lib.hid hL
                      have HLE := Lib.hid hleft
                      clear hL hleft
                      obtain ⟨⟨z0, c0, c1, c2⟩, f1', f2'⟩ := HL.out.re.facts
                      clear f1' f2'
                      by_cases hlt : j < n
                      · obtain ⟨m, hm⟩ : ∃ m, n - j = m + 1 := ⟨n - j - 1, by omega⟩
                        have HM := Lib.hid hm
                        have HV := Lib.hid (show Calls Try.prog 34 #[.pointer (some ⟨g, 0, none⟩), .int .i64 ((dep : Int) + 1)] wr.drew (Cd.RetRV wr.drew B g A c b (Cd.dv gap (b.drop at_))) from IH.out wr.drew at_ HL.out.re.drew)
                        have HEV := Lib.hid (enters_of Try.func34 (by kernel_rfl) rfl)
                        have p3 := HL.out.has.cell 3
                        have pz := HL.out.has.lt
                        simp only [List.getElem?_cons_succ, List.getElem?_cons_zero] at p3
                        have hw1 : IntKind.i64.wrap ((dep : Int) + 1) = (dep : Int) + 1 := IntWalk.i64_in _ (by omega)
                        have hw2 : IntKind.u64.wrap ((j : Int) + 1) = (j : Int) + 1 := by rw [Cd.u64_wrap]; omega
                        clear hm
                        have HX5 := Lib.hid (show ∀ v5 w5, (Cd.RetRV wr.drew B g A c b (Cd.dv gap (b.drop at_))) (.returned v5) w5 → ∃ k5 n5 s5 A9 m9 c9, v5 = .agg #[.int .i64 k5, .int .i64 n5, .string s5, .slice A9 m9 c9] ∧ (w7.heap.size < w5.heap.size ∧ w5.cell? ⟨w7.heap.size, 3, none⟩ = some (.slice Aj j cj)) ∧ (w7.heap.size < (w5.alloc (.cells #[.int .i64 k5, .int .i64 n5, .string s5, .slice A9 m9 c9] 24)).heap.size ∧ (w5.alloc (.cells #[.int .i64 k5, .int .i64 n5, .string s5, .slice A9 m9 c9] 24)).cell? ⟨w7.heap.size, 3, none⟩ = some (.slice Aj j cj)) ∧ (w5.alloc (.cells #[.int .i64 k5, .int .i64 n5, .string s5, .slice A9 m9 c9] 24)).ownsRow (w7.heap.size + 1) 24 4 (.slice Aj j cj) j xss.flatten ∧
                          Rd (w5.alloc (.cells #[.int .i64 k5, .int .i64 n5, .string s5, .slice A9 m9 c9] 24)) (w5.alloc (.cells #[.int .i64 k5, .int .i64 n5, .string s5, .slice A9 m9 c9] 24)).heap.size 4 (some ⟨w5.heap.size, 0, none⟩) 1 [.int .i64 k5, .int .i64 n5, .string s5, .slice A9 m9 c9] ∧
                          (∀ u ∈ [Value.int .i64 k5, .int .i64 n5, .string s5, .slice A9 m9 c9], u.oneCell' = true) ∧ w7.heap.size + 1 ≤ (w5.alloc (.cells #[.int .i64 k5, .int .i64 n5, .string s5, .slice A9 m9 c9] 24)).heap.size ∧
                          (∀ v8 w8, Grew (w5.alloc (.cells #[.int .i64 k5, .int .i64 n5, .string s5, .slice A9 m9 c9] 24)) (w7.heap.size + 1) 24 4 (.slice Aj j cj) (j + 1) (xss.flatten ++ [.int .i64 k5, .int .i64 n5, .string s5, .slice A9 m9 c9]) v8 w8 →
                            ∃ A8 c8, v8 = .slice A8 (j + 1) c8 ∧ (w7.heap.size < w8.heap.size ∧ w8.cell? ⟨w7.heap.size, 3, none⟩ = some (.slice Aj j cj)) ∧ w8.frozen? ⟨w7.heap.size, 3, none⟩ = false ∧ Cd.Lz w7 (w8.setCell ⟨w7.heap.size, 3, none⟩ (.slice A8 (j + 1) c8)) B g A c b (Cd.dv gap) n (Cd.dvs (Cd.dv gap) n r2) (j + 1)) from fun v5 w5 h5 => by
                          have hgqq := HL.out.has.lt
                          obtain ⟨k5, n5, s5, A9, m9, c9, rfl, hgw, hend⟩ : ∃ k5 n5 s5 A9 m9 c9, v5 = .agg #[.int .i64 k5, .int .i64 n5, .string s5, .slice A9 m9 c9] ∧ wr.grownBy w5 (some g) ∧ (∀ w8 A8 c8, Grew (w5.alloc (.cells #[.int .i64 k5, .int .i64 n5, .string s5, .slice A9 m9 c9] 24)) (w7.heap.size + 1) 24 4 (.slice Aj j cj) (j + 1) (xss.flatten ++ [.int .i64 k5, .int .i64 n5, .string s5, .slice A9 m9 c9]) (.slice A8 (j + 1) c8) w8 → Cd.Lz w7 (w8.setCell ⟨w7.heap.size, 3, none⟩ (.slice A8 (j + 1) c8)) B g A c b (Cd.dv gap) n (Cd.dvs (Cd.dv gap) n r2) (j + 1)) := by
                            cases hd : Cd.dv gap (b.drop at_) with
                            | none =>
                              rw [hd] at h5
                              obtain ⟨⟨k5, n5, s5, A9, m9, c9, e5⟩, hg5, at6, hR6⟩ := h5
                              injection e5 with e5
                              have hgw : wr.grownBy w5 (some g) := grown_pre ((Below.refl _ _).drew) hg5
                              refine ⟨k5, n5, s5, A9, m9, c9, e5, hgw, fun w8 A8 c8 hG => ?_⟩
                              obtain ⟨h1, h2, h3⟩ := HL.out.stop hgw hR6 _ hG
                              refine .inr ⟨?_, at6, j + 1, A8, c8, h1, h2, h3⟩
                              rw [← HLE.out, HM.out, Cd.dvs, hd]
                            | some p =>
                              obtain ⟨t, r3⟩ := p
                              rw [hd] at h5
                              obtain ⟨⟨cs, e5, hX⟩, hg5, at6, hd6, hR6⟩ := h5
                              injection e5 with e5
                              subst e5
                              obtain ⟨A9, c9, rfl⟩ := hX.spell
                              have hgw : wr.grownBy w5 (some g) := grown_pre ((Below.refl _ _).drew) hg5
                              refine ⟨_, _, _, _, _, _, rfl, hgw, fun w8 A8 c8 hG => .inl ⟨lj ++ [t], at6, A8, c8, _, HL.out.next hgw hX hR6 _ hG, ?_⟩⟩
                              have h := HLE.out
                              rw [HM.out, Cd.dvs, hd] at h
                              rw [← h, hd6, show n - (j + 1) = m by have := HM.out; omega]
                              cases hq : Cd.dvs (Cd.dv gap) m r3 <;> simp [hq]
                          have hh5 := HL.out.has.grown hgw (fun e => by injection e with e; omega)
                          have hh6 := hh5.alloc (.cells #[.int .i64 k5, .int .i64 n5, .string s5, .slice A9 m9 c9] 24)
                          have ho5 := own_kept HL.out.own hgw (fun k e => by injection e with e; omega)
                          refine ⟨k5, n5, s5, A9, m9, c9, rfl, ⟨hh5.lt, hh5.cell 3⟩, ⟨hh6.lt, hh6.cell 3⟩, ho5.alloc _, rd_new w5 24 4 _ rfl, by simp [Value.oneCell'], hh6.lt, fun v8 w8 hG => ?_⟩
                          obtain ⟨A8, c8, rfl⟩ := own_slice hG.own
                          have hge : ∀ k, (Value.slice Aj j cj).ownBlock = some k → w7.heap.size + 1 ≤ k := fun k e => (HL.out.own.lt k e).1
                          have hh8 := hh6.grown hG.grown (fun e => by have := hge _ e; omega)
                          exact ⟨A8, c8, rfl, ⟨hh8.lt, hh8.cell 3⟩, hh8.frozen 3, hend w8 A8 c8 hG⟩)
                        have hnn := HN7.out
                        have H63 := Lib.hid (show j + 1 ≤ maxLen by unfold maxLen; omega)
                        have H64 := Lib.hid (show (j + 1) * 56 ≤ 140737488355328 by omega)
                        have hd1 : decide ((j : Int) < (n : Int)) = true := decide_eq_true (by omega)
                        have hd2 : decide (j < n) = true := decide_eq_true (by omega)
                        go_wp2_with fail
                        go_region_law (first
                          | (refine step_callR (Cd.RetRV wr.drew B g A c b (Cd.dv gap (b.drop at_))) 34 (.tmp 130) (.tmp 132) _ (.pointer (some ⟨g, 0, none⟩)) (.int .i64 ((dep : Int) + 1)) (by rfl) (by rfl) HEV.out (by rfl) (by rfl) HV.out Cd.RetRV.way ?_; intro v5 w5 h5; obtain ⟨k5, n5, s5, A9, m9, c9, rfl, ⟨z5, c5⟩, ⟨z6, c6c⟩, ho6, hr6, h16, hb6, hk6⟩ := HX5.out v5 w5 h5; have HO6 := Lib.hid ho6; have HR6' := Lib.hid hr6; have H16 := Lib.hid h16; have HB6 := Lib.hid hb6; have HK6 := Lib.hid hk6; clear h5 ho6 hr6 h16 hb6 hk6)
                          | (refine step_append_rd (by rfl) (.tmp 129) (.tmp 134) (by rfl) elV (by rfl) HO6.out (by rfl) HR6'.out H16.out (fun h => by (cases h)) H63.out H64.out HB6.out ?_; intro v8 w8 hG8; obtain ⟨A8, c8, rfl, ⟨z8, c8c⟩, f8, hL8⟩ := HK6.out v8 w8 hG8; have HL8 := Lib.hid hL8; clear hG8 hL8))
                        all_goals (
                          go_wp2_with fail
                          exact ⟨⟨j + 1, by omega, by go_num, HL8.out⟩, by simp [intOf]; omega⟩)
                      · obtain rfl : j = n := by omega
                        have HE2 := Lib.hid (show Cd.dv (gap + 1) (3 :: r) = some (.mk 3 0 [] lj, b.drop at_) by
                          rw [HE.out, ← HLE.out, Nat.sub_self]
                          simp [Cd.dvs])
                        have HG := Lib.hid (grown_trans HG7.out HL.out.grown)
                        have HQ := Lib.hid (HQ8.out wr HL.out.grown)
                        have HHb := Lib.hid HL.out.has
                        have HX := Lib.hid (show Cd.CellX wr (fun b => w.heap.size < b) (.mk 3 0 [] lj) [.int .i64 3, .int .i64 0, .string ⟨([] : List UInt8).toArray⟩, .slice Aj j cj] by
                          have hl := HL.out.len
                          have h := Cd.CellX.mk (w := wr) (X := fun b => w.heap.size < b) 3 0 [] lj Aj cj xss (by rw [HL.out.xlen, hl]) (fun i hi => (HL.out.cells i (by omega)).turn (Nat.le_refl _) (fun b _ hb => ⟨by have := hb.1; omega, rfl⟩)) (by rw [hl]; exact rd_of_own HL.out.own) (fun b off e _ => by subst e; have h : w7.heap.size + 1 ≤ b := own_ge HL.out.own rfl; show w.heap.size < b; omega) (own_nil HL.out.own) (by have := HN7.out; rw [hl]; unfold maxLen; omega) (by simp) (by omega) (by omega)
                          rw [hl] at h
                          exact h)
                        have HF := Lib.hid (fun v0 v1 v2 v3 => Cd.rfin4 v0 v1 v2 v3 HG.out HL.out.re rfl hgq HX.out)
                        have p0 := HHb.out.cell 0
                        have p1 := HHb.out.cell 1
                        have p2 := HHb.out.cell 2
                        have p3 := HHb.out.cell 3
                        have pz := HHb.out.lt
                        simp only [List.getElem?_cons_succ, List.getElem?_cons_zero] at p0 p1 p2 p3
                        have q0 := HQ.out.cell 0
                        have q1 := HQ.out.cell 1
                        have q2 := HQ.out.cell 2
                        have q3 := HQ.out.cell 3
                        have f0 := HQ.out.frozen 0
                        have f1 := HQ.out.frozen 1
                        have f2 := HQ.out.frozen 2
                        have f3 := HQ.out.frozen 3
                        have qz := HQ.out.lt
                        simp only [List.getElem?_cons_succ, List.getElem?_cons_zero] at q0 q1 q2 q3
                        have hd1 : decide ((j : Int) < (j : Int)) = false := decide_eq_false (by omega)
                        have hd2 : decide (j < j) = false := decide_eq_false (by omega)
                        go_wp2_with fail
                        refine bodyPost_ret (v := .agg #[.int .i64 3, .int .i64 0, .string ⟨#[]⟩, .slice Aj j cj]) (by simp [results, Try.results34, go_sem, q0, q1, q2, q3]) rfl ?_
                        rw [HDP.out, HE2.out]
                        exact HF.out _ _ _ _
                    · have HRb := Lib.hid hRb
                      have HHb := Lib.hid hHb
                      have HQ := Lib.hid (HQ8.out wr hGb)
                      have HE2 := Lib.hid (show Cd.dv (gap + 1) (3 :: r) = none by rw [HE.out, hnone])
                      have HG := Lib.hid (grown_trans HG7.out hGb)
                      have HF := Lib.hid (fun v0 v1 v2 v3 => Cd.rbad4 3 0 ⟨#[]⟩ Aj m cj v0 v1 v2 v3 HG.out HRb.out hgq)
                      clear hRb hHb hGb hnone
                      obtain ⟨⟨z0, c0, c1, c2⟩, f1', f2'⟩ := HRb.out.facts
                      clear f1' f2'
                      have p0 := HHb.out.cell 0
                      have p1 := HHb.out.cell 1
                      have p2 := HHb.out.cell 2
                      have p3 := HHb.out.cell 3
                      have pz := HHb.out.lt
                      simp only [List.getElem?_cons_succ, List.getElem?_cons_zero] at p0 p1 p2 p3
                      have q0 := HQ.out.cell 0
                      have q1 := HQ.out.cell 1
                      have q2 := HQ.out.cell 2
                      have q3 := HQ.out.cell 3
                      have f0 := HQ.out.frozen 0
                      have f1 := HQ.out.frozen 1
                      have f2 := HQ.out.frozen 2
                      have f3 := HQ.out.frozen 3
                      have qz := HQ.out.lt
                      simp only [List.getElem?_cons_succ, List.getElem?_cons_zero] at q0 q1 q2 q3
                      by_cases hlt : j < n
                      · have hd1 : decide ((j : Int) < (n : Int)) = true := decide_eq_true (by omega)
                        have hd2 : decide (j < n) = true := decide_eq_true (by omega)
                        go_wp2_with fail
                        refine bodyPost_ret (v := .agg #[.int .i64 3, .int .i64 0, .string ⟨#[]⟩, .slice Aj m cj]) (by simp [results, Try.results34, go_sem, q0, q1, q2, q3]) rfl ?_
                        rw [HDP.out, HE2.out]
                        exact HF.out _ _ _ _
                      · have hd1 : decide ((j : Int) < (n : Int)) = false := decide_eq_false (by omega)
                        have hd2 : decide (j < n) = false := decide_eq_false (by omega)
                        go_wp2_with fail
                        refine bodyPost_ret (v := .agg #[.int .i64 3, .int .i64 0, .string ⟨#[]⟩, .slice Aj m cj]) (by simp [results, Try.results34, go_sem, q0, q1, q2, q3]) rfl ?_
                        rw [HDP.out, HE2.out]
                        exact HF.out _ _ _ _
                · have HE := Lib.hid (show Cd.dv gap (3 :: r) = none from HS.out (by rw [HDL.out, if_neg hn]))
                  have hgt : decide ((r2.length : Int) < (n : Int)) = true := decide_eq_true (by omega)
                  have hgt2 : decide (r2.length < n) = true := decide_eq_true (by omega)
                  clear hn HDL HS
                  go_wp2_with fail
                  go_quiet (fail)
                  go_upto_region 18 with fail
                  obtain ⟨w6, hw6⟩ : ∃ w6, w6 = (w7.drewN nq).setCell ⟨g, 2, none⟩ (.bool true) := ⟨_, rfl⟩
                  have HGm := Lib.hid (show w.grownBy w6 (some g) by rw [hw6]; exact grown_trans (grown_trans HG7.out (grown_below (below_drewN (Below.refl _ _) nq) _)) (grown_set1 g 2 _))
                  have HRm := Lib.hid (show Cd.Rf w6 B g A c b at7 true by rw [hw6]; exact (HR7.out.drewN nq).mark true)
                  have HHm := Lib.hid (show Has w6 w.heap.size 24 [.int .i64 0, .int .i64 0, .string ⟨#[]⟩, .slice none 0 0] by rw [hw6]; exact (HH7.out.keep (below_drewN (Below.refl _ _) nq)).far (by show w.heap.size ≠ g; omega) _)
                  rw [← hw6]
                  clear hw6 z0 c0 c1 c2 f1 f2
                  have q0 := HHm.out.cell 0
                  have q1 := HHm.out.cell 1
                  have q2 := HHm.out.cell 2
                  have q3 := HHm.out.cell 3
                  have f0 := HHm.out.frozen 0
                  have f1 := HHm.out.frozen 1
                  have f2 := HHm.out.frozen 2
                  have f3 := HHm.out.frozen 3
                  have qz := HHm.out.lt
                  simp only [List.getElem?_cons_succ, List.getElem?_cons_zero] at q0 q1 q2 q3
                  have HF := Lib.hid (fun v0 v1 v2 v3 => Cd.rbad4 0 0 ⟨#[]⟩ none 0 0 v0 v1 v2 v3 HGm.out HRm.out hgq)
                  go_wp2_with fail
                  refine bodyPost_ret (v := .agg #[.int .i64 0, .int .i64 0, .string ⟨#[]⟩, .slice none 0 0]) (by simp [results, Try.results34, go_sem, q0, q1, q2, q3]) rfl ?_
                  rw [HDP.out, HE.out]
                  exact HF.out _ _ _ _
          · have HS := Lib.hid (Cd.dv_bad gap x r x1 x2 x3)
            have e1 : ((x.toNat : Int) == 1) = false := by simp; omega
            have e2 : ((x.toNat : Int) == 2) = false := by simp; omega
            have e3 : ((x.toNat : Int) == 3) = false := by simp; omega
            go_upto_region 26 with fail
            obtain ⟨w6, hw6⟩ : ∃ w6, w6 = w5.setCell ⟨g, 2, none⟩ (.bool true) := ⟨_, rfl⟩
            have HGm := Lib.hid (show w.grownBy w6 (some g) by rw [hw6]; exact grown_trans HG5.out (grown_set1 g 2 _))
            have HRm := Lib.hid (show Cd.Rf w6 B g A c b (at0 + 1) true by rw [hw6]; exact HR5.out.mark true)
            have HHm := Lib.hid (show Has w6 w.heap.size 24 [.int .i64 0, .int .i64 0, .string ⟨#[]⟩, .slice none 0 0] by rw [hw6]; exact HH5.out.far (by show w.heap.size ≠ g; omega) _)
            rw [← hw6]
            clear hw6
            clear z0 c0 c1 c2 f1 f2
            have q0 := HHm.out.cell 0
            have q1 := HHm.out.cell 1
            have q2 := HHm.out.cell 2
            have q3 := HHm.out.cell 3
            have f0 := HHm.out.frozen 0
            have f1 := HHm.out.frozen 1
            have f2 := HHm.out.frozen 2
            have f3 := HHm.out.frozen 3
            have qz := HHm.out.lt
            simp only [List.getElem?_cons_succ, List.getElem?_cons_zero] at q0 q1 q2 q3
            have HF := Lib.hid (fun v0 v1 v2 v3 => Cd.rbad4 0 0 ⟨#[]⟩ none 0 0 v0 v1 v2 v3 HGm.out HRm.out hgq)
            go_wp2_with fail
            refine bodyPost_ret (v := .agg #[.int .i64 0, .int .i64 0, .string ⟨#[]⟩, .slice none 0 0]) (by simp [results, Try.results34, go_sem, q0, q1, q2, q3]) rfl ?_
            rw [HDP.out, HS.out]
            exact HF.out _ _ _ _
theorem Cd.rvalue_any (gap : Nat) : ∀ (dep : Nat) (w : World) (B g : Nat) (A : Option Addr) (c : Nat) (b : List UInt8) (at0 : Nat), dep + gap = 16 → b.length ≤ 1000000000 → Cd.Rf w B g A c b at0 false →
    Calls Try.prog 34 #[.pointer (some ⟨g, 0, none⟩), .int .i64 (dep : Int)] w (Cd.RetRV w B g A c b (Cd.dv gap (b.drop at0))) := by
  induction gap with
  | zero => exact Cd.rvalue_step 0 (fun g0 h => by omega)
  | succ gap ih => exact Cd.rvalue_step (gap + 1) (fun g0 h => by obtain rfl : gap = g0 := by omega
                                                                  exact ih)
end Go.Proofs.Ytnhodcjbmloeeaa
