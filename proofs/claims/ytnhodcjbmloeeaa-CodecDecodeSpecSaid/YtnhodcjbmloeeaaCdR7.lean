/- Equality of plain values; contract of the reference's Same. -/
import Derived.StillTailTactics
import Derived.Test.YtnhodcjbmloeeaaCdT2
namespace Go.Proofs.Ytnhodcjbmloeeaa
open Go.RowKit
set_option linter.unusedVariables false

mutual
/-- are two values equal -/
def Cd.T.sm : Cd.T → Cd.T → Bool
  | .mk k n s l, .mk k' n' s' l' => (k == k') && ((n == n') && ((s == s') && Cd.T.sms l l'))
def Cd.T.sms : List Cd.T → List Cd.T → Bool
  | [], [] => true
  | x :: l, y :: m => Cd.T.sm x y && Cd.T.sms l m
  | _, _ => false
end
mutual
theorem Cd.T.sm_iff : ∀ (a b : Cd.T), a.sm b = true ↔ a = b
  | .mk k n s l, .mk k' n' s' l' => by
    rw [Cd.T.sm]
    have h := Cd.T.sms_iff l l'
    simp only [Bool.and_eq_true, beq_iff_eq, h, Cd.T.mk.injEq]
theorem Cd.T.sms_iff : ∀ (l m : List Cd.T), Cd.T.sms l m = true ↔ l = m
  | [], [] => by simp [Cd.T.sms]
  | [], y :: m => by simp [Cd.T.sms]
  | x :: l, [] => by simp [Cd.T.sms]
  | x :: l, y :: m => by
    have h1 := Cd.T.sm_iff x y
    have h2 := Cd.T.sms_iff l m
    simp only [Cd.T.sms, Bool.and_eq_true, h1, h2, List.cons.injEq]
end
theorem Cd.T.sm_no {a b : Cd.T} (h : a ≠ b) : a.sm b = false := by
  cases hb : a.sm b with
  | false => rfl
  | true => exact absurd ((Cd.T.sm_iff a b).1 hb) h
theorem Cd.T.sm_yes (a : Cd.T) : a.sm a = true := (Cd.T.sm_iff a a).2 rfl
theorem Cd.take_eq_next {l m : List Cd.T} (j : Nat) (h1 : j < l.length) (h2 : j < m.length) (h : l.take j = m.take j) (e : l[j]! = m[j]!) : l.take (j + 1) = m.take (j + 1) := by
  rw [List.take_succ_eq_append_getElem h1, List.take_succ_eq_append_getElem h2, h]
  rw [getElem!_pos l j h1, getElem!_pos m j h2] at e
  rw [e]

set_option maxRecDepth 100000 in
set_option maxHeartbeats 8000000 in
theorem Cd.rsame_any : ∀ (h : Nat) (a b : Cd.T) (cs ds : List Value) (w : World), a.hgt ≤ h → Cd.Cell w a cs → Cd.Cell w b ds →
    Calls Try.prog 20 #[.agg cs.toArray, .agg ds.toArray] w fun e w' => e = .returned (.bool (a.sm b)) ∧ Below w.heap.size w w'
  | 0, a, b, cs, ds, w, hh, _, _ => by cases a; rw [Cd.T.hgt] at hh; omega
  | h + 1, a, b, cs, ds, w, hh, hca, hcb => by
    have IH := Lib.hid (fun a b cs ds w h1 h2 h3 => Cd.rsame_any h a b cs ds w h1 h2 h3)
    cases hca with
    | mk k n s l A c xss hl hx hr hn hm hs =>
    cases hcb with
    | mk k' n' s' l' A' c' xss' hl' hx' hr' hn' hm' hs' =>
    rw [Cd.T.hgt] at hh
    have HX := Lib.hid hx
    have HR := Lib.hid hr
    have HLX := Lib.hid hl
    have HX' := Lib.hid hx'
    have HR' := Lib.hid hr'
    have HLX' := Lib.hid hl'
    have HHG := Lib.hid hh
    clear hx hr hl hn hs hh hx' hr' hl' hn' hs'
    unfold maxLen at hm hm'
    obtain ⟨w0, hw0⟩ : ∃ w0, w0 = (w.alloc (.cells #[.int .i64 k, .int .i64 n, .string ⟨s.toArray⟩, .slice A l.length c] 24)).alloc (.cells #[.int .i64 k', .int .i64 n', .string ⟨s'.toArray⟩, .slice A' l'.length c'] 24) := ⟨_, rfl⟩
    have HB0 := Lib.hid (show Below w.heap.size w w0 by rw [hw0]; exact below_two _ _ _)
    have HH0 := Lib.hid (show Has w0 w.heap.size 24 [.int .i64 k, .int .i64 n, .string ⟨s.toArray⟩, .slice A l.length c] by rw [hw0]; exact (Has.new _ _ _).alloc _)
    have HH0' := Lib.hid (show Has w0 (w.heap.size + 1) 24 [.int .i64 k', .int .i64 n', .string ⟨s'.toArray⟩, .slice A' l'.length c'] by rw [hw0]; have h := Has.new (w.alloc (.cells #[.int .i64 k, .int .i64 n, .string ⟨s.toArray⟩, .slice A l.length c] 24)) 24 [.int .i64 k', .int .i64 n', .string ⟨s'.toArray⟩, .slice A' l'.length c']; rw [World.size_alloc] at h; exact h)
    have HW0 := Lib.hid hw0
    clear hw0
    have z0 := HH0.out.lt
    have z0' := HH0'.out.lt
    have c0 := HH0.out.cell 0
    have c1 := HH0.out.cell 1
    have c2 := HH0.out.cell 2
    have c3 := HH0.out.cell 3
    have c0' := HH0'.out.cell 0
    have c1' := HH0'.out.cell 1
    have c2' := HH0'.out.cell 2
    have c3' := HH0'.out.cell 3
    simp only [List.getElem?_cons_succ, List.getElem?_cons_zero] at c0 c1 c2 c3 c0' c1' c2' c3'
    by_cases hk : k = k'
    · subst hk
      by_cases hn : n = n'
      · subst hn
        by_cases hs : s = s'
        · subst hs
          by_cases hll : l.length = l'.length
          · have HLL := Lib.hid hll
            have hlb : ((l.length : Int) != (l'.length : Int)) = false := by rw [hll]; simp
            clear hll
            go_enter Try.func20, Try.ntmps20
            go_upto_region 1 with fail
            rw [← HW0.out]
            go_wp2_with fail
            clear c0 c1 c2 c3 c0' c1' c2' c3' z0 z0' hlb
            go_loopw [5] (fun i wr => ∃ j : Nat, j ≤ l.length ∧ i = .int .i64 j ∧ l.take j = l'.take j ∧ Below w0.heap.size w0 wr) (fun i _ => l.length - (intOf i).toNat)
            case atStart => exact ⟨0, by omega, rfl, by simp, Below.refl _ _⟩
            case round =>
              obtain ⟨j, hj, rfl, htk, hB⟩ := hrel
              have HTK := Lib.hid htk
              have HBr := Lib.hid hB
              have HB := Lib.hid (HB0.out.trans (hB.mono HB0.out.size))
              have HHr := Lib.hid (HH0.out.keep hB)
              have HHr' := Lib.hid (HH0'.out.keep hB)
              clear htk hB
              have zr := HHr.out.lt
              have zr' := HHr'.out.lt
              have c3 := HHr.out.cell 3
              have c3' := HHr'.out.cell 3
              simp only [List.getElem?_cons_succ, List.getElem?_cons_zero] at c3 c3'
              by_cases hlt : j < l.length
              · have hlt' : j < l'.length := by have := HLL.out; omega
                obtain ⟨b, off, v0, v1, v2, Av, nv, cv, rfl, hbw, hv, e0, e1, e2, e3⟩ := Cd.cell4 HLX.out (fun i hi => (HX.out i hi).keep HB.out) ((HR.out.below HB.out (Nat.le_refl _)).more HB.out.size) j hlt
                obtain ⟨b', off', v0', v1', v2', Av', nv', cv', rfl, hbw', hv', e0', e1', e2', e3'⟩ := Cd.cell4 HLX'.out (fun i hi => (HX'.out i hi).keep HB.out) ((HR'.out.below HB.out (Nat.le_refl _)).more HB.out.size) j hlt'
                have HC := Lib.hid (show Cd.Cell wr.drew l[j]! [.int .i64 v0, .int .i64 v1, .string v2, .slice Av nv cv] by rw [← hv]; exact ((HX.out j hlt).keep HB.out).keep ((Below.refl _ _).drew))
                have HC' := Lib.hid (show Cd.Cell wr.drew l'[j]! [.int .i64 v0', .int .i64 v1', .string v2', .slice Av' nv' cv'] by rw [← hv']; exact ((HX'.out j hlt').keep HB.out).keep ((Below.refl _ _).drew))
                have hmem : l[j]! ∈ l := by rw [getElem!_pos l j hlt]; exact List.getElem_mem _
                have HH := Lib.hid (show (l[j]!).hgt ≤ h by have h1 := Cd.T.hgts_mem hmem; have h2 := HHG.out; omega)
                have HNX := Lib.hid (Cd.take_eq_next j hlt hlt' HTK.out)
                have HNE := Lib.hid (show l[j]! ≠ l'[j]! → (Cd.T.mk k n s l).sm (.mk k n s l') = false from fun h => Cd.T.sm_no (fun e => h (by injection e with _ _ _ e; rw [e])))
                clear hv hv' hmem
                generalize l[j]! = x at HC HH HNX HNE
                generalize l'[j]! = y at HC' HNX HNE
                have HBD := Lib.hid (show Below w0.heap.size w0 wr.drew from HBr.out.drew)
                go_wp2_with fail
                go_still_tail 10, (by kernel_rfl)
                change wpList _ _ _ _ _ wr.drew
                generalize wr.drew = w2 at HC HC' HBD
                by_cases hxy : x = y
                · have HXY := Lib.hid hxy
                  have HI := Lib.hid (IH.out x y [.int .i64 v0, .int .i64 v1, .string v2, .slice Av nv cv] [.int .i64 v0', .int .i64 v1', .string v2', .slice Av' nv' cv'] w2 HH.out HC.out HC'.out)
                  rw [(Cd.T.sm_iff x y).2 hxy] at HI
                  clear hxy
                  go_wp2_with ((with_reducible refine HI.out.mono ?_); rintro e w5 ⟨rfl, hb5⟩; have HB5 := Lib.hid (HBD.out.trans (hb5.mono HBD.out.size)); clear hb5)
                  exact ⟨⟨j + 1, by omega, by go_num, HNX.out HXY.out, HB5.out⟩, by simp [intOf]; omega⟩
                · have HE := Lib.hid (HNE.out hxy)
                  have HI := Lib.hid (IH.out x y [.int .i64 v0, .int .i64 v1, .string v2, .slice Av nv cv] [.int .i64 v0', .int .i64 v1', .string v2', .slice Av' nv' cv'] w2 HH.out HC.out HC'.out)
                  rw [Cd.T.sm_no hxy] at HI
                  clear hxy
                  go_wp2_with ((with_reducible refine HI.out.mono ?_); rintro e w5 ⟨rfl, hb5⟩; have HB5 := Lib.hid (HBD.out.trans (hb5.mono HBD.out.size)); clear hb5)
                  go_ret
                  exact ⟨by rw [HE.out]; rfl, HB0.out.trans (HB5.out.mono HB0.out.size)⟩
              · obtain rfl : j = l.length := by omega
                have HE := Lib.hid (show (Cd.T.mk k n s l).sm (.mk k n s l') = true by
                  have h := HTK.out
                  rw [List.take_length, HLL.out, List.take_length] at h
                  rw [h]
                  exact Cd.T.sm_yes _)
                go_wp2_with fail
                go_ret
                exact ⟨by rw [HE.out]; rfl, HB.out⟩
          · have HE := Lib.hid (show (Cd.T.mk k n s l).sm (.mk k n s l') = false from Cd.T.sm_no (fun e => hll (by injection e with _ _ _ e; rw [e])))
            have hlb : ((l.length : Int) != (l'.length : Int)) = true := by simp; omega
            go_enter Try.func20, Try.ntmps20
            go_upto_region 1 with fail
            rw [← HW0.out]
            go_wp2_with fail
            go_ret
            exact ⟨by rw [HE.out]; rfl, HB0.out⟩
        · have HE := Lib.hid (show (Cd.T.mk k n s l).sm (.mk k n s' l') = false from Cd.T.sm_no (fun e => hs (by injection e)))
          go_enter Try.func20, Try.ntmps20
          go_upto_region 1 with fail
          rw [← HW0.out]
          go_wp2_with fail
          go_ret
          exact ⟨by rw [HE.out]; rfl, HB0.out⟩
      · have HE := Lib.hid (show (Cd.T.mk k n s l).sm (.mk k n' s' l') = false from Cd.T.sm_no (fun e => hn (by injection e)))
        have hb1 : (n != n') = true := by simpa using hn
        go_enter Try.func20, Try.ntmps20
        go_upto_region 1 with fail
        rw [← HW0.out]
        go_wp2_with fail
        go_ret
        exact ⟨by rw [HE.out]; rfl, HB0.out⟩
    · have HE := Lib.hid (show (Cd.T.mk k n s l).sm (.mk k' n' s' l') = false from Cd.T.sm_no (fun e => hk (by injection e)))
      have hb1 : (k != k') = true := by simpa using hk
      go_enter Try.func20, Try.ntmps20
      go_upto_region 1 with fail
      rw [← HW0.out]
      go_wp2_with fail
      go_ret
      exact ⟨by rw [HE.out]; rfl, HB0.out⟩
end Go.Proofs.Ytnhodcjbmloeeaa
