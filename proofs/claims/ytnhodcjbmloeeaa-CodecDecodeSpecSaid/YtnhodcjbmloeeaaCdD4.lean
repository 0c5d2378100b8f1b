/- Contract of the reader's value. -/
import Derived.Test.YtnhodcjbmloeeaaCdD3
namespace Go.Proofs.Ytnhodcjbmloeeaa
open Go.RowKit Go.Shelf
set_option linter.unusedVariables false

theorem Cd.dv_nil (g : Nat) : Cd.dv g [] = none := by cases g <;> rfl
theorem Cd.fin4 {w w9 : World} {B g : Nat} {A : Option Addr} {c : Nat} {r : List UInt8} {t : Cd.T} {cs : List Value} (v0 v1 v2 v3 : Value) (hG : w.grownBy w9 (some g)) (hR : Cd.Re w9 B g A c r) (hgq : g < w.heap.size) (hX : Cd.CellX w9 (fun b => w.heap.size < b) t cs) :
    Cd.RetV w B g (some (t, r)) (.returned (.agg cs.toArray)) ((((w9.setCell ⟨w.heap.size, 0, none⟩ v0).setCell ⟨w.heap.size, 1, none⟩ v1).setCell ⟨w.heap.size, 2, none⟩ v2).setCell ⟨w.heap.size, 3, none⟩ v3) := by
  refine ⟨⟨cs, rfl, hX.turn (by simp) fun b hb hq => ⟨Nat.le_of_lt hq, ?_⟩⟩, ?_, A, c, (((hR.set hgq v0).set hgq v1).set hgq v2).set hgq v3⟩
  · have hne : b ≠ w.heap.size := by omega
    rw [Below.heap_setCell _ _ _ b hne, Below.heap_setCell _ _ _ b hne, Below.heap_setCell _ _ _ b hne, Below.heap_setCell _ _ _ b hne]
  · exact grown_setCell (grown_setCell (grown_setCell (grown_setCell hG (Nat.le_refl _) _) (Nat.le_refl _) _) (Nat.le_refl _) _) (Nat.le_refl _) _

set_option maxRecDepth 100000 in
set_option maxHeartbeats 16000000 in
theorem Cd.value_step (gap : Nat) (IH0 : ∀ g0, gap = g0 + 1 → ∀ (dep : Nat) (w : World) (B g : Nat) (A : Option Addr) (c : Nat) (b : List UInt8), dep + g0 = 16 → b.length ≤ 1000000000 → Cd.Re w B g A c b →
      Calls Try.prog 32 #[.pointer (some ⟨g, 0, none⟩), .int .i64 (dep : Int)] w (Cd.RetV w B g (Cd.dv g0 b)))
    (dep : Nat) (w : World) (B g : Nat) (A : Option Addr) (c : Nat) (b : List UInt8) (hgap : dep + gap = 16) (hlen : b.length ≤ 1000000000) (hR : Cd.Re w B g A c b) :
    Calls Try.prog 32 #[.pointer (some ⟨g, 0, none⟩), .int .i64 (dep : Int)] w (Cd.RetV w B g (Cd.dv gap b)) := by
    have IH0 := Lib.hid IH0
    obtain ⟨w0, hw0⟩ : ∃ w0, w0 = w.alloc (.cells #[.int .i64 0, .int .i64 0, .string ⟨#[]⟩, .slice none 0 0] 24) := ⟨_, rfl⟩
    have HB0 := Lib.hid (show Below w.heap.size w w0 by rw [hw0]; exact (Below.refl _ _).alloc (Nat.le_refl _) _)
    have HH0 := Lib.hid (show Has w0 w.heap.size 24 [.int .i64 0, .int .i64 0, .string ⟨#[]⟩, .slice none 0 0] by rw [hw0]; exact Has.new _ _ _)
    have hgq : g < w.heap.size := hR.has.lt
    have HR0 := Lib.hid (hR.keep HB0.out)
    have HW0 := Lib.hid hw0
    clear hw0 hR
    cases b with
    | nil =>
      have HTN := Lib.hid (show Calls Try.prog 44 #[.pointer (some ⟨g, 0, none⟩), .int .i64 1] w0 (Cd.RetB w0 g) from Cd.take_no w0 B g A c [] 1 HR0.out (by simp))
      have HS := Lib.hid (Cd.dv_nil gap)
      go_enter Try.func32, Try.ntmps32
      go_upto_region 1 with fail
      rw [← HW0.out]
      go_wp2_with fail
      (with_reducible refine HTN.out.mono ?_)
      rintro e w5 ⟨rfl, hg5⟩
      refine ⟨rfl, ?_⟩
      rw [HS.out]
      exact ⟨rfl, grown_pre HB0.out hg5⟩
    | cons x r =>
      have HTY := Lib.hid (show Calls Try.prog 44 #[.pointer (some ⟨g, 0, none⟩), .int .i64 1] w0 (Cd.RetT w0 B g (x :: r) 1) from Cd.take_yes w0 B g A c (x :: r) 1 HR0.out (by simp))
      have hrl : r.length < 1000000000 := by rw [List.length_cons] at hlen; omega
      clear hlen
      go_enter Try.func32, Try.ntmps32
      go_upto_region 1 with fail
      rw [← HW0.out]
      go_wp2_with fail
      (with_reducible refine HTY.out.mono ?_)
      rintro e w5 ⟨A3, A2, c2, rfl, hg5, hr5, hR5⟩
      obtain ⟨b3, off3, rfl, hb3, hcell⟩ := Cd.byte1 hr5
      have hz3 : b3 < w5.heap.size := by have := hR5.lt; have := hR5.has.lt; omega
      have HG5 := Lib.hid (grown_pre HB0.out hg5)
      have HR5 := Lib.hid (show Cd.Re w5 B g A2 c2 r from hR5)
      have HH5 := Lib.hid (HH0.out.grown hg5 (fun e => by injection e with e; omega))
      clear hg5 hr5 hR5
      have hx := x.toNat_lt
      have q0 := HH5.out.cell 0
      have qf := HH5.out.frozen 0
      have qz := HH5.out.lt
      simp only [List.getElem?_cons_zero] at q0
      go_upto_region 2 with fail
      obtain ⟨w6, hw6⟩ : ∃ w6, w6 = w5.setCell ⟨w.heap.size, 0, none⟩ (.int .i64 (x.toNat : Int)) := ⟨_, rfl⟩
      have HG6 := Lib.hid (show w.grownBy w6 (some g) by rw [hw6]; exact grown_setCell HG5.out (Nat.le_refl _) _)
      have HR6 := Lib.hid (show Cd.Re w6 B g A2 c2 r by rw [hw6]; exact HR5.out.set hgq _)
      have HH6 := Lib.hid (show Has w6 w.heap.size 24 [.int .i64 (x.toNat : Int), .int .i64 0, .string ⟨#[]⟩, .slice none 0 0] by rw [hw6]; exact HH5.out.set 0 _)
      rw [← hw6]
      clear hw6 q0 qf qz hcell hz3 hb3
      by_cases x1 : x.toNat = 1
      · have ex : x = 1 := UInt8.toNat_inj.1 x1
        subst ex
        have HS := Lib.hid (Cd.dv_int gap r)
        rw [show (((1 : UInt8).toNat : Nat) : Int) = 1 from rfl] at HH6
        have q0 := HH6.out.cell 0
        have qz := HH6.out.lt
        simp only [List.getElem?_cons_zero] at q0
        clear x1 hx
        have HN := Lib.hid (Cd.number_any w6 B g A2 c2 r HR6.out)
        go_wp2_with fail
        cases hd : Cd.dn r with
        | none =>
          rw [hd] at HN HS
          clear hd
          (with_reducible refine HN.out.mono ?_)
          rintro e w7 ⟨rfl, hg7⟩
          refine ⟨rfl, ?_⟩
          rw [HS.out]
          exact ⟨rfl, grown_trans HG6.out hg7⟩
        | some p =>
          obtain ⟨u, r2⟩ := p
          have hu := (Cd.dn_some hd).2
          rw [hd] at HN HS
          clear hd
          (with_reducible refine HN.out.mono ?_)
          rintro e w7 ⟨rfl, hg7, A7, c7, hR7⟩
          have HG7 := Lib.hid (grown_trans HG6.out hg7)
          have HR7 := Lib.hid hR7
          have HH7 := Lib.hid (HH6.out.grown hg7 (fun e => by injection e with e; omega))
          clear hg7 hR7 q0 qz
          have q1 := HH7.out.cell 1
          have f1 := HH7.out.frozen 1
          have qz := HH7.out.lt
          simp only [List.getElem?_cons_succ, List.getElem?_cons_zero] at q1
          have HSG := Lib.hid (Cd.sgn_in u hu)
          go_upto_region 14 with ((with_reducible refine (Cd.signed_any u _ hu).mono ?_); rintro e w8 ⟨rfl, rfl⟩)
          generalize hsu : Cd.sgn u = su at HS HSG
          obtain ⟨w9, hw9⟩ : ∃ w9, w9 = w7.setCell ⟨w.heap.size, 1, none⟩ (.int .i64 su) := ⟨_, rfl⟩
          have HG9 := Lib.hid (show w.grownBy w9 (some g) by rw [hw9]; exact grown_setCell HG7.out (Nat.le_refl _) _)
          have HR9 := Lib.hid (show Cd.Re w9 B g A7 c7 r2 by rw [hw9]; exact HR7.out.set hgq _)
          have HH9 := Lib.hid (show Has w9 w.heap.size 24 [.int .i64 1, .int .i64 su, .string ⟨#[]⟩, .slice none 0 0] by rw [hw9]; exact HH7.out.set 1 _)
          rw [← hw9]
          clear hw9 q1 f1 qz hsu
          have q0 := HH9.out.cell 0
          have q1 := HH9.out.cell 1
          have q2 := HH9.out.cell 2
          have q3 := HH9.out.cell 3
          have f0 := HH9.out.frozen 0
          have f1 := HH9.out.frozen 1
          have f2 := HH9.out.frozen 2
          have f3 := HH9.out.frozen 3
          have qz := HH9.out.lt
          simp only [List.getElem?_cons_succ, List.getElem?_cons_zero] at q0 q1 q2 q3
          have HX := Lib.hid (show Cd.CellX w9 (fun b => w.heap.size < b) (.mk 1 su [] []) [.int .i64 1, .int .i64 su, .string ⟨([] : List UInt8).toArray⟩, .slice none ([] : List Cd.T).length 0] from .mk 1 su [] [] none 0 [] rfl (fun i hi => absurd hi (by simp)) Rd.none_ (fun b off e => by cases e) (fun _ => rfl) (by simp) (by simp) (by omega) HSG.out)
          have HF := Lib.hid (fun v0 v1 v2 v3 => Cd.fin4 v0 v1 v2 v3 HG9.out HR9.out hgq HX.out)
          go_wp2_with fail
          refine bodyPost_ret (v := .agg #[.int .i64 1, .int .i64 su, .string ⟨([] : List UInt8).toArray⟩, .slice none ([] : List Cd.T).length 0]) (by simp [results, Try.results32, go_sem, q0, q1, q2, q3]) rfl ?_
          rw [HS.out]
          exact HF.out _ _ _ _
      · by_cases x2 : x.toNat = 2
        · have ex : x = 2 := UInt8.toNat_inj.1 x2
          subst ex
          have HS := Lib.hid (Cd.dv_text gap r)
          rw [show (((2 : UInt8).toNat : Nat) : Int) = 2 from rfl] at HH6
          have q0 := HH6.out.cell 0
          have qz := HH6.out.lt
          simp only [List.getElem?_cons_zero] at q0
          clear x1 x2 hx
          have HN := Lib.hid (Cd.length_any w6 B g A2 c2 r HR6.out)
          go_wp2_with fail
          cases hd : Cd.dl r with
          | none =>
            rw [hd] at HN HS
            clear hd
            (with_reducible refine HN.out.mono ?_)
            rintro e w7 ⟨rfl, hg7⟩
            refine ⟨rfl, ?_⟩
            rw [HS.out]
            exact ⟨rfl, grown_trans HG6.out hg7⟩
          | some p =>
            obtain ⟨n, r2⟩ := p
            obtain ⟨hrr, hn, _⟩ := Cd.dl_some hd
            have hrl2 : r2.length < 1000000000 := by have h := congrArg List.length hrr; rw [List.length_append] at h; omega
            rw [hd] at HN HS
            clear hd hrr
            (with_reducible refine HN.out.mono ?_)
            rintro e w7 ⟨rfl, hg7, A7, c7, hR7⟩
            have HG7 := Lib.hid (grown_trans HG6.out hg7)
            have HTK := Lib.hid (Cd.take_yes w7 B g A7 c7 r2 n hR7 hn)
            have HH7 := Lib.hid (HH6.out.grown hg7 (fun e => by injection e with e; omega))
            clear hg7 hR7 q0 qz
            go_wp2_with fail
            (with_reducible refine HTK.out.mono ?_)
            rintro e w8 ⟨A8, A9, c9, rfl, hg8, hr8, hR8⟩
            have HG8 := Lib.hid (grown_trans HG7.out hg8)
            have HR8 := Lib.hid hR8
            have HH8 := Lib.hid (HH7.out.grown hg8 (fun e => by injection e with e; omega))
            have y8 := (RdB.str (P := Try.prog) (w := w8) (A := A8) (n := n) (l := r2.take n) (hr8.more (by have := hR8.lt; have := hR8.has.lt; omega)) Try.underlying27 Try.underlying5 Try.underlying9 n)
            clear hg8 hr8 hR8
            have q2 := HH8.out.cell 2
            have f2 := HH8.out.frozen 2
            have qz := HH8.out.lt
            simp only [List.getElem?_cons_succ, List.getElem?_cons_zero] at q2
            go_upto_region 14 with fail
            clear y8
            have HTL := Lib.hid (show (r2.take n).length ≤ maxLen by unfold maxLen; rw [List.length_take]; omega)
            generalize r2.take n = tx at HS HTL
            generalize r2.drop n = r3 at HS HR8
            obtain ⟨w9, hw9⟩ : ∃ w9, w9 = w8.setCell ⟨w.heap.size, 2, none⟩ (.string ⟨tx.toArray⟩) := ⟨_, rfl⟩
            have HG9 := Lib.hid (show w.grownBy w9 (some g) by rw [hw9]; exact grown_setCell HG8.out (Nat.le_refl _) _)
            have HR9 := Lib.hid (show Cd.Re w9 B g A9 c9 r3 by rw [hw9]; exact HR8.out.set hgq _)
            have HH9 := Lib.hid (show Has w9 w.heap.size 24 [.int .i64 2, .int .i64 0, .string ⟨tx.toArray⟩, .slice none 0 0] by rw [hw9]; exact HH8.out.set 2 _)
            rw [← hw9]
            clear hw9 q2 f2 qz
            have q0 := HH9.out.cell 0
            have q1 := HH9.out.cell 1
            have q2 := HH9.out.cell 2
            have q3 := HH9.out.cell 3
            have f0 := HH9.out.frozen 0
            have f1 := HH9.out.frozen 1
            have f2 := HH9.out.frozen 2
            have f3 := HH9.out.frozen 3
            have qz := HH9.out.lt
            simp only [List.getElem?_cons_succ, List.getElem?_cons_zero] at q0 q1 q2 q3
            have HX := Lib.hid (show Cd.CellX w9 (fun b => w.heap.size < b) (.mk 2 0 tx []) [.int .i64 2, .int .i64 0, .string ⟨tx.toArray⟩, .slice none ([] : List Cd.T).length 0] from .mk 2 0 tx [] none 0 [] rfl (fun i hi => absurd hi (by simp)) Rd.none_ (fun b off e => by cases e) (fun _ => rfl) (by simp) HTL.out (by omega) (by omega))
            have HF := Lib.hid (fun v0 v1 v2 v3 => Cd.fin4 v0 v1 v2 v3 HG9.out HR9.out hgq HX.out)
            go_wp2_with fail
            refine bodyPost_ret (v := .agg #[.int .i64 2, .int .i64 0, .string ⟨tx.toArray⟩, .slice none ([] : List Cd.T).length 0]) (by simp [results, Try.results32, go_sem, q0, q1, q2, q3]) rfl ?_
            rw [HS.out]
            exact HF.out _ _ _ _
        · by_cases x3 : x.toNat = 3
          · have ex : x = 3 := UInt8.toNat_inj.1 x3
            subst ex
            rw [show (((3 : UInt8).toNat : Nat) : Int) = 3 from rfl] at HH6
            have q0 := HH6.out.cell 0
            have qz := HH6.out.lt
            simp only [List.getElem?_cons_zero] at q0
            clear x1 x2 x3 hx
            cases gap with
            | zero =>
              have hdd : decide ((dep : Int) < 16) = false := decide_eq_false (by omega)
              have HS := Lib.hid (show Cd.dv 0 (3 :: r) = none from rfl)
              go_wp2_with ((with_reducible refine (Cd.want_no _ _).mono ?_); rintro e w7 ⟨rfl, rfl⟩)
              refine ⟨rfl, ?_⟩
              rw [HS.out]
              exact ⟨rfl, HG6.out⟩
            | succ gap =>
            have IH := Lib.hid (fun w A c b h1 h2 => show Calls Try.prog 32 #[.pointer (some ⟨g, 0, none⟩), .int .i64 ((dep : Int) + 1)] w (Cd.RetV w B g (Cd.dv gap b)) from IH0.out gap rfl (dep + 1) w B g A c b (by omega) h1 h2)
            have hdd : decide ((dep : Int) < 16) = true := decide_eq_true (by omega)
            have HS := Lib.hid (Cd.dv_list gap r)
            have HN := Lib.hid (Cd.length_any w6 B g A2 c2 r HR6.out)
            go_wp2_with ((with_reducible refine (Cd.want_yes _ _).mono ?_); rintro e w7 ⟨rfl, rfl⟩)
            cases hd : Cd.dl r with
            | none =>
              rw [hd] at HN HS
              clear hd
              (with_reducible refine HN.out.mono ?_)
              rintro e w7 ⟨rfl, hg7⟩
              refine ⟨rfl, ?_⟩
              rw [HS.out]
              exact ⟨rfl, grown_trans HG6.out hg7⟩
            | some p =>
            obtain ⟨n, r1⟩ := p
            obtain ⟨hrr, hn, _⟩ := Cd.dl_some hd
            have hrl2 : r1.length < 1000000000 := by have h := congrArg List.length hrr; rw [List.length_append] at h; omega
            have HS2 := Lib.hid (show Cd.dv (gap + 1) (3 :: r) = (match Cd.dvs (Cd.dv gap) n r1 with | none => none | some (l, r) => some (.mk 3 0 [] l, r)) by rw [HS.out, hd]; rfl)
            rw [hd] at HN
            clear hd hrr HS
            (with_reducible refine HN.out.mono ?_)
            rintro e w7 ⟨rfl, hg7, A7, c7, hR7⟩
            have HL0 := Lib.hid (show Cd.Lp w w7 B g 0 [] r1 none 0 [] A7 c7 from ⟨hgq, grown_trans HG6.out hg7, hR7, HH6.out.grown hg7 (fun e => by injection e with e; omega), rfl, rfl, World.ownsRow_nil _ _ _ _, fun i hi => absurd hi (by omega)⟩)
            clear hg7 hR7 q0 qz
            go_wp2_with fail
            clear hdd
            go_loopw [37] (fun i wr => ∃ (j : Nat) (lj : List Cd.T) (rest : List UInt8) (Aj : Option Addr) (cj : Nat) (xss : List (List Value)) (Ar : Option Addr) (cr : Nat), j ≤ n ∧ i = .int .i64 j ∧ rest.length < 1000000000 ∧ Cd.Lp w wr B g j lj rest Aj cj xss Ar cr ∧ (match Cd.dvs (Cd.dv gap) (n - j) rest with | none => none | some (l2, r2) => some (lj ++ l2, r2)) = Cd.dvs (Cd.dv gap) n r1) (fun i _ => n - (intOf i).toNat)
            case atStart => exact ⟨0, [], r1, none, 0, [], A7, c7, by omega, rfl, hrl2, HL0.out, by rw [Nat.sub_zero]; cases hdv : Cd.dvs (Cd.dv gap) n r1 with | none => rfl | some p => rfl⟩
            case round =>
              obtain ⟨j, lj, rest, Aj, cj, xss, Ar, cr, hj, rfl, hrl3, hL, hleft⟩ := hrel
              have HL := Lib.hid hL
              have HLE := Lib.hid hleft
              clear hL hleft
              by_cases hlt : j < n
              · obtain ⟨m, hm⟩ : ∃ m, n - j = m + 1 := ⟨n - j - 1, by omega⟩
                have HM := Lib.hid hm
                have HV := Lib.hid (show Calls Try.prog 32 #[.pointer (some ⟨g, 0, none⟩), .int .i64 ((dep : Int) + 1)] wr.drew (Cd.RetV wr.drew B g (Cd.dv gap rest)) from IH.out wr.drew Ar cr rest (by omega) (HL.out.re.keep ((Below.refl _ _).drew)))
                have HEV := Lib.hid (enters_of Try.func32 (by kernel_rfl) rfl)
                have q3 := HL.out.has.cell 3
                have qz := HL.out.has.lt
                simp only [List.getElem?_cons_succ, List.getElem?_cons_zero] at q3
                have hw1 : IntKind.i64.wrap ((dep : Int) + 1) = (dep : Int) + 1 := IntWalk.i64_in _ (by omega)
                clear hm
                have HDN := Lib.hid (show Cd.dv gap rest = none → Cd.dvs (Cd.dv gap) n r1 = none from fun h => by rw [← HLE.out, HM.out, Cd.dvs, h])
                have HP := Lib.hid (show ∀ ch w', Cd.RetV wr.drew B g (Cd.dv gap rest) (.panicked ch) w' → Cd.RetV w B g (Cd.dv (gap + 1) (3 :: r)) (.panicked ch) w' from fun ch w' h => by
                  cases hd : Cd.dv gap rest with
                  | some p =>
                    obtain ⟨t, r2⟩ := p
                    rw [hd] at h
                    obtain ⟨⟨cs, e1, _⟩, _⟩ := h
                    cases e1
                  | none =>
                    rw [hd] at h
                    rw [HS2.out, HDN.out hd]
                    exact ⟨h.1, grown_trans (grown_trans HL.out.grown (grown_below ((Below.refl _ _).drew) _)) h.2⟩)
                have HNX := Lib.hid (show ∀ t r2, Cd.dv gap rest = some (t, r2) → (match Cd.dvs (Cd.dv gap) (n - (j + 1)) r2 with | none => none | some (l2, r3) => some ((lj ++ [t]) ++ l2, r3)) = Cd.dvs (Cd.dv gap) n r1 ∧ r2.length < 1000000000 from fun t r2 hd => by
                  constructor
                  · have h := HLE.out
                    rw [HM.out, Cd.dvs, hd] at h
                    rw [← h, show n - (j + 1) = m by have := HM.out; omega]
                    cases hq : Cd.dvs (Cd.dv gap) m r2 <;> simp [hq]
                  · have h := (Cd.dv_some gap rest t r2 hd).enc
                    have h2 := congrArg List.length h
                    rw [List.length_append] at h2
                    omega)
                have HX5 := Lib.hid (show ∀ v5 w5, Cd.RetV wr.drew B g (Cd.dv gap rest) (.returned v5) w5 → ∃ t r2 A9 c9 A6 c6, Cd.dv gap rest = some (t, r2) ∧ v5 = .agg #[.int .i64 t.k, .int .i64 t.n, .string ⟨t.s.toArray⟩, .slice A9 t.l.length c9] ∧ (w.heap.size < w5.heap.size ∧ w5.cell? ⟨w.heap.size, 3, none⟩ = some (.slice Aj j cj)) ∧ (w.heap.size < (w5.alloc (.cells #[.int .i64 t.k, .int .i64 t.n, .string ⟨t.s.toArray⟩, .slice A9 t.l.length c9] 24)).heap.size ∧ (w5.alloc (.cells #[.int .i64 t.k, .int .i64 t.n, .string ⟨t.s.toArray⟩, .slice A9 t.l.length c9] 24)).cell? ⟨w.heap.size, 3, none⟩ = some (.slice Aj j cj)) ∧ (w5.alloc (.cells #[.int .i64 t.k, .int .i64 t.n, .string ⟨t.s.toArray⟩, .slice A9 t.l.length c9] 24)).ownsRow (w.heap.size + 1) 24 4 (.slice Aj j cj) j xss.flatten ∧
                    Rd (w5.alloc (.cells #[.int .i64 t.k, .int .i64 t.n, .string ⟨t.s.toArray⟩, .slice A9 t.l.length c9] 24)) (w5.alloc (.cells #[.int .i64 t.k, .int .i64 t.n, .string ⟨t.s.toArray⟩, .slice A9 t.l.length c9] 24)).heap.size 4 (some ⟨w5.heap.size, 0, none⟩) 1 [.int .i64 t.k, .int .i64 t.n, .string ⟨t.s.toArray⟩, .slice A9 t.l.length c9] ∧
                    (∀ u ∈ [Value.int .i64 t.k, .int .i64 t.n, .string ⟨t.s.toArray⟩, .slice A9 t.l.length c9], u.oneCell' = true) ∧ w.heap.size + 1 ≤ (w5.alloc (.cells #[.int .i64 t.k, .int .i64 t.n, .string ⟨t.s.toArray⟩, .slice A9 t.l.length c9] 24)).heap.size ∧
                    (∀ v8 w8, Grew (w5.alloc (.cells #[.int .i64 t.k, .int .i64 t.n, .string ⟨t.s.toArray⟩, .slice A9 t.l.length c9] 24)) (w.heap.size + 1) 24 4 (.slice Aj j cj) (j + 1) (xss.flatten ++ [.int .i64 t.k, .int .i64 t.n, .string ⟨t.s.toArray⟩, .slice A9 t.l.length c9]) v8 w8 →
                      ∃ A8 c8, v8 = .slice A8 (j + 1) c8 ∧ (w.heap.size < w8.heap.size ∧ w8.cell? ⟨w.heap.size, 3, none⟩ = some (.slice Aj j cj)) ∧ w8.frozen? ⟨w.heap.size, 3, none⟩ = false ∧ Cd.Lp w (w8.setCell ⟨w.heap.size, 3, none⟩ (.slice A8 (j + 1) c8)) B g (j + 1) (lj ++ [t]) r2 A8 c8 (xss ++ [[.int .i64 t.k, .int .i64 t.n, .string ⟨t.s.toArray⟩, .slice A9 t.l.length c9]]) A6 c6) from fun v5 w5 h5 => by
                  cases hd : Cd.dv gap rest with
                  | none =>
                    rw [hd] at h5
                    exact absurd h5.1 (by simp)
                  | some p =>
                  obtain ⟨t, r2⟩ := p
                  rw [hd] at h5
                  obtain ⟨⟨cs, e5, hX⟩, hg5, A6, c6, hR6⟩ := h5
                  injection e5 with e5
                  subst e5
                  obtain ⟨A9, c9, rfl⟩ := hX.spell
                  have hgw : wr.grownBy w5 (some g) := grown_pre ((Below.refl _ _).drew) hg5
                  have hh5 := HL.out.has.grown hgw (fun e => by injection e with e; omega)
                  have hh6 := hh5.alloc (.cells #[.int .i64 t.k, .int .i64 t.n, .string ⟨t.s.toArray⟩, .slice A9 t.l.length c9] 24)
                  have ho5 := own_kept HL.out.own hgw (fun k e => by injection e with e; omega)
                  refine ⟨t, r2, A9, c9, A6, c6, rfl, rfl, ⟨hh5.lt, hh5.cell 3⟩, ⟨hh6.lt, hh6.cell 3⟩, ho5.alloc _, rd_new w5 24 4 _ rfl, by simp [Value.oneCell'], hh6.lt, fun v8 w8 hG => ?_⟩
                  obtain ⟨A8, c8, rfl⟩ := own_slice hG.own
                  have hge : ∀ k, (Value.slice Aj j cj).ownBlock = some k → w.heap.size + 1 ≤ k := fun k e => (HL.out.own.lt k e).1
                  have hh8 := hh6.grown hG.grown (fun e => by have := hge _ e; omega)
                  exact ⟨A8, c8, rfl, ⟨hh8.lt, hh8.cell 3⟩, hh8.frozen 3, HL.out.next hgw hX hR6 _ hG⟩)
                have H63 := Lib.hid (show j + 1 ≤ maxLen by unfold maxLen; omega)
                have H64 := Lib.hid (show (j + 1) * 56 ≤ 140737488355328 by omega)
                go_wp2_with fail
                go_region_law (first
                  | (refine step_callRP (Cd.RetV wr.drew B g (Cd.dv gap rest)) 32 (.tmp 41) (.tmp 43) _ (.pointer (some ⟨g, 0, none⟩)) (.int .i64 ((dep : Int) + 1)) (by rfl) (by rfl) HEV.out (by rfl) (by rfl) HV.out Cd.RetV.way (fun ch w' h => And.intro rfl (HP.out ch w' h)) ?_; intro v5 w5 h5; obtain ⟨t, r2, A9, c9, A6, c6, hdt, rfl, ⟨z5, c5⟩, ⟨z6, c6c⟩, ho6, hr6, h16, hb6, hk6⟩ := HX5.out v5 w5 h5; have HDT := Lib.hid hdt; have HO6 := Lib.hid ho6; have HR6' := Lib.hid hr6; have H16 := Lib.hid h16; have HB6 := Lib.hid hb6; have HK6 := Lib.hid hk6; clear h5 hdt ho6 hr6 h16 hb6 hk6)
                  | (refine step_append_rd (by rfl) (.tmp 40) (.tmp 45) (by rfl) elV (by rfl) HO6.out (by rfl) HR6'.out H16.out (fun h => by (cases h)) H63.out H64.out HB6.out ?_; intro v8 w8 hG8; obtain ⟨A8, c8, rfl, ⟨z8, c8c⟩, f8, hL8⟩ := HK6.out v8 w8 hG8; have HL8 := Lib.hid hL8; clear hG8 hL8))
                all_goals (
                  go_wp2_with fail
                  exact ⟨⟨j + 1, lj ++ [t], r2, A8, c8, _, A6, c6, by omega, by go_num, (HNX.out t r2 HDT.out).2, HL8.out, (HNX.out t r2 HDT.out).1⟩, by simp [intOf]; omega⟩)
              · obtain rfl : j = n := by omega
                have HEND := Lib.hid (show Cd.dv (gap + 1) (3 :: r) = some (.mk 3 0 [] lj, rest) by
                  rw [HS2.out, ← HLE.out, Nat.sub_self]
                  simp [Cd.dvs])
                have q0 := HL.out.has.cell 0
                have q1 := HL.out.has.cell 1
                have q2 := HL.out.has.cell 2
                have q3 := HL.out.has.cell 3
                have f0 := HL.out.has.frozen 0
                have f1 := HL.out.has.frozen 1
                have f2 := HL.out.has.frozen 2
                have f3 := HL.out.has.frozen 3
                have qz := HL.out.has.lt
                simp only [List.getElem?_cons_succ, List.getElem?_cons_zero] at q0 q1 q2 q3
                have HX := Lib.hid (show Cd.CellX wr (fun b => w.heap.size < b) (.mk 3 0 [] lj) [.int .i64 3, .int .i64 0, .string ⟨([] : List UInt8).toArray⟩, .slice Aj j cj] by
                  have hl := HL.out.len
                  have h := Cd.CellX.mk (w := wr) (X := fun b => w.heap.size < b) 3 0 [] lj Aj cj xss (by rw [HL.out.xlen, hl]) (fun i hi => (HL.out.cells i (by omega)).turn (Nat.le_refl _) (fun b _ hb => ⟨hb.1, rfl⟩)) (by rw [hl]; exact rd_of_own HL.out.own) (fun b off e _ => by subst e; exact own_ge HL.out.own rfl) (own_nil HL.out.own) (by rw [hl]; unfold maxLen; omega) (by simp) (by omega) (by omega)
                  rw [hl] at h
                  exact h)
                have HF := Lib.hid (fun v0 v1 v2 v3 => Cd.fin4 v0 v1 v2 v3 HL.out.grown HL.out.re hgq HX.out)
                go_wp2_with fail
                refine bodyPost_ret (v := .agg #[.int .i64 3, .int .i64 0, .string ⟨([] : List UInt8).toArray⟩, .slice Aj j cj]) (by simp [results, Try.results32, go_sem, q0, q1, q2, q3]) rfl ?_
                rw [HEND.out]
                exact HF.out _ _ _ _
          · have HS := Lib.hid (Cd.dv_bad gap x r x1 x2 x3)
            have q0 := HH6.out.cell 0
            have qz := HH6.out.lt
            simp only [List.getElem?_cons_zero] at q0
            have e1 : ((x.toNat : Int) == 1) = false := by simp; omega
            have e2 : ((x.toNat : Int) == 2) = false := by simp; omega
            have e3 : ((x.toNat : Int) == 3) = false := by simp; omega
            go_wp2_with ((with_reducible refine (Cd.want_no _ _).mono ?_); rintro e w7 ⟨rfl, rfl⟩)
            refine ⟨rfl, ?_⟩
            rw [HS.out]
            exact ⟨rfl, HG6.out⟩

theorem Cd.value_any (gap : Nat) : ∀ (dep : Nat) (w : World) (B g : Nat) (A : Option Addr) (c : Nat) (b : List UInt8), dep + gap = 16 → b.length ≤ 1000000000 → Cd.Re w B g A c b →
    Calls Try.prog 32 #[.pointer (some ⟨g, 0, none⟩), .int .i64 (dep : Int)] w (Cd.RetV w B g (Cd.dv gap b)) := by
  induction gap with
  | zero => exact Cd.value_step 0 (fun g0 h => by omega)
  | succ gap ih => exact Cd.value_step (gap + 1) (fun g0 h => by obtain rfl : gap = g0 := by omega
                                                                 exact ih)
end Go.Proofs.Ytnhodcjbmloeeaa
