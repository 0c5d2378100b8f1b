import Derived.Test.YtnbbleajbbgmjaaDoorMRcR6v
import Derived.Test.YtnbbleajbbgmjaaDoorMRcR1
import Derived.Test.YtnbbleajbbgmjaaDoorMRcS1
/- ReceiptsWhenSpec: the walk. -/
namespace Go.Proofs.YtnbbleajbbgmjaaDoor
open Go.RowKit
set_option linter.unusedVariables false

theorem Rc.keep8 {W : World} {a b c d : Nat} {x0 x1 y0 y1 z0 z1 u0 u1 : Value} {t : TypeId} (ha : Has W a t [x0, x1]) (hb : Has W b t [y0, y1]) (hc : Has W c t [z0, z1]) (hd : Has W d t [u0, u1]) (w' : World) (s : Below W.heap.size W w') :
    w'.cell? ⟨a, 0, none⟩ = some x0 ∧ w'.cell? ⟨a, 1, none⟩ = some x1 ∧ w'.cell? ⟨b, 0, none⟩ = some y0 ∧ w'.cell? ⟨b, 1, none⟩ = some y1 ∧ w'.cell? ⟨c, 0, none⟩ = some z0 ∧ w'.cell? ⟨c, 1, none⟩ = some z1 ∧ w'.cell? ⟨d, 0, none⟩ = some u0 ∧ w'.cell? ⟨d, 1, none⟩ = some u1 ∧ Below W.heap.size W w' :=
  ⟨(ha.keep s).cell 0, (ha.keep s).cell 1, (hb.keep s).cell 0, (hb.keep s).cell 1, (hc.keep s).cell 0, (hc.keep s).cell 1, (hd.keep s).cell 0, (hd.keep s).cell 1, s⟩
set_option maxRecDepth 100000 in
set_option maxHeartbeats 8000000 in
theorem Rc.whenspec_law (hsn : ∀ W, Dg.G W Rc.K0 Rc.I0 → Calls Tryd.prog 10 #[] W fun e w' => e = .returned (.bool true) ∧ Below W.heap.size W w')
    (Ac As Al : Option Addr) (nc cc ns cs nl cl : Nat) (c : List Rc.C) (subs : List Rc.Sb) (l : List Rc.R) (no a0 a1 b0 b1 : Int) (w : World) (hE : Rc.Ev w w.heap.size Ac As Al nc ns nl c subs l) (hG : Dg.G w Rc.K0 Rc.I0) :
    Calls Tryd.prog 4 #[.slice Ac nc cc, .slice As ns cs, .slice Al nl cl, Rc.i no, .agg #[Rc.i a0, Rc.i a1], .agg #[Rc.i b0, Rc.i b1]] w fun e w' => e = .returned (.bool true) ∧ Below w.heap.size w w' := by
  obtain ⟨W1, hW1⟩ : ∃ W1, W1 = (w.alloc (.cells #[Rc.i a0, Rc.i a1] 38)).alloc (.cells #[Rc.i b0, Rc.i b1] 38) := ⟨_, rfl⟩
  have HS1 := Lib.hid (show St w W1 [(w.heap.size + 1, 38, [Rc.i b0, Rc.i b1]), (w.heap.size, 38, [Rc.i a0, Rc.i a1])] from by
    rw [hW1]
    have h := ((St.start w).new 38 [Rc.i a0, Rc.i a1]).new 38 [Rc.i b0, Rc.i b1]
    simp only [World.size_alloc] at h
    exact h)
  have HSN := Lib.hid (hsn W1 (hG.keep HS1.out.below))
  have HFW := Lib.hid (fun W (hb : Below w.heap.size w W) => Rc.rfew_any Ac As Al nc cc ns cs nl cl subs W (hE.s.keep hb |>.more hb.size) hE.mc hE.ms hE.ml)
  have HWN := Lib.hid (fun W (hb : Below w.heap.size w W) => Rc.when_any Ac As Al nc cc ns cs nl cl c subs l no Rc.K0 Rc.I0 W ((hE.keep hb).more hb.size) (hG.keep hb))
  have HRW := Lib.hid (fun W (hb : Below w.heap.size w W) => Rc.rwhen_any Ac As Al nc cc ns cs nl cl c subs l no W ((hE.keep hb).more hb.size))
  have HCF := Lib.hid (fun W (hb : Below w.heap.size w W) => Rc.conf_any Ac As Al nc cc ns cs nl cl c subs l no Rc.K0 Rc.I0 W ((hE.keep hb).more hb.size) (hG.keep hb))
  have HRF := Lib.hid (fun W (hb : Below w.heap.size w W) => Rc.rconf_any Ac As Al nc cc ns cs nl cl c subs l no W ((hE.keep hb).more hb.size))
  have HBE := Lib.hid (fun W => Rc.Before_any a0 a1 b0 b1 W)
  have HRB := Lib.hid (fun W => Rc.rbefore_any a0 a1 b0 b1 W)
  generalize Rc.readE (Rc.chkE Rc.K0 Rc.I0 c subs l) ns no = E at HWN HRW HCF HRF
  unfold Rc.whenV at HWN HRW
  unfold Rc.confV at HCF HRF
  generalize Rc.whenR E (Rc.ofs c l no) = wv at HWN HRW
  obtain ⟨p, q, e1⟩ := wv
  generalize Rc.confR E (Rc.ofs c l no) = cv at HCF HRF
  obtain ⟨i1, i2, ok, e2⟩ := cv
  dsimp only at HWN HRW HCF HRF
  generalize decide (a1 < b0) = bf at HBE HRB
  generalize Rc.few nc ns nl subs = fw at HFW
  clear hE hG hsn
  cases fw with
  | false =>
    go_enter Tryd.func4, Tryd.ntmps4
    go_upto_region 1 with fail
    rw [← hW1]
    clear hW1
    go_wp2_with fail
    ((with_reducible refine HSN.out.mono ?_); rintro e w2 ⟨rfl, hb⟩)
    have HS2 := Lib.hid (HS1.out.keep hb)
    clear hb
    go_wp2_with fail
    ((with_reducible refine (HFW.out _ HS2.out.below).mono ?_); rintro e w3 ⟨rfl, hb⟩)
    have HS3 := Lib.hid (HS2.out.keep hb)
    clear hb
    go_wp2_with fail
    go_ret
    exact ⟨rfl, HS3.out.below⟩
  | true =>
    go_enter Tryd.func4, Tryd.ntmps4
    go_upto_region 1 with fail
    rw [← hW1]
    clear hW1
    go_wp2_with fail
    ((with_reducible refine HSN.out.mono ?_); rintro e w2 ⟨rfl, hb⟩)
    have HS2 := Lib.hid (HS1.out.keep hb)
    clear hb
    go_wp2_with fail
    ((with_reducible refine (HFW.out _ HS2.out.below).mono ?_); rintro e w3 ⟨rfl, hb⟩)
    have HS3 := Lib.hid (HS2.out.keep hb)
    clear hb
    go_wp2_with fail
    ((with_reducible refine (HWN.out _ HS3.out.below).mono ?_); rintro e w4 ⟨rfl, hb⟩)
    have HS4 := Lib.hid (HS3.out.keep hb)
    clear hb
    go_upto_region 6 with fail
    obtain ⟨W5, hW5⟩ : ∃ W5, W5 = w4.alloc (.cells #[.int .i64 p, .int .i64 q] 38) := ⟨_, rfl⟩
    obtain ⟨g1, hg1⟩ : ∃ g1, w4.heap.size = g1 := ⟨_, rfl⟩
    have HS5 := Lib.hid (show St w W5 ((g1, 38, [.int .i64 p, .int .i64 q]) :: _) from by rw [hW5, ← hg1]; exact HS4.out.new 38 [.int .i64 p, .int .i64 q])
    rw [← hW5, hg1]
    clear hW5 hg1
    go_wp2_with fail
    ((with_reducible refine (HRW.out _ HS5.out.below).mono ?_); rintro e w6 ⟨rfl, hb⟩)
    have HS6 := Lib.hid (HS5.out.keep hb)
    clear hb
    go_upto_region 7 with fail
    obtain ⟨W7, hW7⟩ : ∃ W7, W7 = w6.alloc (.cells #[.int .i64 p, .int .i64 q] 38) := ⟨_, rfl⟩
    obtain ⟨g2, hg2⟩ : ∃ g2, w6.heap.size = g2 := ⟨_, rfl⟩
    have HS7 := Lib.hid (show St w W7 ((g2, 38, [.int .i64 p, .int .i64 q]) :: _) from by rw [hW7, ← hg2]; exact HS6.out.new 38 [.int .i64 p, .int .i64 q])
    rw [← hW7, hg2]
    clear hW7 hg2
    go_wp2_with fail
    ((with_reducible refine (HCF.out _ HS7.out.below).mono ?_); rintro e w8 ⟨rfl, hb⟩)
    have HS8 := Lib.hid (HS7.out.keep hb)
    clear hb
    go_wp2_with fail
    ((with_reducible refine (HRF.out _ HS8.out.below).mono ?_); rintro e w9 ⟨rfl, hb⟩)
    have HS9 := Lib.hid (HS8.out.keep hb)
    clear hb
    go_upto_region 9 with fail
    have KP := Lib.hid (Rc.keep8 (HS9.out.nth 1 rfl) (HS9.out.nth 0 rfl) (HS9.out.nth 3 rfl) (HS9.out.nth 2 rfl))
    have s2 : Below w9.heap.size w9 w9.drew := (Below.refl _ w9).drew
    have he1 : (e1 == e1) = true := by simp
    have he2 : (e2 == e2) = true := by simp
    have he3 : (i1 == i1) = true := by simp
    have he4 : (i2 == i2) = true := by simp
    have he5 : (ok == ok) = true := by simp
    have he6 : (bf == bf) = true := by simp
    have he7 : (p == p) = true := by simp
    have he8 : (q == q) = true := by simp
    clear HSN HFW HWN HRW HCF HRF
    go_region_held3 (fun w' => w'.cell? ⟨g1, 0, none⟩ = some (.int .i64 p) ∧ w'.cell? ⟨g1, 1, none⟩ = some (.int .i64 q) ∧ w'.cell? ⟨g2, 0, none⟩ = some (.int .i64 p) ∧ w'.cell? ⟨g2, 1, none⟩ = some (.int .i64 q) ∧ w'.cell? ⟨w.heap.size, 0, none⟩ = some (Rc.i a0) ∧ w'.cell? ⟨w.heap.size, 1, none⟩ = some (Rc.i a1) ∧ w'.cell? ⟨w.heap.size + 1, 0, none⟩ = some (Rc.i b0) ∧ w'.cell? ⟨w.heap.size + 1, 1, none⟩ = some (Rc.i b1) ∧ Below w9.heap.size w9 w')
      (first
        | exact KP.out _ sB2
        | exact KP.out _ sB1
        | exact KP.out _ s2)
      (first
        | (go_at_call 20
           (with_reducible refine (HBE.out _).mono ?_)
           rintro e W4 ⟨rfl, hb4⟩
           have sB1 := s2.trans (hb4.mono s2.size))
        | (go_at_call 21
           (with_reducible refine (HRB.out _).mono ?_)
           rintro e W4 ⟨rfl, hb4⟩
           have sB2 := sB1.trans (hb4.mono sB1.size)))
    go_wp2_with fail
    go_ret
    exact ⟨by first | rfl | simp, HS9.out.below.trans (sB2.mono HS9.out.below.size)⟩
end Go.Proofs.YtnbbleajbbgmjaaDoor
