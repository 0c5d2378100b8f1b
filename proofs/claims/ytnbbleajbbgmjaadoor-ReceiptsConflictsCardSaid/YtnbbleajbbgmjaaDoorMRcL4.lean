import Derived.Deep.Cut
import Derived.Test.YtnbbleajbbgmjaaDoorMRcR6v
import Derived.Test.YtnbbleajbbgmjaaDoorMRcR1
import Derived.Test.YtnbbleajbbgmjaaDoorMRcT1
import Derived.Test.YtnbbleajbbgmjaaDoorMRcS1
/- ReceiptsConflicts: the walk. -/
namespace Go.Proofs.YtnbbleajbbgmjaaDoor
open Go.RowKit
set_option linter.unusedVariables false

/-- the cells that a call of Times or May reads -/
theorem Rc.keepU {W2 : World} {xb o0 o2 bc o : Nat} {v1 v2 v3 v4 v5 : Value} (hb : bc < W2.heap.size) (hx : xb < W2.heap.size)
    (h1 : W2.cell? ⟨xb, o0, none⟩ = some v1) (h2 : W2.cell? ⟨xb, o2, none⟩ = some v2) (h3 : W2.cell? ⟨bc, o, none⟩ = some v3) (h4 : W2.cell? ⟨bc, o + 1, none⟩ = some v4) (h5 : W2.cell? ⟨bc, o + 2, none⟩ = some v5) (w' : World) (s : Below W2.heap.size W2 w') :
    w'.cell? ⟨xb, o0, none⟩ = some v1 ∧ w'.cell? ⟨xb, o2, none⟩ = some v2 ∧ w'.cell? ⟨bc, o, none⟩ = some v3 ∧ w'.cell? ⟨bc, o + 1, none⟩ = some v4 ∧ w'.cell? ⟨bc, o + 2, none⟩ = some v5 ∧ Below W2.heap.size W2 w' :=
  ⟨(s.cell hx).trans h1, (s.cell hx).trans h2, (s.cell hb).trans h3, (s.cell hb).trans h4, (s.cell hb).trans h5, s⟩
set_option maxRecDepth 100000 in
set_option maxHeartbeats 16000000 in
theorem Rc.conflicts_law (hsn : ∀ W, Dg.G W Rc.K0 Rc.I0 → Calls Tryd.prog 10 #[] W fun e w' => e = .returned (.bool true) ∧ Below W.heap.size W w')
    (Ac As Al : Option Addr) (nc cc ns cs nl cl : Nat) (c : List Rc.C) (subs : List Rc.Sb) (l : List Rc.R) (no tm : Int) (w : World) (hE : Rc.Ev w w.heap.size Ac As Al nc ns nl c subs l) (hG : Dg.G w Rc.K0 Rc.I0) :
    Calls Tryd.prog 9 #[.slice Ac nc cc, .slice As ns cs, .slice Al nl cl, Rc.i no, Rc.i tm] w fun e w' => e = .returned (.bool true) ∧ Below w.heap.size w w' := by
  have HSN := Lib.hid (fun W (hb : Below w.heap.size w W) => hsn W (hG.keep hb))
  have HFW := Lib.hid (fun W (hb : Below w.heap.size w W) => Rc.rfew_any Ac As Al nc cc ns cs nl cl subs W (hE.s.keep hb |>.more hb.size) hE.mc hE.ms hE.ml)
  have HRC := Lib.hid (fun W (hb : Below w.heap.size w W) => Rc.rcheck_any Ac As Al nc cc ns cs nl cl c subs l W ((hE.keep hb).more hb.size))
  have HWN := Lib.hid (fun W (hb : Below w.heap.size w W) => Rc.when_any Ac As Al nc cc ns cs nl cl c subs l no Rc.K0 Rc.I0 W ((hE.keep hb).more hb.size) (hG.keep hb))
  have HCF := Lib.hid (fun W (hb : Below w.heap.size w W) => Rc.conf_any Ac As Al nc cc ns cs nl cl c subs l no Rc.K0 Rc.I0 W ((hE.keep hb).more hb.size) (hG.keep hb))
  have HEV := Lib.hid hE
  have hll := hE.l.len
  have hcl := hE.c.len
  have hnl := hE.ml
  have hncl := hE.mc
  have hnsl := hE.ms
  unfold maxLen at hnl hncl hnsl
  have hEE : Rc.chkE Rc.K0 Rc.I0 c subs l = 0 ∨ Rc.chkE Rc.K0 Rc.I0 c subs l = 510 := Rc.chk_ok
  generalize hEC : Rc.chkE Rc.K0 Rc.I0 c subs l = E at HRC HWN HCF hEE
  have HEC := Lib.hid hEC
  generalize Rc.few nc ns nl subs = fw at HFW
  clear hE hG hsn hEC
  cases fw with
  | false =>
    go_enter Tryd.func9, Tryd.ntmps9
    go_wp2_with fail
    ((with_reducible refine (HSN.out _ (Below.refl _ _)).mono ?_); rintro e w2 ⟨rfl, hb⟩)
    have HB2 := Lib.hid hb
    clear hb
    go_wp2_with fail
    ((with_reducible refine (HFW.out _ HB2.out).mono ?_); rintro e w3 ⟨rfl, hb⟩)
    have HB3 := Lib.hid (HB2.out.trans (hb.mono HB2.out.size))
    clear hb
    go_wp2_with fail
    go_ret
    exact ⟨rfl, HB3.out⟩
  | true =>
    rcases hEE with rfl | rfl
    · by_cases ha : no < 0
      · have da : decide (no < 0) = true := decide_eq_true ha
        clear ha
        go_enter Tryd.func9, Tryd.ntmps9
        go_wp2_with fail
        ((with_reducible refine (HSN.out _ (Below.refl _ _)).mono ?_); rintro e w2 ⟨rfl, hb⟩)
        have HB2 := Lib.hid hb
        clear hb
        go_wp2_with fail
        ((with_reducible refine (HFW.out _ HB2.out).mono ?_); rintro e w3 ⟨rfl, hb⟩)
        have HB3 := Lib.hid (HB2.out.trans (hb.mono HB2.out.size))
        clear hb
        go_wp2_with fail
        ((with_reducible refine (HRC.out _ HB3.out).mono ?_); rintro e w4 ⟨rfl, hb⟩)
        have HB4 := Lib.hid (HB3.out.trans (hb.mono HB3.out.size))
        clear hb
        go_wp2_with fail
        go_ret
        exact ⟨rfl, HB4.out⟩
      have da : decide (no < 0) = false := decide_eq_false ha
      by_cases hb : (ns : Int) ≤ no
      · have db : decide ((ns : Int) ≤ no) = true := decide_eq_true hb
        clear hb
        go_enter Tryd.func9, Tryd.ntmps9
        go_wp2_with fail
        ((with_reducible refine (HSN.out _ (Below.refl _ _)).mono ?_); rintro e w2 ⟨rfl, hb⟩)
        have HB2 := Lib.hid hb
        clear hb
        go_wp2_with fail
        ((with_reducible refine (HFW.out _ HB2.out).mono ?_); rintro e w3 ⟨rfl, hb⟩)
        have HB3 := Lib.hid (HB2.out.trans (hb.mono HB2.out.size))
        clear hb
        go_wp2_with fail
        ((with_reducible refine (HRC.out _ HB3.out).mono ?_); rintro e w4 ⟨rfl, hb⟩)
        have HB4 := Lib.hid (HB3.out.trans (hb.mono HB3.out.size))
        clear hb
        go_wp2_with fail
        go_ret
        exact ⟨rfl, HB4.out⟩
      have db : decide ((ns : Int) ≤ no) = false := decide_eq_false hb
      go_enter Tryd.func9, Tryd.ntmps9
      go_wp2_with fail
      ((with_reducible refine (HSN.out _ (Below.refl _ _)).mono ?_); rintro e w2 ⟨rfl, hb⟩)
      have HB2 := Lib.hid hb
      clear hb
      go_wp2_with fail
      ((with_reducible refine (HFW.out _ HB2.out).mono ?_); rintro e w3 ⟨rfl, hb⟩)
      have HB3 := Lib.hid (HB2.out.trans (hb.mono HB2.out.size))
      clear hb
      go_wp2_with fail
      ((with_reducible refine (HRC.out _ HB3.out).mono ?_); rintro e w4 ⟨rfl, hb⟩)
      have HB4 := Lib.hid (HB3.out.trans (hb.mono HB3.out.size))
      clear hb
      have HRE := Lib.hid (show Rc.readE 0 ns no = 0 from by rw [Rc.readE, if_pos rfl, Rc.inB_in (by omega) (by omega)]; rfl)
      rw [HRE.out] at HWN HCF
      have HOK := Lib.hid (Rc.ok_all HEC.out)
      have HSPT := Lib.hid (fun (x : Rc.R) (hx : x ∈ l) (q : Rc.C) (hq : c[x.rf.toNat]? = some q) => Rc.sp_times HEC.out hx hq)
      have HBND := Lib.hid (show ∀ x ∈ l, 0 ≤ Rc.spL c x ∧ Rc.spL c x ≤ Rc.spH c x ∧ Rc.spH c x ≤ 1048576 from fun x hx => by
        obtain ⟨q, hq, _⟩ := HOK.out x hx
        have h := HSPT.out x hx q hq
        exact ⟨h.1, Int.le_trans h.2.1 h.2.2.1, h.2.2.2.1⟩)
      clear ha hb
      cases hcf : Rc.conf (Rc.ofs c l no) with
      | none =>
        have hmm := Rc.conf_mm HBND.out hcf
        have hwv := Rc.when_yes (xs := Rc.ofs c l no) hmm
        have hcv := Rc.confV_no hcf
        rw [hwv] at HWN
        rw [hcv] at HCF
        generalize Rc.mm (Rc.ofs c l no) = m at HWN
        obtain ⟨lo, hi⟩ := m
        dsimp only at HWN
        clear hmm hwv hcv hcf
        go_wp2_with fail
        ((with_reducible refine (HWN.out _ HB4.out).mono ?_); rintro e w5 ⟨rfl, hb⟩)
        have HB5 := Lib.hid (HB4.out.trans (hb.mono HB4.out.size))
        clear hb
        go_upto_region 6 with fail
        obtain ⟨W6, hW6⟩ : ∃ W6, W6 = w5.alloc (.cells #[.int .i64 lo, .int .i64 hi] 38) := ⟨_, rfl⟩
        have HB6 := Lib.hid (show Below w.heap.size w W6 from by rw [hW6]; exact HB5.out.alloc HB5.out.size _)
        rw [← hW6]
        clear hW6
        go_wp2_with fail
        ((with_reducible refine (HCF.out _ HB6.out).mono ?_); rintro e w7 ⟨rfl, hb⟩)
        have HB7 := Lib.hid (HB6.out.trans (hb.mono HB6.out.size))
        clear hb
        go_wp2_with fail
        go_ret
        exact ⟨rfl, HB7.out⟩
      | some ab =>
        obtain ⟨a, b⟩ := ab
        have hwv := Rc.when_no (xs := Rc.ofs c l no) (Rc.conf_no_mm hcf)
        have hcv := Rc.confV_yes hcf
        rw [hwv] at HWN
        rw [hcv] at HCF
        obtain ⟨x, y, hx, hy, hab, hbln, hxn, hyn, hdis⟩ := Rc.conf_spec hcf
        clear hwv hcv hcf
        have HDIS := Lib.hid hdis
        have HGx := Lib.hid hx
        have HGy := Lib.hid hy
        obtain ⟨qx, hqcx, hx0x, hx1x, hokx, htmx⟩ := HOK.out x (List.mem_of_getElem? hx)
        have HITx := Lib.hid (HSPT.out x (List.mem_of_getElem? hx) qx hqcx)
        obtain ⟨rx, hrnx⟩ : ∃ rx : Nat, x.rf.toNat = rx := ⟨_, rfl⟩
        have hrxx : x.rf = (rx : Int) := by omega
        have hlrx : (rx : Int) < (nc : Int) := by omega
        have HTEx := Lib.hid (show Clk.timE qx.s qx.er qx.d x.st = 0 ∧ Clk.timOk qx.s qx.er qx.d x.st = true from by unfold Clk.timE Clk.timOk; rw [hokx, htmx]; exact ⟨rfl, rfl⟩)
        have HSPx := Lib.hid (show Rc.spL c x = Clk.timLo qx.s qx.er qx.d x.st ∧ Rc.spH c x = Clk.timHi qx.s qx.er qx.d x.st from by
          have hd : c.getD x.rf.toNat default = qx := by rw [List.getD_eq_getElem?_getD, hqcx]; rfl
          exact ⟨by unfold Rc.spL; rw [hd], by unfold Rc.spH; rw [hd]⟩)
        have HTIx := Lib.hid (fun W' => Clk.times_any qx.s qx.er qx.d x.st W')
        rw [← HSPx.out.1, ← HSPx.out.2, HTEx.out.1, HTEx.out.2] at HTIx
        have HMYx := Lib.hid (fun W => Clk.may_any qx.s qx.er qx.d tm x.st W)
        have HGQx := Lib.hid (show c[rx]? = some qx from by rw [← hrnx]; exact hqcx)
        have HOKQx := Lib.hid (show Clk.okB qx.s qx.er qx.d = true ∧ Clk.tmB x.st = true from ⟨hokx, htmx⟩)
        obtain ⟨qy, hqcy, hx0y, hx1y, hoky, htmy⟩ := HOK.out y (List.mem_of_getElem? hy)
        have HITy := Lib.hid (HSPT.out y (List.mem_of_getElem? hy) qy hqcy)
        obtain ⟨ry, hrny⟩ : ∃ ry : Nat, y.rf.toNat = ry := ⟨_, rfl⟩
        have hrxy : y.rf = (ry : Int) := by omega
        have hlry : (ry : Int) < (nc : Int) := by omega
        have HTEy := Lib.hid (show Clk.timE qy.s qy.er qy.d y.st = 0 ∧ Clk.timOk qy.s qy.er qy.d y.st = true from by unfold Clk.timE Clk.timOk; rw [hoky, htmy]; exact ⟨rfl, rfl⟩)
        have HSPy := Lib.hid (show Rc.spL c y = Clk.timLo qy.s qy.er qy.d y.st ∧ Rc.spH c y = Clk.timHi qy.s qy.er qy.d y.st from by
          have hd : c.getD y.rf.toNat default = qy := by rw [List.getD_eq_getElem?_getD, hqcy]; rfl
          exact ⟨by unfold Rc.spL; rw [hd], by unfold Rc.spH; rw [hd]⟩)
        have HTIy := Lib.hid (fun W' => Clk.times_any qy.s qy.er qy.d y.st W')
        rw [← HSPy.out.1, ← HSPy.out.2, HTEy.out.1, HTEy.out.2] at HTIy
        have HMYy := Lib.hid (fun W => Clk.may_any qy.s qy.er qy.d tm y.st W)
        have HGQy := Lib.hid (show c[ry]? = some qy from by rw [← hrny]; exact hqcy)
        have HOKQy := Lib.hid (show Clk.okB qy.s qy.er qy.d = true ∧ Clk.tmB y.st = true from ⟨hoky, htmy⟩)
        have HRFx := Lib.hid hrxx
        have HRFy := Lib.hid hrxy
        generalize Rc.spL c x = xa at HTIx HITx HDIS
        generalize Rc.spH c x = xb at HTIx HITx HDIS
        generalize Rc.spL c y = ya at HTIy HITy HDIS
        generalize Rc.spH c y = yb at HTIy HITy HDIS
        have hax : a < nl := by omega
        have hbx : b < nl := by omega
        have hd1 : decide ((a : Int) < 0) = false := decide_eq_false (by omega)
        have hd2 : decide ((b : Int) ≤ (a : Int)) = false := decide_eq_false (by omega)
        have hd3 : decide ((nl : Int) ≤ (b : Int)) = false := decide_eq_false (by omega)
        have hn1 : (x.no != no) = false := by simp [hxn]
        have hn2 : (y.no != no) = false := by simp [hyn]
        obtain ⟨_, bl, ol, rfl, hbl, _⟩ := HEV.out.l.get a x hx
        obtain ⟨bc, oc, rfl, hbc, _⟩ := HEV.out.c.get rx qx HGQx.out
        clear hdis hx hy hxn hyn hbln hqcx hx0x hx1x hokx htmx hrnx hrxx hqcy hx0y hx1y hoky htmy hrny hrxy
        go_wp2_with fail
        ((with_reducible refine (HWN.out _ HB4.out).mono ?_); rintro e w5 ⟨rfl, hb⟩)
        have HB5 := Lib.hid (HB4.out.trans (hb.mono HB4.out.size))
        clear hb
        go_upto_region 6 with fail
        obtain ⟨W6, hW6⟩ : ∃ W6, W6 = w5.alloc (.cells #[.int .i64 0, .int .i64 0] 38) := ⟨_, rfl⟩
        have HB6 := Lib.hid (show Below w.heap.size w W6 from by rw [hW6]; exact HB5.out.alloc HB5.out.size _)
        rw [← hW6]
        clear hW6
        go_wp2_with fail
        ((with_reducible refine (HCF.out _ HB6.out).mono ?_); rintro e w7 ⟨rfl, hb⟩)
        have HB7 := Lib.hid (HB6.out.trans (hb.mono HB6.out.size))
        clear hb
        obtain ⟨_, bl1, ol1, hel, _, hrx1⟩ := (HEV.out.l.keep HB7.out).get a x HGx.out
        injection hel with hel
        injection hel with hel1 hel2 _
        subst hel1 hel2
        obtain ⟨_, bl1, ol1, hel, _, hry1⟩ := (HEV.out.l.keep HB7.out).get b y HGy.out
        injection hel with hel
        injection hel with hel1 hel2 _
        subst hel1 hel2
        have c1 : w7.cell? ⟨bl, ol + a * 35 + 1, none⟩ = some (Rc.i x.no) := hrx1 1 _ rfl
        have c2 : w7.cell? ⟨bl, ol + b * 35 + 1, none⟩ = some (Rc.i y.no) := hry1 1 _ rfl
        clear hrx1 hry1
        go_upto_region 13 with fail
        clear c1 c2
        obtain ⟨bl1, ol1, hel, hbl1, hr1⟩ := ((HEV.out.l.keep HB7.out).get a x HGx.out).2
        injection hel with hel
        injection hel with hel1 hel2 _
        subst hel1 hel2
        obtain ⟨bc1, oc1, hec, hbc1, p0, p1, p2⟩ := (HEV.out.c.keep HB7.out).get rx qx HGQx.out
        injection hec with hec
        injection hec with hec1 hec2 _
        subst hec1 hec2
        have x0 : w7.cell? ⟨bl, ol + a * 35, none⟩ = some (Rc.i x.rf) := hr1 0 _ rfl
        have x2 : w7.cell? ⟨bl, ol + a * 35 + 2, none⟩ = some (Rc.i x.st) := hr1 2 _ rfl
        rw [HRFx.out] at x0
        have hzx : bl < w7.heap.size := by have := HB7.out.size; omega
        have hzc : bc < w7.heap.size := by have := HB7.out.size; omega
        have KP := Lib.hid (Rc.keepU hzc hzx x0 x2 p0 p1 p2)
        have s2 : Below w7.heap.size w7 w7.drew := (Below.refl _ w7).drew
        clear hbl1 hr1 hbc1
        go_cut [17, 18, 19] from 29 to 143 (fun v0 v1 v2 wx => v1 = Value.bool true ∧ v2 = Value.int IntKind.i64 0 ∧ ∃ g : Nat, v0 = Value.pointer (some ⟨g, 0, none⟩) ∧ Has wx g 38 [.int .i64 xa, .int .i64 xb] ∧ Below w7.heap.size w7 wx)
        case first =>
          go_region_held3 (fun w' => w'.cell? ⟨bl, ol + a * 35, none⟩ = some (Rc.i (rx : Int)) ∧ w'.cell? ⟨bl, ol + a * 35 + 2, none⟩ = some (Rc.i x.st) ∧ w'.cell? ⟨bc, oc + rx * 3, none⟩ = some (Rc.i qx.s) ∧ w'.cell? ⟨bc, oc + rx * 3 + 1, none⟩ = some (Rc.i qx.er) ∧ w'.cell? ⟨bc, oc + rx * 3 + 2, none⟩ = some (Rc.i qx.d) ∧ Below w7.heap.size w7 w')
            (first
              | exact KP.out _ (by assumption)
              | exact KP.out _ (Rc.new2 (by assumption))
              | exact KP.out _ (Rc.set2 (by assumption))
              | exact KP.out _ (Rc.set2B (by assumption)))
            (first
              | (go_at_call 24
                 (with_reducible refine (HTIx.out _).mono ?_)
                 rintro e W4 ⟨rfl, hb4⟩
                 refine Rc.boxA hb4 (fun gA sA g0 g1 k0 k1 kz => ?_))
              | (go_at_call 24
                 (with_reducible refine (HTIx.out _).mono ?_)
                 rintro e W4 ⟨rfl, hb4⟩
                 have sB := s2.trans hb4))
          all_goals (
            go_wp2_with fail
            go_meet
            first
              | exact ⟨rfl, rfl, _, rfl, Has.new _ _ _, Rc.new2 sB⟩
              | exact ⟨rfl, rfl, _, rfl, (gA.set 0 _).set 1 _, Rc.set2 sA⟩)
        case rest =>
          obtain ⟨rfl, rfl, g1, rfl, hH, hB⟩ := hcut
          have HBA := Lib.hid (HB7.out.trans (hB.mono HB7.out.size))
          have HH1 := Lib.hid hH
          clear hH hB KP s2 x0 x2 p0 p1 p2 hzx hzc
          generalize wc = wA at HBA HH1 ⊢
          go_upto_region 14 with fail
          obtain ⟨bl2, ol2, hel, hbl2, hr2⟩ := ((HEV.out.l.keep HBA.out).get b y HGy.out).2
          injection hel with hel
          injection hel with hel1 hel2 _
          subst hel1 hel2
          obtain ⟨bc2, oc2, hec, hbc2, p0, p1, p2⟩ := (HEV.out.c.keep HBA.out).get ry qy HGQy.out
          injection hec with hec
          injection hec with hec1 hec2 _
          subst hec1 hec2
          have x0 : wA.cell? ⟨bl, ol + b * 35, none⟩ = some (Rc.i y.rf) := hr2 0 _ rfl
          have x2 : wA.cell? ⟨bl, ol + b * 35 + 2, none⟩ = some (Rc.i y.st) := hr2 2 _ rfl
          rw [HRFy.out] at x0
          have hzx : bl < wA.heap.size := by have := HBA.out.size; omega
          have hzc : bc < wA.heap.size := by have := HBA.out.size; omega
          have KP := Lib.hid (Rc.keepU hzc hzx x0 x2 p0 p1 p2)
          have s2 : Below wA.heap.size wA wA.drew := (Below.refl _ wA).drew
          clear hbl2 hr2 hbc2
          go_cut [20, 21, 22] from 29 to 161 (fun v0 v1 v2 wx => v1 = Value.bool true ∧ v2 = Value.int IntKind.i64 0 ∧ ∃ g : Nat, v0 = Value.pointer (some ⟨g, 0, none⟩) ∧ Has wx g 38 [.int .i64 ya, .int .i64 yb] ∧ Below wA.heap.size wA wx)
          case first =>
            go_region_held3 (fun w' => w'.cell? ⟨bl, ol + b * 35, none⟩ = some (Rc.i (ry : Int)) ∧ w'.cell? ⟨bl, ol + b * 35 + 2, none⟩ = some (Rc.i y.st) ∧ w'.cell? ⟨bc, oc + ry * 3, none⟩ = some (Rc.i qy.s) ∧ w'.cell? ⟨bc, oc + ry * 3 + 1, none⟩ = some (Rc.i qy.er) ∧ w'.cell? ⟨bc, oc + ry * 3 + 2, none⟩ = some (Rc.i qy.d) ∧ Below wA.heap.size wA w')
              (first
                | exact KP.out _ (by assumption)
                | exact KP.out _ (Rc.new2 (by assumption))
                | exact KP.out _ (Rc.set2 (by assumption))
                | exact KP.out _ (Rc.set2B (by assumption)))
              (first
                | (go_at_call 24
                   (with_reducible refine (HTIy.out _).mono ?_)
                   rintro e W4 ⟨rfl, hb4⟩
                   refine Rc.boxA hb4 (fun gA sA g0 g1 k0 k1 kz => ?_))
                | (go_at_call 24
                   (with_reducible refine (HTIy.out _).mono ?_)
                   rintro e W4 ⟨rfl, hb4⟩
                   have sB := s2.trans hb4))
            all_goals (
              go_wp2_with fail
              go_meet
              first
                | exact ⟨rfl, rfl, _, rfl, Has.new _ _ _, Rc.new2 sB⟩
                | exact ⟨rfl, rfl, _, rfl, (gA.set 0 _).set 1 _, Rc.set2 sA⟩)
          case rest =>
            obtain ⟨rfl, rfl, g2, rfl, hH2, hB⟩ := hcut
            have HBB := Lib.hid (HBA.out.trans (hB.mono HBA.out.size))
            obtain ⟨z1, m0, m1⟩ := (HH1.out.keep hB).r2
            obtain ⟨z2, n0, n1⟩ := hH2.r2
            clear hB hH2 KP s2 x0 x2 p0 p1 p2 hzx hzc
            have hmt : Clk.meetOk xa xb ya yb = false ∧ Clk.meetLo xa xb ya yb = 0 ∧ Clk.meetHi xa xb ya yb = 0 := Clk.meet_no xa xb ya yb _ _ rfl rfl (by
              have h1 := HDIS.out
              have h2 := HITx.out.2.1
              have h3 := HITx.out.2.2.1
              have h4 := HITy.out.2.1
              have h5 := HITy.out.2.2.1
              split <;> split <;> omega)
            have HME := Lib.hid (fun W => Clk.meet_any xa xb ya yb W)
            rw [hmt.1, hmt.2.1, hmt.2.2] at HME
            clear hmt
            go_wp2_with fail
            ((with_reducible refine (HME.out _).mono ?_); rintro e w8 ⟨rfl, hb⟩)
            have HB8 := Lib.hid (HBB.out.trans (hb.mono HBB.out.size))
            clear hb m0 m1 n0 n1 z1 z2
            by_cases ht1 : tm < 0
            · have hd4 : decide (tm < 0) = true := decide_eq_true ht1
              clear ht1
              go_wp2_with fail
              go_ret
              exact ⟨rfl, HB8.out.alloc HB8.out.size _⟩
            have hd4 : decide (tm < 0) = false := decide_eq_false ht1
            by_cases ht2 : 1048576 < tm
            · have hd5 : decide (1048576 < tm) = true := decide_eq_true ht2
              clear ht1 ht2
              go_wp2_with fail
              go_ret
              exact ⟨rfl, HB8.out.alloc HB8.out.size _⟩
            have hd5 : decide (1048576 < tm) = false := decide_eq_false ht2
            have ht : Clk.tmB tm = true := (Clk.tmB_iff tm).2 ⟨by omega, by omega⟩
            have hmx : Clk.mayE qx.s qx.er qx.d tm x.st = 0 ∧ Clk.mayB qx.s qx.er qx.d tm x.st = Clk.shB qx.s qx.er qx.d tm x.st := by unfold Clk.mayE Clk.mayB; rw [HOKQx.out.1, HOKQx.out.2, ht]; exact ⟨rfl, rfl⟩
            have hmy : Clk.mayE qy.s qy.er qy.d tm y.st = 0 ∧ Clk.mayB qy.s qy.er qy.d tm y.st = Clk.shB qy.s qy.er qy.d tm y.st := by unfold Clk.mayE Clk.mayB; rw [HOKQy.out.1, HOKQy.out.2, ht]; exact ⟨rfl, rfl⟩
            rw [hmx.1, hmx.2] at HMYx
            rw [hmy.1, hmy.2] at HMYy
            have HNB := Lib.hid (show ¬ (Clk.shB qx.s qx.er qx.d tm x.st = true ∧ Clk.shB qy.s qy.er qy.d tm y.st = true) from fun ⟨h1, h2⟩ => by
              have k1 := (HITx.out.2.2.2.2 tm (by omega) (by omega)).1 h1
              have k2 := (HITy.out.2.2.2.2 tm (by omega) (by omega)).1 h2
              have h3 := HDIS.out
              omega)
            generalize Clk.shB qx.s qx.er qx.d tm x.st = sx at HMYx HNB
            generalize Clk.shB qy.s qy.er qy.d tm y.st = sy at HMYy HNB
            clear ht ht1 ht2 hmx hmy HITx HITy HDIS
            go_upto_region 22 with fail
            obtain ⟨W9, hW9⟩ : ∃ W9, W9 = w8.alloc (.cells #[.int .i64 0, .int .i64 0] 38) := ⟨_, rfl⟩
            have HB9 := Lib.hid (show Below w.heap.size w W9 from by rw [hW9]; exact HB8.out.alloc HB8.out.size _)
            rw [← hW9]
            clear hW9
            obtain ⟨bl3, ol3, hel, hbl3, hr3⟩ := ((HEV.out.l.keep HB9.out).get a x HGx.out).2
            injection hel with hel
            injection hel with hel1 hel2 _
            subst hel1 hel2
            obtain ⟨bc3, oc3, hec, hbc3, p0, p1, p2⟩ := (HEV.out.c.keep HB9.out).get rx qx HGQx.out
            injection hec with hec
            injection hec with hec1 hec2 _
            subst hec1 hec2
            have x0 : W9.cell? ⟨bl, ol + a * 35, none⟩ = some (Rc.i x.rf) := hr3 0 _ rfl
            have x2 : W9.cell? ⟨bl, ol + a * 35 + 2, none⟩ = some (Rc.i x.st) := hr3 2 _ rfl
            rw [HRFx.out] at x0
            have hzx : bl < W9.heap.size := by have := HB9.out.size; omega
            have hzc : bc < W9.heap.size := by have := HB9.out.size; omega
            have KP := Lib.hid (Rc.keepU hzc hzx x0 x2 p0 p1 p2)
            have s2 : Below W9.heap.size W9 W9.drew := (Below.refl _ W9).drew
            clear hbl3 hr3 hbc3
            go_region_held3 (fun w' => w'.cell? ⟨bl, ol + a * 35, none⟩ = some (Rc.i (rx : Int)) ∧ w'.cell? ⟨bl, ol + a * 35 + 2, none⟩ = some (Rc.i x.st) ∧ w'.cell? ⟨bc, oc + rx * 3, none⟩ = some (Rc.i qx.s) ∧ w'.cell? ⟨bc, oc + rx * 3 + 1, none⟩ = some (Rc.i qx.er) ∧ w'.cell? ⟨bc, oc + rx * 3 + 2, none⟩ = some (Rc.i qx.d) ∧ Below W9.heap.size W9 w')
              (first
                | exact KP.out _ sB
                | exact KP.out _ s2)
              (first
                | (go_at_call 23
                   (with_reducible refine (HMYx.out _).mono ?_)
                   rintro e W4 ⟨rfl, hb4⟩
                   have sB := s2.trans (hb4.mono s2.size)))
            have HB10 := Lib.hid (HB9.out.trans (sB.mono HB9.out.size))
            clear KP s2 x0 x2 p0 p1 p2 hzx hzc sB hb4
            generalize hWA : W4 = wA at HB10 ⊢
            clear hWA
            go_upto_region 23 with fail
            obtain ⟨bl4, ol4, hel, hbl4, hr4⟩ := ((HEV.out.l.keep HB10.out).get b y HGy.out).2
            injection hel with hel
            injection hel with hel1 hel2 _
            subst hel1 hel2
            obtain ⟨bc4, oc4, hec, hbc4, p0, p1, p2⟩ := (HEV.out.c.keep HB10.out).get ry qy HGQy.out
            injection hec with hec
            injection hec with hec1 hec2 _
            subst hec1 hec2
            have x0 : wA.cell? ⟨bl, ol + b * 35, none⟩ = some (Rc.i y.rf) := hr4 0 _ rfl
            have x2 : wA.cell? ⟨bl, ol + b * 35 + 2, none⟩ = some (Rc.i y.st) := hr4 2 _ rfl
            rw [HRFy.out] at x0
            have hzx : bl < wA.heap.size := by have := HB10.out.size; omega
            have hzc : bc < wA.heap.size := by have := HB10.out.size; omega
            have KP := Lib.hid (Rc.keepU hzc hzx x0 x2 p0 p1 p2)
            have s2 : Below wA.heap.size wA wA.drew := (Below.refl _ wA).drew
            clear hbl4 hr4 hbc4
            go_region_held3 (fun w' => w'.cell? ⟨bl, ol + b * 35, none⟩ = some (Rc.i (ry : Int)) ∧ w'.cell? ⟨bl, ol + b * 35 + 2, none⟩ = some (Rc.i y.st) ∧ w'.cell? ⟨bc, oc + ry * 3, none⟩ = some (Rc.i qy.s) ∧ w'.cell? ⟨bc, oc + ry * 3 + 1, none⟩ = some (Rc.i qy.er) ∧ w'.cell? ⟨bc, oc + ry * 3 + 2, none⟩ = some (Rc.i qy.d) ∧ Below wA.heap.size wA w')
              (first
                | exact KP.out _ sB
                | exact KP.out _ s2)
              (first
                | (go_at_call 23
                   (with_reducible refine (HMYy.out _).mono ?_)
                   rintro e W4 ⟨rfl, hb4⟩
                   have sB := s2.trans (hb4.mono s2.size)))
            have HB11 := Lib.hid (HB10.out.trans (sB.mono HB10.out.size))
            clear KP s2 x0 x2 p0 p1 p2 hzx hzc sB hb4
            cases sx with
            | false =>
              go_wp2_with fail
              go_ret
              exact ⟨rfl, HB11.out⟩
            | true =>
              cases sy with
              | false =>
                go_wp2_with fail
                go_ret
                exact ⟨rfl, HB11.out⟩
              | true => exact absurd ⟨rfl, rfl⟩ HNB.out
    · go_enter Tryd.func9, Tryd.ntmps9
      go_wp2_with fail
      ((with_reducible refine (HSN.out _ (Below.refl _ _)).mono ?_); rintro e w2 ⟨rfl, hb⟩)
      have HB2 := Lib.hid hb
      clear hb
      go_wp2_with fail
      ((with_reducible refine (HFW.out _ HB2.out).mono ?_); rintro e w3 ⟨rfl, hb⟩)
      have HB3 := Lib.hid (HB2.out.trans (hb.mono HB2.out.size))
      clear hb
      go_wp2_with fail
      ((with_reducible refine (HRC.out _ HB3.out).mono ?_); rintro e w4 ⟨rfl, hb⟩)
      have HB4 := Lib.hid (HB3.out.trans (hb.mono HB3.out.size))
      clear hb
      go_wp2_with fail
      go_ret
      exact ⟨rfl, HB4.out⟩
end Go.Proofs.YtnbbleajbbgmjaaDoor
