/- Contract of sane. -/
import Derived.Test.YtnhodcjbmloeeaaCdS1
import Derived.Test.YtnhodcjbmloeeaaCdR3
namespace Go.Proofs.Ytnhodcjbmloeeaa
open Go.RowKit Go.Shelf
set_option linter.unusedVariables false

set_option maxRecDepth 100000 in
set_option maxHeartbeats 8000000 in
theorem Cd.sane_any (w : World) : Calls Try.prog 10 #[] w fun e w' => e = .returned (.bool true) ∧ Below w.heap.size w w' := by
  go_enter Try.func10, Try.ntmps10
  go_wp2_with fail
  ((with_reducible refine (Cd.rint_any (-3) _).mono ?_); rintro e w1 ⟨rfl, hb1⟩)
  have S1 := Lib.hid ((St.start w).keep hb1)
  clear hb1
  go_wp2_with fail
  ((with_reducible refine (Cd.enc_int w1 (-3) (by omega)).mono ?_); rintro e w2 ⟨v2, rfl, hb2, ho2⟩)
  rw [Cd.ex1.1]
  rw [Cd.ex1.2] at ho2
  obtain ⟨A2, c2, rfl⟩ := own_slice ho2
  have S2 := Lib.hid (S1.out.keep hb2)
  have HO2 := Lib.hid (RdB.of_own (l := [1, 5]) ho2)
  clear hb2 ho2
  go_wp2_with fail
  ((with_reducible refine (Cd.rint_any 100 _).mono ?_); rintro e w3 ⟨rfl, hb3⟩)
  have S3 := Lib.hid (S2.out.keep hb3)
  have HO3 := Lib.hid (HO2.out.keep hb3)
  clear hb3
  go_wp2_with fail
  ((with_reducible refine (Cd.rtext_any ⟨([97, 98] : List UInt8).toArray⟩ _).mono ?_); rintro e w4 ⟨rfl, hb4⟩)
  have S4 := Lib.hid (S3.out.keep hb4)
  have HO4 := Lib.hid (HO3.out.keep hb4)
  clear hb4
  go_wp2_with fail
  obtain ⟨w5, hw5⟩ : ∃ w5, w5 = w4.alloc (.cells #[.int .i64 1, .int .i64 100, .string ⟨#[]⟩, .slice none 0 0, .int .i64 2, .int .i64 0, .string ⟨#[97, 98]⟩, .slice none 0 0] 24) := ⟨_, rfl⟩
  have S5 := Lib.hid (show St w w5 [(w4.heap.size, 24, [.int .i64 1, .int .i64 100, .string ⟨#[]⟩, .slice none 0 0, .int .i64 2, .int .i64 0, .string ⟨#[97, 98]⟩, .slice none 0 0])] by rw [hw5]; exact S4.out.new _ _)
  have HO5 := Lib.hid (show RdB w5 A2 [1, 5].length [1, 5] by rw [hw5]; exact HO4.out.alloc _)
  rw [← hw5]
  clear hw5
  ((with_reducible refine (Cd.rlist_any _ 2 2 _).mono ?_); rintro e w6 ⟨rfl, hb6⟩)
  have S6 := Lib.hid (S5.out.keep hb6)
  have HO6 := Lib.hid (HO5.out.keep hb6)
  clear hb6
  go_wp2_with fail
  obtain ⟨w7, hw7⟩ : ∃ w7, w7 = w6.alloc (.cells #[.int .i64 3, .int .i64 0, .string ⟨#[]⟩, .slice (some ⟨w4.heap.size, 0, none⟩) 2 2] 24) := ⟨_, rfl⟩
  have S7 := Lib.hid (show St w w7 [(w6.heap.size, 24, [.int .i64 3, .int .i64 0, .string ⟨#[]⟩, .slice (some ⟨w4.heap.size, 0, none⟩) 2 2]), (w4.heap.size, 24, [.int .i64 1, .int .i64 100, .string ⟨#[]⟩, .slice none 0 0, .int .i64 2, .int .i64 0, .string ⟨#[97, 98]⟩, .slice none 0 0])] by rw [hw7]; exact S6.out.new _ _)
  have HO7 := Lib.hid (show RdB w7 A2 [1, 5].length [1, 5] by rw [hw7]; exact HO6.out.alloc _)
  rw [← hw7]
  clear hw7
  have HEX := Lib.hid (show ∀ w', Has w' w4.heap.size 24 [.int .i64 1, .int .i64 100, .string ⟨#[]⟩, .slice none 0 0, .int .i64 2, .int .i64 0, .string ⟨#[97, 98]⟩, .slice none 0 0] → Cd.CellB w' w'.heap.size Cd.exL [.int .i64 3, .int .i64 0, .string ⟨#[]⟩, .slice (some ⟨w4.heap.size, 0, none⟩) 2 2] from fun w' h => (Cd.cell_ex w' w4.heap.size h).more h.lt)
  ((with_reducible refine (show Calls Try.prog 12 #[.agg #[.int .i64 3, .int .i64 0, .string ⟨#[]⟩, .slice (some ⟨w4.heap.size, 0, none⟩) 2 2]] w7 (Cd.RetE w7 Cd.exL) from Cd.encode_any Cd.exL _ w7 Cd.ex_small.1 (HEX.out w7 (S7.out.nth 1 rfl)) Cd.ex_small.2).mono ?_); rintro e w8 ⟨v8, rfl, hb8, ho8⟩)
  rw [Cd.ex2.1]
  rw [Cd.ex2.2] at ho8
  obtain ⟨A8, c8, rfl⟩ := own_slice ho8
  have S8 := Lib.hid (S7.out.keep hb8)
  have HO8 := Lib.hid (HO7.out.keep hb8)
  have HP8 := Lib.hid (RdB.of_own (l := [3, 2, 1, 200, 1, 2, 2, 97, 98]) ho8)
  have HC8 := Lib.hid (own_caps ho8)
  clear hb8 ho8
  go_wp2_with fail
  have HD8 := Lib.hid (Cd.decode_at w8 A8 9 c8 [3, 2, 1, 200, 1, 2, 2, 97, 98] rfl HP8.out HC8.out.1 HC8.out.2 (by decide))
  ((with_reducible refine HD8.out.mono ?_); rintro e w9 ⟨cs9, rfl, hb9, hx9⟩)
  rw [Cd.ex3] at hx9 ⊢
  have hx9 : Cd.CellB w9 w9.heap.size Cd.exL cs9 := hx9
  obtain ⟨A9, c9, rfl⟩ : ∃ A9 c9, cs9 = [.int .i64 3, .int .i64 0, .string ⟨#[]⟩, .slice A9 2 c9] := hx9.spell
  have S9 := Lib.hid (S8.out.keep hb9)
  have HO9 := Lib.hid (HO8.out.keep hb9)
  have HP9 := Lib.hid (HP8.out.keep hb9)
  have HX9 := Lib.hid (show Cd.CellB w9 w9.heap.size Cd.exL [.int .i64 3, .int .i64 0, .string ⟨#[]⟩, .slice A9 2 c9] from hx9)
  clear hb9 hx9
  go_upto_region 5 with fail
  obtain ⟨w10, hw10⟩ : ∃ w10, w10 = w9.alloc (.cells #[.int .i64 3, .int .i64 0, .string ⟨#[]⟩, .slice A9 2 c9] 24) := ⟨_, rfl⟩
  have S10 := Lib.hid (show St w w10 [(w9.heap.size, 24, [.int .i64 3, .int .i64 0, .string ⟨#[]⟩, .slice A9 2 c9]), (w6.heap.size, 24, [.int .i64 3, .int .i64 0, .string ⟨#[]⟩, .slice (some ⟨w4.heap.size, 0, none⟩) 2 2]), (w4.heap.size, 24, [.int .i64 1, .int .i64 100, .string ⟨#[]⟩, .slice none 0 0, .int .i64 2, .int .i64 0, .string ⟨#[97, 98]⟩, .slice none 0 0])] by rw [hw10]; exact S9.out.new _ _)
  have HB10 := Lib.hid (show Below w9.heap.size w9 w10 by rw [hw10]; exact (Below.refl _ _).alloc (Nat.le_refl _) _)
  try rw [← hw10]
  clear hw10
  have HO10 := Lib.hid (HO9.out.keep HB10.out)
  have HP10 := Lib.hid (HP9.out.keep HB10.out)
  have HX10 := Lib.hid ((HX9.out.keep HB10.out).more HB10.out.size)
  have z1 := (S10.out.nth 1 rfl).lt
  have e0 := (S10.out.nth 1 rfl).cell 0
  have e1 := (S10.out.nth 1 rfl).cell 1
  have e2 := (S10.out.nth 1 rfl).cell 2
  have e3 := (S10.out.nth 1 rfl).cell 3
  simp only [List.getElem?_cons_succ, List.getElem?_cons_zero] at e0 e1 e2 e3
  go_wp2_with fail
  have HSZ := Lib.hid (show Calls Try.prog 14 #[.agg #[.int .i64 3, .int .i64 0, .string ⟨#[]⟩, .slice (some ⟨w4.heap.size, 0, none⟩) 2 2]] w10 (fun e w' => e = .returned (.tuple #[.int .i64 ((Cd.out Cd.exL).length : Nat), .int .i64 (Cd.chkE Cd.exL)]) ∧ Below w10.heap.size w10 w') from Cd.size_any Cd.exL _ w10 Cd.ex_small.1 (HEX.out w10 (S10.out.nth 2 rfl)) Cd.ex_small.2)
  ((with_reducible refine HSZ.out.mono ?_); rintro e w11 ⟨rfl, hb11⟩)
  rw [Cd.ex2.1, Cd.ex2.2]
  have S11 := Lib.hid (S10.out.keep hb11)
  have HO11 := Lib.hid (HO10.out.keep hb11)
  have HP11 := Lib.hid (HP10.out.keep hb11)
  have HX11 := Lib.hid ((HX10.out.keep hb11).more hb11.size)
  clear hb11 z1 e0 e1 e2 e3
  have z1 := (S11.out.nth 1 rfl).lt
  have e0 := (S11.out.nth 1 rfl).cell 0
  have e1 := (S11.out.nth 1 rfl).cell 1
  have e2 := (S11.out.nth 1 rfl).cell 2
  have e3 := (S11.out.nth 1 rfl).cell 3
  have z0 := (S11.out.nth 0 rfl).lt
  have d0 := (S11.out.nth 0 rfl).cell 0
  have d1 := (S11.out.nth 0 rfl).cell 1
  have d2 := (S11.out.nth 0 rfl).cell 2
  have d3 := (S11.out.nth 0 rfl).cell 3
  simp only [List.getElem?_cons_succ, List.getElem?_cons_zero] at e0 e1 e2 e3 d0 d1 d2 d3
  have y2 : ∀ c, (convert 27 9 (.slice A2 2 c)).run Try.prog w11 = .ok (.string ⟨#[1, 5]⟩) w11 := fun c => HO11.out.str (P := Try.prog) Try.underlying27 Try.underlying5 Try.underlying9 c
  have y8 : ∀ c, (convert 27 9 (.slice A8 9 c)).run Try.prog w11 = .ok (.string ⟨#[3, 2, 1, 200, 1, 2, 2, 97, 98]⟩) w11 := fun c => HP11.out.str (P := Try.prog) Try.underlying27 Try.underlying5 Try.underlying9 c
  go_wp2_with fail
  have HSM := Lib.hid (Cd.same_any 1000000 Cd.exL Cd.exL _ _ w11 Cd.ex_small.1 ((HEX.out w11 (S11.out.nth 2 rfl)).cell (Nat.le_refl _)) (HX11.out.cell (Nat.le_refl _)))
  rw [Cd.T.sm_yes] at HSM
  ((with_reducible refine HSM.out.mono ?_); rintro e w12 ⟨rfl, hb12⟩)
  have S12 := Lib.hid (S11.out.keep hb12)
  clear hb12 y2 y8 z1 e0 e1 e2 e3 z0 d0 d1 d2 d3
  go_wp2_with fail
  ((with_reducible refine (Cd.rtext_any ⟨#[]⟩ _).mono ?_); rintro e w13 ⟨rfl, hb13⟩)
  have S13 := Lib.hid (S12.out.keep hb13)
  clear hb13
  go_wp2_with fail
  ((with_reducible refine (Cd.rlist_any none 0 0 _).mono ?_); rintro e w14 ⟨rfl, hb14⟩)
  have S14 := Lib.hid (S13.out.keep hb14)
  clear hb14
  go_wp2_with fail
  have HSN := Lib.hid (show Calls Try.prog 21 #[.agg #[.int .i64 2, .int .i64 0, .string ⟨#[]⟩, .slice none 0 0], .agg #[.int .i64 3, .int .i64 0, .string ⟨#[]⟩, .slice none 0 0]] w14 (Cd.RetS w14 ((Cd.T.mk 2 0 [] []).sm (.mk 3 0 [] []))) from
    Cd.same_any 1000000 (.mk 2 0 [] []) (.mk 3 0 [] []) [.int .i64 2, .int .i64 0, .string ⟨([] : List UInt8).toArray⟩, .slice none ([] : List Cd.T).length 0] [.int .i64 3, .int .i64 0, .string ⟨([] : List UInt8).toArray⟩, .slice none ([] : List Cd.T).length 0] w14 (by simp [Cd.T.hgt, Cd.T.hgts]) ((Cd.cell_text w14 0 [] (by simp)).cell (Nat.zero_le _)) ((Cd.CellB.mk (B := 0) 3 0 [] [] none 0 [] rfl (fun i hi => absurd hi (by simp)) Rd.none_ (fun _ => rfl) (by simp) (by simp) (by omega) (by omega)).cell (Nat.zero_le _)))
  rw [Cd.T.sm_no (by simp)] at HSN
  ((with_reducible refine HSN.out.mono ?_); rintro e w15 ⟨rfl, hb15⟩)
  have S15 := Lib.hid (S14.out.keep hb15)
  clear hb15
  go_wp2_with fail
  obtain ⟨w16, hw16⟩ : ∃ w16, w16 = w15.alloc (.cells #[.string ⟨#[]⟩, .string ⟨#[1, 128, 0]⟩, .string ⟨#[1, 5, 0]⟩, .string ⟨#[2, 3, 97]⟩] 9) := ⟨_, rfl⟩
  have S16 := Lib.hid (show St w w16 [(w15.heap.size, 9, [.string ⟨#[]⟩, .string ⟨#[1, 128, 0]⟩, .string ⟨#[1, 5, 0]⟩, .string ⟨#[2, 3, 97]⟩])] by rw [hw16]; exact (S15.out.less (l' := []) (by simp)).new _ _)
  try rw [← hw16]
  clear hw16
  go_loopw [79] (fun i wr => ∃ k : Nat, k ≤ 4 ∧ i = .int .i64 k ∧ St w wr [(w15.heap.size, 9, [.string ⟨#[]⟩, .string ⟨#[1, 128, 0]⟩, .string ⟨#[1, 5, 0]⟩, .string ⟨#[2, 3, 97]⟩])]) (fun i _ => 4 - (intOf i).toNat)
  case atStart => exact ⟨0, by omega, rfl, S16.out⟩
  case round =>
    obtain ⟨k, hk, rfl, hS⟩ := hrel
    have SR := Lib.hid hS
    clear hS
    have zr := (SR.out.nth 0 rfl).lt
    obtain rfl | rfl | rfl | rfl | rfl : k = 0 ∨ k = 1 ∨ k = 2 ∨ k = 3 ∨ k = 4 := by omega
    · have c0 := (SR.out.nth 0 rfl).cell 0
      simp only [List.getElem?_cons_zero] at c0
      obtain ⟨cap, w17, yk, hrd, hc1, hc2, hb17⟩ := bytes_of_str wr [] 0 rfl (by decide)
      have yk : (convert 9 27 (.string ⟨#[]⟩)).run Try.prog wr = .ok (.slice (some ⟨wr.heap.size, 0, none⟩) 0 cap) w17 := yk
      have HDK := Lib.hid (Cd.decode_at w17 _ 0 cap [] rfl hrd hc1 hc2 (by decide))
      have S17 := Lib.hid (SR.out.keep hb17)
      clear hrd hc1 hc2 hb17
      go_wp2_with fail
      ((with_reducible refine HDK.out.mono ?_); rintro e w18 ⟨cs, rfl, hb18, hx18⟩)
      rw [Cd.ex4.1] at hx18 ⊢
      obtain ⟨A18, c18, rfl⟩ : ∃ A18 c18, cs = [.int .i64 0, .int .i64 0, .string ⟨#[]⟩, .slice A18 0 c18] := hx18.spell
      have S18 := Lib.hid (S17.out.keep hb18)
      clear hb18 hx18 yk
      go_wp2_with fail
      exact ⟨⟨1, by omega, rfl, S18.out.alloc _⟩, by simp [intOf]⟩
    · have c1 := (SR.out.nth 0 rfl).cell 1
      simp only [List.getElem?_cons_succ, List.getElem?_cons_zero] at c1
      obtain ⟨cap, w17, yk, hrd, hc1, hc2, hb17⟩ := bytes_of_str wr [1, 128, 0] 3 rfl (by decide)
      have yk : (convert 9 27 (.string ⟨#[1, 128, 0]⟩)).run Try.prog wr = .ok (.slice (some ⟨wr.heap.size, 0, none⟩) 3 cap) w17 := yk
      have HDK := Lib.hid (Cd.decode_at w17 _ 3 cap [1, 128, 0] rfl hrd hc1 hc2 (by decide))
      have S17 := Lib.hid (SR.out.keep hb17)
      clear hrd hc1 hc2 hb17
      go_wp2_with fail
      ((with_reducible refine HDK.out.mono ?_); rintro e w18 ⟨cs, rfl, hb18, hx18⟩)
      rw [Cd.ex4.2.1] at hx18 ⊢
      obtain ⟨A18, c18, rfl⟩ : ∃ A18 c18, cs = [.int .i64 0, .int .i64 0, .string ⟨#[]⟩, .slice A18 0 c18] := hx18.spell
      have S18 := Lib.hid (S17.out.keep hb18)
      clear hb18 hx18 yk
      go_wp2_with fail
      exact ⟨⟨2, by omega, rfl, S18.out.alloc _⟩, by simp [intOf]⟩
    · have c2 := (SR.out.nth 0 rfl).cell 2
      simp only [List.getElem?_cons_succ, List.getElem?_cons_zero] at c2
      obtain ⟨cap, w17, yk, hrd, hc1, hc2, hb17⟩ := bytes_of_str wr [1, 5, 0] 3 rfl (by decide)
      have yk : (convert 9 27 (.string ⟨#[1, 5, 0]⟩)).run Try.prog wr = .ok (.slice (some ⟨wr.heap.size, 0, none⟩) 3 cap) w17 := yk
      have HDK := Lib.hid (Cd.decode_at w17 _ 3 cap [1, 5, 0] rfl hrd hc1 hc2 (by decide))
      have S17 := Lib.hid (SR.out.keep hb17)
      clear hrd hc1 hc2 hb17
      go_wp2_with fail
      ((with_reducible refine HDK.out.mono ?_); rintro e w18 ⟨cs, rfl, hb18, hx18⟩)
      rw [Cd.ex4.2.2.1] at hx18 ⊢
      obtain ⟨A18, c18, rfl⟩ : ∃ A18 c18, cs = [.int .i64 0, .int .i64 0, .string ⟨#[]⟩, .slice A18 0 c18] := hx18.spell
      have S18 := Lib.hid (S17.out.keep hb18)
      clear hb18 hx18 yk
      go_wp2_with fail
      exact ⟨⟨3, by omega, rfl, S18.out.alloc _⟩, by simp [intOf]⟩
    · have c3 := (SR.out.nth 0 rfl).cell 3
      simp only [List.getElem?_cons_succ, List.getElem?_cons_zero] at c3
      obtain ⟨cap, w17, yk, hrd, hc1, hc2, hb17⟩ := bytes_of_str wr [2, 3, 97] 3 rfl (by decide)
      have yk : (convert 9 27 (.string ⟨#[2, 3, 97]⟩)).run Try.prog wr = .ok (.slice (some ⟨wr.heap.size, 0, none⟩) 3 cap) w17 := yk
      have HDK := Lib.hid (Cd.decode_at w17 _ 3 cap [2, 3, 97] rfl hrd hc1 hc2 (by decide))
      have S17 := Lib.hid (SR.out.keep hb17)
      clear hrd hc1 hc2 hb17
      go_wp2_with fail
      ((with_reducible refine HDK.out.mono ?_); rintro e w18 ⟨cs, rfl, hb18, hx18⟩)
      rw [Cd.ex4.2.2.2] at hx18 ⊢
      obtain ⟨A18, c18, rfl⟩ : ∃ A18 c18, cs = [.int .i64 0, .int .i64 0, .string ⟨#[]⟩, .slice A18 0 c18] := hx18.spell
      have S18 := Lib.hid (S17.out.keep hb18)
      clear hb18 hx18 yk
      go_wp2_with fail
      exact ⟨⟨4, by omega, rfl, S18.out.alloc _⟩, by simp [intOf]⟩
    · go_wp2_with fail
      have HCK := Lib.hid (show Calls Try.prog 16 #[.agg #[.int .i64 0, .int .i64 0, .string ⟨#[]⟩, .slice none 0 0]] wr (fun e w' => e = .returned (.int .i64 1) ∧ Below wr.heap.size wr w') from
        (Cd.check_any (.mk 0 0 [] []) [.int .i64 0, .int .i64 0, .string ⟨([] : List UInt8).toArray⟩, .slice none ([] : List Cd.T).length 0] wr (by simp [Cd.T.hgt, Cd.T.hgts]) ((Cd.cell_none wr 0).cell (Nat.zero_le _))).mono fun e w' h => by simpa [Cd.chkE, Cd.T.fd] using h)
      ((with_reducible refine HCK.out.mono ?_); rintro e w18 ⟨rfl, hb18⟩)
      have S18 := Lib.hid (SR.out.keep hb18)
      clear hb18
      go_wp2_with fail
      go_ret
      exact ⟨rfl, S18.out.below⟩
end Go.Proofs.Ytnhodcjbmloeeaa
