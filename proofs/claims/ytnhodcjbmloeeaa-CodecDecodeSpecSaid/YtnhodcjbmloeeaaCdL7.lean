/- The law CodecNumbers returns true. -/
import Derived.Test.YtnhodcjbmloeeaaCdS2
namespace Go.Proofs.Ytnhodcjbmloeeaa
open Go.RowKit Go.Shelf
set_option linter.unusedVariables false

theorem Cd.CellB.rng {w : World} {B : Nat} {t : Cd.T} {cs : List Value} (h : Cd.CellB w B t cs) : t.rng := by
  induction h with
  | mk k n s l A c xss hl hx hr hn hm hs hk hi ih =>
    rw [Cd.T.rng]
    refine ⟨hi, hs, hm, ?_⟩
    have key : ∀ l : List Cd.T, (∀ i, i < l.length → (l[i]!).rng) → Cd.T.rngs l := by
      intro l
      induction l with
      | nil => intro _; rw [Cd.T.rngs]; trivial
      | cons x l ih2 =>
        intro h
        rw [Cd.T.rngs]
        refine ⟨by simpa using h 0 (by simp), ih2 fun i hi => ?_⟩
        have := h (i + 1) (by simpa using hi)
        simpa using this
    exact key l ih
theorem Cd.dec_enc {t : Cd.T} (hc : Cd.chkE t = 0) (hr : t.rng) : Cd.dec (Cd.out t) = some t := by
  have ho : Cd.out t = t.enc := by unfold Cd.out; rw [if_pos hc]
  rw [ho]
  unfold Cd.chkE at hc
  cases hf : t.fd with
  | none => rw [hf] at hc; cases hc
  | some d =>
    rw [hf] at hc
    have hc : (if 16 < d then (2 : Int) else 0) = 0 := hc
    have hd : d ≤ 16 := by
      by_cases h : 16 < d
      · rw [if_pos h] at hc; cases hc
      · omega
    have h := Cd.dv_enc t 16 d [] hf hd hr
    rw [List.append_nil] at h
    unfold Cd.dec
    rw [h]
    rfl
theorem Cd.numF_mono : ∀ (f u v : Nat), u ≤ v → (Cd.numF f u).length ≤ (Cd.numF f v).length
  | 0, u, v, h => by simp [Cd.numF]
  | f + 1, u, v, h => by
    have e1 : Cd.numF (f + 1) u = if u < 128 then [UInt8.ofNat u] else UInt8.ofNat (u % 128 + 128) :: Cd.numF f (u / 128) := rfl
    have e2 : Cd.numF (f + 1) v = if v < 128 then [UInt8.ofNat v] else UInt8.ofNat (v % 128 + 128) :: Cd.numF f (v / 128) := rfl
    rw [e1, e2]
    by_cases hu : u < 128
    · rw [if_pos hu]
      by_cases hv : v < 128
      · rw [if_pos hv]; simp
      · rw [if_neg hv]; simp
    · rw [if_neg hu, if_neg (by omega)]
      have := Cd.numF_mono f (u / 128) (v / 128) (Nat.div_le_div_right h)
      simp only [List.length_cons]
      omega
theorem Cd.num_pos (u : Nat) : 1 ≤ (Cd.num u).length := by
  show 1 ≤ (Cd.numF (8 + 1) u).length
  have e1 : Cd.numF (8 + 1) u = if u < 128 then [UInt8.ofNat u] else UInt8.ofNat (u % 128 + 128) :: Cd.numF 8 (u / 128) := rfl
  rw [e1]
  split <;> simp
theorem Cd.int_out (n : Int) : Cd.chkE (.mk 1 n [] []) = 0 ∧ Cd.out (.mk 1 n [] []) = 1 :: Cd.num (Cd.uns n) := by
  have h : Cd.chkE (.mk 1 n [] []) = 0 := by simp [Cd.chkE, Cd.T.fd]
  refine ⟨h, ?_⟩
  unfold Cd.out
  rw [if_pos h, Cd.enc_1 rfl]
  rfl

set_option maxRecDepth 100000 in
set_option maxHeartbeats 8000000 in
theorem Cd.law7 (a b : Int) (w : World) (ha : -9223372036854775808 ≤ a ∧ a ≤ 9223372036854775807) (hb : -9223372036854775808 ≤ b ∧ b ≤ 9223372036854775807) :
    Calls Try.prog 9 #[.int .i64 a, .int .i64 b] w fun e w' => e = .returned (.bool true) ∧ Below w.heap.size w w' := by
  have HA := Lib.hid ha
  have HB := Lib.hid hb
  obtain ⟨m, hm⟩ : ∃ m, m = (Cd.out (.mk 1 a [] [])).length := ⟨_, rfl⟩
  obtain ⟨n, hn⟩ : ∃ n, n = (Cd.out (.mk 1 b [] [])).length := ⟨_, rfl⟩
  have hm2 : 2 ≤ m ∧ m ≤ 11 := by
    have h1 := Cd.num_pos (Cd.uns a)
    have h2 := Cd.num_len (Cd.uns a)
    rw [hm, (Cd.int_out a).2, List.length_cons]
    omega
  have hn2 : 2 ≤ n ∧ n ≤ 11 := by
    have h1 := Cd.num_pos (Cd.uns b)
    have h2 := Cd.num_len (Cd.uns b)
    rw [hn, (Cd.int_out b).2, List.length_cons]
    omega
  have hmn : (0 ≤ a ∧ a ≤ b ∨ a < 0 ∧ b ≤ a) → m ≤ n := fun h => by
    rw [hm, hn, (Cd.int_out a).2, (Cd.int_out b).2, List.length_cons, List.length_cons]
    have := Cd.numF_mono 9 (Cd.uns a) (Cd.uns b) (by
      unfold Cd.uns
      rcases h with ⟨h1, h2⟩ | ⟨h1, h2⟩
      · rw [if_pos h1, if_pos (by omega)]; omega
      · rw [if_neg (by omega), if_neg (by omega)]; omega)
    show (Cd.numF 9 (Cd.uns a)).length + 1 ≤ (Cd.numF 9 (Cd.uns b)).length + 1
    omega
  have HSA := Lib.hid (fun w => Cd.size_int w a ha)
  have HSB := Lib.hid (fun w => Cd.size_int w b hb)
  have HEA := Lib.hid (fun w => Cd.enc_int w a ha)
  rw [(Cd.int_out a).1, ← hm] at HSA
  rw [(Cd.int_out b).1, ← hn] at HSB
  have HM := Lib.hid hm
  have HMN := Lib.hid hmn
  clear hm hn hmn ha hb
  have g1 : decide ((m : Int) < 2) = false := decide_eq_false (by omega)
  have g2 : decide ((11 : Int) < (m : Int)) = false := decide_eq_false (by omega)
  have g3 : decide ((n : Int) < 2) = false := decide_eq_false (by omega)
  have g4 : decide ((11 : Int) < (n : Int)) = false := decide_eq_false (by omega)
  go_enter Try.func9, Try.ntmps9
  go_wp2_with fail
  ((with_reducible refine (Cd.sane_any _).mono ?_); rintro e w1 ⟨rfl, hb1⟩)
  have HB1 := Lib.hid hb1
  clear hb1
  go_wp2_with fail
  ((with_reducible refine (Cd.rint_any a _).mono ?_); rintro e w2 ⟨rfl, hb2⟩)
  have HB2 := Lib.hid (HB1.out.trans (hb2.mono HB1.out.size))
  clear hb2
  go_wp2_with fail
  ((with_reducible refine (HSA.out _).mono ?_); rintro e w3 ⟨rfl, hb3⟩)
  have HB3 := Lib.hid (HB2.out.trans (hb3.mono HB2.out.size))
  clear hb3
  go_wp2_with fail
  ((with_reducible refine (Cd.rint_any b _).mono ?_); rintro e w4 ⟨rfl, hb4⟩)
  have HB4 := Lib.hid (HB3.out.trans (hb4.mono HB3.out.size))
  clear hb4
  go_wp2_with fail
  ((with_reducible refine (HSB.out _).mono ?_); rintro e w5 ⟨rfl, hb5⟩)
  have HB5 := Lib.hid (HB4.out.trans (hb5.mono HB4.out.size))
  clear hb5
  go_upto_region 7 with fail
  go_cut [74] from 49 to 74 (fun v wx => v = .bool false ∧ wx = w5)
  case first =>
    by_cases p1 : 0 ≤ a <;> by_cases p2 : a ≤ b <;> by_cases p3 : b ≤ a
    all_goals (
      have d1 : decide (0 ≤ a) = decide (0 ≤ a) := rfl
      first | (have e1 : decide (0 ≤ a) = true := decide_eq_true p1; have e1' : decide (a < 0) = false := decide_eq_false (by omega)) | (have e1 : decide (0 ≤ a) = false := decide_eq_false p1; have e1' : decide (a < 0) = true := decide_eq_true (by omega))
      first | (have e2 : decide (a ≤ b) = true := decide_eq_true p2) | (have e2 : decide (a ≤ b) = false := decide_eq_false p2)
      first | (have e3 : decide (b ≤ a) = true := decide_eq_true p3) | (have e3 : decide (b ≤ a) = false := decide_eq_false p3)
      first | (have e4 : decide (n < m) = false := decide_eq_false (by have := HMN.out (by omega); omega)) | skip
      clear p1 p2 p3 d1
      go_wp2_with fail
      go_meet
      exact ⟨rfl, rfl⟩)
  case rest =>
    obtain ⟨rfl, rfl⟩ := hcut
    go_wp2_with fail
    ((with_reducible refine (Cd.rint_any a _).mono ?_); rintro e w6 ⟨rfl, hb6⟩)
    have HB6 := Lib.hid (HB5.out.trans (hb6.mono HB5.out.size))
    clear hb6
    go_wp2_with fail
    ((with_reducible refine (HEA.out _).mono ?_); rintro e w7 ⟨v7, rfl, hb7, ho7⟩)
    rw [(Cd.int_out a).1]
    obtain ⟨A7, c7, rfl⟩ := own_slice ho7
    have HC7 := Lib.hid (own_caps ho7)
    have HR7 := Lib.hid (RdB.of_own ho7)
    have HB7 := Lib.hid (HB6.out.trans (hb7.mono HB6.out.size))
    have hl7 : (Cd.out (.mk 1 a [] [])).length ≤ 1000000000 := by
      have h2 := Cd.num_len (Cd.uns a)
      rw [(Cd.int_out a).2, List.length_cons]
      omega
    have HD := Lib.hid (Cd.decode_any w7 A7 c7 _ HR7.out HC7.out.1 HC7.out.2 hl7)
    clear hb7 ho7 hl7
    rw [← HM.out] at HD ⊢
    go_wp2_with fail
    ((with_reducible refine HD.out.mono ?_); rintro e w8 ⟨cs, rfl, hb8, hx8⟩)
    rw [Cd.dec_enc (Cd.int_out a).1 (Cd.cell_int w 0 a HA.out).rng] at hx8 ⊢
    obtain ⟨A8, c8, rfl⟩ : ∃ A8 c8, cs = [.int .i64 1, .int .i64 a, .string ⟨#[]⟩, .slice A8 0 c8] := hx8.spell
    have HB8 := Lib.hid (HB7.out.trans (hb8.mono HB7.out.size))
    clear hb8 hx8
    go_wp2_with fail
    go_ret
    exact ⟨rfl, HB8.out.alloc HB8.out.size _⟩
end Go.Proofs.Ytnhodcjbmloeeaa
