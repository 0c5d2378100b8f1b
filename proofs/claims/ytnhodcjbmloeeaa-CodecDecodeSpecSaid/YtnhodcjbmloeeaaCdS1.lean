/- The chapter's examples hold: sane. -/
import Derived.Test.YtnhodcjbmloeeaaCdD6
import Derived.Test.YtnhodcjbmloeeaaCdR6
import Derived.Test.YtnhodcjbmloeeaaCdW8
namespace Go.Proofs.Ytnhodcjbmloeeaa
open Go.RowKit Go.Shelf
set_option linter.unusedVariables false

theorem Cd.cell_int (w : World) (B : Nat) (n : Int) (hn : -9223372036854775808 ≤ n ∧ n ≤ 9223372036854775807) : Cd.CellB w B (.mk 1 n [] []) [.int .i64 1, .int .i64 n, .string ⟨([] : List UInt8).toArray⟩, .slice none ([] : List Cd.T).length 0] :=
  .mk 1 n [] [] none 0 [] rfl (fun i hi => absurd hi (by simp)) Rd.none_ (fun _ => rfl) (by simp) (by simp) (by omega) hn
theorem Cd.cell_text (w : World) (B : Nat) (s : List UInt8) (hs : s.length ≤ maxLen) : Cd.CellB w B (.mk 2 0 s []) [.int .i64 2, .int .i64 0, .string ⟨s.toArray⟩, .slice none ([] : List Cd.T).length 0] :=
  .mk 2 0 s [] none 0 [] rfl (fun i hi => absurd hi (by simp)) Rd.none_ (fun _ => rfl) (by simp) hs (by omega) (by omega)
/-- the list of the example -/
def Cd.exL : Cd.T := .mk 3 0 [] [.mk 1 100 [] [], .mk 2 0 [97, 98] []]
theorem Cd.cell_ex (w : World) (g : Nat) (h : Has w g 24 [.int .i64 1, .int .i64 100, .string ⟨([] : List UInt8).toArray⟩, .slice none ([] : List Cd.T).length 0, .int .i64 2, .int .i64 0, .string ⟨([97, 98] : List UInt8).toArray⟩, .slice none ([] : List Cd.T).length 0]) :
    Cd.CellB w (g + 1) Cd.exL [.int .i64 3, .int .i64 0, .string ⟨([] : List UInt8).toArray⟩, .slice (some ⟨g, 0, none⟩) 2 2] :=
  .mk 3 0 [] [.mk 1 100 [] [], .mk 2 0 [97, 98] []] (some ⟨g, 0, none⟩) 2 [[.int .i64 1, .int .i64 100, .string ⟨([] : List UInt8).toArray⟩, .slice none ([] : List Cd.T).length 0], [.int .i64 2, .int .i64 0, .string ⟨([97, 98] : List UInt8).toArray⟩, .slice none ([] : List Cd.T).length 0]] rfl
    (fun i hi => by
      match i, hi with
      | 0, _ => exact Cd.cell_int w _ 100 (by omega)
      | 1, _ => exact Cd.cell_text w _ [97, 98] (by decide))
    ⟨rfl, fun _ => ⟨g, 0, rfl, by omega, fun j u hu => by rw [Nat.zero_add, h.cell j]; exact hu⟩⟩ (by simp) (by decide) (by simp) (by omega) (by omega)

theorem Cd.ex1 : Cd.chkE (.mk 1 (-3) [] []) = 0 ∧ Cd.out (.mk 1 (-3) [] []) = [1, 5] := by
  constructor
  · simp [Cd.chkE, Cd.T.fd]
  · simp [Cd.out, Cd.chkE, Cd.T.fd, Cd.T.enc]
    decide +kernel
theorem Cd.ex2 : Cd.chkE Cd.exL = 0 ∧ Cd.out Cd.exL = [3, 2, 1, 200, 1, 2, 2, 97, 98] := by
  constructor
  · simp [Cd.exL, Cd.chkE, Cd.T.fd, Cd.T.fds]
  · simp [Cd.exL, Cd.out, Cd.chkE, Cd.T.fd, Cd.T.fds, Cd.T.enc, Cd.T.encs]
    decide +kernel
theorem Cd.ex3 : Cd.dec [3, 2, 1, 200, 1, 2, 2, 97, 98] = some Cd.exL := by
  have h := Cd.dv_enc Cd.exL 16 1 [] (by simp [Cd.exL, Cd.T.fd, Cd.T.fds]) (by omega) (by simp [Cd.exL, Cd.T.rng, Cd.T.rngs, maxLen])
  have h2 : Cd.exL.enc = [3, 2, 1, 200, 1, 2, 2, 97, 98] := by
    have := Cd.ex2.2
    unfold Cd.out at this
    rw [if_pos Cd.ex2.1] at this
    exact this
  rw [List.append_nil, h2] at h
  unfold Cd.dec
  rw [h]
  rfl
theorem Cd.ex4 : Cd.dec [] = none ∧ Cd.dec [1, 128, 0] = none ∧ Cd.dec [1, 5, 0] = none ∧ Cd.dec [2, 3, 97] = none := by
  refine ⟨?_, ?_, ?_, ?_⟩ <;> rfl
theorem Cd.int_small (n : Int) : (Cd.T.mk 1 n [] []).hgt ≤ 1000000 ∧ (Cd.T.mk 1 n [] []).enc.length ≤ 90000000 := by
  constructor
  · rw [Cd.T.hgt, Cd.T.hgts]; omega
  · have h := Cd.num_len (Cd.uns n)
    rw [Cd.enc_1 rfl, List.length_cons]
    show (Cd.num (Cd.uns n)).length + 1 ≤ _
    omega
theorem Cd.enc_int (w : World) (n : Int) (hn : -9223372036854775808 ≤ n ∧ n ≤ 9223372036854775807) : Calls Try.prog 12 #[.agg #[.int .i64 1, .int .i64 n, .string ⟨#[]⟩, .slice none 0 0]] w (Cd.RetE w (.mk 1 n [] [])) :=
  Cd.encode_any (.mk 1 n [] []) _ w (Cd.int_small n).1 (Cd.cell_int w _ n hn) (Cd.int_small n).2
theorem Cd.size_int (w : World) (n : Int) (hn : -9223372036854775808 ≤ n ∧ n ≤ 9223372036854775807) : Calls Try.prog 14 #[.agg #[.int .i64 1, .int .i64 n, .string ⟨#[]⟩, .slice none 0 0]] w fun e w' => e = .returned (.tuple #[.int .i64 ((Cd.out (.mk 1 n [] [])).length : Nat), .int .i64 (Cd.chkE (.mk 1 n [] []))]) ∧ Below w.heap.size w w' :=
  Cd.size_any (.mk 1 n [] []) _ w (Cd.int_small n).1 (Cd.cell_int w _ n hn) (Cd.int_small n).2
theorem Cd.ex_small : Cd.exL.hgt ≤ 1000000 ∧ Cd.exL.enc.length ≤ 90000000 := by
  have h : Cd.exL.enc = [3, 2, 1, 200, 1, 2, 2, 97, 98] := by
    have := Cd.ex2.2
    unfold Cd.out at this
    rw [if_pos Cd.ex2.1] at this
    exact this
  rw [h]
  exact ⟨by simp [Cd.exL, Cd.T.hgt, Cd.T.hgts], by simp⟩
theorem own_caps {w : World} {base e size n : Nat} {A : Option Addr} {c : Nat} {xs : List Value} (h : w.ownsRow base e size (.slice A n c) n xs) : n ≤ c ∧ c ≤ maxLen := by
  rcases h.2 with ⟨e, h0⟩ | ⟨g, c', cur, hv, _, _, h1, h2, _⟩
  · injection e with _ e1 e2
    subst e2 h0
    exact ⟨Nat.le_refl _, by simp [maxLen]⟩
  · injection hv with _ _ e2
    subst e2
    exact ⟨h1, h2⟩
theorem Cd.decode_at (w : World) (A : Option Addr) (n c : Nat) (b : List UInt8) (hn : b.length = n) (hrd : RdB w A n b) (hbc : n ≤ c) (hc : c ≤ maxLen) (hlen : n ≤ 1000000000) :
    Calls Try.prog 18 #[.slice A n c] w (Cd.RetD w b) := by
  subst hn
  exact Cd.decode_any w A c b hrd hbc hc hlen
/-- '[]byte(s)' -/
theorem bytes_of_str (w : World) (l : List UInt8) (n : Nat) (hn : l.length = n) (hl : n ≤ maxLen) : ∃ cap W, (convert 9 27 (.string ⟨l.toArray⟩)).run Try.prog w = .ok (.slice (some ⟨w.heap.size, 0, none⟩) n cap) W ∧ RdB W (some ⟨w.heap.size, 0, none⟩) n l ∧ n ≤ cap ∧ cap ≤ maxLen ∧ Below w.heap.size w W := by
  have hsz : (⟨l.toArray⟩ : ByteArray).size = n := by rw [str_size]; exact hn
  have hr := run_bytes_of_string (P := Try.prog) w 9 27 5 ⟨l.toArray⟩ Try.underlying9 Try.underlying27 Try.underlying5
  rw [hsz] at hr
  refine ⟨_, _, hr, ?_, grownCap_ge w n 0 _, grownCap_le_maxLen w n 0 _ hl, (Below.refl _ _).drew.alloc (by simp) _⟩
  subst hn
  refine ⟨by simp, fun hn => ⟨w.heap.size, 0, rfl, by simp, fun j u hu => ?_⟩⟩
  have hj : j < l.length := by have := (List.getElem?_eq_some_iff.1 hu).1; simpa using this
  have hcell : ∀ (C : Array Value) (fr : Nat × Nat) (v : Value), C[j]? = some v → (w.drew.alloc (.cells C 5 fr)).cell? ⟨w.heap.size, j, none⟩ = some v := fun C fr v h => by
    have hh : (w.drew.alloc (.cells C 5 fr)).heap[w.heap.size]? = some (.cells C 5 fr) := World.alloc_heap_new w.drew _
    unfold World.cell?
    simp only [hh]
    exact h
  rw [Nat.zero_add]
  refine hcell _ _ u ?_
  unfold bytesRow
  rw [Array.getElem?_append_left (by simp; exact hj)]
  simpa using hu
end Go.Proofs.Ytnhodcjbmloeeaa
