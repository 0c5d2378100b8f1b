import Derived.Test.YtideglpjgplpnaaDoorMSlX4
import Derived.Test.YtideglpjgplpnaaDoorMSlX5
/- The program's Seal and the reference's answer alike. -/
namespace Go.Proofs.YtideglpjgplpnaaDoor
open Go.RowKit Go.Shelf
set_option linter.unusedVariables false
set_option linter.unusedSimpArgs false

/-- a sealed body, shares and an error are handed back -/
def Sl.RetU (w : World) (s : Sl.W) (l : List Shr.S) (z : Int) (e : Ending) (w' : World) : Prop := ∃ Ad cd Am cA A c xs, e = .returned (.tuple #[.agg (Sl.row s Ad cd Am cA).toArray, .slice A l.length c, .int .i64 z]) ∧ Sl.Ok s w' Ad cd Am cA ∧ Shr.Rds w' A l.length xs ∧ Shr.vals xs = l ∧ Below w.heap.size w w'
theorem Sl.retU_yes {w w' : World} {s : Sl.W} {l : List Shr.S} {z : Int} {e : Ending} (h : Sl.RetSl w s l z e w') : Sl.RetU w s l z e w' := by
  obtain ⟨Ad, cd, Am, cA, A, c, h1, h2, ⟨xs, h3, h4⟩, _, _, h5⟩ := h
  exact ⟨Ad, cd, Am, cA, A, c, xs, h1, h2, h3, h4, h5⟩
theorem Sl.retU_no {w w' : World} {z : Int} {e : Ending} (h : Sl.RetNo w z e w') : Sl.RetU w Sl.zero [] z e w' := by
  obtain ⟨h1, h2⟩ := h
  exact ⟨none, 0, none, 0, none, 0, [], h1, Sl.zero_ok w', Shr.Rds.nil, rfl, h2⟩
theorem Sl.seal_u (Ab : Option Addr) (nb cb : Nat) (body : List UInt8) (Ak : Option Addr) (nk ck : Nat) (key : List UInt8) (th mn : Int) (Ac : Option Addr) (nc cc : Nat) (coins : List UInt8) (w : World) (rb : RdB w Ab nb body) (rk : RdB w Ak nk key) (rc : RdB w Ac nc coins) (bm : nb ≤ maxLen) (km : nk ≤ maxLen) (bn : Ab = none → cb = 0) (cl : nc ≤ cc) (cx : cc ≤ maxLen) (cn : Ac = none → cc = 0) (hth : -9223372036854775808 ≤ th ∧ th ≤ 9223372036854775807) :
    ∃ s l z, l.length ≤ 8 ∧ ∀ W, Below w.heap.size w W → Dg.G W Rc.K0 Rc.I0 → Calls Tryd.prog 16 #[.slice Ab nb cb, .slice Ak nk ck, .int .i64 th, .int .i64 mn, .slice Ac nc cc] W (Sl.RetU W s l z) ∧ Calls Tryd.prog 18 #[.slice Ab nb cb, .slice Ak nk ck, .int .i64 th, .int .i64 mn, .slice Ac nc cc] W (Sl.RetU W s l z) := by
  have hnc : nc ≤ maxLen := Nat.le_trans cl cx
  by_cases hE : Sl.selE nb nk th mn nc = 0
  · obtain ⟨h1, h2, h3, h4, h5, h6, h7⟩ := Sl.selE_yes _ _ _ _ _ hE
    obtain ⟨t, rfl⟩ := Int.eq_ofNat_of_zero_le (show 0 ≤ th by omega)
    obtain ⟨m, rfl⟩ := Int.eq_ofNat_of_zero_le (show 0 ≤ mn by omega)
    subst h3
    have h8 : nc = nk * (t - 1) := by
      have h9 : ((t : Int) - 1) = ((t - 1 : Nat) : Int) := by omega
      rw [h9] at h7
      exact_mod_cast h7
    refine ⟨Sl.selW body key t m coins, Sl.selS key t m coins, 0, ?_, fun W hb hG => ⟨?_, ?_⟩⟩
    · have hl : (Sl.selS key t m coins).length = m := Shr.spl_len ..
      omega
    · exact (Sl.seal_yes Ab Ak Ac nk cb ck nc cc t m body key coins W (rb.keep hb) (rk.keep hb) (rc.keep hb) bn cl cx cn h1 h2 (by omega) (by omega) (by omega) h8 hG).mono (fun e w' h => Sl.retU_yes h)
    · exact (Sl.rseal_yes Ab Ak Ac nk cb ck nc cc t m body key coins W (rb.keep hb) (rk.keep hb) (rc.keep hb) bn cl cx cn h1 h2 (by omega) (by omega) (by omega) h8).mono (fun e w' h => Sl.retU_yes h)
  · refine ⟨Sl.zero, [], Sl.selE nb nk th mn nc, by simp, fun W hb hG => ⟨?_, ?_⟩⟩
    · exact (Sl.seal_no Ab Ak Ac nb cb nk ck nc cc th mn W bm km hnc hth hE).mono (fun e w' h => Sl.retU_no h)
    · exact (Sl.rseal_no Ab Ak Ac nb cb nk ck nc cc th mn W bm km hnc hth hE).mono (fun e w' h => Sl.retU_no h)
end Go.Proofs.YtideglpjgplpnaaDoor
