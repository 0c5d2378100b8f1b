/- Contract of codec.Size. -/
import Derived.Test.YtnhodcjbmloeeaaCdW7
namespace Go.Proofs.Ytnhodcjbmloeeaa
open Go.RowKit Go.Shelf
set_option linter.unusedVariables false

theorem own_slice {w : World} {base e size n : Nat} {v : Value} {xs : List Value} (h : w.ownsRow base e size v n xs) : ∃ A c, v = .slice A n c := by
  rcases h.2 with ⟨e, h0⟩ | ⟨g, c, cur, hv, _⟩
  · exact ⟨none, 0, by rw [e, h0]⟩
  · exact ⟨_, c, hv⟩

set_option maxHeartbeats 1000000 in
theorem Cd.size_any (t : Cd.T) (cs : List Value) (w : World) (hh : t.hgt ≤ 1000000) (hc : Cd.CellB w w.heap.size t cs) (hlen : t.enc.length ≤ 90000000) :
    Calls Try.prog 14 #[.agg cs.toArray] w fun e w' => e = .returned (.tuple #[.int .i64 ((Cd.out t).length : Nat), .int .i64 (Cd.chkE t)]) ∧ Below w.heap.size w w' := by
  obtain ⟨Av, cv, rfl⟩ := hc.spell
  have HC := Lib.hid hc
  have HK := Lib.hid (fun w h => Cd.encode_any t [.int .i64 t.k, .int .i64 t.n, .string ⟨t.s.toArray⟩, .slice Av t.l.length cv] w hh h hlen)
  clear hc
  go_enter Try.func14, Try.ntmps14
  go_wp2_with fail
  have HB0 := Lib.hid ((Below.refl w.heap.size w).alloc (Nat.le_refl _) (.cells #[.int .i64 t.k, .int .i64 t.n, .string ⟨t.s.toArray⟩, .slice Av t.l.length cv] 24))
  (with_reducible refine (HK.out _ ((HC.out.under HB0.out (Nat.le_refl _)).more HB0.out.size)).mono ?_)
  rintro e w1 ⟨v, rfl, hb, ho⟩
  obtain ⟨A, c, rfl⟩ := own_slice ho
  have HB1 := Lib.hid (HB0.out.trans (hb.mono HB0.out.size))
  clear hb ho
  generalize hn : (Cd.out t).length = n
  have HN := Lib.hid hn
  clear hn
  go_wp2_with fail
  go_ret2
  exact ⟨by rw [HN.out]; rfl, HB1.out⟩
end Go.Proofs.Ytnhodcjbmloeeaa
