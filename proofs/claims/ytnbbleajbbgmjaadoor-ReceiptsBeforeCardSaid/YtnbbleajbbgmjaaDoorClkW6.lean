/- Contract of clocks.Meet: for all ranges. -/
import Derived.Test.YtnbbleajbbgmjaaDoorClkW5
namespace Go.Proofs.YtnbbleajbbgmjaaDoor
open Go.RowKit Go.Shelf
set_option linter.unusedVariables false

theorem Clk.meet_yes (a b c d lo hi : Int) (hlo : (if a < c then c else a) = lo) (hhi : (if d < b then d else b) = hi) (h : lo ≤ hi) :
    Clk.meetOk a b c d = true ∧ Clk.meetLo a b c d = lo ∧ Clk.meetHi a b c d = hi := by
  have hk : Clk.meetOk a b c d = true := by simp [Clk.meetOk, hlo, hhi, h]
  exact ⟨hk, by simp [Clk.meetLo, hk, hlo], by simp [Clk.meetHi, hk, hhi]⟩
theorem Clk.meet_no (a b c d lo hi : Int) (hlo : (if a < c then c else a) = lo) (hhi : (if d < b then d else b) = hi) (h : hi < lo) :
    Clk.meetOk a b c d = false ∧ Clk.meetLo a b c d = 0 ∧ Clk.meetHi a b c d = 0 := by
  have hk : Clk.meetOk a b c d = false := by simp [Clk.meetOk, hlo, hhi, h]
  exact ⟨hk, by simp [Clk.meetLo, hk], by simp [Clk.meetHi, hk]⟩

/-- the contract's post -/
def Clk.MeetPost (a b c d : Int) (w : World) (e : Ending) (w' : World) : Prop := e = .returned (.tuple #[.agg #[.int .i64 (Clk.meetLo a b c d), .int .i64 (Clk.meetHi a b c d)], .bool (Clk.meetOk a b c d)]) ∧ Below w.heap.size w w'
theorem Clk.MeetPost.yes {a b c d lo hi : Int} {w w' : World} (h : Clk.meetOk a b c d = true ∧ Clk.meetLo a b c d = lo ∧ Clk.meetHi a b c d = hi) (hb : Below w.heap.size w w') :
    Clk.MeetPost a b c d w (.returned (.tuple #[.agg #[.int .i64 lo, .int .i64 hi], .bool true])) w' := ⟨by rw [h.1, h.2.1, h.2.2], hb⟩
theorem Clk.MeetPost.no {a b c d : Int} {w w' : World} (h : Clk.meetOk a b c d = false ∧ Clk.meetLo a b c d = 0 ∧ Clk.meetHi a b c d = 0) (hb : Below w.heap.size w w') :
    Clk.MeetPost a b c d w (.returned (.tuple #[.agg #[.int .i64 0, .int .i64 0], .bool false])) w' := ⟨by rw [h.1, h.2.1, h.2.2], hb⟩

set_option maxHeartbeats 4000000 in
theorem Clk.meet_any' (a b c d : Int) (w : World) :
    Calls Tryd.prog 25 #[.agg #[.int .i64 a, .int .i64 b], .agg #[.int .i64 c, .int .i64 d]] w (Clk.MeetPost a b c d w) := by
  by_cases h1 : a < c
  · have n1 : ¬ a = c := by omega
    by_cases h2 : d < b
    · by_cases h3 : c ≤ d
      · have H := Lib.hid (Clk.meet_yes a b c d c d (if_pos h1) (if_pos h2) h3)
        go_enter Tryd.func25, Tryd.ntmps25
        go_wp2
        exact bodyPost_ret (v := .tuple #[.agg #[.int .i64 c, .int .i64 d], .bool true]) (by simp [results, Tryd.results25, go_sem]) rfl (.yes H.out (below3 _ _ _ _))
      · have H := Lib.hid (Clk.meet_no a b c d c d (if_pos h1) (if_pos h2) (by omega))
        go_enter Tryd.func25, Tryd.ntmps25
        go_wp2
        exact bodyPost_ret (v := .tuple #[.agg #[.int .i64 0, .int .i64 0], .bool false]) (by simp [results, Tryd.results25, go_sem]) rfl (.no H.out (below3 _ _ _ _))
    · by_cases h3 : c ≤ b
      · have H := Lib.hid (Clk.meet_yes a b c d c b (if_pos h1) (if_neg h2) h3)
        go_enter Tryd.func25, Tryd.ntmps25
        go_wp2
        exact bodyPost_ret (v := .tuple #[.agg #[.int .i64 c, .int .i64 b], .bool true]) (by simp [results, Tryd.results25, go_sem]) rfl (.yes H.out (below3 _ _ _ _))
      · have H := Lib.hid (Clk.meet_no a b c d c b (if_pos h1) (if_neg h2) (by omega))
        go_enter Tryd.func25, Tryd.ntmps25
        go_wp2
        exact bodyPost_ret (v := .tuple #[.agg #[.int .i64 0, .int .i64 0], .bool false]) (by simp [results, Tryd.results25, go_sem]) rfl (.no H.out (below3 _ _ _ _))
  · by_cases h2 : d < b
    · have n2 : ¬ b = d := by omega
      by_cases h3 : a ≤ d
      · have H := Lib.hid (Clk.meet_yes a b c d a d (if_neg h1) (if_pos h2) h3)
        go_enter Tryd.func25, Tryd.ntmps25
        go_wp2
        all_goals exact bodyPost_ret (v := .tuple #[.agg #[.int .i64 a, .int .i64 d], .bool true]) (by simp [results, Tryd.results25, go_sem, *]) rfl (.yes H.out (below3 _ _ _ _))
      · have H := Lib.hid (Clk.meet_no a b c d a d (if_neg h1) (if_pos h2) (by omega))
        go_enter Tryd.func25, Tryd.ntmps25
        go_wp2
        all_goals exact bodyPost_ret (v := .tuple #[.agg #[.int .i64 0, .int .i64 0], .bool false]) (by simp [results, Tryd.results25, go_sem]) rfl (.no H.out (below3 _ _ _ _))
    · by_cases e1 : a = c
      · subst e1
        by_cases e2 : b = d
        · subst e2
          by_cases h3 : a ≤ b
          · have H := Lib.hid (Clk.meet_yes a b a b a b (if_neg h1) (if_neg h2) h3)
            go_enter Tryd.func25, Tryd.ntmps25
            go_wp2
            exact bodyPost_ret (v := .tuple #[.agg #[.int .i64 a, .int .i64 b], .bool true]) (by simp [results, Tryd.results25, go_sem]) rfl (.yes H.out (below3 _ _ _ _))
          · have H := Lib.hid (Clk.meet_no a b a b a b (if_neg h1) (if_neg h2) (by omega))
            go_enter Tryd.func25, Tryd.ntmps25
            go_wp2
            exact bodyPost_ret (v := .tuple #[.agg #[.int .i64 0, .int .i64 0], .bool false]) (by simp [results, Tryd.results25, go_sem]) rfl (.no H.out (below3 _ _ _ _))
        · have hh : True := trivial
          by_cases h3 : a ≤ b
          · have H := Lib.hid (Clk.meet_yes a b a d a b (if_neg h1) (if_neg h2) h3)
            go_enter Tryd.func25, Tryd.ntmps25
            go_wp2
            exact bodyPost_ret (v := .tuple #[.agg #[.int .i64 a, .int .i64 b], .bool true]) (by simp [results, Tryd.results25, go_sem]) rfl (.yes H.out (below3 _ _ _ _))
          · have H := Lib.hid (Clk.meet_no a b a d a b (if_neg h1) (if_neg h2) (by omega))
            go_enter Tryd.func25, Tryd.ntmps25
            go_wp2
            exact bodyPost_ret (v := .tuple #[.agg #[.int .i64 0, .int .i64 0], .bool false]) (by simp [results, Tryd.results25, go_sem]) rfl (.no H.out (below3 _ _ _ _))
      · have hh : True := trivial
        by_cases h3 : a ≤ b
        · have H := Lib.hid (Clk.meet_yes a b c d a b (if_neg h1) (if_neg h2) h3)
          go_enter Tryd.func25, Tryd.ntmps25
          go_wp2
          exact bodyPost_ret (v := .tuple #[.agg #[.int .i64 a, .int .i64 b], .bool true]) (by simp [results, Tryd.results25, go_sem]) rfl (.yes H.out (below3 _ _ _ _))
        · have H := Lib.hid (Clk.meet_no a b c d a b (if_neg h1) (if_neg h2) (by omega))
          go_enter Tryd.func25, Tryd.ntmps25
          go_wp2
          exact bodyPost_ret (v := .tuple #[.agg #[.int .i64 0, .int .i64 0], .bool false]) (by simp [results, Tryd.results25, go_sem]) rfl (.no H.out (below3 _ _ _ _))
theorem Clk.meet_any (a b c d : Int) (w : World) :
    Calls Tryd.prog 25 #[.agg #[.int .i64 a, .int .i64 b], .agg #[.int .i64 c, .int .i64 d]] w fun e w' => e = .returned (.tuple #[.agg #[.int .i64 (Clk.meetLo a b c d), .int .i64 (Clk.meetHi a b c d)], .bool (Clk.meetOk a b c d)]) ∧ Below w.heap.size w w' := Clk.meet_any' a b c d w
end Go.Proofs.YtnbbleajbbgmjaaDoor
