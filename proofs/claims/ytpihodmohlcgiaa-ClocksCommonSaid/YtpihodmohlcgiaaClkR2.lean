/- Contracts of the reference's Meet and Times: for every argument, the same answers as the program's. -/
import Derived.Test.YtpihodmohlcgiaaClkR1
namespace Go.Proofs.Ytpihodmohlcgiaa
open Go.RowKit Go.Shelf
set_option linter.unusedVariables false

theorem below4 (w : World) (o1 o2 o3 o4 : Obj) : Below w.heap.size w ((((w.alloc o1).alloc o2).alloc o3).alloc o4) := (below3 w o1 o2 o3).alloc (by simp; omega) _

set_option maxHeartbeats 4000000 in
theorem Clk.rmeet_any' (a b c d : Int) (w : World) :
    Calls Try.prog 18 #[.agg #[.int .i64 a, .int .i64 b], .agg #[.int .i64 c, .int .i64 d]] w (Clk.MeetPost a b c d w) := by
  by_cases h1 : a < c
  · by_cases h2 : d < b
    · skip
      by_cases h3 : c ≤ d
      · have H := Lib.hid (Clk.meet_yes a b c d c d (if_pos h1) (if_pos h2) h3)
        go_enter Try.func18, Try.ntmps18
        go_wp2
        exact bodyPost_ret (v := .tuple #[.agg #[.int .i64 c, .int .i64 d], .bool true]) (by simp [results, Try.results18, go_sem]) rfl (.yes H.out (below4 _ _ _ _ _))
      · have H := Lib.hid (Clk.meet_no a b c d c d (if_pos h1) (if_pos h2) (by omega))
        go_enter Try.func18, Try.ntmps18
        go_wp2
        exact bodyPost_ret (v := .tuple #[.agg #[.int .i64 0, .int .i64 0], .bool false]) (by simp [results, Try.results18, go_sem]) rfl (.no H.out (below4 _ _ _ _ _))
    · skip
      by_cases h3 : c ≤ b
      · have H := Lib.hid (Clk.meet_yes a b c d c b (if_pos h1) (if_neg h2) h3)
        go_enter Try.func18, Try.ntmps18
        go_wp2
        exact bodyPost_ret (v := .tuple #[.agg #[.int .i64 c, .int .i64 b], .bool true]) (by simp [results, Try.results18, go_sem]) rfl (.yes H.out (below4 _ _ _ _ _))
      · have H := Lib.hid (Clk.meet_no a b c d c b (if_pos h1) (if_neg h2) (by omega))
        go_enter Try.func18, Try.ntmps18
        go_wp2
        exact bodyPost_ret (v := .tuple #[.agg #[.int .i64 0, .int .i64 0], .bool false]) (by simp [results, Try.results18, go_sem]) rfl (.no H.out (below4 _ _ _ _ _))
  · by_cases h2 : d < b
    · skip
      by_cases h3 : a ≤ d
      · have H := Lib.hid (Clk.meet_yes a b c d a d (if_neg h1) (if_pos h2) h3)
        go_enter Try.func18, Try.ntmps18
        go_wp2
        exact bodyPost_ret (v := .tuple #[.agg #[.int .i64 a, .int .i64 d], .bool true]) (by simp [results, Try.results18, go_sem]) rfl (.yes H.out (below4 _ _ _ _ _))
      · have H := Lib.hid (Clk.meet_no a b c d a d (if_neg h1) (if_pos h2) (by omega))
        go_enter Try.func18, Try.ntmps18
        go_wp2
        exact bodyPost_ret (v := .tuple #[.agg #[.int .i64 0, .int .i64 0], .bool false]) (by simp [results, Try.results18, go_sem]) rfl (.no H.out (below4 _ _ _ _ _))
    · skip
      by_cases h3 : a ≤ b
      · have H := Lib.hid (Clk.meet_yes a b c d a b (if_neg h1) (if_neg h2) h3)
        go_enter Try.func18, Try.ntmps18
        go_wp2
        exact bodyPost_ret (v := .tuple #[.agg #[.int .i64 a, .int .i64 b], .bool true]) (by simp [results, Try.results18, go_sem]) rfl (.yes H.out (below4 _ _ _ _ _))
      · have H := Lib.hid (Clk.meet_no a b c d a b (if_neg h1) (if_neg h2) (by omega))
        go_enter Try.func18, Try.ntmps18
        go_wp2
        exact bodyPost_ret (v := .tuple #[.agg #[.int .i64 0, .int .i64 0], .bool false]) (by simp [results, Try.results18, go_sem]) rfl (.no H.out (below4 _ _ _ _ _))
theorem Clk.rmeet_any (a b c d : Int) (w : World) :
    Calls Try.prog 18 #[.agg #[.int .i64 a, .int .i64 b], .agg #[.int .i64 c, .int .i64 d]] w fun e w' => e = .returned (.tuple #[.agg #[.int .i64 (Clk.meetLo a b c d), .int .i64 (Clk.meetHi a b c d)], .bool (Clk.meetOk a b c d)]) ∧ Below w.heap.size w w' := Clk.rmeet_any' a b c d w

end Go.Proofs.Ytpihodmohlcgiaa
