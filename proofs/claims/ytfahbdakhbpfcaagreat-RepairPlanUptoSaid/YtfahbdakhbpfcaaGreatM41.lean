/-
  Ref09B: WALK: strongroomref09.Check: a capability's numbers; conditions: none.
-/
import Derived.Test.YtfahbdakhbpfcaaGreatM40
namespace Go.Proofs.YtfahbdakhbpfcaaGreat
open Go.RowKit

set_option maxRecDepth 100000 in
set_option maxHeartbeats 1000000 in
theorem check09_ok (k n a : Int) (h : okP k n a) (w : World) : Calls Tryz.prog 35 #[.agg #[.int .i64 k, .int .i64 n, .int .i64 a, .int .i64 0, .slice none 0 0]] w fun e w' => e = .returned (.int .i64 0) ∧ Below w.heap.size w w' := by
  obtain ⟨h1, h2, h3, h4, h5, h6⟩ := h
  have hb := (Below.refl w.heap.size w).alloc (Nat.le_refl _) (.cells #[.int .i64 k, .int .i64 n, .int .i64 a, .int .i64 0, .slice none 0 0] 72)
  go_enter Tryz.func35, Tryz.ntmps35
  go_wp2_with fail
  go_ret
  exact ⟨rfl, hb⟩
set_option maxRecDepth 100000 in
set_option maxHeartbeats 2000000 in
theorem check09_no (k n a : Int) (h : ¬ okP k n a) (w : World) : Calls Tryz.prog 35 #[.agg #[.int .i64 k, .int .i64 n, .int .i64 a, .int .i64 0, .slice none 0 0]] w fun e w' => e = .returned (.int .i64 3) ∧ Below w.heap.size w w' := by
  have hb := (Below.refl w.heap.size w).alloc (Nat.le_refl _) (.cells #[.int .i64 k, .int .i64 n, .int .i64 a, .int .i64 0, .slice none 0 0] 72)
  have hc : n < 1 ∨ (1 ≤ n ∧ 255 < n) ∨ (1 ≤ n ∧ n ≤ 255 ∧ k < 1) ∨ (1 ≤ n ∧ n ≤ 255 ∧ 1 ≤ k ∧ n < k) ∨ (1 ≤ n ∧ n ≤ 255 ∧ 1 ≤ k ∧ k ≤ n ∧ a < 1) ∨ (1 ≤ n ∧ n ≤ 255 ∧ 1 ≤ k ∧ k ≤ n ∧ 1 ≤ a ∧ 65536 < a) := by
    unfold okP at h
    omega
  clear h
  go_enter Tryz.func35, Tryz.ntmps35
  rcases hc with h1 | ⟨h1, h2⟩ | ⟨h1, h2, h3⟩ | ⟨h1, h2, h3, h4⟩ | ⟨h1, h2, h3, h4, h5⟩ | ⟨h1, h2, h3, h4, h5, h6⟩
  all_goals
    go_wp2_with fail
    go_ret
    exact ⟨rfl, hb⟩
end Go.Proofs.YtfahbdakhbpfcaaGreat
