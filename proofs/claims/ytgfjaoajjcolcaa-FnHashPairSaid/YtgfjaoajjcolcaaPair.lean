/- HashPair of program and reference. No condition. -/
import Derived.Test.YtgfjaoajjcolcaaBase
namespace Go.Proofs.Ytgfjaoajjcolcaa
open Go.RowKit
set_option linter.unusedVariables false
set_option linter.unusedSimpArgs false

set_option maxHeartbeats 2000000 in
theorem hp_ok (a : Int) (b : Int) (w : World) (la : 0 ≤ a) (ua : a ≤ 990) (lb : 0 ≤ b) (ub : b ≤ 990) :
    Calls Try.prog 15 #[.int .i64 a, .int .i64 b] w fun e w' => e = .returned (.int .i64 ((31 * a + 17 * b + 5) % 991)) ∧ w = w' := by
  have qa : a < 991 := by omega
  have qb : b < 991 := by omega
  go_enter Try.func15, Try.ntmps15
  go_wp2
  go_ret
  exact ⟨rfl, rfl⟩
set_option maxHeartbeats 2000000 in
theorem hp_bad (a : Int) (b : Int) (w : World) (h : a < 0 ∨ 990 < a ∨ b < 0 ∨ 990 < b) :
    Calls Try.prog 15 #[.int .i64 a, .int .i64 b] w fun e w' => e = .returned (.int .i64 (-1)) ∧ w = w' := by
  by_cases c0 : 0 ≤ a
  · skip
    by_cases c1 : a ≤ 990
    · skip
      have p1_0 : a < 991 := by omega
      by_cases c2 : 0 ≤ b
      · skip
        by_cases c3 : b ≤ 990
        · skip
          have p3_0 : b < 991 := by omega
          omega
        · skip
          clear h
          have n3_0 : decide (b ≤ 990) = false := by simp; omega
          have n3_1 : decide (b < 991) = false := by simp; omega
          go_enter Try.func15, Try.ntmps15
          go_wp2
          go_ret
          exact ⟨rfl, rfl⟩
      · skip
        clear h
        have n2_0 : decide (0 ≤ b) = false := by simp; omega
        go_enter Try.func15, Try.ntmps15
        go_wp2
        go_ret
        exact ⟨rfl, rfl⟩
    · skip
      clear h
      have n1_0 : decide (a ≤ 990) = false := by simp; omega
      have n1_1 : decide (a < 991) = false := by simp; omega
      go_enter Try.func15, Try.ntmps15
      go_wp2
      go_ret
      exact ⟨rfl, rfl⟩
  · skip
    clear h
    have n0_0 : decide (0 ≤ a) = false := by simp; omega
    go_enter Try.func15, Try.ntmps15
    go_wp2
    go_ret
    exact ⟨rfl, rfl⟩

set_option maxHeartbeats 2000000 in
theorem hpS_ok (a : Int) (b : Int) (w : World) (la : 0 ≤ a) (ua : a ≤ 990) (lb : 0 ≤ b) (ub : b ≤ 990) :
    Calls Try.prog 16 #[.int .i64 a, .int .i64 b] w fun e w' => e = .returned (.int .i64 ((31 * a + 17 * b + 5) % 991)) ∧ w = w' := by
  have qa : a < 991 := by omega
  have qb : b < 991 := by omega
  go_enter Try.func16, Try.ntmps16
  go_wp2
  go_ret
  exact ⟨rfl, rfl⟩
set_option maxHeartbeats 2000000 in
theorem hpS_bad (a : Int) (b : Int) (w : World) (h : a < 0 ∨ 990 < a ∨ b < 0 ∨ 990 < b) :
    Calls Try.prog 16 #[.int .i64 a, .int .i64 b] w fun e w' => e = .returned (.int .i64 (-1)) ∧ w = w' := by
  by_cases c0 : 0 ≤ a
  · skip
    by_cases c1 : a ≤ 990
    · skip
      have p1_0 : a < 991 := by omega
      by_cases c2 : 0 ≤ b
      · skip
        by_cases c3 : b ≤ 990
        · skip
          have p3_0 : b < 991 := by omega
          omega
        · skip
          clear h
          have n3_0 : decide (b ≤ 990) = false := by simp; omega
          have n3_1 : decide (b < 991) = false := by simp; omega
          go_enter Try.func16, Try.ntmps16
          go_wp2
          go_ret
          exact ⟨rfl, rfl⟩
      · skip
        clear h
        have n2_0 : decide (0 ≤ b) = false := by simp; omega
        go_enter Try.func16, Try.ntmps16
        go_wp2
        go_ret
        exact ⟨rfl, rfl⟩
    · skip
      clear h
      have n1_0 : decide (a ≤ 990) = false := by simp; omega
      have n1_1 : decide (a < 991) = false := by simp; omega
      go_enter Try.func16, Try.ntmps16
      go_wp2
      go_ret
      exact ⟨rfl, rfl⟩
  · skip
    clear h
    have n0_0 : decide (0 ≤ a) = false := by simp; omega
    go_enter Try.func16, Try.ntmps16
    go_wp2
    go_ret
    exact ⟨rfl, rfl⟩

end Go.Proofs.Ytgfjaoajjcolcaa
