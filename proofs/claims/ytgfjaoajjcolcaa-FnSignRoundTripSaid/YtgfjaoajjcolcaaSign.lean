/- Keys and signatures of program and reference. No condition. -/
import Derived.Test.YtgfjaoajjcolcaaKey
import Derived.Test.YtgfjaoajjcolcaaDig
namespace Go.Proofs.Ytgfjaoajjcolcaa
open Go.RowKit
set_option linter.unusedVariables false
set_option linter.unusedSimpArgs false

set_option maxHeartbeats 2000000 in
theorem kp_ok (s : Int) (w : World) (ls : 1 ≤ s) (us : s ≤ 996) :
    Calls Try.prog 24 #[.int .i64 s] w fun e w' => e = .returned (.int .i64 (s * 5 % 997)) ∧ w = w' := by
  have qs : s < 997 := by omega
  go_enter Try.func24, Try.ntmps24
  go_wp2
  go_ret
  exact ⟨rfl, rfl⟩
set_option maxHeartbeats 2000000 in
theorem kp_bad (s : Int) (w : World) (h : s < 1 ∨ 996 < s) :
    Calls Try.prog 24 #[.int .i64 s] w fun e w' => e = .returned (.int .i64 (0)) ∧ w = w' := by
  by_cases c0 : 1 ≤ s
  · skip
    by_cases c1 : s ≤ 996
    · skip
      have p1_0 : s < 997 := by omega
      omega
    · skip
      clear h
      have n1_0 : decide (s ≤ 996) = false := by simp; omega
      have n1_1 : decide (s < 997) = false := by simp; omega
      go_enter Try.func24, Try.ntmps24
      go_wp2
      go_ret
      exact ⟨rfl, rfl⟩
  · skip
    clear h
    have n0_0 : decide (1 ≤ s) = false := by simp; omega
    go_enter Try.func24, Try.ntmps24
    go_wp2
    go_ret
    exact ⟨rfl, rfl⟩

set_option maxHeartbeats 2000000 in
theorem kpS_ok (s : Int) (w : World) (ls : 1 ≤ s) (us : s ≤ 996) :
    Calls Try.prog 52 #[.int .i64 s] w fun e w' => e = .returned (.int .i64 (s * 5 % 997)) ∧ w = w' := by
  have qs : s < 997 := by omega
  go_enter Try.func52, Try.ntmps52
  go_wp2
  go_ret
  exact ⟨rfl, rfl⟩
set_option maxHeartbeats 2000000 in
theorem kpS_bad (s : Int) (w : World) (h : s < 1 ∨ 996 < s) :
    Calls Try.prog 52 #[.int .i64 s] w fun e w' => e = .returned (.int .i64 (0)) ∧ w = w' := by
  by_cases c0 : 1 ≤ s
  · skip
    by_cases c1 : s ≤ 996
    · skip
      have p1_0 : s < 997 := by omega
      omega
    · skip
      clear h
      have n1_0 : decide (s ≤ 996) = false := by simp; omega
      have n1_1 : decide (s < 997) = false := by simp; omega
      go_enter Try.func52, Try.ntmps52
      go_wp2
      go_ret
      exact ⟨rfl, rfl⟩
  · skip
    clear h
    have n0_0 : decide (1 ≤ s) = false := by simp; omega
    go_enter Try.func52, Try.ntmps52
    go_wp2
    go_ret
    exact ⟨rfl, rfl⟩

set_option maxHeartbeats 2000000 in
theorem sm_ok (s : Int) (d : Int) (w : World) (ls : 1 ≤ s) (us : s ≤ 996) (ld : 0 ≤ d) (ud : d ≤ 990) :
    Calls Try.prog 21 #[.int .i64 s, .int .i64 d] w fun e w' => e = .returned (.int .i64 (s * (d + 1) % 997)) ∧ w = w' := by
  have qs : s < 997 := by omega
  have qd : d < 991 := by omega
  have hm : 0 ≤ s * (d + 1) ∧ s * (d + 1) ≤ 996 * 991 := ⟨Int.mul_nonneg (by omega) (by omega), Int.mul_le_mul (by omega) (by omega) (by omega) (by omega)⟩
  obtain ⟨hm1, hm2⟩ := hm
  go_enter Try.func21, Try.ntmps21
  go_wp2
  go_ret
  exact ⟨rfl, rfl⟩
set_option maxHeartbeats 2000000 in
theorem sm_bad (s : Int) (d : Int) (w : World) (h : s < 1 ∨ 996 < s ∨ d < 0 ∨ 990 < d) :
    Calls Try.prog 21 #[.int .i64 s, .int .i64 d] w fun e w' => e = .returned (.int .i64 (0)) ∧ w = w' := by
  by_cases c0 : 1 ≤ s
  · skip
    by_cases c1 : s ≤ 996
    · skip
      have p1_0 : s < 997 := by omega
      by_cases c2 : 0 ≤ d
      · skip
        by_cases c3 : d ≤ 990
        · skip
          have p3_0 : d < 991 := by omega
          omega
        · skip
          clear h
          have n3_0 : decide (d ≤ 990) = false := by simp; omega
          have n3_1 : decide (d < 991) = false := by simp; omega
          go_enter Try.func21, Try.ntmps21
          go_wp2
          go_ret
          exact ⟨rfl, rfl⟩
      · skip
        clear h
        have n2_0 : decide (0 ≤ d) = false := by simp; omega
        go_enter Try.func21, Try.ntmps21
        go_wp2
        go_ret
        exact ⟨rfl, rfl⟩
    · skip
      clear h
      have n1_0 : decide (s ≤ 996) = false := by simp; omega
      have n1_1 : decide (s < 997) = false := by simp; omega
      go_enter Try.func21, Try.ntmps21
      go_wp2
      go_ret
      exact ⟨rfl, rfl⟩
  · skip
    clear h
    have n0_0 : decide (1 ≤ s) = false := by simp; omega
    go_enter Try.func21, Try.ntmps21
    go_wp2
    go_ret
    exact ⟨rfl, rfl⟩

set_option maxHeartbeats 2000000 in
theorem smS_ok (s : Int) (d : Int) (w : World) (ls : 1 ≤ s) (us : s ≤ 996) (ld : 0 ≤ d) (ud : d ≤ 990) :
    Calls Try.prog 22 #[.int .i64 s, .int .i64 d] w fun e w' => e = .returned (.int .i64 (s * (d + 1) % 997)) ∧ w = w' := by
  have qs : s < 997 := by omega
  have qd : d < 991 := by omega
  have hm : 0 ≤ s * (d + 1) ∧ s * (d + 1) ≤ 996 * 991 := ⟨Int.mul_nonneg (by omega) (by omega), Int.mul_le_mul (by omega) (by omega) (by omega) (by omega)⟩
  obtain ⟨hm1, hm2⟩ := hm
  go_enter Try.func22, Try.ntmps22
  go_wp2
  go_ret
  exact ⟨rfl, rfl⟩
set_option maxHeartbeats 2000000 in
theorem smS_bad (s : Int) (d : Int) (w : World) (h : s < 1 ∨ 996 < s ∨ d < 0 ∨ 990 < d) :
    Calls Try.prog 22 #[.int .i64 s, .int .i64 d] w fun e w' => e = .returned (.int .i64 (0)) ∧ w = w' := by
  by_cases c0 : 1 ≤ s
  · skip
    by_cases c1 : s ≤ 996
    · skip
      have p1_0 : s < 997 := by omega
      by_cases c2 : 0 ≤ d
      · skip
        by_cases c3 : d ≤ 990
        · skip
          have p3_0 : d < 991 := by omega
          omega
        · skip
          clear h
          have n3_0 : decide (d ≤ 990) = false := by simp; omega
          have n3_1 : decide (d < 991) = false := by simp; omega
          go_enter Try.func22, Try.ntmps22
          go_wp2
          go_ret
          exact ⟨rfl, rfl⟩
      · skip
        clear h
        have n2_0 : decide (0 ≤ d) = false := by simp; omega
        go_enter Try.func22, Try.ntmps22
        go_wp2
        go_ret
        exact ⟨rfl, rfl⟩
    · skip
      clear h
      have n1_0 : decide (s ≤ 996) = false := by simp; omega
      have n1_1 : decide (s < 997) = false := by simp; omega
      go_enter Try.func22, Try.ntmps22
      go_wp2
      go_ret
      exact ⟨rfl, rfl⟩
  · skip
    clear h
    have n0_0 : decide (1 ≤ s) = false := by simp; omega
    go_enter Try.func22, Try.ntmps22
    go_wp2
    go_ret
    exact ⟨rfl, rfl⟩

set_option maxHeartbeats 2000000 in
theorem sc_ok (p : Int) (d : Int) (s : Int) (w : World) (lp : 1 ≤ p) (up : p ≤ 996) (ld : 0 ≤ d) (ud : d ≤ 990) (ls : 1 ≤ s) (us : s ≤ 996) :
    Calls Try.prog 23 #[.int .i64 p, .int .i64 d, .int .i64 s] w fun e w' => e = .returned (.bool (s * 5 % 997 == p * (d + 1) % 997)) ∧ w = w' := by
  have qp : p < 997 := by omega
  have qd : d < 991 := by omega
  have qs : s < 997 := by omega
  have hm : 0 ≤ p * (d + 1) ∧ p * (d + 1) ≤ 996 * 991 := ⟨Int.mul_nonneg (by omega) (by omega), Int.mul_le_mul (by omega) (by omega) (by omega) (by omega)⟩
  obtain ⟨hm1, hm2⟩ := hm
  go_enter Try.func23, Try.ntmps23
  go_wp2
  go_ret
  exact ⟨rfl, rfl⟩
set_option maxHeartbeats 2000000 in
theorem sc_bad (p : Int) (d : Int) (s : Int) (w : World) (h : p < 1 ∨ 996 < p ∨ d < 0 ∨ 990 < d ∨ s < 1 ∨ 996 < s) :
    Calls Try.prog 23 #[.int .i64 p, .int .i64 d, .int .i64 s] w fun e w' => e = .returned (.bool (false)) ∧ w = w' := by
  by_cases c0 : 1 ≤ p
  · skip
    by_cases c1 : p ≤ 996
    · skip
      have p1_0 : p < 997 := by omega
      by_cases c2 : 0 ≤ d
      · skip
        by_cases c3 : d ≤ 990
        · skip
          have p3_0 : d < 991 := by omega
          by_cases c4 : 1 ≤ s
          · skip
            by_cases c5 : s ≤ 996
            · skip
              have p5_0 : s < 997 := by omega
              omega
            · skip
              clear h
              have n5_0 : decide (s ≤ 996) = false := by simp; omega
              have n5_1 : decide (s < 997) = false := by simp; omega
              go_enter Try.func23, Try.ntmps23
              go_wp2
              go_ret
              exact ⟨rfl, rfl⟩
          · skip
            clear h
            have n4_0 : decide (1 ≤ s) = false := by simp; omega
            go_enter Try.func23, Try.ntmps23
            go_wp2
            go_ret
            exact ⟨rfl, rfl⟩
        · skip
          clear h
          have n3_0 : decide (d ≤ 990) = false := by simp; omega
          have n3_1 : decide (d < 991) = false := by simp; omega
          go_enter Try.func23, Try.ntmps23
          go_wp2
          go_ret
          exact ⟨rfl, rfl⟩
      · skip
        clear h
        have n2_0 : decide (0 ≤ d) = false := by simp; omega
        go_enter Try.func23, Try.ntmps23
        go_wp2
        go_ret
        exact ⟨rfl, rfl⟩
    · skip
      clear h
      have n1_0 : decide (p ≤ 996) = false := by simp; omega
      have n1_1 : decide (p < 997) = false := by simp; omega
      go_enter Try.func23, Try.ntmps23
      go_wp2
      go_ret
      exact ⟨rfl, rfl⟩
  · skip
    clear h
    have n0_0 : decide (1 ≤ p) = false := by simp; omega
    go_enter Try.func23, Try.ntmps23
    go_wp2
    go_ret
    exact ⟨rfl, rfl⟩

set_option maxHeartbeats 2000000 in
theorem scS_ok (p : Int) (d : Int) (s : Int) (w : World) (lp : 1 ≤ p) (up : p ≤ 996) (ld : 0 ≤ d) (ud : d ≤ 990) (ls : 1 ≤ s) (us : s ≤ 996) :
    Calls Try.prog 26 #[.int .i64 p, .int .i64 d, .int .i64 s] w fun e w' => e = .returned (.bool (s * 5 % 997 == p * (d + 1) % 997)) ∧ w = w' := by
  have qp : p < 997 := by omega
  have qd : d < 991 := by omega
  have qs : s < 997 := by omega
  have hm : 0 ≤ p * (d + 1) ∧ p * (d + 1) ≤ 996 * 991 := ⟨Int.mul_nonneg (by omega) (by omega), Int.mul_le_mul (by omega) (by omega) (by omega) (by omega)⟩
  obtain ⟨hm1, hm2⟩ := hm
  go_enter Try.func26, Try.ntmps26
  go_wp2
  go_ret
  exact ⟨rfl, rfl⟩
set_option maxHeartbeats 2000000 in
theorem scS_bad (p : Int) (d : Int) (s : Int) (w : World) (h : p < 1 ∨ 996 < p ∨ d < 0 ∨ 990 < d ∨ s < 1 ∨ 996 < s) :
    Calls Try.prog 26 #[.int .i64 p, .int .i64 d, .int .i64 s] w fun e w' => e = .returned (.bool (false)) ∧ w = w' := by
  by_cases c0 : 1 ≤ p
  · skip
    by_cases c1 : p ≤ 996
    · skip
      have p1_0 : p < 997 := by omega
      by_cases c2 : 0 ≤ d
      · skip
        by_cases c3 : d ≤ 990
        · skip
          have p3_0 : d < 991 := by omega
          by_cases c4 : 1 ≤ s
          · skip
            by_cases c5 : s ≤ 996
            · skip
              have p5_0 : s < 997 := by omega
              omega
            · skip
              clear h
              have n5_0 : decide (s ≤ 996) = false := by simp; omega
              have n5_1 : decide (s < 997) = false := by simp; omega
              go_enter Try.func26, Try.ntmps26
              go_wp2
              go_ret
              exact ⟨rfl, rfl⟩
          · skip
            clear h
            have n4_0 : decide (1 ≤ s) = false := by simp; omega
            go_enter Try.func26, Try.ntmps26
            go_wp2
            go_ret
            exact ⟨rfl, rfl⟩
        · skip
          clear h
          have n3_0 : decide (d ≤ 990) = false := by simp; omega
          have n3_1 : decide (d < 991) = false := by simp; omega
          go_enter Try.func26, Try.ntmps26
          go_wp2
          go_ret
          exact ⟨rfl, rfl⟩
      · skip
        clear h
        have n2_0 : decide (0 ≤ d) = false := by simp; omega
        go_enter Try.func26, Try.ntmps26
        go_wp2
        go_ret
        exact ⟨rfl, rfl⟩
    · skip
      clear h
      have n1_0 : decide (p ≤ 996) = false := by simp; omega
      have n1_1 : decide (p < 997) = false := by simp; omega
      go_enter Try.func26, Try.ntmps26
      go_wp2
      go_ret
      exact ⟨rfl, rfl⟩
  · skip
    clear h
    have n0_0 : decide (1 ≤ p) = false := by simp; omega
    go_enter Try.func26, Try.ntmps26
    go_wp2
    go_ret
    exact ⟨rfl, rfl⟩

end Go.Proofs.Ytgfjaoajjcolcaa
