/- The walks of the laws of seat a that take integers alone: each returns true. No condition. -/
import Derived.Test.YtdgcjaknkceonaaBase
namespace Go.Proofs.Ytdgcjaknkceonaa
open Go.RowKit

set_option maxHeartbeats 1000000 in
theorem walk_FnExactConstants  (w : World)  :
    Calls Try.prog 3 #[] w fun e w' => e = .returned (.bool true) ∧ Below w.heap.size w w' := by
  go_enter Try.func3, Try.ntmps3
  go_wp2
  go_ret
  exact ⟨rfl, Below.refl _ _⟩

set_option maxHeartbeats 1000000 in
theorem walk_FnExactCoinMake (s : Int) (v : Int) (w : World) (_ws : (Lit.int .i64 s).wf = true) (_wv : (Lit.int .i64 v).wf = true) :
    Calls Try.prog 4 #[.int .i64 s, .int .i64 v] w fun e w' => e = .returned (.bool true) ∧ Below w.heap.size w w' := by
  by_cases h0 : 0 ≤ s
  · skip
    by_cases h1 : s < 251
    · have g1 : s ≤ 250 := by omega
      by_cases h2 : 1 ≤ v
      · skip
        by_cases h3 : v ≤ 15
        · skip
          go_enter Try.func4, Try.ntmps4
          go_wp2
          go_ret
          exact ⟨rfl, Below.refl _ _⟩
        · have g3 : decide (v ≤ 15) = false := by simp; omega
          go_enter Try.func4, Try.ntmps4
          go_wp2
          go_ret
          exact ⟨rfl, Below.refl _ _⟩
      · have g2 : decide (1 ≤ v) = false := by simp; omega
        go_enter Try.func4, Try.ntmps4
        go_wp2
        go_ret
        exact ⟨rfl, Below.refl _ _⟩
    · have g1 : decide (s ≤ 250) = false := by simp; omega
      go_enter Try.func4, Try.ntmps4
      go_wp2
      go_ret
      exact ⟨rfl, Below.refl _ _⟩
  · have g0 : decide (0 ≤ s) = false := by simp; omega
    go_enter Try.func4, Try.ntmps4
    go_wp2
    go_ret
    exact ⟨rfl, Below.refl _ _⟩

set_option maxHeartbeats 1000000 in
theorem walk_FnExactCoinValue (s : Int) (v : Int) (w : World) (_ws : (Lit.int .i64 s).wf = true) (_wv : (Lit.int .i64 v).wf = true) :
    Calls Try.prog 7 #[.int .i64 s, .int .i64 v] w fun e w' => e = .returned (.bool true) ∧ Below w.heap.size w w' := by
  by_cases h0 : 0 ≤ s
  · skip
    by_cases h1 : s < 251
    · have g1 : s ≤ 250 := by omega
      by_cases h2 : 1 ≤ v
      · skip
        by_cases h3 : v ≤ 15
        · skip
          go_enter Try.func7, Try.ntmps7
          go_wp2
          go_ret
          exact ⟨rfl, Below.refl _ _⟩
        · have g3 : decide (v ≤ 15) = false := by simp; omega
          go_enter Try.func7, Try.ntmps7
          go_wp2
          go_ret
          exact ⟨rfl, Below.refl _ _⟩
      · have g2 : decide (1 ≤ v) = false := by simp; omega
        go_enter Try.func7, Try.ntmps7
        go_wp2
        go_ret
        exact ⟨rfl, Below.refl _ _⟩
    · have g1 : decide (s ≤ 250) = false := by simp; omega
      go_enter Try.func7, Try.ntmps7
      go_wp2
      go_ret
      exact ⟨rfl, Below.refl _ _⟩
  · have g0 : decide (0 ≤ s) = false := by simp; omega
    go_enter Try.func7, Try.ntmps7
    go_wp2
    go_ret
    exact ⟨rfl, Below.refl _ _⟩

set_option maxHeartbeats 1000000 in
theorem walk_FnExactKeyPublic (s : Int) (w : World) (_ws : (Lit.int .i64 s).wf = true) :
    Calls Try.prog 5 #[.int .i64 s] w fun e w' => e = .returned (.bool true) ∧ Below w.heap.size w w' := by
  by_cases h0 : 1 ≤ s
  · skip
    by_cases h1 : s < 997
    · have g1 : s ≤ 996 := by omega
      go_enter Try.func5, Try.ntmps5
      go_wp2
      go_ret
      exact ⟨rfl, Below.refl _ _⟩
    · have g1 : decide (s ≤ 996) = false := by simp; omega
      go_enter Try.func5, Try.ntmps5
      go_wp2
      go_ret
      exact ⟨rfl, Below.refl _ _⟩
  · have g0 : decide (1 ≤ s) = false := by simp; omega
    go_enter Try.func5, Try.ntmps5
    go_wp2
    go_ret
    exact ⟨rfl, Below.refl _ _⟩

set_option maxHeartbeats 1000000 in
theorem walk_FnExactHashPair (a : Int) (b : Int) (w : World) (_wa : (Lit.int .i64 a).wf = true) (_wb : (Lit.int .i64 b).wf = true) :
    Calls Try.prog 8 #[.int .i64 a, .int .i64 b] w fun e w' => e = .returned (.bool true) ∧ Below w.heap.size w w' := by
  by_cases h0 : 0 ≤ a
  · skip
    by_cases h1 : a < 991
    · have g1 : a ≤ 990 := by omega
      by_cases h2 : 0 ≤ b
      · skip
        by_cases h3 : b < 991
        · have g3 : b ≤ 990 := by omega
          go_enter Try.func8, Try.ntmps8
          go_wp2
          go_ret
          exact ⟨rfl, Below.refl _ _⟩
        · have g3 : decide (b ≤ 990) = false := by simp; omega
          go_enter Try.func8, Try.ntmps8
          go_wp2
          go_ret
          exact ⟨rfl, Below.refl _ _⟩
      · have g2 : decide (0 ≤ b) = false := by simp; omega
        go_enter Try.func8, Try.ntmps8
        go_wp2
        go_ret
        exact ⟨rfl, Below.refl _ _⟩
    · have g1 : decide (a ≤ 990) = false := by simp; omega
      go_enter Try.func8, Try.ntmps8
      go_wp2
      go_ret
      exact ⟨rfl, Below.refl _ _⟩
  · have g0 : decide (0 ≤ a) = false := by simp; omega
    go_enter Try.func8, Try.ntmps8
    go_wp2
    go_ret
    exact ⟨rfl, Below.refl _ _⟩

set_option maxHeartbeats 1000000 in
theorem walk_FnExactSignMake (s : Int) (d : Int) (w : World) (_ws : (Lit.int .i64 s).wf = true) (_wd : (Lit.int .i64 d).wf = true) :
    Calls Try.prog 10 #[.int .i64 s, .int .i64 d] w fun e w' => e = .returned (.bool true) ∧ Below w.heap.size w w' := by
  by_cases h0 : 1 ≤ s
  · skip
    by_cases h1 : s < 997
    · have g1 : s ≤ 996 := by omega
      by_cases h2 : 0 ≤ d
      · skip
        by_cases h3 : d < 991
        · have g3 : d ≤ 990 := by omega
          go_enter Try.func10, Try.ntmps10
          go_wp2
          go_ret
          exact ⟨rfl, Below.refl _ _⟩
        · have g3 : decide (d ≤ 990) = false := by simp; omega
          go_enter Try.func10, Try.ntmps10
          go_wp2
          go_ret
          exact ⟨rfl, Below.refl _ _⟩
      · have g2 : decide (0 ≤ d) = false := by simp; omega
        go_enter Try.func10, Try.ntmps10
        go_wp2
        go_ret
        exact ⟨rfl, Below.refl _ _⟩
    · have g1 : decide (s ≤ 996) = false := by simp; omega
      go_enter Try.func10, Try.ntmps10
      go_wp2
      go_ret
      exact ⟨rfl, Below.refl _ _⟩
  · have g0 : decide (1 ≤ s) = false := by simp; omega
    go_enter Try.func10, Try.ntmps10
    go_wp2
    go_ret
    exact ⟨rfl, Below.refl _ _⟩

set_option maxHeartbeats 1000000 in
theorem walk_FnExactSignCheck (p : Int) (d : Int) (s : Int) (w : World) (_wp : (Lit.int .i64 p).wf = true) (_wd : (Lit.int .i64 d).wf = true) (_ws : (Lit.int .i64 s).wf = true) :
    Calls Try.prog 11 #[.int .i64 p, .int .i64 d, .int .i64 s] w fun e w' => e = .returned (.bool true) ∧ Below w.heap.size w w' := by
  by_cases h0 : 1 ≤ p
  · skip
    by_cases h1 : p < 997
    · have g1 : p ≤ 996 := by omega
      by_cases h2 : 0 ≤ d
      · skip
        by_cases h3 : d < 991
        · have g3 : d ≤ 990 := by omega
          by_cases h4 : 1 ≤ s
          · skip
            by_cases h5 : s < 997
            · have g5 : s ≤ 996 := by omega
              go_enter Try.func11, Try.ntmps11
              go_wp2
              go_ret
              exact ⟨rfl, Below.refl _ _⟩
            · have g5 : decide (s ≤ 996) = false := by simp; omega
              go_enter Try.func11, Try.ntmps11
              go_wp2
              go_ret
              exact ⟨rfl, Below.refl _ _⟩
          · have g4 : decide (1 ≤ s) = false := by simp; omega
            go_enter Try.func11, Try.ntmps11
            go_wp2
            go_ret
            exact ⟨rfl, Below.refl _ _⟩
        · have g3 : decide (d ≤ 990) = false := by simp; omega
          go_enter Try.func11, Try.ntmps11
          go_wp2
          go_ret
          exact ⟨rfl, Below.refl _ _⟩
      · have g2 : decide (0 ≤ d) = false := by simp; omega
        go_enter Try.func11, Try.ntmps11
        go_wp2
        go_ret
        exact ⟨rfl, Below.refl _ _⟩
    · have g1 : decide (p ≤ 996) = false := by simp; omega
      go_enter Try.func11, Try.ntmps11
      go_wp2
      go_ret
      exact ⟨rfl, Below.refl _ _⟩
  · have g0 : decide (1 ≤ p) = false := by simp; omega
    go_enter Try.func11, Try.ntmps11
    go_wp2
    go_ret
    exact ⟨rfl, Below.refl _ _⟩

end Go.Proofs.Ytdgcjaknkceonaa
