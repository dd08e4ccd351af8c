/- The walk of FnHashPair. No condition. -/
import Derived.Test.YtgfjaoajjcolcaaPair
import Derived.Test.YtgfjaoajjcolcaaDig
namespace Go.Proofs.Ytgfjaoajjcolcaa
open Go.RowKit
set_option linter.unusedVariables false
set_option linter.unusedSimpArgs false

set_option maxHeartbeats 1000000 in
theorem drawHP_any (A : Option Addr) (n c : Nat) (zs : List Int) (w : World) (h : Ints .u8 w w.heap.size A n c zs) :
    Calls Try.prog 14 #[.slice A n c] w (Pair (-1) 991 (-1) 991 w) := by
  go_enter Try.func14, Try.ntmps14
  go_wp2_with fail
  refine (open_any A n c zs _ h).mono ?_
  rintro e w1 ⟨rfl, hr1, hb1, hs1⟩
  go_wp2_with fail
  refine (digest_any w.heap.size w.heap.size 0 _ hr1 (by omega)).mono ?_
  rintro e w2 ⟨v, p2, rfl, hv0, hv1, hp2, hr2, hg2⟩
  go_wp2_with fail
  refine (digest_any w.heap.size w.heap.size p2 _ hr2 (by omega)).mono ?_
  rintro e w3 ⟨u, p', rfl, hu0, hu1, hp, hr3, hg3⟩
  go_wp2
  go_ret2
  exact ⟨_, _, rfl, hv0, hv1, hu0, hu1, (hb1.trans (grown_below hg2 (Nat.le_refl _) hb1.size)).trans (grown_below hg3 (Nat.le_refl _) (by have := hr2.lt; omega))⟩

set_option maxHeartbeats 4000000 in
theorem walk_FnHashPair (a0 : Option Addr) (len0 cap0 : Nat) (z0 : List Int) (a1 : Option Addr) (len1 cap1 : Nat) (z1 : List Int) (w : World) (w0 : Ints .u8 w w.heap.size a0 len0 cap0 z0) (w1 : Ints .u8 w w.heap.size a1 len1 cap1 z1) :
    Calls Try.prog 3 #[.slice a0 len0 cap0, .slice a1 len1 cap1] w fun e w' => e = .returned (.bool true) ∧ Below w.heap.size w w' := by
  by_cases h1 : len0 ≤ 1048576
  · by_cases h2 : len1 ≤ 1048576
    · have g1 : decide (1048576 < len0) = false := by simp; omega
      have g2 : decide (1048576 < len1) = false := by simp; omega
      go_enter Try.func3, Try.ntmps3
      go_wp2_with fail
      refine (drawHP_any a0 len0 cap0 z0 _ w0).mono ?_
      rintro e w2 ⟨a, b, rfl, ha0, ha1, hb0, hb1, hb⟩
      by_cases hok : 0 ≤ a ∧ a ≤ 990 ∧ 0 ≤ b ∧ b ≤ 990
      · obtain ⟨k1, k2, k3, k4⟩ := hok
        go_wp2_with fail
        refine (hp_ok a b _ k1 k2 k3 k4).mono ?_
        rintro e w3 ⟨rfl, rfl⟩
        go_wp2_with fail
        refine (hpS_ok a b _ k1 k2 k3 k4).mono ?_
        rintro e w3 ⟨rfl, rfl⟩
        have x0 : ((a + 1 + len1 % 990) % 991 == a) = false := by simp; omega
        have y0 : ((b + 1 + len1 % 990) % 991 == b) = false := by simp; omega
        have x1 : ((31 * ((a + 1 + len1 % 990) % 991) + 17 * b + 5) % 991 != (31 * a + 17 * b + 5) % 991) = true := by simp; omega
        have y1 : ((31 * a + 17 * ((b + 1 + len1 % 990) % 991) + 5) % 991 != (31 * a + 17 * b + 5) % 991) = true := by simp; omega
        go_wp2_with fail
        refine (hp_ok ((a + 1 + len1 % 990) % 991) b _ (by omega) (by omega) k3 k4).mono ?_
        rintro e w3 ⟨rfl, rfl⟩
        go_wp2_with fail
        refine (hp_ok a ((b + 1 + len1 % 990) % 991) _ k1 k2 (by omega) (by omega)).mono ?_
        rintro e w3 ⟨rfl, rfl⟩
        go_wp2_with fail
        go_ret
        exact ⟨rfl, hb⟩
      · have hbad : a < 0 ∨ 990 < a ∨ b < 0 ∨ 990 < b := by omega
        go_wp2_with fail
        refine (hp_bad a b _ hbad).mono ?_
        rintro e w3 ⟨rfl, rfl⟩
        go_wp2_with fail
        refine (hpS_bad a b _ hbad).mono ?_
        rintro e w3 ⟨rfl, rfl⟩
        go_wp2_with fail
        go_ret
        exact ⟨rfl, hb⟩
    · have g1 : decide (1048576 < len0) = false := by simp; omega
      have g2 : decide (1048576 < len1) = true := by simp; omega
      go_enter Try.func3, Try.ntmps3
      go_wp2_with fail
      go_ret
      exact ⟨rfl, Below.refl _ _⟩
  · have g1 : decide (1048576 < len0) = true := by simp; omega
    go_enter Try.func3, Try.ntmps3
    go_wp2_with fail
    go_ret
    exact ⟨rfl, Below.refl _ _⟩

end Go.Proofs.Ytgfjaoajjcolcaa
