/- The walk of FnCoinMake. No condition. -/
import Derived.Test.YtdgcjaknkceonaaDrawA
import Derived.Test.YtdgcjaknkceonaaFld
namespace Go.Proofs.Ytdgcjaknkceonaa
open Go.RowKit
set_option linter.unusedVariables false

set_option maxHeartbeats 1000000 in
theorem drawCoin_any (A : Option Addr) (n c : Nat) (zs : List Int) (w : World) (h : Ints .u8 w w.heap.size A n c zs) :
    Calls Try.prog 32 #[.slice A n c] w (Pair (-1) 251 (-1) 16 w) := by
  go_enter Try.func32, Try.ntmps32
  go_wp2_with fail
  refine (open_any A n c zs _ h).mono ?_
  rintro e w1 ⟨rfl, hr1, hb1, hs1⟩
  go_wp2_with fail
  refine (pick_any 253 w.heap.size w.heap.size 0 _ hr1 (by omega) (by omega)).mono ?_
  rintro e w2 ⟨v, rfl, hv0, hv1, hr2, hg2, hs2⟩
  go_wp2_with fail
  refine (wave_any w.heap.size w.heap.size (0 + 1) _ hr2 (by omega)).mono ?_
  rintro e w3 ⟨u, p', rfl, hu0, hu1, hp, hr3, hg3⟩
  go_wp2
  go_ret2
  exact ⟨_, _, rfl, by omega, by omega, hu0, hu1, (hb1.trans (grown_below hg2 (Nat.le_refl _) hb1.size)).trans (grown_below hg3 (Nat.le_refl _) (by have := hr2.lt; omega))⟩

set_option maxHeartbeats 1000000 in
theorem coin_ok (s v : Int) (w : World) (h1 : 0 ≤ s) (h2 : s < 251) (h3 : 1 ≤ v) (h4 : v ≤ 15) :
    Calls Try.prog 16 #[.int .i64 s, .int .i64 v] w fun e w' => e = .returned (.int .i64 (s * (7 * v + 1) % 251)) ∧ w = w' := by
  have hm : 0 ≤ s * (7 * v + 1) ∧ s * (7 * v + 1) ≤ 250 * 106 := ⟨Int.mul_nonneg h1 (by omega), Int.mul_le_mul (by omega) (by omega) (by omega) (by omega)⟩
  obtain ⟨hm1, hm2⟩ := hm
  go_enter Try.func16, Try.ntmps16
  go_wp2
  go_ret
  exact ⟨rfl, rfl⟩
set_option maxHeartbeats 1000000 in
theorem coinS_ok (s v : Int) (w : World) (h1 : 0 ≤ s) (h2 : s < 251) (h3 : 1 ≤ v) (h4 : v ≤ 15) :
    Calls Try.prog 15 #[.int .i64 s, .int .i64 v] w fun e w' => e = .returned (.int .i64 (s * (7 * v + 1) % 251)) ∧ w = w' := by
  have hm : 0 ≤ s * (7 * v + 1) ∧ s * (7 * v + 1) ≤ 250 * 106 := ⟨Int.mul_nonneg h1 (by omega), Int.mul_le_mul (by omega) (by omega) (by omega) (by omega)⟩
  obtain ⟨hm1, hm2⟩ := hm
  go_enter Try.func15, Try.ntmps15
  go_wp2
  go_ret
  exact ⟨rfl, rfl⟩
def CoinBad (s v : Int) : Prop := s < 0 ∨ (0 ≤ s ∧ 251 ≤ s) ∨ (0 ≤ s ∧ s < 251 ∧ v < 1) ∨ (0 ≤ s ∧ s < 251 ∧ 1 ≤ v ∧ 15 < v)
set_option maxHeartbeats 1000000 in
theorem coin_bad (s v : Int) (w : World) (h : CoinBad s v) :
    Calls Try.prog 16 #[.int .i64 s, .int .i64 v] w fun e w' => e = .returned (.int .i64 (-1)) ∧ w = w' := by
  rcases h with h | ⟨h, h'⟩ | ⟨h, h', h''⟩ | ⟨h, h', h'', h3⟩
  · have g : decide (0 ≤ s) = false := by simp; omega
    go_enter Try.func16, Try.ntmps16
    go_wp2
    go_ret
    exact ⟨rfl, rfl⟩
  · have g : decide (s < 251) = false := by simp; omega
    go_enter Try.func16, Try.ntmps16
    go_wp2
    go_ret
    exact ⟨rfl, rfl⟩
  · go_enter Try.func16, Try.ntmps16
    go_wp2
    go_ret
    exact ⟨rfl, rfl⟩
  · go_enter Try.func16, Try.ntmps16
    go_wp2
    go_ret
    exact ⟨rfl, rfl⟩
set_option maxHeartbeats 1000000 in
theorem coinS_bad (s v : Int) (w : World) (h : CoinBad s v) :
    Calls Try.prog 15 #[.int .i64 s, .int .i64 v] w fun e w' => e = .returned (.int .i64 (-1)) ∧ w = w' := by
  rcases h with h | ⟨h, h'⟩ | ⟨h, h', h''⟩ | ⟨h, h', h'', h3⟩
  · have g : decide (0 ≤ s) = false := by simp; omega
    go_enter Try.func15, Try.ntmps15
    go_wp2
    go_ret
    exact ⟨rfl, rfl⟩
  · have g : decide (s ≤ 250) = false := by simp; omega
    go_enter Try.func15, Try.ntmps15
    go_wp2
    go_ret
    exact ⟨rfl, rfl⟩
  · have g : decide (1 ≤ v) = false := by simp; omega
    go_enter Try.func15, Try.ntmps15
    go_wp2
    go_ret
    exact ⟨rfl, rfl⟩
  · have g : decide (v ≤ 15) = false := by simp; omega
    go_enter Try.func15, Try.ntmps15
    go_wp2
    go_ret
    exact ⟨rfl, rfl⟩

theorem coin_inj (a b v : Int) (ha : 0 ≤ a) (ha' : a < 251) (hb : 0 ≤ b) (hb' : b < 251) (h3 : 1 ≤ v) (h4 : v ≤ 15) (hne : a ≠ b) : ¬ a * (7 * v + 1) % 251 = b * (7 * v + 1) % 251 := by
  intro e
  have h : ((a - b) * (7 * v + 1)) % 251 = 0 := by rw [Int.sub_mul]; omega
  rcases Dag.prime _ _ h with h | h <;> omega

set_option maxHeartbeats 2000000 in
theorem walk_FnCoinMake (a0 : Option Addr) (len0 cap0 : Nat) (z0 : List Int) (a1 : Option Addr) (len1 cap1 : Nat) (z1 : List Int) (w : World) (w0 : Ints .u8 w w.heap.size a0 len0 cap0 z0) (w1 : Ints .u8 w w.heap.size a1 len1 cap1 z1) :
    Calls Try.prog 12 #[.slice a0 len0 cap0, .slice a1 len1 cap1] w fun e w' => e = .returned (.bool true) ∧ Below w.heap.size w w' := by
  by_cases h1 : len0 ≤ 1048576
  · by_cases h2 : len1 ≤ 1048576
    · have g1 : decide (1048576 < len0) = false := by simp; omega
      have g2 : decide (1048576 < len1) = false := by simp; omega
      go_enter Try.func12, Try.ntmps12
      go_wp2_with fail
      refine (drawCoin_any a0 len0 cap0 z0 _ w0).mono ?_
      rintro e w2 ⟨s, v, rfl, hs0, hs1, hv0, hv1, hb⟩
      by_cases hok : 0 ≤ s ∧ s < 251 ∧ 1 ≤ v ∧ v ≤ 15
      · obtain ⟨k1, k2, k3, k4⟩ := hok
        go_wp2_with fail
        refine (coin_ok s v _ k1 k2 k3 k4).mono ?_
        rintro e w3 ⟨rfl, rfl⟩
        go_wp2_with fail
        refine (coinS_ok s v _ k1 k2 k3 k4).mono ?_
        rintro e w3 ⟨rfl, rfl⟩
        have hr : 0 ≤ s * (7 * v + 1) % 251 := by omega
        by_cases he : (s + 1 + len1 % 249) % 251 = s
        · have he' : ((s + 1 + len1 % 249) % 251 == s) = true := by simpa using he
          have he2 := Lib.hid he
          clear he
          go_wp2_with fail
          go_ret
          exact ⟨rfl, hb⟩
        · have he' : ((s + 1 + len1 % 249) % 251 == s) = false := by simpa using he
          have hi := coin_inj ((s + 1 + len1 % 249) % 251) s v (by omega) (by omega) k1 k2 k3 k4 he
          go_wp2_with fail
          refine (coin_ok ((s + 1 + len1 % 249) % 251) v _ (by omega) (by omega) k3 k4).mono ?_
          rintro e w3 ⟨rfl, rfl⟩
          go_wp2_with fail
          go_ret
          exact ⟨by simpa using hi, hb⟩
      · have hbad : CoinBad s v := by unfold CoinBad; omega
        go_wp2_with fail
        refine (coin_bad s v _ hbad).mono ?_
        rintro e w3 ⟨rfl, rfl⟩
        go_wp2_with fail
        refine (coinS_bad s v _ hbad).mono ?_
        rintro e w3 ⟨rfl, rfl⟩
        go_wp2_with fail
        go_ret
        exact ⟨rfl, hb⟩
    · have g1 : decide (1048576 < len0) = false := by simp; omega
      have g2 : decide (1048576 < len1) = true := by simp; omega
      go_enter Try.func12, Try.ntmps12
      go_wp2_with fail
      go_ret
      exact ⟨rfl, Below.refl _ _⟩
  · have g1 : decide (1048576 < len0) = true := by simp; omega
    go_enter Try.func12, Try.ntmps12
    go_wp2_with fail
    go_ret
    exact ⟨rfl, Below.refl _ _⟩
end Go.Proofs.Ytdgcjaknkceonaa
