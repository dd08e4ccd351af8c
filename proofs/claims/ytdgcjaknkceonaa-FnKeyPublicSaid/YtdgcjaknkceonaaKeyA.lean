/- The walk of FnKeyPublic. No condition. -/
import Derived.Test.YtdgcjaknkceonaaKey
namespace Go.Proofs.Ytdgcjaknkceonaa
open Go.RowKit
set_option linter.unusedVariables false

def NumBelow (lo hi : Int) (w : World) (e : Ending) (w' : World) : Prop := ∃ v : Int, e = .returned (.int .i64 v) ∧ lo ≤ v ∧ v ≤ hi ∧ Below w.heap.size w w'

set_option maxHeartbeats 1000000 in
theorem drawKey_any (A : Option Addr) (n c : Nat) (zs : List Int) (w : World) (h : Ints .u8 w w.heap.size A n c zs) :
    Calls Try.prog 33 #[.slice A n c] w (NumBelow (-1) 997 w) := by
  go_enter Try.func33, Try.ntmps33
  go_wp2_with fail
  refine (open_any A n c zs _ h).mono ?_
  rintro e w1 ⟨rfl, hr1, hb1, hs1⟩
  go_wp2_with fail
  refine (key_any w.heap.size w.heap.size 0 _ hr1 (by omega)).mono ?_
  rintro e w3 ⟨u, p', rfl, hu0, hu1, hp, hr3, hg3⟩
  go_wp2
  go_ret
  exact ⟨_, rfl, hu0, hu1, hb1.trans (grown_below hg3 (Nat.le_refl _) (by have := hr1.lt; omega))⟩

set_option maxHeartbeats 1000000 in
theorem kp_ok (s : Int) (w : World) (h1 : 1 ≤ s) (h2 : s < 997) :
    Calls Try.prog 18 #[.int .i64 s] w fun e w' => e = .returned (.int .i64 (s * 5 % 997)) ∧ w = w' := by
  go_enter Try.func18, Try.ntmps18
  go_wp2
  go_ret
  exact ⟨rfl, rfl⟩
set_option maxHeartbeats 1000000 in
theorem kpS_ok (s : Int) (w : World) (h1 : 1 ≤ s) (h2 : s < 997) :
    Calls Try.prog 17 #[.int .i64 s] w fun e w' => e = .returned (.int .i64 (s * 5 % 997)) ∧ w = w' := by
  have g : s ≤ 996 := by omega
  go_enter Try.func17, Try.ntmps17
  go_wp2
  go_ret
  exact ⟨rfl, rfl⟩
set_option maxHeartbeats 1000000 in
theorem kp_bad (s : Int) (w : World) (h : s < 1 ∨ 997 ≤ s) :
    Calls Try.prog 18 #[.int .i64 s] w fun e w' => e = .returned (.int .i64 0) ∧ w = w' := by
  rcases h with h | h
  · have g : decide (1 ≤ s) = false := by simp; omega
    go_enter Try.func18, Try.ntmps18
    go_wp2
    go_ret
    exact ⟨rfl, rfl⟩
  · have g : decide (s < 997) = false := by simp; omega
    go_enter Try.func18, Try.ntmps18
    go_wp2
    go_ret
    exact ⟨rfl, rfl⟩
set_option maxHeartbeats 1000000 in
theorem kpS_bad (s : Int) (w : World) (h : s < 1 ∨ 997 ≤ s) :
    Calls Try.prog 17 #[.int .i64 s] w fun e w' => e = .returned (.int .i64 0) ∧ w = w' := by
  rcases h with h | h
  · have g : decide (1 ≤ s) = false := by simp; omega
    go_enter Try.func17, Try.ntmps17
    go_wp2
    go_ret
    exact ⟨rfl, rfl⟩
  · have g : decide (s ≤ 996) = false := by simp; omega
    go_enter Try.func17, Try.ntmps17
    go_wp2
    go_ret
    exact ⟨rfl, rfl⟩

set_option maxHeartbeats 2000000 in
theorem walk_FnKeyPublic (a0 : Option Addr) (len0 cap0 : Nat) (z0 : List Int) (a1 : Option Addr) (len1 cap1 : Nat) (z1 : List Int) (w : World) (w0 : Ints .u8 w w.heap.size a0 len0 cap0 z0) (w1 : Ints .u8 w w.heap.size a1 len1 cap1 z1) :
    Calls Try.prog 13 #[.slice a0 len0 cap0, .slice a1 len1 cap1] w fun e w' => e = .returned (.bool true) ∧ Below w.heap.size w w' := by
  by_cases h1 : len0 ≤ 1048576
  · by_cases h2 : len1 ≤ 1048576
    · have g1 : decide (1048576 < len0) = false := by simp; omega
      have g2 : decide (1048576 < len1) = false := by simp; omega
      go_enter Try.func13, Try.ntmps13
      go_wp2_with fail
      refine (drawKey_any a0 len0 cap0 z0 _ w0).mono ?_
      rintro e w2 ⟨s, rfl, hs0, hs1, hb⟩
      by_cases hok : 1 ≤ s ∧ s < 997
      · obtain ⟨k1, k2⟩ := hok
        go_wp2_with fail
        refine (kp_ok s _ k1 k2).mono ?_
        rintro e w3 ⟨rfl, rfl⟩
        go_wp2_with fail
        refine (kpS_ok s _ k1 k2).mono ?_
        rintro e w3 ⟨rfl, rfl⟩
        have hr : (s * 5 % 997 == 0) = false := by simp; omega
        go_wp2_with fail
        refine (kp_ok (1 + (s + len1 % 995) % 996) _ (by omega) (by omega)).mono ?_
        rintro e w3 ⟨rfl, rfl⟩
        by_cases he : 1 + (s + len1 % 995) % 996 = s
        · have he1 : (1 + (s + len1 % 995) % 996 == s) = true := by simpa using he
          have he2 : ((1 + (s + len1 % 995) % 996) * 5 % 997 == s * 5 % 997) = true := by rw [he]; simp
          have he3 := Lib.hid he
          clear he
          go_wp2_with fail
          go_ret
          exact ⟨rfl, hb⟩
        · have he1 : (1 + (s + len1 % 995) % 996 == s) = false := by simpa using he
          have he2 : ((1 + (s + len1 % 995) % 996) * 5 % 997 == s * 5 % 997) = false := by simp; omega
          have he3 := Lib.hid he
          clear he
          go_wp2_with fail
          go_ret
          exact ⟨rfl, hb⟩
      · have hbad : s < 1 ∨ 997 ≤ s := by omega
        go_wp2_with fail
        refine (kp_bad s _ hbad).mono ?_
        rintro e w3 ⟨rfl, rfl⟩
        go_wp2_with fail
        refine (kpS_bad s _ hbad).mono ?_
        rintro e w3 ⟨rfl, rfl⟩
        go_wp2_with fail
        go_ret
        exact ⟨rfl, hb⟩
    · have g1 : decide (1048576 < len0) = false := by simp; omega
      have g2 : decide (1048576 < len1) = true := by simp; omega
      go_enter Try.func13, Try.ntmps13
      go_wp2_with fail
      go_ret
      exact ⟨rfl, Below.refl _ _⟩
  · have g1 : decide (1048576 < len0) = true := by simp; omega
    go_enter Try.func13, Try.ntmps13
    go_wp2_with fail
    go_ret
    exact ⟨rfl, Below.refl _ _⟩
end Go.Proofs.Ytdgcjaknkceonaa
