/- The walks of the laws of keys and signatures. No condition. -/
import Derived.Test.YtgfjaoajjcolcaaSign
namespace Go.Proofs.Ytgfjaoajjcolcaa
open Go.RowKit
set_option linter.unusedVariables false
set_option linter.unusedSimpArgs false

theorem nm (a b : Int) : (a % 997 * b) % 997 = (a * b) % 997 := by rw [Int.mul_emod, Int.emod_emod, ← Int.mul_emod]
theorem nm' (a b : Int) : (a * (b % 997)) % 997 = (a * b) % 997 := by rw [Int.mul_emod, Int.emod_emod, ← Int.mul_emod]
def nInvLoop : Nat → Int → Int → Nat → Int
  | 0, _, r, _ => r
  | f + 1, v, r, n => if n = 0 then r else nInvLoop f (v * v % 997) (if n % 2 = 1 then r * v % 997 else r) (n / 2)
def nInv (v : Int) : Int := nInvLoop 10 v 1 995
theorem nInv_nat : ∀ v : Fin 997, v.val ≠ 0 → ((v.val : Int) * nInv v.val) % 997 = 1 := by decide +kernel
/-- 997 is prime. -/
theorem nprime (a b : Int) (h : (a * b) % 997 = 0) : a % 997 = 0 ∨ b % 997 = 0 := by
  by_cases ha : a % 997 = 0
  · exact .inl ha
  · refine .inr ?_
    obtain ⟨n, hn⟩ := Int.eq_ofNat_of_zero_le (show 0 ≤ a % 997 by omega)
    have h1 := nInv_nat ⟨n, by omega⟩ (by simp; omega)
    simp only at h1
    rw [← hn] at h1
    have h2 : (a % 997 * nInv (a % 997) * b) % 997 = 0 := by
      rw [Int.mul_assoc, Int.mul_comm (nInv _), ← Int.mul_assoc, ← nm, nm (a) b, h]; simp
    rw [← nm, h1] at h2
    simpa using h2
theorem sign_true (s d : Int) : s * (d + 1) % 997 * 5 % 997 = s * 5 % 997 * (d + 1) % 997 := by
  rw [nm, nm, Int.mul_right_comm]
theorem sign_digest (s d d' : Int) (hs : 1 ≤ s) (hs' : s ≤ 996) (h0 : 0 ≤ d) (h1 : d ≤ 990) (h2 : 0 ≤ d') (h3 : d' ≤ 990) (hne : d' ≠ d) : s * (d + 1) % 997 * 5 % 997 ≠ s * 5 % 997 * (d' + 1) % 997 := by
  rw [sign_true, nm, nm]
  intro e
  have h : ((s * 5) * (d - d')) % 997 = 0 := by
    have : (s * 5) * (d - d') = s * 5 * (d + 1) - s * 5 * (d' + 1) := by rw [← Int.mul_sub]; congr 1; omega
    omega
  rcases nprime _ _ h with h | h <;> omega
theorem sign_key (s d k : Int) (h0 : 0 ≤ d) (h1 : d ≤ 990) (hk : 1 ≤ k) (hk' : k ≤ 996) (hne : k ≠ s * 5 % 997) : s * (d + 1) % 997 * 5 % 997 ≠ k * (d + 1) % 997 := by
  rw [sign_true]
  intro e
  have h : ((s * 5 % 997 - k) * (d + 1)) % 997 = 0 := by rw [Int.sub_mul]; omega
  rcases nprime _ _ h with h | h <;> omega

set_option maxHeartbeats 1000000 in
theorem drawSM_any (A : Option Addr) (n c : Nat) (zs : List Int) (w : World) (h : Ints .u8 w w.heap.size A n c zs) :
    Calls Try.prog 20 #[.slice A n c] w (Pair (-1) 997 (-1) 991 w) := by
  go_enter Try.func20, Try.ntmps20
  go_wp2_with fail
  refine (open_any A n c zs _ h).mono ?_
  rintro e w1 ⟨rfl, hr1, hb1, hs1⟩
  go_wp2_with fail
  refine (key_any w.heap.size w.heap.size 0 _ hr1 (by omega)).mono ?_
  rintro e w2 ⟨v, p2, rfl, hv0, hv1, hp2, hr2, hg2⟩
  go_wp2_with fail
  refine (digest_any w.heap.size w.heap.size p2 _ hr2 (by omega)).mono ?_
  rintro e w3 ⟨u, p', rfl, hu0, hu1, hp, hr3, hg3⟩
  go_wp2
  go_ret2
  exact ⟨_, _, rfl, hv0, hv1, hu0, hu1, (hb1.trans (grown_below hg2 (Nat.le_refl _) hb1.size)).trans (grown_below hg3 (Nat.le_refl _) (by have := hr2.lt; omega))⟩

set_option maxHeartbeats 4000000 in
theorem walk_FnSignRoundTrip (a0 : Option Addr) (len0 cap0 : Nat) (z0 : List Int) (w : World) (w0 : Ints .u8 w w.heap.size a0 len0 cap0 z0) :
    Calls Try.prog 8 #[.slice a0 len0 cap0] w fun e w' => e = .returned (.bool true) ∧ Below w.heap.size w w' := by
  by_cases h1 : len0 ≤ 1048576
  · have g1 : decide (1048576 < len0) = false := by simp; omega
    go_enter Try.func8, Try.ntmps8
    go_wp2_with fail
    refine (drawSM_any a0 len0 cap0 z0 _ w0).mono ?_
    rintro e w2 ⟨s, d, rfl, ha0, ha1, hb0, hb1, hb⟩
    by_cases hok : 1 ≤ s ∧ s ≤ 996 ∧ 0 ≤ d ∧ d ≤ 990
    · obtain ⟨k1, k2, k3, k4⟩ := hok
      go_wp2_with fail
      refine (sm_ok s d _ k1 k2 k3 k4).mono ?_
      rintro e w3 ⟨rfl, rfl⟩
      go_wp2_with fail
      refine (smS_ok s d _ k1 k2 k3 k4).mono ?_
      rintro e w3 ⟨rfl, rfl⟩
      by_cases hz : s * (d + 1) % 997 = 0
      · have z0 : (s * (d + 1) % 997 == 0) = true := by simpa using hz
        have HZ := Lib.hid hz
        clear hz
        go_wp2_with fail
        go_ret
        exact ⟨rfl, hb⟩
      · have z0 : (s * (d + 1) % 997 == 0) = false := by simpa using hz
        have z1 : 1 ≤ s * (d + 1) % 997 := by omega
        have z2 : s * (d + 1) % 997 ≤ 996 := by omega
        clear hz
        have hv : (s * (d + 1) % 997 * 5 % 997 == s * 5 % 997 * (d + 1) % 997) = true := by simpa using sign_true s d
        go_wp2_with fail
        refine (kp_ok s _ k1 k2).mono ?_
        rintro e w3 ⟨rfl, rfl⟩
        go_wp2_with fail
        refine (sc_ok (s * 5 % 997) d (s * (d + 1) % 997) _ (by omega) (by omega) k3 k4 z1 z2).mono ?_
        rintro e w3 ⟨rfl, rfl⟩
        rw [hv]
        go_wp2_with fail
        go_ret
        exact ⟨rfl, hb⟩
    · have hbad : s < 1 ∨ 996 < s ∨ d < 0 ∨ 990 < d := by omega
      go_wp2_with fail
      refine (sm_bad s d _ hbad).mono ?_
      rintro e w3 ⟨rfl, rfl⟩
      go_wp2_with fail
      refine (smS_bad s d _ hbad).mono ?_
      rintro e w3 ⟨rfl, rfl⟩
      go_wp2_with fail
      go_ret
      exact ⟨rfl, hb⟩
  · have g1 : decide (1048576 < len0) = true := by simp; omega
    go_enter Try.func8, Try.ntmps8
    go_wp2_with fail
    go_ret
    exact ⟨rfl, Below.refl _ _⟩

set_option maxHeartbeats 4000000 in
theorem walk_FnSignDigest (a0 : Option Addr) (len0 cap0 : Nat) (z0 : List Int) (a1 : Option Addr) (len1 cap1 : Nat) (z1 : List Int) (w : World) (w0 : Ints .u8 w w.heap.size a0 len0 cap0 z0) (w1 : Ints .u8 w w.heap.size a1 len1 cap1 z1) :
    Calls Try.prog 6 #[.slice a0 len0 cap0, .slice a1 len1 cap1] w fun e w' => e = .returned (.bool true) ∧ Below w.heap.size w w' := by
  by_cases h1 : len0 ≤ 1048576
  · by_cases h2 : len1 ≤ 1048576
    · have g1 : decide (1048576 < len0) = false := by simp; omega
      have g2 : decide (1048576 < len1) = false := by simp; omega
      go_enter Try.func6, Try.ntmps6
      go_wp2_with fail
      refine (drawSM_any a0 len0 cap0 z0 _ w0).mono ?_
      rintro e w2 ⟨s, d, rfl, ha0, ha1, hb0, hb1, hb⟩
      by_cases hok : 1 ≤ s ∧ s ≤ 996 ∧ 0 ≤ d ∧ d ≤ 990
      · obtain ⟨k1, k2, k3, k4⟩ := hok
        go_wp2_with fail
        refine (sm_ok s d _ k1 k2 k3 k4).mono ?_
        rintro e w3 ⟨rfl, rfl⟩
        go_wp2_with fail
        refine (smS_ok s d _ k1 k2 k3 k4).mono ?_
        rintro e w3 ⟨rfl, rfl⟩
        by_cases hz : s * (d + 1) % 997 = 0
        · have z0 : (s * (d + 1) % 997 == 0) = true := by simpa using hz
          have HZ := Lib.hid hz
          clear hz
          go_wp2_with fail
          go_ret
          exact ⟨rfl, hb⟩
        · have z0 : (s * (d + 1) % 997 == 0) = false := by simpa using hz
          have z1 : 1 ≤ s * (d + 1) % 997 := by omega
          have z2 : s * (d + 1) % 997 ≤ 996 := by omega
          clear hz
          have hd : (d + 1 + len1 % 990) % 991 ≠ d := by omega
          have hd0 : ((d + 1 + len1 % 990) % 991 == d) = false := by simpa using hd
          have hv : (s * (d + 1) % 997 * 5 % 997 == s * 5 % 997 * ((d + 1 + len1 % 990) % 991 + 1) % 997) = false := by simpa using sign_digest s d _ k1 k2 k3 k4 (by omega) (by omega) hd
          clear hd
          go_wp2_with fail
          refine (kp_ok s _ k1 k2).mono ?_
          rintro e w3 ⟨rfl, rfl⟩
          go_wp2_with fail
          refine (sc_ok (s * 5 % 997) ((d + 1 + len1 % 990) % 991) (s * (d + 1) % 997) _ (by omega) (by omega) (by omega) (by omega) z1 z2).mono ?_
          rintro e w3 ⟨rfl, rfl⟩
          rw [hv]
          go_wp2_with fail
          go_ret
          exact ⟨rfl, hb⟩
      · have hbad : s < 1 ∨ 996 < s ∨ d < 0 ∨ 990 < d := by omega
        go_wp2_with fail
        refine (sm_bad s d _ hbad).mono ?_
        rintro e w3 ⟨rfl, rfl⟩
        go_wp2_with fail
        refine (smS_bad s d _ hbad).mono ?_
        rintro e w3 ⟨rfl, rfl⟩
        go_wp2_with fail
        go_ret
        exact ⟨rfl, hb⟩
    · have g1 : decide (1048576 < len0) = false := by simp; omega
      have g2 : decide (1048576 < len1) = true := by simp; omega
      go_enter Try.func6, Try.ntmps6
      go_wp2_with fail
      go_ret
      exact ⟨rfl, Below.refl _ _⟩
  · have g1 : decide (1048576 < len0) = true := by simp; omega
    go_enter Try.func6, Try.ntmps6
    go_wp2_with fail
    go_ret
    exact ⟨rfl, Below.refl _ _⟩

set_option maxHeartbeats 4000000 in
theorem walk_FnSignKey (a0 : Option Addr) (len0 cap0 : Nat) (z0 : List Int) (a1 : Option Addr) (len1 cap1 : Nat) (z1 : List Int) (w : World) (w0 : Ints .u8 w w.heap.size a0 len0 cap0 z0) (w1 : Ints .u8 w w.heap.size a1 len1 cap1 z1) :
    Calls Try.prog 7 #[.slice a0 len0 cap0, .slice a1 len1 cap1] w fun e w' => e = .returned (.bool true) ∧ Below w.heap.size w w' := by
  by_cases h1 : len0 ≤ 1048576
  · by_cases h2 : len1 ≤ 1048576
    · have g1 : decide (1048576 < len0) = false := by simp; omega
      have g2 : decide (1048576 < len1) = false := by simp; omega
      go_enter Try.func7, Try.ntmps7
      go_wp2_with fail
      refine (drawSM_any a0 len0 cap0 z0 _ w0).mono ?_
      rintro e w2 ⟨s, d, rfl, ha0, ha1, hb0, hb1, hb⟩
      by_cases hok : 1 ≤ s ∧ s ≤ 996 ∧ 0 ≤ d ∧ d ≤ 990
      · obtain ⟨k1, k2, k3, k4⟩ := hok
        go_wp2_with fail
        refine (sm_ok s d _ k1 k2 k3 k4).mono ?_
        rintro e w3 ⟨rfl, rfl⟩
        go_wp2_with fail
        refine (smS_ok s d _ k1 k2 k3 k4).mono ?_
        rintro e w3 ⟨rfl, rfl⟩
        by_cases hz : s * (d + 1) % 997 = 0
        · have z0 : (s * (d + 1) % 997 == 0) = true := by simpa using hz
          have HZ := Lib.hid hz
          clear hz
          go_wp2_with fail
          go_ret
          exact ⟨rfl, hb⟩
        · have z0 : (s * (d + 1) % 997 == 0) = false := by simpa using hz
          have z1 : 1 ≤ s * (d + 1) % 997 := by omega
          have z2 : s * (d + 1) % 997 ≤ 996 := by omega
          clear hz
          go_wp2_with fail
          refine (kp_ok s _ k1 k2).mono ?_
          rintro e w3 ⟨rfl, rfl⟩
          go_wp2_with fail
          refine (kp_ok s _ k1 k2).mono ?_
          rintro e w3 ⟨rfl, rfl⟩
          by_cases hk : 1 + (s * 5 % 997 + len1 % 995) % 996 = s * 5 % 997
          · have hk0 : (1 + (s * 5 % 997 + len1 % 995) % 996 == s * 5 % 997) = true := by simpa using hk
            have HK := Lib.hid hk
            clear hk
            go_wp2_with fail
            go_ret
            exact ⟨rfl, hb⟩
          · have hk0 : (1 + (s * 5 % 997 + len1 % 995) % 996 == s * 5 % 997) = false := by simpa using hk
            have hv : (s * (d + 1) % 997 * 5 % 997 == (1 + (s * 5 % 997 + len1 % 995) % 996) * (d + 1) % 997) = false := by simpa using sign_key s d _ k3 k4 (by omega) (by omega) hk
            have HK := Lib.hid hk
            clear hk
            go_wp2_with fail
            refine (sc_ok (1 + (s * 5 % 997 + len1 % 995) % 996) d (s * (d + 1) % 997) _ (by omega) (by omega) k3 k4 z1 z2).mono ?_
            rintro e w3 ⟨rfl, rfl⟩
            rw [hv]
            go_wp2_with fail
            go_ret
            exact ⟨rfl, hb⟩
      · have hbad : s < 1 ∨ 996 < s ∨ d < 0 ∨ 990 < d := by omega
        go_wp2_with fail
        refine (sm_bad s d _ hbad).mono ?_
        rintro e w3 ⟨rfl, rfl⟩
        go_wp2_with fail
        refine (smS_bad s d _ hbad).mono ?_
        rintro e w3 ⟨rfl, rfl⟩
        go_wp2_with fail
        go_ret
        exact ⟨rfl, hb⟩
    · have g1 : decide (1048576 < len0) = false := by simp; omega
      have g2 : decide (1048576 < len1) = true := by simp; omega
      go_enter Try.func7, Try.ntmps7
      go_wp2_with fail
      go_ret
      exact ⟨rfl, Below.refl _ _⟩
  · have g1 : decide (1048576 < len0) = true := by simp; omega
    go_enter Try.func7, Try.ntmps7
    go_wp2_with fail
    go_ret
    exact ⟨rfl, Below.refl _ _⟩

def Three (w : World) (e : Ending) (w' : World) : Prop :=
  ∃ a b c : Int, e = .returned (.tuple #[.int .i64 a, .int .i64 b, .int .i64 c]) ∧ Below w.heap.size w w'

theorem kpS_any (s : Int) (w : World) : Calls Try.prog 52 #[.int .i64 s] w fun e w' => ∃ v : Int, e = .returned (.int .i64 v) ∧ w = w' := by
  by_cases h : 1 ≤ s ∧ s ≤ 996
  · exact (kpS_ok s w h.1 h.2).mono fun e w' ⟨he, hw⟩ => ⟨_, he, hw⟩
  · exact (kpS_bad s w (by omega)).mono fun e w' ⟨he, hw⟩ => ⟨_, he, hw⟩
theorem smS_any (s d : Int) (w : World) : Calls Try.prog 22 #[.int .i64 s, .int .i64 d] w fun e w' => ∃ v : Int, e = .returned (.int .i64 v) ∧ w = w' := by
  by_cases h : 1 ≤ s ∧ s ≤ 996 ∧ 0 ≤ d ∧ d ≤ 990
  · exact (smS_ok s d w h.1 h.2.1 h.2.2.1 h.2.2.2).mono fun e w' ⟨he, hw⟩ => ⟨_, he, hw⟩
  · exact (smS_bad s d w (by omega)).mono fun e w' ⟨he, hw⟩ => ⟨_, he, hw⟩

set_option maxHeartbeats 2000000 in
theorem drawSC_any (A : Option Addr) (n c : Nat) (zs : List Int) (w : World) (h : Ints .u8 w w.heap.size A n c zs) :
    Calls Try.prog 25 #[.slice A n c] w (Three w) := by
  go_enter Try.func25, Try.ntmps25
  go_wp2_with fail
  refine (open_any A n c zs _ h).mono ?_
  rintro e w1 ⟨rfl, hr1, hb1, hs1⟩
  go_wp2_with fail
  refine (key_any w.heap.size w.heap.size 0 _ hr1 (by omega)).mono ?_
  rintro e w2 ⟨v, p2, rfl, hv0, hv1, hp2, hr2, hg2⟩
  go_wp2_with fail
  refine (digest_any w.heap.size w.heap.size p2 _ hr2 (by omega)).mono ?_
  rintro e w3 ⟨u, p3, rfl, hu0, hu1, hp3, hr3, hg3⟩
  go_wp2_with fail
  refine (kpS_any v _).mono ?_
  rintro e w4 ⟨x, rfl, rfl⟩
  go_wp2_with fail
  refine (smS_any v u _).mono ?_
  rintro e w4 ⟨y, rfl, rfl⟩
  go_wp2_with fail
  refine (pick_any 6 w.heap.size w.heap.size p3 _ hr3 (by omega) (by omega)).mono ?_
  rintro e w4 ⟨t, rfl, ht0, ht1, hr4, hg4, hs4⟩
  have hB : Below w.heap.size w w4 := ((hb1.trans (grown_below hg2 (Nat.le_refl _) hb1.size)).trans (grown_below hg3 (Nat.le_refl _) (by have := hr2.lt; omega))).trans (grown_below hg4 (Nat.le_refl _) (by have := hr3.lt; omega))
  have hl4 := hr4.lt
  clear hg2 hg3 hg4 hb1 hr1 hr2 hr3 hs4 hs1
  by_cases t0 : t = 0
  · subst t0
    go_wp2_with fail
    refine (key_any w.heap.size w.heap.size (p3 + 1) _ hr4 (by omega)).mono ?_
    rintro e w5 ⟨z, p5, rfl, hz0, hz1, hp5, hr5, hg5⟩
    go_wp2_with fail
    go_ret3
    exact ⟨_, _, _, rfl, hB.trans (grown_below hg5 (Nat.le_refl _) (by omega))⟩
  · have n0 : (t == 0) = false := by simpa using t0
    by_cases t1 : t = 1
    · subst t1
      go_wp2_with fail
      refine (digest_any w.heap.size w.heap.size (p3 + 1) _ hr4 (by omega)).mono ?_
      rintro e w5 ⟨z, p5, rfl, hz0, hz1, hp5, hr5, hg5⟩
      go_wp2_with fail
      go_ret3
      exact ⟨_, _, _, rfl, hB.trans (grown_below hg5 (Nat.le_refl _) (by omega))⟩
    · have n1 : (t == 1) = false := by simpa using t1
      by_cases t2 : t = 2
      · subst t2
        go_wp2_with fail
        refine (key_any w.heap.size w.heap.size (p3 + 1) _ hr4 (by omega)).mono ?_
        rintro e w5 ⟨z, p5, rfl, hz0, hz1, hp5, hr5, hg5⟩
        go_wp2_with fail
        go_ret3
        exact ⟨_, _, _, rfl, hB.trans (grown_below hg5 (Nat.le_refl _) (by omega))⟩
      · have n2 : (t == 2) = false := by simpa using t2
        go_wp2_with fail
        go_ret3
        exact ⟨_, _, _, rfl, hB⟩

set_option maxHeartbeats 4000000 in
theorem walk_FnSignOne (a0 : Option Addr) (len0 cap0 : Nat) (z0 : List Int) (a1 : Option Addr) (len1 cap1 : Nat) (z1 : List Int) (w : World) (w0 : Ints .u8 w w.heap.size a0 len0 cap0 z0) (w1 : Ints .u8 w w.heap.size a1 len1 cap1 z1) :
    Calls Try.prog 9 #[.slice a0 len0 cap0, .slice a1 len1 cap1] w fun e w' => e = .returned (.bool true) ∧ Below w.heap.size w w' := by
  by_cases h1 : len0 ≤ 1048576
  · by_cases h2 : len1 ≤ 1048576
    · have g1 : decide (1048576 < len0) = false := by simp; omega
      have g2 : decide (1048576 < len1) = false := by simp; omega
      go_enter Try.func9, Try.ntmps9
      go_wp2_with fail
      refine (drawSC_any a0 len0 cap0 z0 _ w0).mono ?_
      rintro e w2 ⟨p, d, s, rfl, hb⟩
      by_cases hok : 1 ≤ p ∧ p ≤ 996 ∧ 0 ≤ d ∧ d ≤ 990 ∧ 1 ≤ s ∧ s ≤ 996
      · obtain ⟨k1, k2, k3, k4, k5, k6⟩ := hok
        go_wp2_with fail
        refine (sc_ok p d s _ k1 k2 k3 k4 k5 k6).mono ?_
        rintro e w3 ⟨rfl, rfl⟩
        go_wp2_with fail
        refine (scS_ok p d s _ k1 k2 k3 k4 k5 k6).mono ?_
        rintro e w3 ⟨rfl, rfl⟩
        by_cases hz : s * 5 % 997 = p * (d + 1) % 997
        · have z0 : (s * 5 % 997 == p * (d + 1) % 997) = true := by simpa using hz
          rw [z0]
          have Z0 := Lib.hid z0
          clear z0
          by_cases hk : 1 + (s + len1 % 995) % 996 = s
          · have hk0 : (1 + (s + len1 % 995) % 996 == s) = true := by simpa using hk
            have HK := Lib.hid hk
            have HZ := Lib.hid hz
            clear hk hz
            go_wp2_with fail
            go_ret
            exact ⟨rfl, hb⟩
          · have hk0 : (1 + (s + len1 % 995) % 996 == s) = false := by simpa using hk
            have hv : ((1 + (s + len1 % 995) % 996) * 5 % 997 == p * (d + 1) % 997) = false := by rw [← hz]; simp; omega
            have HK := Lib.hid hk
            have HZ := Lib.hid hz
            clear hk hz
            go_wp2_with fail
            refine (sc_ok p d (1 + (s + len1 % 995) % 996) _ k1 k2 k3 k4 (by omega) (by omega)).mono ?_
            rintro e w3 ⟨rfl, rfl⟩
            rw [hv]
            go_wp2_with fail
            go_ret
            exact ⟨rfl, hb⟩
        · have z0 : (s * 5 % 997 == p * (d + 1) % 997) = false := by simpa using hz
          rw [z0]
          clear z0 hz
          go_wp2_with fail
          go_ret
          exact ⟨rfl, hb⟩
      · have hbad : p < 1 ∨ 996 < p ∨ d < 0 ∨ 990 < d ∨ s < 1 ∨ 996 < s := by omega
        go_wp2_with fail
        refine (sc_bad p d s _ hbad).mono ?_
        rintro e w3 ⟨rfl, rfl⟩
        go_wp2_with fail
        refine (scS_bad p d s _ hbad).mono ?_
        rintro e w3 ⟨rfl, rfl⟩
        go_wp2_with fail
        go_ret
        exact ⟨rfl, hb⟩
    · have g1 : decide (1048576 < len0) = false := by simp; omega
      have g2 : decide (1048576 < len1) = true := by simp; omega
      go_enter Try.func9, Try.ntmps9
      go_wp2_with fail
      go_ret
      exact ⟨rfl, Below.refl _ _⟩
  · have g1 : decide (1048576 < len0) = true := by simp; omega
    go_enter Try.func9, Try.ntmps9
    go_wp2_with fail
    go_ret
    exact ⟨rfl, Below.refl _ _⟩

end Go.Proofs.Ytgfjaoajjcolcaa
