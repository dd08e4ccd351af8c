/- The inverse of a symbol, by the program. Condition: a symbol. -/
import Derived.Test.YtfkmiflddpjllaaVal
import Derived.Test.YtfkmiflddpjllaaFld
namespace Go.Proofs.Ytfkmiflddpjllaa
open Go.RowKit
set_option linter.unusedVariables false
set_option linter.unusedSimpArgs false

set_option maxHeartbeats 2000000 in
theorem inverse_any (v : Int) (h0 : 0 ≤ v) (h1 : v < 251) (w : World) :
    Calls Try.prog 63 #[.int .i64 v] w fun e w' => e = .returned (.int .i64 (Dag.inv v)) ∧ w = w' := by
  go_enter Try.func63, Try.ntmps63
  go_wp2_with fail
  go_loop [0, 3, 4] (fun a r m => ∃ (f : Nat) (x y : Int) (n : Nat), f ≤ 8 ∧ n < 2 ^ f ∧ a = .int .i64 x ∧ r = .int .i64 y ∧ m = .int .i64 n ∧ n ≤ 249 ∧ 0 ≤ x ∧ x < 251 ∧ 0 ≤ y ∧ y < 251 ∧ Dag.invLoop f x y n = Dag.inv v) (fun _ _ m => (intOf m).toNat)
  case atStart => exact ⟨8, v, 1, 249, by omega, by omega, rfl, rfl, rfl, by omega, h0, h1, by omega, by omega, rfl⟩
  case round =>
    obtain ⟨f, x, y, n, hf, hn, rfl, rfl, rfl, h249, hx0, hx1, hy0, hy1, he⟩ := hrel
    have HE := Lib.hid he
    clear he
    have m1 : 0 ≤ x * x ∧ x * x ≤ 62500 := ⟨Int.mul_nonneg hx0 hx0, Int.le_trans (Int.mul_le_mul (show x ≤ 250 by omega) (show x ≤ 250 by omega) hx0 (by omega)) (by decide)⟩
    have m2 : 0 ≤ y * x ∧ y * x ≤ 62500 := ⟨Int.mul_nonneg hy0 hx0, Int.le_trans (Int.mul_le_mul (show y ≤ 250 by omega) (show x ≤ 250 by omega) hx0 (by omega)) (by decide)⟩
    by_cases hz : 0 < n
    · obtain ⟨f, rfl⟩ : ∃ g, f = g + 1 := ⟨f - 1, by
        rcases Nat.eq_zero_or_pos f with rfl | h
        · simp at hn; omega
        · omega⟩
      have hn' : n / 2 < 2 ^ f := by have : 2 ^ (f+1) = 2 ^ f * 2 := Nat.pow_succ ..; omega
      clear hn
      have hz' : decide ((n : Int) > 0) = true := by simp; omega
      by_cases hp : n % 2 = 1
      · have hp' : decide ((n : Int) % 2 = 1) = true := by simp; omega
        have HN : Hid (Dag.invLoop f (x * x % 251) (y * x % 251) (n / 2) = Dag.inv v) := by
          unfold Hid; rw [← HE.out, Dag.invLoop, if_neg (by omega), if_pos hp]
        go_wp2_with fail
        exact ⟨⟨f, x * x % 251, y * x % 251, n / 2, by omega, hn', rfl, rfl, by go_num, by omega, by omega, by omega, by omega, by omega, HN.out⟩, by simp [intOf]; omega⟩
      · have hp' : decide ((n : Int) % 2 = 1) = false := by simp; omega
        have HN : Hid (Dag.invLoop f (x * x % 251) y (n / 2) = Dag.inv v) := by
          unfold Hid; rw [← HE.out, Dag.invLoop, if_neg (by omega), if_neg hp]
        go_wp2_with fail
        exact ⟨⟨f, x * x % 251, y, n / 2, by omega, hn', rfl, rfl, by go_num, by omega, by omega, by omega, by omega, by omega, HN.out⟩, by simp [intOf]; omega⟩
    · have HN : Hid (y = Dag.inv v) := by
        unfold Hid; rw [← HE.out, show n = 0 by omega]; cases f <;> simp [Dag.invLoop]
      have hz' : decide (0 < n) = false := by simp; omega
      have hz'' : decide (0 < (n : Int)) = false := by simp; omega
      go_wp2_with fail
      go_ret
      exact ⟨by rw [HN.out]; rfl, rfl⟩
end Go.Proofs.Ytfkmiflddpjllaa
