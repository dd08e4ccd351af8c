/- The reference's powers and values of a column; symbols are checked. Conditions: the data are symbols. -/
import Derived.Test.YtfkmiflddpjllaaInts
import Derived.Test.YtfkmiflddpjllaaFld
import Derived.IntWalk
namespace Go.Proofs.Ytfkmiflddpjllaa
open Go.RowKit
set_option linter.unusedVariables false
set_option linter.unusedSimpArgs false

/-- A callee that draws nothing, called where draws have been made. -/
theorem quietAt {P : Program} {f : FuncId} {args : Array Value} {w : World} {a n : Nat} {v : Value} (h : Calls P f args (w.drewN (a + n)) fun e w' => e = .returned v ∧ w' = w.drewN (a + n)) :
    Calls P f args (w.drewN (a + n)) fun e w'' => e = .returned v ∧ ∃ m, w'' = w.drewN (a + m) := h.mono fun _ _ ⟨he, hm⟩ => ⟨he, n, hm⟩

theorem in_yes (n lo hi : Int) (w : World) (h1 : lo ≤ n) (h2 : n ≤ hi) : Calls Try.prog 53 #[.int .i64 n, .int .i64 lo, .int .i64 hi] w fun e w' => e = .returned (.bool true) ∧ w = w' := by
  go_enter Try.func53, Try.ntmps53
  go_wp2
  go_ret
  exact ⟨by simp [h2], rfl⟩
theorem in_no (n lo hi : Int) (w : World) (h : n < lo ∨ hi < n) : Calls Try.prog 53 #[.int .i64 n, .int .i64 lo, .int .i64 hi] w fun e w' => e = .returned (.bool false) ∧ w = w' := by
  by_cases h1 : lo ≤ n
  · have h2 : decide (n ≤ hi) = false := by simp; omega
    go_enter Try.func53, Try.ntmps53
    go_wp2
    go_ret
    exact ⟨rfl, rfl⟩
  · have h2 : decide (lo ≤ n) = false := by simp; omega
    go_enter Try.func53, Try.ntmps53
    go_wp2
    go_ret
    exact ⟨rfl, rfl⟩

set_option maxHeartbeats 2000000 in
theorem pow_any (b : Int) (n : Nat) (w : World) (h0 : 0 ≤ b) (h1 : b ≤ 250) (hn : n ≤ 1000) :
    Calls Try.prog 67 #[.int .i64 b, .int .i64 n] w fun e w' => e = .returned (.int .i64 (Dag.pwm b n)) ∧ w' = w := by
  go_enter Try.func67, Try.ntmps67
  go_wp2_with fail
  go_loop [5, 6] (fun o i => ∃ k : Nat, k ≤ n ∧ i = .int .i64 k ∧ o = .int .i64 (Dag.pwm b k)) (fun _ i => n - (intOf i).toNat)
  case atStart => exact ⟨0, Nat.zero_le _, rfl, rfl⟩
  case round =>
    obtain ⟨k, hk, rfl, rfl⟩ := hrel
    obtain ⟨r0, r1⟩ := Dag.pwm_range b k
    have m0 : 0 ≤ Dag.pwm b k * b := Int.mul_nonneg r0 h0
    have m1 : Dag.pwm b k * b ≤ 250 * 250 := Int.mul_le_mul (by omega) h1 h0 (by omega)
    by_cases hlt : k < n
    · go_wp2_with fail
      exact ⟨⟨k + 1, by omega, by go_num, rfl⟩, by simp [intOf]; omega⟩
    · obtain rfl : k = n := by omega
      go_wp2_with fail
      go_ret
      exact ⟨rfl, rfl⟩

/-- The symbols of a column. -/
def col (data : List Int) (need column : Nat) : List Int := (data.drop (column * need)).take need
/-- The sum of the first k terms. -/
def sumV (l : List Int) (x : Int) : Nat → Int
  | 0 => 0
  | k + 1 => if k < l.length then (sumV l x k + nth l k * Dag.pwm x k) % 251 else sumV l x k
theorem sumV_range (l : List Int) (x : Int) (k : Nat) : 0 ≤ sumV l x k ∧ sumV l x k ≤ 250 := by
  induction k with
  | zero => simp [sumV]
  | succ k ih => unfold sumV; split <;> omega
theorem sumV_dot (l : List Int) (x : Int) (k : Nat) (hk : k ≤ l.length) : sumV l x k = Dag.dot k (Dag.pwm x) (nth l) % 251 := by
  induction k with
  | zero => rfl
  | succ k ih =>
    rw [sumV, if_pos (by omega), ih (by omega), Dag.dot, Int.mul_comm (nth l k)]
    omega
theorem sumV_all (l : List Int) (x : Int) (k : Nat) (hk : l.length ≤ k) : sumV l x k = Dag.ev l x := by
  induction k with
  | zero =>
    have : l = [] := List.eq_nil_of_length_eq_zero (by omega)
    subst this; rfl
  | succ k ih =>
    by_cases h : l.length ≤ k
    · rw [sumV, if_neg (by omega), ih h]
    · have he : l.length = k + 1 := by omega
      rw [sumV_dot l x (k + 1) (by omega), Dag.dot_pw, Dag.ev_eq]
      congr 2
      apply List.ext_getElem
      · simp; omega
      · intro j h1 h2
        simp [nth_lt h2]

set_option maxHeartbeats 4000000 in
theorem value_any (A : Option Addr) (c : Nat) (data : List Int) (need column : Nat) (at_ : Int) (w : World) (B : Nat) (h : Sl w B A data) (hd : allIn 0 250 data = true) (hl : data.length ≤ 1000) (hn : need ≤ 8) (hc : column ≤ 12) (h0 : 0 ≤ at_) (h1 : at_ ≤ 250) :
    Calls Try.prog 66 #[.slice A data.length c, .int .i64 need, .int .i64 column, .int .i64 at_] w (Still w (.int .i64 (Dag.ev (col data need column) at_))) := by
  have hcn : column * need ≤ 96 := Nat.mul_le_mul hc hn
  obtain ⟨p, hp⟩ : ∃ p, p = column * need := ⟨_, rfl⟩
  have hpi : (column : Int) * (need : Int) = (p : Int) := by rw [hp]; simp
  rw [← hp] at hcn
  have hcl : (col data need column).length = min need (data.length - p) := by rw [hp]; simp [col]
  have hcg : ∀ k, k < need → nth (col data need column) k = nth data (p + k) := fun k hk => by rw [hp]; simp [col, nth, hk]
  have HP := Lib.hid hp
  clear hp
  obtain ⟨cl, hcle⟩ : ∃ cl, cl = col data need column := ⟨_, rfl⟩
  rw [← hcle] at hcl hcg ⊢
  have HCE := Lib.hid hcle
  clear hcle
  have HCL := Lib.hid hcl
  have HCG := Lib.hid hcg
  have w1 : IntKind.i64.wrap ((column : Int) * (need : Int)) = (p : Int) := by rw [hpi]; exact IntWalk.i64_in _ (by omega)
  have HPI := Lib.hid hpi
  clear hcl hcg hpi w1
  go_enter Try.func66, Try.ntmps66
  go_wp2_with fail
  go_loopw [9, 10] (fun o i wr => ∃ k m : Nat, k ≤ need ∧ i = .int .i64 k ∧ o = .int .i64 (sumV cl at_ k) ∧ wr = w.drewN m) (fun _ i _ => need - (intOf i).toNat)
  case atStart => exact ⟨0, 0, Nat.zero_le _, rfl, rfl, rfl⟩
  case round =>
    obtain ⟨k, m, hk, rfl, rfl, rfl⟩ := hrel
    by_cases hlt : k < need
    · have hpi : (column : Int) * (need : Int) = (p : Int) := HPI.out
      by_cases hin : p + k < data.length
      · obtain ⟨b, off, rfl, hb, hcell⟩ := h.at_ hin
        obtain ⟨d0, d1⟩ := allIn_get hd hin
        obtain ⟨r0, r1⟩ := Dag.pwm_range at_ k
        obtain ⟨s0, s1⟩ := sumV_range cl at_ k
        have m0 : 0 ≤ nth data (p + k) * Dag.pwm at_ k := Int.mul_nonneg d0 r0
        have m1 : nth data (p + k) * Dag.pwm at_ k ≤ 250 * 250 := Int.mul_le_mul d1 (by omega) r0 (by omega)
        have HN : Hid (sumV cl at_ (k + 1) = (sumV cl at_ k + nth data (p + k) * Dag.pwm at_ k) % 251) := by
          unfold Hid; rw [sumV, if_pos (by rw [HCL.out]; omega), HCG.out k hlt]
        have c1 : (p : Int) + (k : Int) < (data.length : Int) := by omega
        have c2 : (0 : Int) ≤ (p : Int) + (k : Int) := by omega
        have c3 : ((p : Int) + (k : Int)).toNat = p + k := by omega
        have a1 : IntKind.i64.wrap (p : Int) = (p : Int) := IntWalk.i64_in _ (by omega)
        have a2 : IntKind.i64.wrap ((p : Int) + (k : Int)) = (p : Int) + (k : Int) := IntWalk.i64_in _ (by omega)
        have a3 : IntKind.i64.wrap (nth data (p + k) * Dag.pwm at_ k) = nth data (p + k) * Dag.pwm at_ k := IntWalk.i64_in _ (by omega)
        have a4 : IntKind.i64.wrap (sumV cl at_ k + nth data (p + k) * Dag.pwm at_ k) = sumV cl at_ k + nth data (p + k) * Dag.pwm at_ k := IntWalk.i64_in _ (by omega)
        go_wp2_with fail
        go_quiet ((go_at_call 67; exact quietAt (pow_any at_ k _ h0 h1 (by omega))))
        clear a1 a2 a3 a4 c3
        go_wp2_with fail
        exact ⟨⟨k + 1, _, by omega, by go_num, by rw [HN.out], rfl⟩, by simp [intOf]; omega⟩
      · have c1 : decide ((p : Int) + (k : Int) < (data.length : Int)) = false := by simp; omega
        have HN : Hid (sumV cl at_ (k + 1) = sumV cl at_ k) := by
          unfold Hid; rw [sumV, if_neg (by rw [HCL.out]; omega)]
        go_wp2_with fail
        exact ⟨⟨k + 1, m, by omega, by go_num, by rw [HN.out], rfl⟩, by simp [intOf]; omega⟩
    · obtain rfl : k = need := by omega
      have HE := Lib.hid (sumV_all cl at_ k (by rw [HCL.out]; omega))
      go_wp2_with fail
      go_ret
      exact ⟨by rw [← HE.out]; rfl, _, rfl⟩

set_option maxHeartbeats 2000000 in
theorem symbols_any (A : Option Addr) (c : Nat) (l : List Int) (w : World) (B : Nat) (h : Sl w B A l) (hl : l.length ≤ 2000000) :
    Calls Try.prog 62 #[.slice A l.length c] w fun e w' => e = .returned (.bool (allIn 0 250 l)) ∧ w = w' := by
  go_enter Try.func62, Try.ntmps62
  go_wp2_with fail
  go_loop [4, 7] (fun _ i => ∃ k : Nat, k ≤ l.length ∧ i = .int .i64 k ∧ ∀ j, j < k → 0 ≤ nth l j ∧ nth l j ≤ 250) (fun _ i => l.length - (intOf i).toNat)
  case atStart => exact ⟨0, Nat.zero_le _, rfl, fun j hj => absurd hj (by omega)⟩
  case round =>
    obtain ⟨k, hk, rfl, hq⟩ := hrel
    have HQ := Lib.hid hq
    clear hq
    by_cases hlt : k < l.length
    · obtain ⟨b, off, rfl, hb, hc⟩ := h.at_ hlt
      by_cases e0 : 0 ≤ nth l k
      · by_cases e1 : nth l k < 251
        · go_wp2
          exact ⟨⟨k + 1, by omega, by go_num, fun j hj => by
            by_cases e : j = k
            · rw [e]; exact ⟨e0, by omega⟩
            · exact HQ.out j (by omega)⟩, by simp [intOf]; omega⟩
        · have g : decide (nth l k < 251) = false := by simp; omega
          have HF := Lib.hid (allIn_false (lo := 0) (hi := 250) hlt (.inr (by omega)))
          go_wp2
          go_ret
          exact ⟨by rw [HF.out]; rfl, rfl⟩
      · have g : decide (0 ≤ nth l k) = false := by simp; omega
        have HF := Lib.hid (allIn_false (lo := 0) (hi := 250) hlt (.inl (by omega)))
        go_wp2
        go_ret
        exact ⟨by rw [HF.out]; rfl, rfl⟩
    · have HT := Lib.hid (allIn_true (lo := 0) (hi := 250) (l := l) (fun j hj => HQ.out j (by omega)))
      go_wp2
      go_ret
      exact ⟨by rw [HT.out]; rfl, rfl⟩
end Go.Proofs.Ytfkmiflddpjllaa
