/- The digest of a text: program and reference fold its bytes. Conditions: the text's length fits an int. -/
import Derived.Test.YtgfjaoajjcolcaaBase
namespace Go.Proofs.Ytgfjaoajjcolcaa
open Go.RowKit
set_option linter.unusedVariables false

def dg (l : List UInt8) : Int := l.foldl (fun d b => (257 * d + b.toNat + 1) % 991) 7
theorem dg_snoc (l : List UInt8) (b : UInt8) : dg (l ++ [b]) = (257 * dg l + b.toNat + 1) % 991 := by simp [dg]
theorem dg_range (l : List UInt8) : 0 ≤ dg l ∧ dg l ≤ 990 := by
  rcases List.eq_nil_or_concat l with rfl | ⟨t, b, rfl⟩
  · simp [dg]
  · rw [List.concat_eq_append, dg_snoc]; omega
theorem take_snoc (s : ByteArray) (k : Nat) (h : k < s.size) : s.data.toList.take (k + 1) = s.data.toList.take k ++ [s[k]] := by
  rw [List.take_succ_eq_append_getElem (by simpa using h)]; rfl
theorem ret_int {k : IntKind} {a b : Int} (h : a = b) : Ending.returned (.int k a) = .returned (.int k b) := by rw [h]

set_option maxHeartbeats 1000000 in
theorem digestOf_any (s : ByteArray) (w : World) (hs : s.size ≤ 1048576) :
    Calls Try.prog 47 #[.string s] w fun e w' => e = .returned (.int .i64 (dg s.data.toList)) ∧ w = w' := by
  go_enter Try.func47, Try.ntmps47
  go_wp2
  go_loop [3, 4] (fun n i => ∃ k : Nat, k ≤ s.size ∧ i = .int .i64 k ∧ n = .int .i64 (dg (s.data.toList.take k))) (fun _ i => s.size - (intOf i).toNat)
  case atStart => exact ⟨0, Nat.zero_le _, rfl, rfl⟩
  case round =>
    obtain ⟨k, hk, rfl, rfl⟩ := hrel
    obtain ⟨d0, d1⟩ := dg_range (s.data.toList.take k)
    by_cases hlt : k < s.size
    · have HS : Hid (dg (s.data.toList.take (k + 1)) = (257 * dg (s.data.toList.take k) + s[k].toNat + 1) % 991) := by
        unfold Hid; rw [take_snoc s k hlt, dg_snoc]
      have hb : s[k].toNat < 256 := s[k].toNat_lt
      go_wp2
      go_round
      case rel => exact ⟨k + 1, by omega, by go_num, by rw [HS.out]⟩
      case measure => simp [intOf]; omega
    · go_wp2
      go_ret
      exact ⟨ret_int (by rw [List.take_of_length_le (by simp; omega)]), rfl⟩
set_option maxHeartbeats 1000000 in
theorem l2Text_any (s : ByteArray) (w : World) (hs : s.size ≤ 1048576) :
    Calls Try.prog 48 #[.string s] w fun e w' => e = .returned (.int .i64 (dg s.data.toList)) ∧ w = w' := by
  go_enter Try.func48, Try.ntmps48
  go_wp2
  go_loop [3, 4] (fun n i => ∃ k : Nat, k ≤ s.size ∧ i = .int .i64 k ∧ n = .int .i64 (dg (s.data.toList.take k))) (fun _ i => s.size - (intOf i).toNat)
  case atStart => exact ⟨0, Nat.zero_le _, rfl, rfl⟩
  case round =>
    obtain ⟨k, hk, rfl, rfl⟩ := hrel
    obtain ⟨d0, d1⟩ := dg_range (s.data.toList.take k)
    by_cases hlt : k < s.size
    · have HS : Hid (dg (s.data.toList.take (k + 1)) = (257 * dg (s.data.toList.take k) + s[k].toNat + 1) % 991) := by
        unfold Hid; rw [take_snoc s k hlt, dg_snoc]
      have hb : s[k].toNat < 256 := s[k].toNat_lt
      go_wp2
      go_round
      case rel => exact ⟨k + 1, by omega, by go_num, by rw [HS.out]⟩
      case measure => simp [intOf]; omega
    · go_wp2
      go_ret
      exact ⟨ret_int (by rw [List.take_of_length_le (by simp; omega)]), rfl⟩

set_option maxHeartbeats 1000000 in
theorem hash_ok (s : ByteArray) (w : World) (hs : s.size ≤ 60) :
    Calls Try.prog 18 #[.string s] w fun e w' => e = .returned (.int .i64 (dg s.data.toList)) ∧ w = w' := by
  go_enter Try.func18, Try.ntmps18
  go_wp2_with fail
  refine (digestOf_any s _ (by omega)).mono ?_
  rintro e w' ⟨rfl, rfl⟩
  go_wp2_with fail
  go_ret
  exact ⟨rfl, rfl⟩
set_option maxHeartbeats 1000000 in
theorem hashS_ok (s : ByteArray) (w : World) (hs : s.size ≤ 60) :
    Calls Try.prog 19 #[.string s] w fun e w' => e = .returned (.int .i64 (dg s.data.toList)) ∧ w = w' := by
  go_enter Try.func19, Try.ntmps19
  go_wp2_with fail
  refine (l2Text_any s _ (by omega)).mono ?_
  rintro e w' ⟨rfl, rfl⟩
  go_wp2_with fail
  go_ret
  exact ⟨rfl, rfl⟩
set_option maxHeartbeats 1000000 in
theorem hash_bad (s : ByteArray) (w : World) (hs : 60 < s.size) :
    Calls Try.prog 18 #[.string s] w fun e w' => e = .returned (.int .i64 (-1)) ∧ w = w' := by
  go_enter Try.func18, Try.ntmps18
  go_wp2_with fail
  go_ret
  exact ⟨rfl, rfl⟩
set_option maxHeartbeats 1000000 in
theorem hashS_bad (s : ByteArray) (w : World) (hs : 60 < s.size) :
    Calls Try.prog 19 #[.string s] w fun e w' => e = .returned (.int .i64 (-1)) ∧ w = w' := by
  go_enter Try.func19, Try.ntmps19
  go_wp2_with fail
  go_ret
  exact ⟨rfl, rfl⟩
end Go.Proofs.Ytgfjaoajjcolcaa
