/- Marks are written and held. Conditions: at most two million elements. -/
import Derived.Test.YtfkmiflddpjllaaOwn
namespace Go.Proofs.Ytfkmiflddpjllaa
open Go.RowKit
set_option linter.unusedVariables false
set_option linter.unusedSimpArgs false

/-- The marks k, k + 1 and so on. -/
def marks (k n : Nat) : List Int := (List.range n).map fun j => ((k + j : Nat) : Int)
theorem marks_len (k n : Nat) : (marks k n).length = n := by simp [marks]
theorem nth_marks (k n j : Nat) (hj : j < n) : nth (marks k n) j = ((k + j : Nat) : Int) := by simp [nth, marks, hj]

def MarkPost (g k : Nat) (l : List Int) (w : World) (e : Ending) (w' : World) : Prop :=
  e = .returned (.int .i64 ((k + l.length : Nat) : Int)) ∧ Wr w' g (marks k l.length) ∧ w.grownBy w' (some g) ∧ w'.heap.size = w.heap.size
/-- Half marked. -/
def mixed (k i : Nat) (l : List Int) : List Int := marks k i ++ l.drop i
theorem mixed_len (k i : Nat) (l : List Int) (hi : i ≤ l.length) : (mixed k i l).length = l.length := by simp [mixed, marks_len]; omega
theorem mixed_set (k i : Nat) (l : List Int) (hi : i < l.length) : (mixed k i l).set i ((k + i : Nat) : Int) = mixed k (i + 1) l := by
  unfold mixed
  have e : marks k (i + 1) = marks k i ++ [((k + i : Nat) : Int)] := by simp [marks, List.range_succ]
  have hm := marks_len k i
  rw [List.drop_eq_getElem_cons hi, e, List.set_append, if_neg (by omega), hm, Nat.sub_self, List.set_cons_zero]
  simp

set_option maxHeartbeats 2000000 in
theorem mark_any (g c k : Nat) (l : List Int) (w : World) (h : Wr w g l) (hl : l.length ≤ 2000000) (hk : k ≤ 2000000) :
    Calls Try.prog 39 #[.slice (some ⟨g, 0, none⟩) l.length c, .int .i64 (k : Int)] w (MarkPost g k l w) := by
  go_enter Try.func39, Try.ntmps39
  go_wp2_with fail
  go_loopw [1, 5] (fun q i wr => ∃ m : Nat, m ≤ l.length ∧ i = .int .i64 m ∧ q = .int .i64 ((k + m : Nat) : Int) ∧ Wr wr g (mixed k m l) ∧ w.grownBy wr (some g) ∧ wr.heap.size = w.heap.size) (fun _ i _ => l.length - (intOf i).toNat)
  case atStart => exact ⟨0, Nat.zero_le _, rfl, rfl, by simpa [mixed, marks] using h, World.grownBy.refl w _, rfl⟩
  case round =>
    obtain ⟨m, hm, rfl, rfl, hw, hg, hs⟩ := hrel
    have HS := Lib.hid hs
    clear hs
    have hml := mixed_len k m l hm
    by_cases hlt : m < l.length
    · have hlt' : m < (mixed k m l).length := by omega
      have hc := hw.cell hlt'
      have hf := hw.frozen m
      have hset := hw.set m ((k + m : Nat) : Int) hlt'
      rw [mixed_set k m l hlt] at hset
      have HML := Lib.hid hml
      clear hml hlt'
      have e0 : ((k + m : Nat) : Int) = (k : Int) + m := by omega
      rw [e0] at hset ⊢
      go_wp2_with fail
      refine ⟨⟨m + 1, by omega, by go_num, by rw [Int.add_assoc]; rfl, hset, ⟨hg.os, hg.tape, hg.output, by simpa [World.setCell] using hg.size, fun i hi hne => (Below.heap_setCell _ _ _ _ (fun e => hne (by rw [e]))).trans (hg.block i hi hne)⟩, by simpa [World.setCell] using HS.out⟩, by simp [intOf]; omega⟩
    · have hmm : m = l.length := by omega
      have hw' : Wr wr g (marks k l.length) := by rw [hmm] at hw; simpa [mixed] using hw
      subst hmm
      have HML := Lib.hid hml
      clear hml
      go_wp2_with fail
      go_ret
      exact ⟨rfl, hw', hg, HS.out⟩

set_option maxHeartbeats 2000000 in
theorem held_any (g c k n : Nat) (w : World) (h : Wr w g (marks k n)) (hl : n ≤ 2000000) (hk : k ≤ 2000000) :
    Calls Try.prog 41 #[.slice (some ⟨g, 0, none⟩) n c, .int .i64 (k : Int)] w fun e w' => e = .returned (.int .i64 ((k + n : Nat) : Int)) ∧ w = w' := by
  go_enter Try.func41, Try.ntmps41
  go_wp2_with fail
  go_loop [1, 5] (fun q i => ∃ m : Nat, m ≤ n ∧ i = .int .i64 m ∧ q = .int .i64 ((k + m : Nat) : Int)) (fun _ i => n - (intOf i).toNat)
  case atStart => exact ⟨0, Nat.zero_le _, rfl, rfl⟩
  case round =>
    obtain ⟨m, hm, rfl, rfl⟩ := hrel
    by_cases hlt : m < n
    · have hc := h.cell (j := m) (by rw [marks_len]; exact hlt)
      rw [nth_marks k n m hlt] at hc
      have e0 : ((k + m : Nat) : Int) = (k : Int) + m := by omega
      rw [e0] at hc ⊢
      go_wp2_with fail
      exact ⟨⟨m + 1, by omega, by go_num, by rw [Int.add_assoc]; rfl⟩, by simp [intOf]; omega⟩
    · obtain rfl : m = n := by omega
      go_wp2_with fail
      go_ret
      exact ⟨rfl, rfl⟩
end Go.Proofs.Ytfkmiflddpjllaa
