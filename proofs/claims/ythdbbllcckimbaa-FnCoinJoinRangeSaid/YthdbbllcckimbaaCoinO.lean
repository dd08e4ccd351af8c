/- The parts of some members for a wave. Conditions: at most seven shares, symbols; a wave from 1 to 15. -/
import Derived.Test.YthdbbllcckimbaaPairOwn
import Derived.Test.YthdbbllcckimbaaCoinP
namespace Go.Proofs.Ythdbbllcckimbaa
open Go.RowKit
set_option linter.unusedVariables false
set_option linter.unusedSimpArgs false

theorem cmake_any (s wave : Int) (w : World) (h0 : 0 ≤ s) (h1 : s ≤ 250) (h2 : 1 ≤ wave) (h3 : wave ≤ 15) :
    Calls Try.prog 52 #[.int .i64 s, .int .i64 wave] w fun e w' => e = .returned (.int .i64 (s * (7 * wave + 1) % 251)) ∧ w = w' := by
  have m0 : 0 ≤ s * (7 * wave + 1) := Int.mul_nonneg h0 (by omega)
  have m1 : s * (7 * wave + 1) ≤ 250 * 106 := Int.mul_le_mul h1 (by omega) (by omega) (by omega)
  have q1 : decide (wave < 1) = false := by simp; omega
  have q2 : decide (15 < wave) = false := by simp; omega
  go_enter Try.func52, Try.ntmps52
  go_wp2
  go_ret
  exact ⟨rfl, rfl⟩

theorem cvalue_any (s wave : Int) (w : World) (h0 : 0 ≤ s) (h1 : s ≤ 250) (h2 : 1 ≤ wave) (h3 : wave ≤ 15) :
    Calls Try.prog 27 #[.int .i64 s, .int .i64 wave] w fun e w' => e = .returned (.int .i64 (s * (7 * wave + 1) % 251)) ∧ w = w' := by
  go_enter Try.func27, Try.ntmps27
  go_wp2_with (go_at_call 52; refine (cmake_any s wave _ h0 h1 h2 h3).mono ?_; rintro e w1 ⟨rfl, rfl⟩)
  go_ret
  exact ⟨rfl, rfl⟩
/-- The parts of those of the first n members whose turn it is. -/
def partsL (sh : List Int) (k first many : Int) : Nat → List (Int × Int)
  | 0 => []
  | i + 1 => if ((i : Int) + first) % (sh.length : Int) < many then partsL sh k first many i ++ [((i : Int), nth sh i * k % 251)] else partsL sh k first many i
theorem partsL_len (sh : List Int) (k first many : Int) (n : Nat) : (partsL sh k first many n).length ≤ n := by
  induction n with
  | zero => simp [partsL]
  | succ n ih => unfold partsL; split <;> (try simp only [List.length_append, List.length_cons, List.length_nil]) <;> omega

set_option maxHeartbeats 4000000 in
theorem pOf_any (A : Option Addr) (c : Nat) (sh : List Int) (wave first many : Int) (w : World) (h : Sl w w.heap.size A sh) (hr : allIn 0 250 sh = true) (hl : sh.length ≤ 7) (h2 : 1 ≤ wave) (h3 : wave ≤ 15) (hf0 : 0 ≤ first) (hf1 : first ≤ 2000000) :
    Calls Try.prog 26 #[.slice A sh.length c, .int .i64 wave, .int .i64 first, .int .i64 many] w (FreshP (partsL sh (7 * wave + 1) first many sh.length) w) := by
  have hB0 : Below w.heap.size w (w.alloc (.cells #[] 47)) := (Below.refl _ _).alloc (Nat.le_refl _) _
  have hown0 := OwnP.made w w.heap.size (Nat.le_refl _)
  go_enter Try.func26, Try.ntmps26
  go_wp2_with fail
  go_loopw [9, 10] (fun v i wr => ∃ k g cp : Nat, k ≤ sh.length ∧ i = .int .i64 (k : Int) ∧ v = .slice (some ⟨g, 0, none⟩) (partsL sh (7 * wave + 1) first many k).length cp ∧ OwnP wr w.heap.size g cp (partsL sh (7 * wave + 1) first many k) ∧ Below w.heap.size w wr) (fun _ i _ => sh.length - (intOf i).toNat)
  case atStart => exact ⟨0, w.heap.size, 0, Nat.zero_le _, rfl, rfl, hown0, hB0⟩
  case round =>
    obtain ⟨k, g, cp, hk, rfl, rfl, hown, hb⟩ := hrel
    have hpl := partsL_len sh (7 * wave + 1) first many k
    by_cases hlt : k < sh.length
    · obtain ⟨b, off, rfl, hbl, hc⟩ := (h.below hb).at_ hlt
      obtain ⟨s0, s1⟩ := allIn_get hr hlt
      have hn : ((sh.length : Int) == 0) = false := by simp only [beq_eq_false_iff_ne]; omega
      have hnz : ¬ sh.length = 0 := by omega
      have c1 : (k : Int) < (sh.length : Int) := by omega
      by_cases ht : ((k : Int) + first) % (sh.length : Int) < many
      · have q1 : decide (((k : Int) + first) % (sh.length : Int) < many) = true := by simpa using ht
        have HE : Hid (partsL sh (7 * wave + 1) first many k ++ [((k : Int), nth sh k * (7 * wave + 1) % 251)] = partsL sh (7 * wave + 1) first many (k + 1)) := by
          unfold Hid; rw [partsL, if_pos ht]
        go_wp2_with (first
          | (go_at_call 52; refine (cmake_any (nth sh k) wave _ s0 s1 h2 h3).mono ?_; rintro e w1 ⟨rfl, rfl⟩)
          | (at_builtin; refine wpList_two rfl _ _ rfl w.heap.size g cp _ _ _ _ HE.out rfl _ rfl (by simp) hown (by omega) hb.size ?_))
        intro g' c' w5 ho hg hf
        have hge := hown.parts.1
        have hB5 : Below w.heap.size w w5 := hb.grown hg hb.size (fun kk e => by injection e with e; omega)
        clear hown hb hg hf HE
        go_wp2_with fail
        exact ⟨⟨k + 1, g', c', by omega, by go_num, rfl, ho, hB5⟩, by simp [intOf]; omega⟩
      · have q1 : decide (((k : Int) + first) % (sh.length : Int) < many) = false := by simpa using ht
        have HE : Hid (partsL sh (7 * wave + 1) first many (k + 1) = partsL sh (7 * wave + 1) first many k) := by
          unfold Hid; rw [partsL, if_neg ht]
        go_wp2_with fail
        exact ⟨⟨k + 1, g, cp, by omega, by go_num, by rw [HE.out], by rw [HE.out]; exact hown, hb⟩, by simp [intOf]; omega⟩
    · obtain rfl : k = sh.length := by omega
      go_wp2_with fail
      go_ret
      exact ⟨g, cp, rfl, hown, hb⟩
end Go.Proofs.Ythdbbllcckimbaa
