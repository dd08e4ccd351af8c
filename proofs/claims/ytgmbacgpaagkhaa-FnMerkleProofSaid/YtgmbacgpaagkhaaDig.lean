/- The drawn digest. -/
import Derived.Test.YtgmbacgpaagkhaaRd
namespace Go.Proofs.Ytgmbacgpaagkhaa
open Go.RowKit
set_option linter.unusedVariables false

set_option maxHeartbeats 1000000 in
theorem digest_any (B g p : Nat) (w : World) (h : RdAt w B g p) (hp : p ≤ 100000) :
    Calls Try.prog 39 #[.pointer (some ⟨g, 0, none⟩)] w (NumPost (-1) 991 3 B g p w) := by
  go_enter Try.func39, Try.ntmps39
  go_wp2_with fail
  refine (pick_any 16 B g p _ h (by omega) (by omega)).mono ?_
  rintro e w1 ⟨v, rfl, hv0, hv1, hr1, hg1, hs1⟩
  by_cases hv : v = 0
  · subst hv
    go_wp2_with fail
    refine (pick_any 4 B g (p + 1) _ (hr1.alloc _) (by omega) (by omega)).mono ?_
    rintro e w2 ⟨u, rfl, hu0, hu1, hr2, hg2, hs2⟩
    have hc := grown_far hg2 (b := w1.heap.size) (by simp) (by have := hr1.lt; omega)
    rw [hs1] at hc
    have hu : u = 0 ∨ u = 1 ∨ u = 2 ∨ u = 3 := by omega
    rcases hu with rfl | rfl | rfl | rfl
    all_goals
      go_wp2
      go_ret
      exact ⟨_, p + 1 + 1, rfl, by omega, by omega, by omega, hr2, grown_trans (grown_alloc hg1 _) hg2⟩
  · have hv' : (v == 0) = false := by simpa using hv
    go_wp2_with fail
    refine (pick_any 99 B g (p + 1) _ hr1 (by omega) (by omega)).mono ?_
    rintro e w2 ⟨u, rfl, hu0, hu1, hr2, hg2, hs2⟩
    go_wp2_with fail
    refine (pick_any 10 B g (p + 1 + 1) _ hr2 (by omega) (by omega)).mono ?_
    rintro e w3 ⟨t, rfl, ht0, ht1, hr3, hg3, hs3⟩
    go_wp2
    go_ret
    exact ⟨_, p + 1 + 1 + 1, rfl, by omega, by omega, by omega, hr3, grown_trans (grown_trans hg1 hg2) hg3⟩
end Go.Proofs.Ytgmbacgpaagkhaa
