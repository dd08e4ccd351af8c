/- The program's joining of parts. Conditions: at most two million parts. -/
import Derived.Test.YthdbbllcckimbaaCoinP
import Derived.Test.YthdbbllcckimbaaInter
import Derived.Test.YthdbbllcckimbaaApp
namespace Go.Proofs.Ythdbbllcckimbaa
open Go.RowKit
set_option linter.unusedVariables false
set_option linter.unusedSimpArgs false

theorem PG.step {ps : List (Int × Int)} {k : Nat} (h : PG ps k) (hk : 0 ≤ fst_ ps k ∧ fst_ ps k ≤ 6 ∧ 0 ≤ snd_ ps k ∧ snd_ ps k ≤ 250 ∧ (0 < k → fst_ ps (k - 1) < fst_ ps k)) : PG ps (k + 1) := fun j hj => by
  by_cases e : j = k
  · rw [e]; exact hk
  · exact h j (by omega)
theorem PG.zero (ps : List (Int × Int)) : PG ps 0 := fun j hj => absurd hj (by omega)

set_option maxHeartbeats 4000000 in
theorem pvalid_any (need : Int) (A : Option Addr) (c : Nat) (ps : List (Int × Int)) (w : World) (h : Pl w w.heap.size A ps) (hl : ps.length ≤ 2000000) :
    Calls Try.prog 51 #[.int .i64 need, .slice A ps.length c] w (BoolB (partsB need ps) w) := by
  by_cases h1 : 1 ≤ need
  · have q1 : decide (need < 1) = false := by simp; omega
    by_cases h2 : need ≤ 7
    · have q2 : decide (7 < need) = false := by simp; omega
      by_cases h3 : need ≤ ps.length
      · have q3 : decide ((ps.length : Int) < need) = false := by simp; omega
        go_enter Try.func51, Try.ntmps51
        go_wp2_with fail
        go_loopw [5, 6, 21] (fun _ _ i wr => ∃ k : Nat, k ≤ ps.length ∧ i = .int .i64 k ∧ PG ps k ∧ Below w.heap.size w wr) (fun _ _ i _ => ps.length - (intOf i).toNat)
        case atStart => exact ⟨0, Nat.zero_le _, rfl, PG.zero ps, Below.refl _ _⟩
        case round =>
          obtain ⟨k, hk, rfl, hg, hb⟩ := hrel
          have HG := Lib.hid hg
          clear hg
          by_cases hlt : k < ps.length
          · obtain ⟨b, off, rfl, hbl, hc1, hc2⟩ := (h.below hb).at_ hlt
            have hB1 : Below w.heap.size w (wr.alloc (.cells #[.int .i64 (fst_ ps k), .int .i64 (snd_ ps k)] 47)) := hb.alloc hb.size _
            by_cases g1 : 0 ≤ fst_ ps k
            · have r1 : decide (fst_ ps k < 0) = false := by simp; omega
              by_cases g2 : fst_ ps k ≤ 6
              · have r2 : decide (7 ≤ fst_ ps k) = false := by simp; omega
                by_cases g3 : 0 ≤ snd_ ps k
                · by_cases g4 : snd_ ps k < 251
                  · by_cases g5 : 0 < k
                    · have r5 : decide (0 < (k : Int)) = true := by simp; omega
                      obtain ⟨b', off', e', hbl', hd1, hd2⟩ := (h.below hb).at_ (k := k - 1) (by omega)
                      simp only [Option.some.injEq, Addr.mk.injEq, and_true] at e'
                      obtain ⟨rfl, rfl⟩ := e'
                      have hd1' : (wr.alloc (.cells #[.int .i64 (fst_ ps k), .int .i64 (snd_ ps k)] 47)).cell? ⟨b, off + (k - 1) * 2, none⟩ = some (.int .i64 (fst_ ps (k - 1))) := (((Below.refl w.heap.size wr).alloc hb.size _).cell (p := ⟨b, off + (k - 1) * 2, none⟩) hbl).trans hd1
                      have x1 : ((k : Int) - 1).toNat = k - 1 := by omega
                      have x2 : (0 : Int) ≤ (k : Int) - 1 := by omega
                      have x3 : (k : Int) - 1 < ps.length := by omega
                      have x4 : IntKind.i64.wrap ((k : Int) - 1) = (k : Int) - 1 := IntWalk.i64_in _ (by omega)
                      by_cases g6 : fst_ ps (k - 1) < fst_ ps k
                      · have r6 : decide (fst_ ps k ≤ fst_ ps (k - 1)) = false := by simp; omega
                        have HS := Lib.hid (HG.out.step ⟨g1, g2, g3, by omega, fun _ => g6⟩)
                        go_wp2
                        go_quiet (fail)
                        go_wp2
                        exact ⟨⟨k + 1, by omega, by go_num, HS.out, below_n hB1 _⟩, by simp [intOf]; omega⟩
                      · have r6 : decide (fst_ ps k ≤ fst_ ps (k - 1)) = true := by simp; omega
                        have HF := Lib.hid (partsB_at (need := need) k hlt (fun g => g6 (g.2.2.2.2 g5)))
                        go_wp2
                        go_quiet (fail)
                        go_wp2
                        go_ret
                        exact ⟨by rw [HF.out]; rfl, below_n hB1 _⟩
                    · have r5 : decide (0 < (k : Int)) = false := by simp; omega
                      have HS := Lib.hid (HG.out.step ⟨g1, g2, g3, by omega, fun h => absurd h g5⟩)
                      go_wp2
                      go_quiet (fail)
                      go_wp2
                      exact ⟨⟨k + 1, by omega, by go_num, HS.out, below_n hB1 _⟩, by simp [intOf]; omega⟩
                  · have r4 : decide (snd_ ps k < 251) = false := by simp; omega
                    have HF := Lib.hid (partsB_at (need := need) k hlt (fun g => by omega))
                    go_wp2
                    go_ret
                    exact ⟨by rw [HF.out]; rfl, hB1⟩
                · have r3 : decide (0 ≤ snd_ ps k) = false := by simp; omega
                  have HF := Lib.hid (partsB_at (need := need) k hlt (fun g => by omega))
                  go_wp2
                  go_ret
                  exact ⟨by rw [HF.out]; rfl, hB1⟩
              · have r2 : decide (7 ≤ fst_ ps k) = true := by simp; omega
                have HF := Lib.hid (partsB_at (need := need) k hlt (fun g => by omega))
                go_wp2
                go_ret
                exact ⟨by rw [HF.out]; rfl, hB1⟩
            · have r1 : decide (fst_ ps k < 0) = true := by simp; omega
              have HF := Lib.hid (partsB_at (need := need) k hlt (fun g => by omega))
              go_wp2
              go_ret
              exact ⟨by rw [HF.out]; rfl, hB1⟩
          · obtain rfl : k = ps.length := by omega
            have HT := Lib.hid (partsB_true h1 h2 h3 HG.out)
            go_wp2
            go_ret
            exact ⟨by rw [HT.out]; rfl, hb⟩
      · have q3 : decide ((ps.length : Int) < need) = true := by simp; omega
        rw [partsB_need (ps := ps) (need := need) (fun h => h3 h.2.2)]
        go_enter Try.func51, Try.ntmps51
        go_wp2_with fail
        go_ret
        exact ⟨rfl, Below.refl _ _⟩
    · have q2 : decide (7 < need) = true := by simp; omega
      rw [partsB_need (ps := ps) (need := need) (fun h => h2 h.2.1)]
      go_enter Try.func51, Try.ntmps51
      go_wp2_with fail
      go_ret
      exact ⟨rfl, Below.refl _ _⟩
  · have q1 : decide (need < 1) = true := by simp; omega
    rw [partsB_need (ps := ps) (need := need) (fun h => h1 h.1)]
    go_enter Try.func51, Try.ntmps51
    go_wp2_with fail
    go_ret
    exact ⟨rfl, Below.refl _ _⟩
end Go.Proofs.Ythdbbllcckimbaa
