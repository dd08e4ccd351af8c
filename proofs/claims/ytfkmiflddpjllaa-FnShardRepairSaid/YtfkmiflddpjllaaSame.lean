/- Lists of integers in memory: compared by the laws. Conditions: the lists are within two million elements. -/
import Derived.Test.YtfkmiflddpjllaaInts
namespace Go.Proofs.Ytfkmiflddpjllaa
open Go.RowKit
set_option linter.unusedVariables false

set_option maxHeartbeats 2000000 in
theorem sameInts_any (A A' : Option Addr) (l l' : List Int) (c c' : Nat) (B B' : Nat) (w : World) (h : Sl w B A l) (h' : Sl w B' A' l') (hl : l.length ≤ 2000000) (hl' : l'.length ≤ 2000000) :
    Calls Try.prog 42 #[.slice A l.length c, .slice A' l'.length c'] w (Still w (.bool (eqTo l l'))) := by
  by_cases hn : l.length = l'.length
  · have hn' : ((l.length : Int) != l'.length) = false := by simp; omega
    have HN := Lib.hid hn
    clear hn
    go_enter Try.func42, Try.ntmps42
    go_wp2
    go_loopw [5] (fun i wr => ∃ k m : Nat, k ≤ l.length ∧ i = .int .i64 k ∧ wr = w.drewN m ∧ ∀ j, j < k → nth l j = nth l' j) (fun i _ => l.length - (intOf i).toNat)
    case atStart => exact ⟨0, 0, Nat.zero_le _, rfl, rfl, fun j hj => absurd hj (by omega)⟩
    case round =>
      obtain ⟨k, m, hk, rfl, rfl, heq⟩ := hrel
      have HQ := Lib.hid heq
      clear heq
      by_cases hlt : k < l.length
      · obtain ⟨b, off, rfl, hb, hc⟩ := h.at_ hlt
        have hlt' : k < l'.length := by have := HN.out; omega
        obtain ⟨b', off', rfl, hb', hc'⟩ := h'.at_ hlt'
        have c1 : (k : Int) < (l.length : Int) := by omega
        have c2 : (k : Int) < (l'.length : Int) := by omega
        have c3 : (0 : Int) ≤ (k : Int) := by omega
        by_cases hv : nth l k = nth l' k
        · have hv' : (nth l k != nth l' k) = false := by simpa using hv
          have HV := Lib.hid hv
          clear hv
          go_wp2
          go_quiet (fail)
          go_wp2
          exact ⟨⟨k + 1, _, by omega, by go_num, rfl, fun j hj => by
            by_cases e : j = k
            · rw [e]; exact HV.out
            · exact HQ.out j (by omega)⟩, by simp [intOf]; omega⟩
        · have hv' : (nth l k != nth l' k) = true := by simpa using hv
          have HF := Lib.hid (eqTo_false k hv)
          clear hv
          go_wp2
          go_quiet (fail)
          go_wp2
          go_ret
          exact ⟨by rw [HF.out]; rfl, _, World.drewN_drewN _ _ _⟩
      · have HT := Lib.hid (eqTo_true HN.out (fun j hj => HQ.out j (by omega)))
        go_wp2
        go_ret
        exact ⟨by rw [HT.out]; rfl, _, rfl⟩
  · have hn' : ((l.length : Int) != l'.length) = true := by simp; omega
    have hf : eqTo l l' = false := by simp [eqTo]; intro e; exact hn (by rw [e])
    rw [hf]
    clear hf
    go_enter Try.func42, Try.ntmps42
    go_wp2
    go_ret
    exact ⟨rfl, 0, rfl⟩

end Go.Proofs.Ytfkmiflddpjllaa
