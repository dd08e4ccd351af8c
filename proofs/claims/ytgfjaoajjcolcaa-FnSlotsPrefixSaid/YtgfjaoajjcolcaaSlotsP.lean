/- Prefixes of lists of slots. Conditions: the lists are within two million elements. -/
import Derived.Test.YtgfjaoajjcolcaaSlots
import Derived.Laws.StructEq
namespace Go.Proofs.Ytgfjaoajjcolcaa
open Go.RowKit
set_option linter.unusedVariables false
set_option linter.unusedSimpArgs false

def prefP (a b : List (Int × Int)) : Bool := decide (a <+: b)
theorem prefP_true {a b : List (Int × Int)} (hn : a.length ≤ b.length) (h : ∀ j, j < a.length → fst_ a j = fst_ b j ∧ snd_ a j = snd_ b j) : prefP a b = true := by
  simp only [prefP, decide_eq_true_eq]
  refine List.prefix_iff_eq_take.2 (pair_ext (by simp; omega) fun j hj => ?_)
  have := h j hj
  simpa [fst_, snd_, hj] using this
theorem prefP_short {a b : List (Int × Int)} (hn : b.length < a.length) : prefP a b = false := by
  simp only [prefP, decide_eq_false_iff_not]
  intro h
  have := h.length_le
  omega
theorem prefP_false {a b : List (Int × Int)} {k : Nat} (hk : k < a.length) (h : ¬ (fst_ a k = fst_ b k ∧ snd_ a k = snd_ b k)) : prefP a b = false := by
  simp only [prefP, decide_eq_false_iff_not]
  rintro ⟨t, rfl⟩
  apply h
  simp [fst_, snd_, List.getElem?_append_left hk]
theorem prefP_take {a b : List (Int × Int)} (h : a.length ≤ b.length) : prefP a b = eqP a (b.take a.length) := by
  simp only [prefP, eqP, List.prefix_iff_eq_take]

/-- Structs of two ints are compared field by field. -/
theorem neq_el (a b a' b' : Int) (w : World) : (binOp .neq 61 (.agg #[.int .i64 a, .int .i64 b]) (.agg #[.int .i64 a', .int .i64 b'])).run Try.prog w = .ok (.bool (!(a == a' && b == b'))) w := by
  have hp : Try.prog.stoodInHeld 61 = false := by kernel_rfl
  have hu : Try.prog.underlying 61 = some (.struct (Try.prog.fieldsOf 61)) := by kernel_rfl
  have u3 := Try.underlying3
  have a3 := Try.isAgg3
  have z3 := Try.sizeOf3
  rw [run_neq_struct, run_equalIn_struct w 9999 61 _ _ hu hp]
  simp only [Program.fieldsOf, Try.underlying61]
  go_simp
  by_cases h1 : a = a' <;> by_cases h2 : b = b' <;> simp [h1, h2]

set_option maxHeartbeats 4000000 in
theorem prefS_any (A A' : Option Addr) (l l' : List (Int × Int)) (c c' : Nat) (B B' : Nat) (w : World) (h : Pl w B A l) (h' : Pl w B' A' l') (hl : l.length ≤ 2000000) (hl' : l'.length ≤ 2000000) :
    Calls Try.prog 35 #[.slice A l.length c, .slice A' l'.length c'] w (Still w (.bool (prefP l l'))) := by
  go_enter Try.func35, Try.ntmps35
  go_wp2_with fail
  go_loopw [5] (fun i wr => ∃ k m : Nat, k ≤ l.length ∧ k ≤ l'.length ∧ i = .int .i64 k ∧ wr = w.drewN m ∧ ∀ j, j < k → fst_ l j = fst_ l' j ∧ snd_ l j = snd_ l' j) (fun i _ => l.length - (intOf i).toNat)
  case atStart => exact ⟨0, 0, Nat.zero_le _, Nat.zero_le _, rfl, rfl, fun j hj => absurd hj (by omega)⟩
  case round =>
    obtain ⟨k, m, hk, hk', rfl, rfl, heq⟩ := hrel
    have HQ := Lib.hid heq
    clear heq
    by_cases hlt : k < l.length
    · have c1 : (k : Int) < (l.length : Int) := by omega
      have c3 : (0 : Int) ≤ (k : Int) := by omega
      by_cases hlt' : k < l'.length
      · obtain ⟨b, off, rfl, hbl, hc1, hc2⟩ := h.at_ hlt
        obtain ⟨b', off', rfl, hbl', hc1', hc2'⟩ := h'.at_ hlt'
        have c2 : (k : Int) < (l'.length : Int) := by omega
        have c4 : decide ((l'.length : Int) ≤ k) = false := by simp; omega
        have c4' : decide (l'.length ≤ k) = false := by simp; omega
        have hne := fun W => neq_el (fst_ l k) (snd_ l k) (fst_ l' k) (snd_ l' k) W
        by_cases hv1 : fst_ l k = fst_ l' k
        · have e1 : (fst_ l k == fst_ l' k) = true := by simpa using hv1
          by_cases hv2 : snd_ l k = snd_ l' k
          · have e2 : (snd_ l k == snd_ l' k) = true := by simpa using hv2
            have HV := Lib.hid (And.intro hv1 hv2)
            clear hv1 hv2
            go_wp2_with fail
            go_quiet (fail)
            go_wp2_with fail
            exact ⟨⟨k + 1, _, by omega, by omega, by go_num, rfl, fun j hj => by
              by_cases e : j = k
              · rw [e]; exact HV.out
              · exact HQ.out j (by omega)⟩, by simp [intOf]; omega⟩
          · have e2 : (snd_ l k == snd_ l' k) = false := by simpa using hv2
            have HF := Lib.hid (prefP_false (a := l) (b := l') hlt (fun h => hv2 h.2))
            clear hv1 hv2
            go_wp2_with fail
            go_quiet (fail)
            go_wp2_with fail
            go_ret
            exact ⟨by rw [HF.out]; rfl, _, World.drewN_drewN _ _ _⟩
        · have e1 : (fst_ l k == fst_ l' k) = false := by simpa using hv1
          have HF := Lib.hid (prefP_false (a := l) (b := l') hlt (fun h => hv1 h.1))
          clear hv1
          go_wp2_with fail
          go_quiet (fail)
          go_wp2_with fail
          go_ret
          exact ⟨by rw [HF.out]; rfl, _, World.drewN_drewN _ _ _⟩
      · have c4 : decide ((l'.length : Int) ≤ k) = true := by simp; omega
        have c4' : decide (l'.length ≤ k) = true := by simp; omega
        have HF := Lib.hid (prefP_short (a := l) (b := l') (by omega))
        go_wp2_with fail
        go_quiet (fail)
        go_wp2_with fail
        go_ret
        exact ⟨by rw [HF.out]; rfl, _, World.drewN_drewN _ _ _⟩
    · have HT := Lib.hid (prefP_true (a := l) (b := l') (by omega) (fun j hj => HQ.out j (by omega)))
      go_wp2_with fail
      go_ret
      exact ⟨by rw [HT.out]; rfl, _, rfl⟩

set_option maxHeartbeats 4000000 in
theorem equal_any (A A' : Option Addr) (l l' : List (Int × Int)) (c c' : Nat) (B B' : Nat) (w : World) (h : Pl w B A l) (h' : Pl w B' A' l') (hl : l.length ≤ 2000000) (hn : l.length = l'.length) :
    Calls Try.prog 61 #[.slice A l.length c, .slice A' l'.length c'] w (Still w (.bool (eqP l l'))) := by
  have hn' : ((l.length : Int) != l'.length) = false := by simp; omega
  have hl' : l'.length ≤ 2000000 := by omega
  have HN := Lib.hid hn
  clear hn
  go_enter Try.func61, Try.ntmps61
  go_wp2_with fail
  go_loopw [5, 13] (fun _ i wr => ∃ k m : Nat, k ≤ l.length ∧ i = .int .i64 k ∧ wr = w.drewN m ∧ ∀ j, j < k → fst_ l j = fst_ l' j ∧ snd_ l j = snd_ l' j) (fun _ i _ => l.length - (intOf i).toNat)
  case atStart => exact ⟨0, 0, Nat.zero_le _, rfl, rfl, fun j hj => absurd hj (by omega)⟩
  case round =>
    obtain ⟨k, m, hk, rfl, rfl, heq⟩ := hrel
    have HQ := Lib.hid heq
    clear heq
    by_cases hlt : k < l.length
    · have c1 : (k : Int) < (l.length : Int) := by omega
      have c3 : (0 : Int) ≤ (k : Int) := by omega
      have hlt' : k < l'.length := by have := HN.out; omega
      obtain ⟨b, off, rfl, hbl, hc1, hc2⟩ := h.at_ hlt
      obtain ⟨b', off', rfl, hbl', hc1', hc2'⟩ := h'.at_ hlt'
      have c2 : (k : Int) < (l'.length : Int) := by omega
      have hne := fun W => neq_el (fst_ l k) (snd_ l k) (fst_ l' k) (snd_ l' k) W
      by_cases hv1 : fst_ l k = fst_ l' k
      · have e1 : (fst_ l k == fst_ l' k) = true := by simpa using hv1
        by_cases hv2 : snd_ l k = snd_ l' k
        · have e2 : (snd_ l k == snd_ l' k) = true := by simpa using hv2
          have HV := Lib.hid (And.intro hv1 hv2)
          clear hv1 hv2
          go_wp2_with fail
          go_quiet (fail)
          go_wp2_with fail
          exact ⟨⟨k + 1, _, by omega, by go_num, rfl, fun j hj => by
            by_cases e : j = k
            · rw [e]; exact HV.out
            · exact HQ.out j (by omega)⟩, by simp [intOf]; omega⟩
        · have e2 : (snd_ l k == snd_ l' k) = false := by simpa using hv2
          have HF := Lib.hid (eqP_false (a := l) (b := l') k (fun h => hv2 h.2))
          clear hv1 hv2
          go_wp2_with fail
          go_quiet (fail)
          go_wp2_with fail
          go_ret
          exact ⟨by rw [HF.out]; rfl, _, World.drewN_drewN _ _ _⟩
      · have e1 : (fst_ l k == fst_ l' k) = false := by simpa using hv1
        have HF := Lib.hid (eqP_false (a := l) (b := l') k (fun h => hv1 h.1))
        clear hv1
        go_wp2_with fail
        go_quiet (fail)
        go_wp2_with fail
        go_ret
        exact ⟨by rw [HF.out]; rfl, _, World.drewN_drewN _ _ _⟩
    · have HT := Lib.hid (eqP_true HN.out (fun j hj => HQ.out j (by omega)))
      go_wp2_with fail
      go_ret
      exact ⟨by rw [HT.out]; rfl, _, rfl⟩

set_option maxHeartbeats 4000000 in
theorem pref_any (A A' : Option Addr) (l l' : List (Int × Int)) (c c' : Nat) (B B' : Nat) (w : World) (h : Pl w B A l) (h' : Pl w B' A' l') (hl : l.length ≤ 2000000) (hl' : l'.length ≤ 2000000) (hc' : l'.length ≤ c') (hc2 : c' ≤ 9223372036854775807) :
    Calls Try.prog 37 #[.slice A l.length c, .slice A' l'.length c'] w (Still w (.bool (prefP l l'))) := by
  by_cases hn : l.length ≤ l'.length
  · have g : decide ((l.length : Int) ≤ l'.length) = true := by simp; omega
    have g' : decide (l.length ≤ l'.length) = true := by simp; omega
    have HP := Lib.hid (prefP_take (a := l) (b := l') hn)
    have ht : (l'.take l.length).length = l.length := by simp; omega
    have HL := Lib.hid ht
    have he := fun W => equal_any A A' l (l'.take l.length) c c' B B' W
    rw [ht] at he
    have HE := Lib.hid he
    clear ht he
    go_enter Try.func37, Try.ntmps37
    go_wp2_with fail
    refine (HE.out _ h (h'.take _) hl trivial).mono ?_
    rintro e w1 ⟨rfl, n, rfl⟩
    rw [← HP.out]
    go_wp2_with fail
    go_ret
    exact ⟨rfl, n, rfl⟩
  · have g : decide ((l.length : Int) ≤ l'.length) = false := by simp; omega
    have g' : decide (l.length ≤ l'.length) = false := by simp; omega
    have HF := Lib.hid (prefP_short (a := l) (b := l') (by omega))
    go_enter Try.func37, Try.ntmps37
    go_wp2_with fail
    go_ret
    exact ⟨by rw [HF.out]; rfl, 0, rfl⟩
end Go.Proofs.Ytgfjaoajjcolcaa
