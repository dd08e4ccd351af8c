/- Symbols that can be encoded, of program and reference; slices compared and copied by the library. Conditions: at most two million symbols. -/
import Derived.Test.YtfkmiflddpjllaaSpS
namespace Go.Proofs.Ytfkmiflddpjllaa
open Go.RowKit
set_option linter.unusedVariables false
set_option linter.unusedSimpArgs false

set_option maxHeartbeats 1000000 in
theorem dataF_any (A : Option Addr) (c : Nat) (data : List Int) (need : Int) (w : World) (B : Nat) (h : Sl w B A data) (hl : data.length ≤ 2000000) :
    Calls Try.prog 55 #[.slice A data.length c, .int .i64 need] w fun e w' => e = .returned (.bool (dataB data need)) ∧ w = w' := by
  by_cases g0 : 1 ≤ data.length
  · skip
    have p0_0 : decide (1 ≤ (data.length : Int)) = true := by simp only [decide_eq_true_eq]; omega
    by_cases g1 : data.length ≤ 12
    · skip
      have p1_0 : decide ((data.length : Int) ≤ 12) = true := by simp only [decide_eq_true_eq]; omega
      have p1_1 : decide (data.length ≤ 12) = true := by simp only [decide_eq_true_eq]; omega
      by_cases g2 : allIn 0 250 data = true
      · skip
        have HA := Lib.hid g2
        clear g2
        by_cases g3 : 1 ≤ need
        · skip
          have p3_0 : decide (1 ≤ need) = true := by simp only [decide_eq_true_eq]; omega
          by_cases g4 : need ≤ 8
          · skip
            have p4_0 : decide (need ≤ 8) = true := by simp only [decide_eq_true_eq]; omega
            have HF := Lib.hid (dataB_true g0 g1 HA.out g3 g4)
            go_enter Try.func55, Try.ntmps55
            go_wp2_with (go_at_call 62; refine (symbols_any _ _ data _ _ h hl).mono ?_; rintro e w1 ⟨rfl, rfl⟩; rw [HA.out])
            go_ret
            exact ⟨by rw [HF.out]; rfl, rfl⟩
          · skip
            have HF := Lib.hid (dataB_false (data := data) (need := need) (.inr (.inr (fun g => g4 g.2))))
            have p4_0 : decide (need ≤ 8) = false := by simp only [decide_eq_false_iff_not]; omega
            clear g4
            go_enter Try.func55, Try.ntmps55
            go_wp2_with (go_at_call 62; refine (symbols_any _ _ data _ _ h hl).mono ?_; rintro e w1 ⟨rfl, rfl⟩; rw [HA.out])
            go_ret
            exact ⟨by rw [HF.out]; rfl, rfl⟩
        · skip
          have HF := Lib.hid (dataB_false (data := data) (need := need) (.inr (.inr (fun g => g3 g.1))))
          have p3_0 : decide (1 ≤ need) = false := by simp only [decide_eq_false_iff_not]; omega
          clear g3
          go_enter Try.func55, Try.ntmps55
          go_wp2_with (go_at_call 62; refine (symbols_any _ _ data _ _ h hl).mono ?_; rintro e w1 ⟨rfl, rfl⟩; rw [HA.out])
          go_ret
          exact ⟨by rw [HF.out]; rfl, rfl⟩
      · skip
        have g2' : allIn 0 250 data = false := by simpa using g2
        have HA := Lib.hid g2'
        clear g2 g2'
        have HF := Lib.hid (dataB_false (data := data) (need := need) (.inr (.inl HA.out)))
        go_enter Try.func55, Try.ntmps55
        go_wp2_with (go_at_call 62; refine (symbols_any _ _ data _ _ h hl).mono ?_; rintro e w1 ⟨rfl, rfl⟩; rw [HA.out])
        go_ret
        exact ⟨by rw [HF.out]; rfl, rfl⟩
    · skip
      have HF := Lib.hid (dataB_false (data := data) (need := need) (.inl (fun g => g1 g.2)))
      have p1_0 : decide ((data.length : Int) ≤ 12) = false := by simp only [decide_eq_false_iff_not]; omega
      have p1_1 : decide (data.length ≤ 12) = false := by simp only [decide_eq_false_iff_not]; omega
      clear g1
      go_enter Try.func55, Try.ntmps55
      go_wp2_with fail
      go_ret
      exact ⟨by rw [HF.out]; rfl, rfl⟩
  · skip
    have HF := Lib.hid (dataB_false (data := data) (need := need) (.inl (fun g => g0 g.1)))
    have p0_0 : decide (1 ≤ (data.length : Int)) = false := by simp only [decide_eq_false_iff_not]; omega
    go_enter Try.func55, Try.ntmps55
    go_wp2_with fail
    go_ret
    exact ⟨by rw [HF.out]; rfl, rfl⟩

set_option maxHeartbeats 2000000 in
theorem dataS_any (A : Option Addr) (c : Nat) (data : List Int) (need : Int) (w : World) (B : Nat) (h : Sl w B A data) (hl : data.length ≤ 2000000) :
    Calls Try.prog 58 #[.slice A data.length c, .int .i64 need] w fun e w' => e = .returned (.bool (dataB data need)) ∧ w = w' := by
  go_enter Try.func58, Try.ntmps58
  go_wp2_with fail
  go_loop [5] (fun i => ∃ k : Nat, k ≤ data.length ∧ i = .int .i64 k ∧ ∀ j, j < k → 0 ≤ nth data j ∧ nth data j ≤ 250) (fun i => data.length - (intOf i).toNat)
  case atStart => exact ⟨0, Nat.zero_le _, rfl, fun j hj => absurd hj (by omega)⟩
  case round =>
    obtain ⟨k, hk, rfl, hq⟩ := hrel
    have HQ := Lib.hid hq
    clear hq
    by_cases hlt : k < data.length
    · obtain ⟨b, off, rfl, hb, hc⟩ := h.at_ hlt
      by_cases e0 : 0 ≤ nth data k ∧ nth data k ≤ 250
      · obtain ⟨e0, e1⟩ := e0
        go_wp2_with (go_at_call 53; refine (in_yes (nth data k) 0 250 _ e0 e1).mono ?_; rintro e w1 ⟨rfl, rfl⟩)
        exact ⟨⟨k + 1, by omega, by go_num, fun j hj => by
          by_cases e : j = k
          · rw [e]; exact ⟨e0, e1⟩
          · exact HQ.out j (by omega)⟩, by simp [intOf]; omega⟩
      · have HF := Lib.hid (dataB_false (data := data) (need := need) (.inr (.inl (allIn_false (lo := 0) (hi := 250) hlt (by omega)))))
        have g : nth data k < 0 ∨ 250 < nth data k := by omega
        have G := Lib.hid g
        clear g e0
        go_wp2_with (go_at_call 53; refine (in_no (nth data k) 0 250 _ G.out).mono ?_; rintro e w1 ⟨rfl, rfl⟩)
        go_ret
        exact ⟨by rw [HF.out]; rfl, rfl⟩
    · obtain rfl : k = data.length := by omega
      have HA := Lib.hid (allIn_true (lo := 0) (hi := 250) (l := data) (fun j hj => HQ.out j (by omega)))
      by_cases g1 : 1 ≤ data.length ∧ data.length ≤ 12
      · have i1 : 1 ≤ (data.length : Int) := by omega
        have i2 : (data.length : Int) ≤ 12 := by omega
        by_cases g2 : 1 ≤ need ∧ need ≤ 8
        · have HF := Lib.hid (dataB_true g1.1 g1.2 HA.out g2.1 g2.2)
          obtain ⟨j1, j2⟩ := g2
          clear g1
          go_wp2_with (go_at_call 53; first | (with_reducible refine (in_yes (data.length : Int) 1 12 _ i1 i2).mono ?_; rintro e w1 ⟨rfl, rfl⟩) | (with_reducible refine (in_yes need 1 8 _ j1 j2).mono ?_; rintro e w1 ⟨rfl, rfl⟩))
          go_ret
          exact ⟨by rw [HF.out]; rfl, rfl⟩
        · have HF := Lib.hid (dataB_false (data := data) (need := need) (.inr (.inr g2)))
          have g : need < 1 ∨ 8 < need := by omega
          have G := Lib.hid g
          clear g g2 g1
          go_wp2_with (go_at_call 53; first | (with_reducible refine (in_yes (data.length : Int) 1 12 _ i1 i2).mono ?_; rintro e w1 ⟨rfl, rfl⟩) | (with_reducible refine (in_no need 1 8 _ G.out).mono ?_; rintro e w1 ⟨rfl, rfl⟩))
          go_ret
          exact ⟨by rw [HF.out]; rfl, rfl⟩
      · have HF := Lib.hid (dataB_false (data := data) (need := need) (.inl g1))
        have g : (data.length : Int) < 1 ∨ 12 < (data.length : Int) := by omega
        have G := Lib.hid g
        clear g g1
        go_wp2_with (go_at_call 53; refine (in_no (data.length : Int) 1 12 _ G.out).mono ?_; rintro e w1 ⟨rfl, rfl⟩)
        go_ret
        exact ⟨by rw [HF.out]; rfl, rfl⟩

set_option maxHeartbeats 2000000 in
theorem equal_any (A A' : Option Addr) (l l' : List Int) (c c' : Nat) (B B' : Nat) (w : World) (h : Sl w B A l) (h' : Sl w B' A' l') (hl : l.length ≤ 2000000) (hl' : l'.length ≤ 2000000) :
    Calls Try.prog 56 #[.slice A l.length c, .slice A' l'.length c'] w (Still w (.bool (eqTo l l'))) := by
  by_cases hn : l.length = l'.length
  · have hn' : ((l.length : Int) != l'.length) = false := by simp; omega
    have HN := Lib.hid hn
    clear hn
    go_enter Try.func56, Try.ntmps56
    go_wp2_with fail
    go_loopw [5, 13] (fun _ i wr => ∃ k m : Nat, k ≤ l.length ∧ i = .int .i64 k ∧ wr = w.drewN m ∧ ∀ j, j < k → nth l j = nth l' j) (fun _ i _ => l.length - (intOf i).toNat)
    case atStart => exact ⟨0, 0, Nat.zero_le _, rfl, rfl, fun j hj => absurd hj (by omega)⟩
    case round =>
      obtain ⟨k, m, hk, rfl, rfl, heq⟩ := hrel
      have HQ := Lib.hid heq
      clear heq
      by_cases hlt : k < l.length
      · obtain ⟨b, off, rfl, hb, hc⟩ := h.at_ hlt
        have hlt' : k < l'.length := by have := HN.out; omega
        obtain ⟨b', off', rfl, hb', hc'⟩ := h'.at_ hlt'
        have c1 : (k : Int) < (l.length : Int) := by omega
        have c2 : (k : Int) < (l'.length : Int) := by omega
        have c3 : (0 : Int) ≤ (k : Int) := by omega
        by_cases hv : nth l k = nth l' k
        · have hv' : (nth l k != nth l' k) = false := by simpa using hv
          have HV := Lib.hid hv
          clear hv
          go_wp2_with fail
          go_quiet (fail)
          go_wp2_with fail
          exact ⟨⟨k + 1, _, by omega, by go_num, rfl, fun j hj => by
            by_cases e : j = k
            · rw [e]; exact HV.out
            · exact HQ.out j (by omega)⟩, by simp [intOf]; omega⟩
        · have hv' : (nth l k != nth l' k) = true := by simpa using hv
          have HF := Lib.hid (eqTo_false k hv)
          clear hv
          go_wp2_with fail
          go_quiet (fail)
          go_wp2_with fail
          go_ret
          exact ⟨by rw [HF.out]; rfl, _, World.drewN_drewN _ _ _⟩
      · have HT := Lib.hid (eqTo_true HN.out (fun j hj => HQ.out j (by omega)))
        go_wp2_with fail
        go_ret
        exact ⟨by rw [HT.out]; rfl, _, rfl⟩
  · have hn' : ((l.length : Int) != l'.length) = true := by simp; omega
    have hf : eqTo l l' = false := by simp [eqTo]; intro e; exact hn (by rw [e])
    rw [hf]
    clear hf
    go_enter Try.func56, Try.ntmps56
    go_wp2_with fail
    go_ret
    exact ⟨rfl, 0, rfl⟩

theorem eq_nil (b off n c : Nat) (w : World) : (binOp .eql 26 (.slice (some ⟨b, off, none⟩) n c) (.slice none 0 0)).run Try.prog w = .ok (.bool false) w := by kernel_rfl
theorem OwnI.fresh {w w' : World} {g c : Nat} {l : List Int} (h : OwnI w' w.heap.size g c l) (hb : Below w.heap.size w w') : FreshI l w (.returned (.slice (some ⟨g, 0, none⟩) l.length c)) w' := by
  obtain ⟨h1, h2, h3, h4, h5⟩ := h.parts
  exact ⟨g, c, h1, rfl, h5, h3, h4, hb⟩

set_option maxHeartbeats 1000000 in
theorem clone_any (g0 : Nat) (c n : Nat) (l : List Int) (w : World) (h : Wr w g0 l) (hn : l.length = n) (h2 : n ≤ 1000) :
    Calls Try.prog 50 #[.slice (some ⟨g0, 0, none⟩) n c] w (FreshI l w) := by
  have hown := OwnI.made w w.heap.size (Nat.le_refl _)
  have hB0 : Below w.heap.size w (w.alloc (.cells #[] 3)) := (Below.refl _ _).alloc (Nat.le_refl _) _
  have hnil := eq_nil g0 0 n c
  have HNI := Lib.hid (List.nil_append l)
  have u0 : Wr (w.alloc (.cells #[] 3)) g0 l := h.block (Below.heap_alloc _ _ _ h.lt)
  have HNL := Lib.hid hn
  clear hn
  go_enter Try.func50, Try.ntmps50
  go_wp2_with (at_builtin; refine wpList_many rfl _ _ rfl w.heap.size w.heap.size 0 [] l l HNI.out rfl g0 c n rfl HNL.out u0 hown (by simp) (by omega) hB0.size ?_)
  intro g' c' w' h3 h4 h5
  have hb' : Below w.heap.size w w' := hB0.grown h4 hB0.size (fun kk e => by injection e with e; omega)
  clear h4 h5 hown hB0 u0 h
  go_wp2_with fail
  go_ret
  exact h3.fresh hb'
end Go.Proofs.Ytfkmiflddpjllaa
