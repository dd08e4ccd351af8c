/- The walks of FnExactTxnValid and FnTxnValid. No condition. -/
import Derived.Test.YtdgcjaknkceonaaRd
import Derived.Lib.SmallJoins
namespace Go.Proofs.Ytdgcjaknkceonaa
open Go.RowKit
set_option linter.unusedVariables false

def txnB (f t s e : Int) : Bool := decide (0 ≤ f ∧ f ≤ 5 ∧ 0 ≤ t ∧ t ≤ 5 ∧ f ≠ t ∧ 1 ≤ s ∧ s ≤ 99 ∧ 0 ≤ e ∧ e ≤ 9)
def BoolBelow (b : Bool) (w : World) (e : Ending) (w' : World) : Prop := e = .returned (.bool b) ∧ Below w.heap.size w w'

set_option maxHeartbeats 4000000 in
theorem txn_any (f t s e : Int) (w : World) : Calls Try.prog 21 #[.agg #[.int .i64 f, .int .i64 t, .int .i64 s, .int .i64 e]] w (BoolBelow (txnB f t s e) w) := by
  by_cases h0 : 0 ≤ f
  · skip
    by_cases h1 : f ≤ 5
    · skip
      have p1_0 : f < 6 := by first | omega | (simp; omega) | (simpa using h1)
      by_cases h2 : 0 ≤ t
      · skip
        by_cases h3 : t ≤ 5
        · skip
          have p3_0 : t < 6 := by first | omega | (simp; omega) | (simpa using h3)
          by_cases h4 : f ≠ t
          · skip
            have p4_0 : (f == t) = false := by first | omega | (simp; omega) | (simpa using h4)
            have p4_1 : (f != t) = true := by first | omega | (simp; omega) | (simpa using h4)
            by_cases h5 : 1 ≤ s
            · skip
              by_cases h6 : s ≤ 99
              · skip
                by_cases h7 : 0 ≤ e
                · skip
                  by_cases h8 : e ≤ 9
                  · skip
                    have hv : txnB f t s e = true := by unfold txnB; simp only [decide_eq_true_eq]; omega
                    rw [hv]
                    clear hv
                    go_enter Try.func21, Try.ntmps21
                    go_wp2
                    go_ret
                    exact ⟨rfl, (Below.refl _ _).alloc (Nat.le_refl _) _⟩
                  · skip
                    have n8_0 : decide (e ≤ 9) = false := by simp; omega
                    have hv : txnB f t s e = false := by unfold txnB; simp only [decide_eq_false_iff_not]; omega
                    rw [hv]
                    clear hv
                    go_enter Try.func21, Try.ntmps21
                    go_wp2
                    go_ret
                    exact ⟨rfl, (Below.refl _ _).alloc (Nat.le_refl _) _⟩
                · skip
                  have n7_0 : decide (0 ≤ e) = false := by simp; omega
                  have hv : txnB f t s e = false := by unfold txnB; simp only [decide_eq_false_iff_not]; omega
                  rw [hv]
                  clear hv
                  go_enter Try.func21, Try.ntmps21
                  go_wp2
                  go_ret
                  exact ⟨rfl, (Below.refl _ _).alloc (Nat.le_refl _) _⟩
              · skip
                have n6_0 : decide (s ≤ 99) = false := by simp; omega
                have hv : txnB f t s e = false := by unfold txnB; simp only [decide_eq_false_iff_not]; omega
                rw [hv]
                clear hv
                go_enter Try.func21, Try.ntmps21
                go_wp2
                go_ret
                exact ⟨rfl, (Below.refl _ _).alloc (Nat.le_refl _) _⟩
            · skip
              have n5_0 : decide (1 ≤ s) = false := by simp; omega
              have hv : txnB f t s e = false := by unfold txnB; simp only [decide_eq_false_iff_not]; omega
              rw [hv]
              clear hv
              go_enter Try.func21, Try.ntmps21
              go_wp2
              go_ret
              exact ⟨rfl, (Below.refl _ _).alloc (Nat.le_refl _) _⟩
          · skip
            have hv : txnB f t s e = false := by unfold txnB; simp only [decide_eq_false_iff_not]; omega
            rw [hv]
            clear hv
            obtain rfl : f = t := by omega
            go_enter Try.func21, Try.ntmps21
            go_wp2
            go_ret
            exact ⟨rfl, (Below.refl _ _).alloc (Nat.le_refl _) _⟩
        · skip
          have n3_0 : decide (t ≤ 5) = false := by simp; omega
          have n3_1 : decide (t < 6) = false := by simp; omega
          have hv : txnB f t s e = false := by unfold txnB; simp only [decide_eq_false_iff_not]; omega
          rw [hv]
          clear hv
          go_enter Try.func21, Try.ntmps21
          go_wp2
          go_ret
          exact ⟨rfl, (Below.refl _ _).alloc (Nat.le_refl _) _⟩
      · skip
        have n2_0 : decide (0 ≤ t) = false := by simp; omega
        have hv : txnB f t s e = false := by unfold txnB; simp only [decide_eq_false_iff_not]; omega
        rw [hv]
        clear hv
        go_enter Try.func21, Try.ntmps21
        go_wp2
        go_ret
        exact ⟨rfl, (Below.refl _ _).alloc (Nat.le_refl _) _⟩
    · skip
      have n1_0 : decide (f ≤ 5) = false := by simp; omega
      have n1_1 : decide (f < 6) = false := by simp; omega
      have hv : txnB f t s e = false := by unfold txnB; simp only [decide_eq_false_iff_not]; omega
      rw [hv]
      clear hv
      go_enter Try.func21, Try.ntmps21
      go_wp2
      go_ret
      exact ⟨rfl, (Below.refl _ _).alloc (Nat.le_refl _) _⟩
  · skip
    have n0_0 : decide (0 ≤ f) = false := by simp; omega
    have hv : txnB f t s e = false := by unfold txnB; simp only [decide_eq_false_iff_not]; omega
    rw [hv]
    clear hv
    go_enter Try.func21, Try.ntmps21
    go_wp2
    go_ret
    exact ⟨rfl, (Below.refl _ _).alloc (Nat.le_refl _) _⟩

set_option maxHeartbeats 4000000 in
theorem txnS_any (f t s e : Int) (w : World) : Calls Try.prog 19 #[.agg #[.int .i64 f, .int .i64 t, .int .i64 s, .int .i64 e]] w (BoolBelow (txnB f t s e) w) := by
  by_cases h0 : 0 ≤ f
  · skip
    by_cases h1 : f ≤ 5
    · skip
      have p1_0 : f < 6 := by first | omega | (simp; omega) | (simpa using h1)
      by_cases h2 : 0 ≤ t
      · skip
        by_cases h3 : t ≤ 5
        · skip
          have p3_0 : t < 6 := by first | omega | (simp; omega) | (simpa using h3)
          by_cases h4 : f ≠ t
          · skip
            have p4_0 : (f == t) = false := by first | omega | (simp; omega) | (simpa using h4)
            have p4_1 : (f != t) = true := by first | omega | (simp; omega) | (simpa using h4)
            by_cases h5 : 1 ≤ s
            · skip
              by_cases h6 : s ≤ 99
              · skip
                by_cases h7 : 0 ≤ e
                · skip
                  by_cases h8 : e ≤ 9
                  · skip
                    have hv : txnB f t s e = true := by unfold txnB; simp only [decide_eq_true_eq]; omega
                    rw [hv]
                    clear hv
                    go_enter Try.func19, Try.ntmps19
                    go_wp2
                    go_ret
                    exact ⟨rfl, (Below.refl _ _).alloc (Nat.le_refl _) _⟩
                  · skip
                    have n8_0 : decide (e ≤ 9) = false := by simp; omega
                    have hv : txnB f t s e = false := by unfold txnB; simp only [decide_eq_false_iff_not]; omega
                    rw [hv]
                    clear hv
                    go_enter Try.func19, Try.ntmps19
                    go_wp2
                    go_ret
                    exact ⟨rfl, (Below.refl _ _).alloc (Nat.le_refl _) _⟩
                · skip
                  have n7_0 : decide (0 ≤ e) = false := by simp; omega
                  have hv : txnB f t s e = false := by unfold txnB; simp only [decide_eq_false_iff_not]; omega
                  rw [hv]
                  clear hv
                  go_enter Try.func19, Try.ntmps19
                  go_wp2
                  go_ret
                  exact ⟨rfl, (Below.refl _ _).alloc (Nat.le_refl _) _⟩
              · skip
                have n6_0 : decide (s ≤ 99) = false := by simp; omega
                have hv : txnB f t s e = false := by unfold txnB; simp only [decide_eq_false_iff_not]; omega
                rw [hv]
                clear hv
                go_enter Try.func19, Try.ntmps19
                go_wp2
                go_ret
                exact ⟨rfl, (Below.refl _ _).alloc (Nat.le_refl _) _⟩
            · skip
              have n5_0 : decide (1 ≤ s) = false := by simp; omega
              have hv : txnB f t s e = false := by unfold txnB; simp only [decide_eq_false_iff_not]; omega
              rw [hv]
              clear hv
              go_enter Try.func19, Try.ntmps19
              go_wp2
              go_ret
              exact ⟨rfl, (Below.refl _ _).alloc (Nat.le_refl _) _⟩
          · skip
            have hv : txnB f t s e = false := by unfold txnB; simp only [decide_eq_false_iff_not]; omega
            rw [hv]
            clear hv
            obtain rfl : f = t := by omega
            go_enter Try.func19, Try.ntmps19
            go_wp2
            go_ret
            exact ⟨rfl, (Below.refl _ _).alloc (Nat.le_refl _) _⟩
        · skip
          have n3_0 : decide (t ≤ 5) = false := by simp; omega
          have n3_1 : decide (t < 6) = false := by simp; omega
          have hv : txnB f t s e = false := by unfold txnB; simp only [decide_eq_false_iff_not]; omega
          rw [hv]
          clear hv
          go_enter Try.func19, Try.ntmps19
          go_wp2
          go_ret
          exact ⟨rfl, (Below.refl _ _).alloc (Nat.le_refl _) _⟩
      · skip
        have n2_0 : decide (0 ≤ t) = false := by simp; omega
        have hv : txnB f t s e = false := by unfold txnB; simp only [decide_eq_false_iff_not]; omega
        rw [hv]
        clear hv
        go_enter Try.func19, Try.ntmps19
        go_wp2
        go_ret
        exact ⟨rfl, (Below.refl _ _).alloc (Nat.le_refl _) _⟩
    · skip
      have n1_0 : decide (f ≤ 5) = false := by simp; omega
      have n1_1 : decide (f < 6) = false := by simp; omega
      have hv : txnB f t s e = false := by unfold txnB; simp only [decide_eq_false_iff_not]; omega
      rw [hv]
      clear hv
      go_enter Try.func19, Try.ntmps19
      go_wp2
      go_ret
      exact ⟨rfl, (Below.refl _ _).alloc (Nat.le_refl _) _⟩
  · skip
    have n0_0 : decide (0 ≤ f) = false := by simp; omega
    have hv : txnB f t s e = false := by unfold txnB; simp only [decide_eq_false_iff_not]; omega
    rw [hv]
    clear hv
    go_enter Try.func19, Try.ntmps19
    go_wp2
    go_ret
    exact ⟨rfl, (Below.refl _ _).alloc (Nat.le_refl _) _⟩

set_option maxHeartbeats 2000000 in
theorem toTxn_any (f t s e : Int) (w : World) : Calls Try.prog 20 #[.agg #[.int .i64 f, .int .i64 t, .int .i64 s, .int .i64 e]] w fun r w' => r = .returned (.agg #[.int .i64 f, .int .i64 t, .int .i64 s, .int .i64 e]) ∧ Below w.heap.size w w' := by
  go_enter Try.func20, Try.ntmps20
  go_wp2
  refine bodyPost_ret (v := .agg #[.int .i64 f, .int .i64 t, .int .i64 s, .int .i64 e]) (by simp [results, Try.results20, go_sem]) rfl ⟨rfl, ?_⟩
  exact (((Below.refl _ _).alloc (Nat.le_refl _) _).alloc (by simp) _).alloc (by simp; omega) _

set_option maxHeartbeats 2000000 in
theorem walk_FnExactTxnValid (f t s e : Int) (w : World) (_w0 : (Lit.int .i64 f).wf = true) (_w1 : (Lit.int .i64 t).wf = true) (_w2 : (Lit.int .i64 s).wf = true) (_w3 : (Lit.int .i64 e).wf = true) :
    Calls Try.prog 6 #[.agg #[.int .i64 f, .int .i64 t, .int .i64 s, .int .i64 e]] w fun r w' => r = .returned (.bool true) ∧ Below w.heap.size w w' := by
  go_enter Try.func6, Try.ntmps6
  go_wp2_with fail
  refine (toTxn_any f t s e _).mono ?_
  rintro r w1 ⟨rfl, hb1⟩
  go_wp2_with fail
  refine (txnS_any f t s e _).mono ?_
  rintro r w2 ⟨rfl, hb2⟩
  have hB : Below (w.heap.size + 1) (w.alloc (.cells #[.int .i64 f, .int .i64 t, .int .i64 s, .int .i64 e] 28)) w2 := by
    refine (hb1.mono (by simp)).trans (hb2.mono ?_)
    have := hb1.size; simp at this; omega
  have hc0 := hB.cell (p := ⟨w.heap.size, 0, none⟩) (by simp)
  have hc1 := hB.cell (p := ⟨w.heap.size, 1, none⟩) (by simp)
  have hc2 := hB.cell (p := ⟨w.heap.size, 2, none⟩) (by simp)
  have hc3 := hB.cell (p := ⟨w.heap.size, 3, none⟩) (by simp)
  go_wp2_with fail
  refine (toTxn_any f t s e _).mono ?_
  rintro r w3 ⟨rfl, hb3⟩
  go_wp2_with fail
  refine (txn_any f t s e _).mono ?_
  rintro r w4 ⟨rfl, hb4⟩
  go_wp2_with fail
  go_ret
  refine ⟨rfl, ?_⟩
  have e1 : Below w.heap.size w w2 := ((Below.refl _ w).alloc (Nat.le_refl _) _).trans (hB.mono (by omega))
  have s2 := e1.size
  have s3 := hb3.size
  exact (e1.trans (hb3.mono s2)).trans (hb4.mono (by omega))
end Go.Proofs.Ytdgcjaknkceonaa
