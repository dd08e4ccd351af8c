/- Plain mathematics of the laws of trees. No condition. -/
import Derived.Test.YtgmbacgpaagkhaaMrkD
namespace Go.Proofs.Ytgmbacgpaagkhaa
set_option linter.unusedVariables false
set_option linter.unusedSimpArgs false

theorem checkV_parts {root size i leaf : Int} {ps : List Int} (h : checkV root size i leaf ps = true) : (1 ≤ size ∧ size ≤ 16 ∧ 0 ≤ i ∧ i < size ∧ 0 ≤ leaf ∧ leaf ≤ 990) ∧ allIn 0 990 ps = true ∧ Dag.leadN 4 size.toNat i.toNat leaf ps = some root := by
  simp only [checkV, headB, Bool.and_eq_true, decide_eq_true_eq] at h
  exact ⟨h.1.1, h.1.2, h.2⟩
theorem lead_dig : ∀ (f size i : Nat) (n : Int) (ps : List Int) (r : Int), Dag.dig n → Dag.leadN f size i n ps = some r → Dag.dig r
  | 0, size, i, n, ps, r, hn, h => by
    unfold Dag.leadN at h
    split at h
    · injection h with h; rw [← h]; exact hn
    · cases h
  | f + 1, size, i, n, ps, r, hn, h => by
    by_cases hw : 1 < size
    · by_cases hs : Dag.sib i < size
      · cases ps with
        | nil => rw [lead_short hw hs] at h; cases h
        | cons p ps =>
          rw [lead_use hw hs] at h
          exact lead_dig f _ _ _ _ _ (by split <;> exact Dag.pair_dig _ _) h
      · rw [lead_skip hw hs] at h
        exact lead_dig f _ _ _ _ _ hn h
    · rw [lead_small (by omega)] at h
      split at h
      · injection h with h; rw [← h]; exact hn
      · cases h
theorem check_root {root size i leaf : Int} {ps : List Int} (h : checkV root size i leaf ps = true) : 0 ≤ root ∧ root ≤ 990 := by
  obtain ⟨h1, h2, h3⟩ := checkV_parts h
  exact lead_dig _ _ _ _ _ _ ⟨h1.2.2.2.2.1, h1.2.2.2.2.2⟩ h3
theorem check_other {root size i leaf other : Int} {ps : List Int} (h : checkV root size i leaf ps = true) (hne : other ≠ root) : checkV other size i leaf ps = false := by
  obtain ⟨h1, h2, h3⟩ := checkV_parts h
  exact checkV_lead (by rw [h3]; simpa using hne.symm)
theorem check_len {root size i leaf : Int} {ps : List Int} (h : checkV root size i leaf ps = true) : ps.length ≤ 4 := by
  obtain ⟨h1, h2, h3⟩ := checkV_parts h
  have := (Dag.lead_fit 4 size.toNat i.toNat leaf ps).2 (by rw [h3]; rfl)
  have := Dag.fit_le 4 size.toNat i.toNat
  omega
theorem check_long {root size i leaf : Int} {ps qs : List Int} (h : checkV root size i leaf ps = true) (hl : qs.length ≠ ps.length) : checkV root size i leaf qs = false := by
  obtain ⟨h1, h2, h3⟩ := checkV_parts h
  have e1 := (Dag.lead_fit 4 size.toNat i.toNat leaf ps).2 (by rw [h3]; rfl)
  refine checkV_lead fun e => ?_
  have e2 := (Dag.lead_fit 4 size.toNat i.toNat leaf qs).2 (by rw [e]; rfl)
  omega
theorem rootV_neg (l : List Int) : decide (rootV l < 0) = !leavesB l := by
  by_cases h : leavesB l = true
  · rw [rootV_yes h, h]
    obtain ⟨h1, h2, h3⟩ := leavesB_parts h
    have := Dag.root_dig 4 l (by intro e; rw [e] at h1; simp at h1) (digs h3)
    simp only [Bool.not_true, decide_eq_false_iff_not]
    have := this.1; omega
  · rw [rootV_no h]
    have : leavesB l = false := by simpa using h
    rw [this]; rfl
theorem nth_getD (l : List Int) (i : Nat) : l.getD i 0 = nth l i := rfl
/-- Each leaf has a proof. -/
theorem check_proof {l : List Int} {i : Nat} (h : leavesB l = true) (hi : i < l.length) : checkV (rootV l) l.length i (nth l i) (proofV l i) = true := by
  obtain ⟨h1, h2, h3⟩ := leavesB_parts h
  have hb : proofB l i = true := by
    simp only [proofB, h, Bool.true_and, decide_eq_true_eq]; omega
  rw [proofV_yes hb, rootV_yes h]
  have hd := allIn_get h3 hi
  refine checkV_true (by omega) (digs' (Dag.proof_dig 4 l _ (digs h3))) ?_
  have := Dag.lead_proof 4 l i hi (by omega)
  rw [nth_getD] at this
  simpa only [Int.toNat_natCast] using this
/-- No other leaf has it. -/
theorem check_leaf {l : List Int} {i : Nat} (h : leavesB l = true) (hi : i < l.length) {x : Int} (hx : 0 ≤ x ∧ x ≤ 990) (hne : x ≠ nth l i) : checkV (rootV l) l.length i x (proofV l i) = false := by
  obtain ⟨h1, h2, h3⟩ := checkV_parts (check_proof h hi)
  refine checkV_lead fun e => hne ?_
  exact Dag.lead_node 4 _ _ _ _ _ _ hx ⟨h1.2.2.2.2.1, h1.2.2.2.2.2⟩ e h3
/-- A changed leaf changes the root. -/
theorem root_change {l : List Int} {k : Nat} (h : leavesB l = true) (hk : k < l.length) {x : Int} (hx : 0 ≤ x ∧ x ≤ 990) (hne : x ≠ nth l k) : rootV (l.set k x) ≠ rootV l := by
  obtain ⟨h1, h2, h3⟩ := leavesB_parts h
  have h3' : allIn 0 990 (l.set k x) = true := allIn_true fun j hj => by
    have hj' : j < l.length := by simpa using hj
    rw [nth_set l k j x hj']
    split
    · exact hx
    · exact allIn_get h3 hj'
  have h' : leavesB (l.set k x) = true := leavesB_true h3' (by simpa using h1) (by simpa using h2)
  rw [rootV_yes h, rootV_yes h']
  refine Dag.root_ne 4 _ _ k (by simp) (by simp; omega) (digs h3') (digs h3) (by simpa using hk) (fun j hj => ?_) ?_
  · rw [nth_getD, nth_getD]
    by_cases hjl : j < l.length
    · rw [nth_set l k j x hjl, if_neg hj]
    · simp [nth, List.getElem?_eq_none (show l.length ≤ j by omega), List.getElem?_eq_none (show (l.set k x).length ≤ j by simp; omega)]
  · rw [nth_getD, nth_getD, nth_set l k k x hk, if_pos rfl]
    exact hne
theorem root_one {a : Int} {t : List Int} (h : leavesB (a :: t) = true) : rootV [a] = a ∧ proofV [a] 0 = [] ∧ leavesB [a] = true := by
  obtain ⟨h1, h2, h3⟩ := leavesB_parts h
  have ha := allIn_mem h3 (x := a) (by simp)
  have h' : leavesB [a] = true := leavesB_true (by simp [allIn]; omega) (by simp) (by simp)
  refine ⟨by rw [rootV_yes h']; rfl, ?_, h'⟩
  have hb : proofB [a] 0 = true := by simp [proofB, h']
  rw [proofV_yes hb]; rfl
theorem root_two {a b : Int} (h : leavesB [a, b] = true) : rootV [a, b] = Dag.pair a b := by rw [rootV_yes h]; rfl
end Go.Proofs.Ytgmbacgpaagkhaa
