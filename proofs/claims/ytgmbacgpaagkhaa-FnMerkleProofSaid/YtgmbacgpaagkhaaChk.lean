/- Plain mathematics of the check of a proof, level by level. No condition. -/
import Derived.Test.YtgmbacgpaagkhaaPrf
namespace Go.Proofs.Ytgmbacgpaagkhaa
set_option linter.unusedVariables false
set_option linter.unusedSimpArgs false

/-- The number of nodes of a level. -/
def wid (size : Nat) : Nat → Nat
  | 0 => size
  | k + 1 => (wid size k + 1) / 2
theorem wid_pos {size : Nat} (h : 1 ≤ size) : ∀ k, 1 ≤ wid size k
  | 0 => h
  | k + 1 => by have := wid_pos h k; unfold wid; omega
theorem wid_le {size : Nat} (h1 : 1 ≤ size) (h : size ≤ 16) : ∀ k, wid size k ≤ 16
  | 0 => h
  | k + 1 => by have := wid_le h1 h k; unfold wid; omega
theorem wid_stop {size : Nat} (h : size ≤ 16) {k : Nat} (hk : ∀ j, j < k → 1 < wid size j) : k ≤ 4 := by
  by_cases h4 : k ≤ 4
  · exact h4
  · exfalso
    have h5 := hk 4 (by omega)
    have e0 : wid size 0 = size := rfl
    have e1 : wid size 1 = (wid size 0 + 1) / 2 := rfl
    have e2 : wid size 2 = (wid size 1 + 1) / 2 := rfl
    have e3 : wid size 3 = (wid size 2 + 1) / 2 := rfl
    have e4 : wid size 4 = (wid size 3 + 1) / 2 := rfl
    omega
theorem wid_idx {size i : Nat} (hi : i < size) : ∀ k, i / 2 ^ k < wid size k
  | 0 => by simpa [wid] using hi
  | k + 1 => by
    have := wid_idx hi k
    rw [wid, Nat.pow_succ, ← Nat.div_div_eq_div_mul]
    omega
theorem sib_wid {iv wd : Nat} (h : iv < wd) (hs : Dag.sib iv < wd) : 1 < wd := by
  unfold Dag.sib at hs
  split at hs <;> omega
/-- Where the check stands when k levels are done. -/
def Lead (size i : Nat) (leaf : Int) (proof : List Int) (k : Nat) (node : Int) (used : Nat) : Prop :=
  used ≤ proof.length ∧ (0 ≤ node ∧ node ≤ 990) ∧ Dag.leadN 4 size i leaf proof = Dag.leadN (4 - k) (wid size k) (i / 2 ^ k) node (proof.drop used)
theorem Lead.zero {size i : Nat} {leaf : Int} {proof : List Int} (h0 : 0 ≤ leaf) (h1 : leaf ≤ 990) : Lead size i leaf proof 0 leaf 0 := ⟨Nat.zero_le _, ⟨h0, h1⟩, by simp [wid]⟩
theorem idx_succ (i k : Nat) : i / 2 ^ (k + 1) = i / 2 ^ k / 2 := by rw [Nat.pow_succ, Nat.div_div_eq_div_mul]
theorem lead_skip {f size i : Nat} {n : Int} {ps : List Int} (h : 1 < size) (hs : ¬ Dag.sib i < size) : Dag.leadN (f + 1) size i n ps = Dag.leadN f ((size + 1) / 2) (i / 2) n ps := by
  rw [Dag.leadN.eq_def]; simp only [if_pos h, if_neg hs]
theorem lead_use {f size i : Nat} {n p : Int} {ps : List Int} (h : 1 < size) (hs : Dag.sib i < size) : Dag.leadN (f + 1) size i n (p :: ps) = Dag.leadN f ((size + 1) / 2) (i / 2) (if i % 2 = 0 then Dag.pair n p else Dag.pair p n) ps := by
  rw [Dag.leadN.eq_def]; simp only [if_pos h, if_pos hs]
theorem lead_short {f size i : Nat} {n : Int} (h : 1 < size) (hs : Dag.sib i < size) : Dag.leadN (f + 1) size i n [] = none := by
  rw [Dag.leadN.eq_def]; simp only [if_pos h, if_pos hs]
theorem lead_small {f size i : Nat} {n : Int} {ps : List Int} (h : size ≤ 1) : Dag.leadN f size i n ps = if ps = [] then some n else none := by
  cases f with
  | zero => rfl
  | succ f => rw [Dag.leadN.eq_def]; simp only [if_neg (show ¬ 1 < size by omega)]
theorem Lead.skip {size i : Nat} {leaf : Int} {proof : List Int} {k : Nat} {node : Int} {used : Nat} (h : Lead size i leaf proof k node used) (h16 : size ≤ 16) (hk : ∀ j, j < k → 1 < wid size j) (hs : ¬ Dag.sib (i / 2 ^ k) < wid size k) : Lead size i leaf proof (k + 1) node used := by
  refine ⟨h.1, h.2.1, ?_⟩
  rw [h.2.2, idx_succ, wid]
  by_cases hw : 1 < wid size k
  · have : k ≤ 3 := by
      have := wid_stop h16 (k := k + 1) (fun j hj => by
        by_cases e : j = k
        · rw [e]; exact hw
        · exact hk j (by omega))
      omega
    rw [show 4 - k = (4 - (k + 1)) + 1 by omega, lead_skip hw hs]
  · rw [lead_small (by omega), lead_small (by omega)]
theorem Lead.use {size i : Nat} {leaf : Int} {proof : List Int} {k : Nat} {node : Int} {used : Nat} (h : Lead size i leaf proof k node used) (h16 : size ≤ 16) (hk : ∀ j, j < k → 1 < wid size j) (hi : i / 2 ^ k < wid size k) (hs : Dag.sib (i / 2 ^ k) < wid size k) (hu : used < proof.length) :
    Lead size i leaf proof (k + 1) (if i / 2 ^ k % 2 = 0 then Dag.pair node (nth proof used) else Dag.pair (nth proof used) node) (used + 1) := by
  have hw := sib_wid hi hs
  have : k ≤ 3 := by
    have := wid_stop h16 (k := k + 1) (fun j hj => by
      by_cases e : j = k
      · rw [e]; exact hw
      · exact hk j (by omega))
    omega
  refine ⟨by omega, ?_, ?_⟩
  · split <;> exact Dag.pair_dig _ _
  · rw [h.2.2, idx_succ, wid, show 4 - k = (4 - (k + 1)) + 1 by omega, List.drop_eq_getElem_cons hu, lead_use hw hs, ← nth_lt hu]
theorem Lead.short {size i : Nat} {leaf : Int} {proof : List Int} {k : Nat} {node : Int} {used : Nat} (h : Lead size i leaf proof k node used) (h16 : size ≤ 16) (hk : ∀ j, j < k → 1 < wid size j) (hi : i / 2 ^ k < wid size k) (hs : Dag.sib (i / 2 ^ k) < wid size k) (hu : used = proof.length) :
    Dag.leadN 4 size i leaf proof = none := by
  have hw := sib_wid hi hs
  have : k ≤ 3 := by
    have := wid_stop h16 (k := k + 1) (fun j hj => by
      by_cases e : j = k
      · rw [e]; exact hw
      · exact hk j (by omega))
    omega
  rw [h.2.2, show 4 - k = (4 - (k + 1)) + 1 by omega, hu, List.drop_length, lead_short hw hs]
theorem Lead.fin {size i : Nat} {leaf : Int} {proof : List Int} {k : Nat} {node : Int} {used : Nat} (h : Lead size i leaf proof k node used) (hw : wid size k ≤ 1) :
    Dag.leadN 4 size i leaf proof = if used = proof.length then some node else none := by
  rw [h.2.2, lead_small hw]
  have := h.1
  by_cases e : used = proof.length
  · rw [if_pos e, e, List.drop_length, if_pos rfl]
  · rw [if_neg e, if_neg]
    intro h0
    have := congrArg List.length h0
    simp at this
    omega
def headB (size i leaf : Int) : Bool := decide (1 ≤ size ∧ size ≤ 16 ∧ 0 ≤ i ∧ i < size ∧ 0 ≤ leaf ∧ leaf ≤ 990)
def checkV (root size i leaf : Int) (proof : List Int) : Bool := headB size i leaf && allIn 0 990 proof && decide (Dag.leadN 4 size.toNat i.toNat leaf proof = some root)
theorem checkV_head {root size i leaf : Int} {proof : List Int} (h : ¬ (1 ≤ size ∧ size ≤ 16 ∧ 0 ≤ i ∧ i < size ∧ 0 ≤ leaf ∧ leaf ≤ 990)) : checkV root size i leaf proof = false := by
  unfold checkV headB; rw [decide_eq_false h]; rfl
theorem checkV_proof {root size i leaf : Int} {proof : List Int} (h : allIn 0 990 proof = false) : checkV root size i leaf proof = false := by
  unfold checkV; rw [h]; simp
theorem checkV_lead {root size i leaf : Int} {proof : List Int} (h : ¬ Dag.leadN 4 size.toNat i.toNat leaf proof = some root) : checkV root size i leaf proof = false := by
  unfold checkV; rw [decide_eq_false h]; simp
theorem checkV_true {root size i leaf : Int} {proof : List Int} (h : 1 ≤ size ∧ size ≤ 16 ∧ 0 ≤ i ∧ i < size ∧ 0 ≤ leaf ∧ leaf ≤ 990) (h1 : allIn 0 990 proof = true) (h2 : Dag.leadN 4 size.toNat i.toNat leaf proof = some root) : checkV root size i leaf proof = true := by
  unfold checkV headB; rw [decide_eq_true h, h1, decide_eq_true h2]; rfl
theorem checkV_fin {root : Int} {size i : Nat} {leaf : Int} {proof : List Int} {k : Nat} {node : Int} {used : Nat} (h : Lead size i leaf proof k node used) (hw : wid size k ≤ 1) (hh : 1 ≤ size ∧ size ≤ 16 ∧ i < size ∧ 0 ≤ leaf ∧ leaf ≤ 990) (h1 : allIn 0 990 proof = true) :
    checkV root size i leaf proof = (decide (used = proof.length) && (node == root)) := by
  have hf := h.fin hw
  by_cases e : used = proof.length
  · rw [if_pos e] at hf
    by_cases e2 : node = root
    · rw [checkV_true (by omega) h1 (by simpa [e2] using hf)]
      simp [e, e2]
    · rw [checkV_lead (by simp only [Int.toNat_natCast]; rw [hf]; simpa using e2)]
      simp [e, e2]
  · rw [if_neg e] at hf
    rw [checkV_lead (by simp only [Int.toNat_natCast]; rw [hf]; simp)]
    simp [e]
end Go.Proofs.Ytgmbacgpaagkhaa
