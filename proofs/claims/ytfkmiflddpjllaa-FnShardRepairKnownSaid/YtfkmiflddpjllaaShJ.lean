/- Plain mathematics of the reference's joining: columns are gathered; the symbols of parts of a coin. No condition. -/
import Derived.Test.YtfkmiflddpjllaaShP
namespace Go.Proofs.Ytfkmiflddpjllaa
set_option linter.unusedVariables false
set_option linter.unusedSimpArgs false

/-- The symbols of the first k columns. -/
def AllI (need : Nat) (l : List Sh) (k : Nat) (all : List Int) : Prop :=
  all.length = k * need ∧ allIn 0 250 all = true ∧ ∀ c, c < k → ∀ i, i < need → Dag.ev (col all need c) (num_ l i) = nth (val_ l i) c
theorem AllI.zero (need : Nat) (l : List Sh) : AllI need l 0 [] := ⟨by simp, rfl, fun c hc => absurd hc (by omega)⟩
theorem allIn_app {a b : List Int} (ha : allIn 0 250 a = true) (hb : allIn 0 250 b = true) : allIn 0 250 (a ++ b) = true := by
  unfold allIn at *; rw [List.all_append, ha, hb]; rfl
theorem AllI.step {need : Nat} {l : List Sh} {k : Nat} {all cs : List Int} (h : AllI need l k all) (hcl : cs.length = need) (hcr : allIn 0 250 cs = true) (he : ∀ i, i < need → Dag.ev cs (num_ l i) = nth (val_ l i) k) : AllI need l (k + 1) (all ++ cs) := by
  obtain ⟨h1, h2, h3⟩ := h
  refine ⟨by rw [List.length_append, h1, hcl, Nat.add_mul, Nat.one_mul], allIn_app h2 hcr, fun c hc i hi => ?_⟩
  by_cases e : c = k
  · have : col (all ++ cs) need c = cs := by
      unfold col; rw [e, ← h1, List.drop_left, List.take_of_length_le (by omega)]
    rw [this, he i hi, e]
  · have hle : c * need + need ≤ all.length := by
      have : (c + 1) * need ≤ k * need := Nat.mul_le_mul_right _ (by omega)
      rw [Nat.add_mul, Nat.one_mul] at this; omega
    have : col (all ++ cs) need c = col all need c := by
      unfold col
      rw [List.drop_append_of_le_length (by omega), List.take_append_of_le_length (by simp; omega)]
    rw [this]; exact h3 c (by omega) i hi
theorem padB_at {size : Nat} {all : List Int} (k : Nat) (hk : size ≤ k) (hl : k < all.length) (h : nth all k ≠ 0) : padB size all = false := by
  cases e : padB size all with
  | false => rfl
  | true =>
    simp only [padB, List.all_eq_true, decide_eq_true_eq] at e
    refine absurd (e _ ?_) h
    rw [nth_lt hl]
    exact List.mem_drop_iff_getElem.2 ⟨k - size, by omega, by simp only [show size + (k - size) = k by omega]⟩
theorem padB_true {size : Nat} {all : List Int} (h : ∀ j, size ≤ j → j < all.length → nth all j = 0) : padB size all = true := by
  simp only [padB, List.all_eq_true, decide_eq_true_eq]
  intro x hx
  obtain ⟨i, hi, rfl⟩ := List.mem_drop_iff_getElem.1 hx
  have hi' : size + i < all.length := by omega
  have := h (size + i) (by omega) hi'
  rwa [nth_lt hi'] at this
end Go.Proofs.Ytfkmiflddpjllaa
