/- A grid of eight rows of nine numbers in memory, and the steps of elimination on it. No condition. -/
import Derived.Test.YtfkmiflddpjllaaOwn
import Derived.Test.YtfkmiflddpjllaaFld
namespace Go.Proofs.Ytfkmiflddpjllaa
open Go.RowKit
set_option linter.unusedVariables false
set_option linter.unusedSimpArgs false

/-- Block g holds eight rows of nine numbers. -/
def Grid (w : World) (g : Nat) (G : Nat → Nat → Int) : Prop :=
  ∃ (cs : Array Value) (t : TypeId), w.heap[g]? = some (.cells cs t (0, 0)) ∧ cs.size = 72 ∧ ∀ i j, i < 8 → j < 9 → cs[i * 9 + j]? = some (.int .i64 (G i j))
theorem Grid.lt {w : World} {g : Nat} {G : Nat → Nat → Int} (h : Grid w g G) : g < w.heap.size := by
  obtain ⟨cs, t, hh, _⟩ := h
  exact (Array.getElem?_eq_some_iff.1 hh).1
theorem Grid.cell {w : World} {g : Nat} {G : Nat → Nat → Int} (h : Grid w g G) {i j : Nat} (hi : i < 8) (hj : j < 9) : w.cell? ⟨g, i * 9 + j, none⟩ = some (.int .i64 (G i j)) := by
  obtain ⟨cs, t, hh, _, hc⟩ := h
  simp [World.cell?, hh, hc i j hi hj]
theorem Grid.frozen {w : World} {g : Nat} {G : Nat → Nat → Int} (h : Grid w g G) (k : Nat) : w.frozen? ⟨g, k, none⟩ = false := by
  obtain ⟨cs, t, hh, _⟩ := h
  simp [World.frozen?, hh]
theorem Grid.block {w w' : World} {g : Nat} {G : Nat → Nat → Int} (h : Grid w g G) (e : w'.heap[g]? = w.heap[g]?) : Grid w' g G := by
  obtain ⟨cs, t, hh, hr⟩ := h
  exact ⟨cs, t, e.trans hh, hr⟩
theorem Grid.below {w w' : World} {g B : Nat} {G : Nat → Nat → Int} (h : Grid w g G) (hb : Below B w w') (hg : g < B) : Grid w' g G := h.block (hb.block g hg)
theorem Grid.drewN {w : World} {g : Nat} {G : Nat → Nat → Int} (h : Grid w g G) (n : Nat) : Grid (w.drewN n) g G := h
theorem Grid.as {w : World} {g : Nat} {G G' : Nat → Nat → Int} (h : Grid w g G) (e : ∀ i j, i < 8 → j < 9 → G i j = G' i j) : Grid w g G' := by
  obtain ⟨cs, t, hh, hs, hc⟩ := h
  exact ⟨cs, t, hh, hs, fun i j hi hj => by rw [hc i j hi hj, e i j hi hj]⟩
/-- One cell changed. -/
def putG (G : Nat → Nat → Int) (a b : Nat) (v : Int) (i j : Nat) : Int := if i = a ∧ j = b then v else G i j
theorem Grid.set {w : World} {g : Nat} {G : Nat → Nat → Int} (h : Grid w g G) (a b : Nat) (v : Int) (ha : a < 8) (hb : b < 9) : Grid (w.setCell ⟨g, a * 9 + b, none⟩ (.int .i64 v)) g (putG G a b v) := by
  obtain ⟨cs, t, hh, hs, hc⟩ := h
  refine ⟨cs.setIfInBounds (a * 9 + b) (.int .i64 v), t, by simp [World.setCell, Array.getElem?_modify, hh], by simpa using hs, fun i j hi hj => ?_⟩
  rw [Array.getElem?_setIfInBounds]
  by_cases e : i = a ∧ j = b
  · obtain ⟨rfl, rfl⟩ := e
    rw [if_pos rfl, if_pos (by omega)]; simp [putG]
  · rw [if_neg (by omega), hc i j hi hj]; simp [putG, e]
theorem below_set {w w' : World} {B g : Nat} (h : Below B w w') (hg : B ≤ g) (k : Nat) (v : Value) : Below B w (w'.setCell ⟨g, k, none⟩ v) :=
  ⟨h.os, h.tape, h.output, by simpa [World.setCell] using h.size, fun i hi => (Below.heap_setCell _ _ _ _ (by simp; omega)).trans (h.block i hi)⟩

theorem below_drew {w w' : World} {B : Nat} (h : Below B w w') : Below B w w'.drew := ⟨h.os, h.tape, h.output, h.size, h.block⟩
theorem Grid.drew {w : World} {g : Nat} {G : Nat → Nat → Int} (h : Grid w g G) : Grid w.drew g G := h
/-- All are symbols. -/
def InG (G : Nat → Nat → Int) : Prop := ∀ i j, i < 8 → j < 9 → 0 ≤ G i j ∧ G i j ≤ 250
theorem InG.put {G : Nat → Nat → Int} (h : InG G) (a b : Nat) (v : Int) (h0 : 0 ≤ v) (h1 : v ≤ 250) : InG (putG G a b v) := fun i j hi hj => by
  unfold putG; split
  · exact ⟨h0, h1⟩
  · exact h i j hi hj

/-- The equations laid so far: k rows whole, m places of row k. -/
def Laid (n : Nat) (x v : Nat → Int) (k m : Nat) (G : Nat → Nat → Int) : Prop :=
  InG G ∧ (∀ i, i < k → (∀ j, j < n → G i j = Dag.pwm (x i) j) ∧ G i 8 = v i) ∧ ∀ j, j < m → G k j = Dag.pwm (x k) j
theorem Laid.zero (n : Nat) (x v : Nat → Int) : Laid n x v 0 0 (fun _ _ => 0) := ⟨fun _ _ _ _ => ⟨Int.le_refl _, show (0 : Int) ≤ 250 by decide⟩, fun i hi => absurd hi (by omega), fun j hj => absurd hj (by omega)⟩
theorem Laid.place {n : Nat} {x v : Nat → Int} {k m : Nat} {G : Nat → Nat → Int} (h : Laid n x v k m G) : Laid n x v k (m + 1) (putG G k m (Dag.pwm (x k) m)) := by
  obtain ⟨h1, h2, h3⟩ := h
  have hr := Dag.pwm_range (x k) m
  refine ⟨h1.put _ _ _ hr.1 (by omega), fun i hi => ⟨fun j hj => ?_, ?_⟩, fun j hj => ?_⟩
  · rw [putG, if_neg (by omega)]; exact (h2 i hi).1 j hj
  · rw [putG, if_neg (by omega)]; exact (h2 i hi).2
  · by_cases e : j = m
    · rw [putG, if_pos ⟨rfl, e⟩, e]
    · rw [putG, if_neg (by omega)]; exact h3 j (by omega)
theorem Laid.row {n : Nat} {x v : Nat → Int} {k : Nat} {G : Nat → Nat → Int} (h : Laid n x v k n G) (hn : n ≤ 8) (h0 : 0 ≤ v k) (hv1 : v k ≤ 250) : Laid n x v (k + 1) 0 (putG G k 8 (v k)) := by
  obtain ⟨h1, h2, h3⟩ := h
  refine ⟨h1.put _ _ _ h0 hv1, fun i hi => ⟨fun j hj => ?_, ?_⟩, fun j hj => absurd hj (by omega)⟩
  · rw [putG, if_neg (by omega)]
    by_cases e : i = k
    · rw [e]; exact h3 j hj
    · exact (h2 i (by omega)).1 j hj
  · by_cases e : i = k
    · rw [putG, if_pos ⟨e, rfl⟩, e]
    · rw [putG, if_neg (by omega)]; exact (h2 i (by omega)).2
theorem elim_as {n : Nat} {x v : Nat → Int} {p : Nat} {R R' : Nat → Nat → Int} {V V' : Nat → Int} (h : Dag.Elim n x v p R V) (hp : p ≤ n) (e : ∀ i j, i < n → j < n → R i j = R' i j) (e' : ∀ i, i < n → V i = V' i) : Dag.Elim n x v p R' V' := by
  refine ⟨fun i hi j hj => by rw [← e i j hi hj]; exact h.rr i hi j hj, fun i hi => by rw [← e' i hi]; exact h.rv i hi, fun i hi j hj => by rw [← e i j hi (by omega)]; exact h.unit i hi j hj, fun m h1 h2 c t hh => h.sol m h1 h2 c t fun i hi => ?_⟩
  rw [Dag.dot_congr m (R i) (R' i) c c (fun j hj => e i j (by omega) (by omega)) (fun _ _ => rfl), e' i (by omega)]
  exact hh i hi
theorem Laid.elim {n : Nat} {x v : Nat → Int} {G : Nat → Nat → Int} (h : Laid n x v n 0 G) (hn : n ≤ 8) : Dag.Elim n x v 0 G (fun i => G i 8) :=
  elim_as (Dag.elim_start n x v (fun i hi => by rw [← (h.2.1 i hi).2]; have := h.1 i 8 (by omega) (by omega); omega)) (Nat.zero_le _) (fun i j hi hj => ((h.2.1 i hi).1 j hj).symm) (fun i hi => (h.2.1 i hi).2.symm)

/-- The pivot's row scaled up to place m. -/
def scaled (G : Nat → Nat → Int) (p : Nat) (s : Int) (m i j : Nat) : Int := if i = p ∧ j < m then G p j * s % 251 else G i j
/-- The rows below q done, and of row q the first m places. -/
def part (G : Nat → Nat → Int) (p : Nat) (s : Int) (q m i j : Nat) : Int :=
  if i = p then G p j * s % 251 else if i < q ∨ (i = q ∧ j < m) then (G i j + (251 - G i p) * (G p j * s % 251)) % 251 else G i j
theorem scaled_zero (G : Nat → Nat → Int) (p : Nat) (s : Int) (i j : Nat) : G i j = scaled G p s 0 i j := by simp [scaled]
theorem scaled_at (G : Nat → Nat → Int) (p : Nat) (s : Int) (m : Nat) : scaled G p s m p m = G p m := by simp [scaled]
theorem scaled_put (G : Nat → Nat → Int) (p : Nat) (s : Int) (m i j : Nat) : putG (scaled G p s m) p m (G p m * s % 251) i j = scaled G p s (m + 1) i j := by
  unfold putG scaled
  by_cases e : i = p
  · subst e
    by_cases e2 : j = m
    · subst e2; simp
    · by_cases e3 : j < m
      · simp [e2, e3, Nat.lt_succ_of_lt e3]
      · simp [e2, e3, show ¬ j < m + 1 by omega]
  · simp [e]
theorem scaled_all (G : Nat → Nat → Int) (p : Nat) (s : Int) (i j : Nat) (hj : j < 9) : scaled G p s 9 i j = part G p s 0 0 i j := by
  unfold scaled part
  by_cases e : i = p <;> simp [e, hj]
theorem part_at (G : Nat → Nat → Int) (p : Nat) (s : Int) (q m j : Nat) (hq : q ≠ p) (hj : m ≤ j) : part G p s q m q j = G q j := by
  simp [part, hq]; omega
theorem part_piv (G : Nat → Nat → Int) (p : Nat) (s : Int) (q m j : Nat) : part G p s q m p j = G p j * s % 251 := by simp [part]
theorem part_put (G : Nat → Nat → Int) (p : Nat) (s : Int) (q m i j : Nat) (hq : q ≠ p) : putG (part G p s q m) q m ((G q m + (251 - G q p) * (G p m * s % 251)) % 251) i j = part G p s q (m + 1) i j := by
  unfold putG part
  by_cases e : i = p
  · subst e; simp [Ne.symm hq]
  · by_cases e1 : i = q
    · subst e1
      by_cases e2 : j = m
      · subst e2; simp [e]
      · by_cases e3 : j < m
        · simp [e2, e3, Nat.lt_succ_of_lt e3, e]
        · simp [e2, e3, e, show ¬ j < m + 1 by omega]
    · simp [e, e1]
theorem part_row (G : Nat → Nat → Int) (p : Nat) (s : Int) (q i j : Nat) (hj : j < 9) : part G p s q 9 i j = part G p s (q + 1) 0 i j := by
  unfold part
  by_cases e : i = p
  · simp [e]
  · by_cases e1 : i = q
    · subst e1; simp [e, hj]
    · by_cases e2 : i < q
      · simp [e, e2, Nat.lt_succ_of_lt e2]
      · simp [e, e1, e2, show ¬ i < q + 1 by omega]
theorem part_skip (G : Nat → Nat → Int) (hG : InG G) (p : Nat) (s : Int) (q i j : Nat) (hi : i < 8) (hj : j < 9) (h : q = p ∨ G q p = 0) : part G p s q 0 i j = part G p s (q + 1) 0 i j := by
  unfold part
  by_cases e : i = p
  · simp [e]
  · by_cases e1 : i = q
    · subst e1
      have h0 : G i p = 0 := h.resolve_left e
      have := hG i j hi hj
      simp [e, h0]
      omega
    · by_cases e2 : i < q
      · simp [e, e2, Nat.lt_succ_of_lt e2]
      · simp [e, e1, e2, show ¬ i < q + 1 by omega]
theorem scaled_in {G : Nat → Nat → Int} (h : InG G) (p : Nat) (s : Int) (m : Nat) : InG (scaled G p s m) := fun i j hi hj => by
  unfold scaled; split
  · omega
  · exact h i j hi hj
theorem part_in {G : Nat → Nat → Int} (h : InG G) (p : Nat) (s : Int) (q m : Nat) : InG (part G p s q m) := fun i j hi hj => by
  unfold part; split
  · omega
  · split
    · omega
    · exact h i j hi hj
theorem part_elim {n : Nat} {x v : Nat → Int} {p : Nat} {G : Nat → Nat → Int} (h : Dag.Elim n x v p G (fun i => G i 8)) (hp : p < n) (s : Int) (hs : (G p p * s) % 251 = 1) : Dag.Elim n x v (p + 1) (part G p s n 0) (fun i => part G p s n 0 i 8) :=
  elim_as (Dag.elim_step h hp s hs) (by omega) (fun i j hi hj => by simp [Dag.stepR, part, hi]) (fun i hi => by simp [Dag.stepV, part, hi])

end Go.Proofs.Ytfkmiflddpjllaa
