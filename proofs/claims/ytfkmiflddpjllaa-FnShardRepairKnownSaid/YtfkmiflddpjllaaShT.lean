/- Lists of shards as arguments: what their reading gives. No condition. -/
import Derived.Test.YtfkmiflddpjllaaShO
import Derived.Deep.SlicePairs
namespace Go.Proofs.Ytfkmiflddpjllaa
open Go.RowKit Go.ChangeShapes Go.WideShapes Go.Deep Go.ChangeAt
set_option linter.unusedVariables false
set_option linter.unusedSimpArgs false

theorem slice_of_trod {H : Type} {enc : TypeId × Value → H} {W : World} {fuel : Nat} {v : Value} {d : DataW H} {p : List MemPlace}
    (h : DataW.trod enc Try.prog W 0 (fun _ => true) true fuel 26 [v] = some (d, p)) : ∃ A n c zs, v = .slice A n c ∧ Ints .i64 W W.heap.size A n c zs := by
  have hs : ∃ A n c, v = .slice A n c := by
    rcases open_ints Try.underlying26 Try.underlying3 (by kernel_rfl) h with ⟨hcs, _⟩ | ⟨x, l, c', zs, hcs, _⟩
    · exact ⟨none, 0, 0, by simpa using hcs⟩
    · exact ⟨some x, l, c', by simpa using hcs⟩
  obtain ⟨A, n, c, rfl⟩ := hs
  obtain ⟨zs, hz⟩ := ints_of_trod (A := A) (n := n) (c := c) Try.underlying26 Try.underlying3 (by kernel_rfl) ⟨fuel, h⟩
  exact ⟨A, n, c, zs, rfl, hz⟩

/-- The slice with address A, n elements and capacity c holds the shards l. -/
def ShardsAt (w : World) (A : Option Addr) (n c : Nat) (l : List Sh) : Prop := n = l.length ∧ n ≤ c ∧ c ≤ maxLen ∧ ShL w w.heap.size A l ∧ ∀ j, j < l.length → (val_ l j).length ≤ maxLen
theorem shards_of_trod {H : Type} {enc : TypeId × Value → H} {W : World} {A : Option Addr} {n c : Nat} {d : DataW H} {p : List MemPlace}
    (h : DataW.Trod enc Try.prog W 0 (fun _ => true) true 39 (.slice A n c) d p) : ∃ l, ShardsAt W A n c l := by
  obtain ⟨fuel, hf⟩ := h
  rcases open_slice_pairs Try.underlying39 Try.underlying46 (by kernel_rfl) rfl rfl (by kernel_rfl) (by kernel_rfl) hf with ⟨hcs, _⟩ | ⟨x, len, cap, m, n', V0, V1, D0, D1, P0, P1, hcs, _, hl, hm, hmm, _, hi⟩
  · simp [Value.cells] at hcs
    obtain ⟨rfl, rfl, rfl⟩ := hcs
    exact ⟨[], rfl, Nat.le_refl _, by simp [maxLen], ShL.nil _ _ _, fun j hj => by simp at hj⟩
  · simp [Value.cells] at hcs
    obtain ⟨rfl, rfl, rfl⟩ := hcs
    have hmc : n ≤ m := by simp at hmm; omega
    have hv : ∀ i, i < n → ∃ q : Int × List Int × Option Addr × Nat, W.cell? (x.add (i * 2)) = some (.int .i64 q.1) ∧ W.cell? (x.add (i * 2 + 1)) = some (.slice q.2.2.1 q.2.1.length q.2.2.2) ∧ q.2.1.length ≤ q.2.2.2 ∧ q.2.1.length ≤ maxLen ∧ Sl W W.heap.size q.2.2.1 q.2.1 := fun i hin => by
      obtain ⟨g0, g1, t0, t1⟩ := hi i (by omega)
      obtain ⟨a, e0, _, _⟩ := DataW.trod_int Try.underlying3 t0
      obtain ⟨A', n1, c1, zs, e1, hz⟩ := slice_of_trod t1
      simp at e0
      obtain ⟨hn1, hsl⟩ := Sl.of_ints hz
      refine ⟨(a, zs, A', c1), by rw [g0, e0], by rw [g1, e1, hn1], by have := hz.2.1; simp; omega, by have h1 := hz.2.1; have h2 := hz.2.2.1; simp; omega, hsl⟩
    have hch : ∃ f : Nat → Int × List Int × Option Addr × Nat, ∀ i, i < n → W.cell? (x.add (i * 2)) = some (.int .i64 (f i).1) ∧ W.cell? (x.add (i * 2 + 1)) = some (.slice (f i).2.2.1 (f i).2.1.length (f i).2.2.2) ∧ (f i).2.1.length ≤ (f i).2.2.2 ∧ (f i).2.1.length ≤ maxLen ∧ Sl W W.heap.size (f i).2.2.1 (f i).2.1 := by
      refine ⟨fun i => if h : i < n then (hv i h).choose else (0, [], none, 0), fun i hin => ?_⟩
      simp only [dif_pos hin]
      exact (hv i hin).choose_spec
    obtain ⟨f, hf'⟩ := hch
    have e1 : ∀ j, j < n → num_ ((List.range n).map fun i => ((f i).1, (f i).2.1)) j = (f j).1 := fun j hj => by simp [num_, hj]
    have e2 : ∀ j, j < n → val_ ((List.range n).map fun i => ((f i).1, (f i).2.1)) j = (f j).2.1 := fun j hj => by simp [val_, hj]
    refine ⟨(List.range n).map fun i => ((f i).1, (f i).2.1), by simp, hl, hm, fun hne => ?_, fun j hj => ?_⟩
    · have hn0 : 0 < n := by
        rcases Nat.eq_zero_or_pos n with h0 | h0
        · subst h0; simp at hne
        · exact h0
      obtain ⟨b, off, spot⟩ := x
      have h0 := (hf' 0 hn0).1
      have hspot : spot = none := by simpa [Addr.add] using World.cell?_spot h0
      subst hspot
      refine ⟨b, off, rfl, by simpa [Addr.add] using World.block_lt_of_cell? W _ h0, fun j hj => ?_⟩
      have hj' : j < n := by simpa using hj
      obtain ⟨q1, q2, q3, q4, q5⟩ := hf' j hj'
      rw [e1 j hj', e2 j hj']
      refine ⟨?_, (f j).2.2.1, (f j).2.2.2, by simpa [Addr.add, Nat.add_assoc] using q2, q3, q5⟩
      by_cases hz : j = 0
      · subst hz; simpa [Addr.add] using q1
      · simpa [Addr.add, show ¬ j * 2 = 0 by omega] using q1
    · have hj' : j < n := by simpa using hj
      rw [e2 j hj']; exact (hf' j hj').2.2.2.1
end Go.Proofs.Ytfkmiflddpjllaa
