/- Rows of integers that a call made: written, marked, held. Conditions: at most two million elements. -/
import Derived.Test.YtfkmiflddpjllaaInts
import Derived.Maps.AppendAt
import Derived.OwnWalk
namespace Go.Proofs.Ytfkmiflddpjllaa
open Go.RowKit
set_option linter.unusedVariables false
set_option linter.unusedSimpArgs false

/-- Block g may be written, and its first cells hold l. -/
def Wr (w : World) (g : Nat) (l : List Int) : Prop :=
  ∃ (cs : Array Value) (t : TypeId), w.heap[g]? = some (.cells cs t (0, 0)) ∧ l.length ≤ cs.size ∧ ∀ j, j < l.length → cs[j]? = some (.int .i64 (nth l j))
theorem Wr.lt {w : World} {g : Nat} {l : List Int} (h : Wr w g l) : g < w.heap.size := by
  obtain ⟨cs, t, hh, _⟩ := h
  exact (Array.getElem?_eq_some_iff.1 hh).1
theorem Wr.cell {w : World} {g : Nat} {l : List Int} (h : Wr w g l) {j : Nat} (hj : j < l.length) : w.cell? ⟨g, j, none⟩ = some (.int .i64 (nth l j)) := by
  obtain ⟨cs, t, hh, _, hc⟩ := h
  simp [World.cell?, hh, hc j hj]
theorem Wr.frozen {w : World} {g : Nat} {l : List Int} (h : Wr w g l) (j : Nat) : w.frozen? ⟨g, j, none⟩ = false := by
  obtain ⟨cs, t, hh, _⟩ := h
  simp [World.frozen?, hh]
theorem Wr.block {w w' : World} {g : Nat} {l : List Int} (h : Wr w g l) (e : w'.heap[g]? = w.heap[g]?) : Wr w' g l := by
  obtain ⟨cs, t, hh, hr⟩ := h
  exact ⟨cs, t, e.trans hh, hr⟩
theorem Wr.sl {w : World} {g : Nat} {l : List Int} (h : Wr w g l) : Sl w (g + 1) (some ⟨g, 0, none⟩) l :=
  fun _ => ⟨g, 0, rfl, by omega, fun j hj => by rw [Nat.zero_add]; exact h.cell hj⟩
theorem Wr.sl' {w : World} {g : Nat} {l : List Int} (h : Wr w g l) : Sl w w.heap.size (some ⟨g, 0, none⟩) l := h.sl.more h.lt
theorem Wr.below {w w' : World} {g B : Nat} {l : List Int} (h : Wr w g l) (hb : Below B w w') (hg : g < B) : Wr w' g l := h.block (hb.block g hg)
theorem Wr.drewN {w : World} {g : Nat} {l : List Int} (h : Wr w g l) (n : Nat) : Wr (w.drewN n) g l := h
theorem Wr.drew {w : World} {g : Nat} {l : List Int} (h : Wr w g l) : Wr w.drew g l := h
theorem nth_set (l : List Int) (k j : Nat) (v : Int) (hj : j < l.length) : nth (l.set k v) j = if j = k then v else nth l j := by
  by_cases e : j = k
  · subst e; simp [nth, hj]
  · simp [nth, e, List.getElem?_set_ne (fun h => e h.symm)]
theorem Wr.set {w : World} {g : Nat} {l : List Int} (h : Wr w g l) (k : Nat) (v : Int) (hk : k < l.length) : Wr (w.setCell ⟨g, k, none⟩ (.int .i64 v)) g (l.set k v) := by
  obtain ⟨cs, t, hh, hs, hc⟩ := h
  refine ⟨cs.setIfInBounds k (.int .i64 v), t, by simp [World.setCell, Array.getElem?_modify, hh], by simpa using hs, fun j hj => ?_⟩
  have hj' : j < l.length := by simpa using hj
  rw [nth_set l k j v hj', Array.getElem?_setIfInBounds]
  by_cases e : j = k
  · subst e; simp; omega
  · rw [if_neg (fun h => e h.symm), if_neg e]; exact hc j hj'
theorem Wr.of_row {w : World} {b n : Nat} {t : TypeId} {l : List Int} (h : w.rowIs b t n (fun j => .int .i64 (nth l j))) (hn : l.length ≤ n) : Wr w b l := by
  obtain ⟨c, hb, hs, hc⟩ := h
  exact ⟨c, t, hb, by omega, fun j hj => hc j (by omega)⟩

/-- A row of ints that the call made. -/
def OwnI (w : World) (B g c : Nat) (l : List Int) : Prop := w.ownsRow B 3 1 (.slice (some ⟨g, 0, none⟩) l.length c) l.length (l.map (Value.int .i64))
theorem OwnI.parts {w : World} {B g c : Nat} {l : List Int} (h : OwnI w B g c l) : B ≤ g ∧ g < w.heap.size ∧ l.length ≤ c ∧ c ≤ maxLen ∧ Wr w g l := by
  rcases h.2 with ⟨h1, _⟩ | ⟨g', cap, cur, h1, hg, hh, hn, hm, hs, ht⟩
  · simp at h1
  · simp only [Value.slice.injEq, Option.some.injEq, Addr.mk.injEq, and_true, true_and] at h1
    obtain ⟨rfl, rfl⟩ := h1
    refine ⟨hg, (Array.getElem?_eq_some_iff.1 hh).1, hn, hm, cur, _, hh, by omega, fun j hj => ?_⟩
    have e : (cur.toList.take (l.length * 1))[j]? = (l.map (Value.int .i64))[j]? := by rw [ht]
    rw [List.getElem?_take_of_lt (by omega), Array.getElem?_toList] at e
    rw [e, nth_lt hj]
    simp [hj]
/-- Behind an append of one. -/
theorem own_snoc {w : World} {B : Nat} {l : List Int} {v : Value} {x : Int} (h : w.ownsRow B 3 1 v (l.length + 1) (l.map (Value.int .i64) ++ [.int .i64 x])) : ∃ g c, v = .slice (some ⟨g, 0, none⟩) (l.length + 1) c ∧ OwnI w B g c (l ++ [x]) := by
  rcases h.2 with ⟨h1, h2⟩ | ⟨g, cap, cur, h1, _⟩
  · omega
  · refine ⟨g, cap, h1, ?_⟩
    subst h1
    unfold OwnI
    simpa using h
theorem OwnI.made (w : World) (B : Nat) (hB : B ≤ w.heap.size) : OwnI (w.alloc (.cells #[] 3)) B w.heap.size 0 [] := World.ownsRow_made w #[] 0 hB (by simp [maxLen]) (by simp)
theorem OwnI.kept {w w' : World} {B g c : Nat} {l : List Int} {row : Option Nat} (h : OwnI w B g c l) (hg : w.grownBy w' row) (hne : row ≠ some g) : OwnI w' B g c l := World.ownsRow.kept h hg (.inr (fun e => hne e.symm))
theorem OwnI.below {w w' : World} {B g c D : Nat} {l : List Int} (h : OwnI w B g c l) (hb : Below D w w') (hg : g < D) : OwnI w' B g c l := by
  refine ⟨h.1, ?_⟩
  rcases h.2 with h1 | ⟨g', cap, cur, h1, h2, hh, hr⟩
  · exact .inl h1
  · have : g' = g := by simp only [Value.slice.injEq, Option.some.injEq, Addr.mk.injEq, and_true, true_and] at h1; omega
    subst this
    exact .inr ⟨g', cap, cur, h1, h2, (hb.block g' hg).trans hh, hr⟩
theorem one_new (W : World) (b : Nat) (x : Value) (t : TypeId) (hb : b = W.heap.size) : ∀ j u, [x][j]? = some u → (W.alloc (.cells #[x] t)).cell? ((⟨b, 0, none⟩ : Addr).add j) = some u := by
  subst hb
  intro j u hu
  have e := heap_alloc_new W (.cells #[x] t)
  match j with
  | 0 => simp at hu; subst hu; simp only [Addr.add, if_pos, World.cell?]; rw [e]; rfl
  | j + 1 => simp at hu

/-- The call returned the list in a block of its own. -/
def FreshI (l : List Int) (w : World) (e : Ending) (w' : World) : Prop :=
  ∃ g c, w.heap.size ≤ g ∧ e = .returned (.slice (some ⟨g, 0, none⟩) l.length c) ∧ Wr w' g l ∧ l.length ≤ c ∧ c ≤ maxLen ∧ Below w.heap.size w w'

end Go.Proofs.Ytfkmiflddpjllaa
