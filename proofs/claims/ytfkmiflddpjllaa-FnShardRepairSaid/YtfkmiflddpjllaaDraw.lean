/- A reader and a row of numbers that is being drawn: picked, appended. Conditions: few picks, few numbers. -/
import Derived.Test.YtfkmiflddpjllaaApp
import Derived.Test.YtfkmiflddpjllaaRd
namespace Go.Proofs.Ytfkmiflddpjllaa
open Go.RowKit
set_option linter.unusedVariables false
set_option linter.unusedSimpArgs false

theorem RdAt.grown {w w' : World} {B g p : Nat} {row : Option Nat} (h : RdAt w B g p) (hg : w.grownBy w' row) (hr : row ≠ some g) (hB : ∀ k, row = some k → B ≤ k) : RdAt w' B g p := by
  have hlt := h.lt
  obtain ⟨hB0, A, n, c, zs, hh, hi⟩ := h
  refine ⟨hB0, A, n, c, zs, (hg.block g hlt (fun e => hr e.symm)).trans hh, hi.below ⟨hg.os, hg.tape, hg.output, hg.size, fun k hk => hg.block k (by omega) (fun e => by have := hB k e.symm; omega)⟩⟩
theorem RdAt.below {w w' : World} {B g p D : Nat} (h : RdAt w B g p) (hb : Below D w w') (hg : g < D) : RdAt w' B g p := by
  obtain ⟨hB0, A, n, c, zs, hh, hi⟩ := h
  exact ⟨hB0, A, n, c, zs, (hb.block g hg).trans hh, hi.below (hb.mono (by omega))⟩

/-- Reader gr at place p, own row g with numbers l, all else below as it was. -/
def Dr (w0 : World) (gr p g c : Nat) (l : List Int) (w : World) : Prop :=
  RdAt w w0.heap.size gr p ∧ OwnI w w0.heap.size g c l ∧ g ≠ gr ∧ Below w0.heap.size w0 w
theorem Dr.alloc {w0 w : World} {gr p g c : Nat} {l : List Int} (h : Dr w0 gr p g c l w) (o : Obj) : Dr w0 gr p g c l (w.alloc o) := ⟨h.1.alloc o, h.2.1.alloc o, h.2.2.1, h.2.2.2.alloc h.2.2.2.size o⟩
theorem Dr.pick {w0 w : World} {gr p g c : Nat} {l : List Int} (h : Dr w0 gr p g c l w) (m : Int) (hp : p ≤ 1000000) (hm : 1 ≤ m) :
    Calls Try.prog 52 #[.pointer (some ⟨gr, 0, none⟩), .int .i64 m] w fun e w' => ∃ v : Int, e = .returned (.int .i64 v) ∧ 0 ≤ v ∧ v < m ∧ Dr w0 gr (p + 1) g c l w' := by
  obtain ⟨h1, h2, h3, h4⟩ := h
  refine (pick_any m _ gr p w h1 hp hm).mono ?_
  rintro e w' ⟨v, rfl, hv0, hv1, hr, hg, hs⟩
  exact ⟨v, rfl, hv0, hv1, hr, h2.kept hg (fun e => h3 (by injection e with e; exact e.symm)), h3, h4.trans (grown_below hg h1.1 h4.size)⟩
theorem Dr.pick' {w0 w : World} {gr p g c : Nat} {l : List Int} (h : Dr w0 gr p g c l w) (m : Int) (hp : p ≤ 1000000) (hm : 1 ≤ m) :
    Calls Try.prog 52 #[.pointer (some ⟨gr, 0, none⟩), .int .i64 m] w fun e w' => ∃ v : Int, e = .returned (.int .i64 v) ∧ 0 ≤ v ∧ v < m ∧ Dr w0 gr (p + 1) g c l w' ∧ w.grownBy w' (some gr) := by
  obtain ⟨h1, h2, h3, h4⟩ := h
  refine (pick_any m _ gr p w h1 hp hm).mono ?_
  rintro e w' ⟨v, rfl, hv0, hv1, hr, hg, hs⟩
  exact ⟨v, rfl, hv0, hv1, ⟨hr, h2.kept hg (fun e => h3 (by injection e with e; exact e.symm)), h3, h4.trans (grown_below hg h1.1 h4.size)⟩, hg⟩
theorem Dr.grown {w0 w w' : World} {gr p g c g' c' : Nat} {l l' : List Int} (h : Dr w0 gr p g c l w) (ho : OwnI w' w0.heap.size g' c' l') (hg : w.grownBy w' (some g)) (hf : g' = g ∨ w.heap.size ≤ g') : Dr w0 gr p g' c' l' w' := by
  obtain ⟨h1, h2, h3, h4⟩ := h
  have hge := h2.parts.1
  have hlt := h1.lt
  exact ⟨h1.grown hg (fun e => h3 (by injection e)) (fun k e => by injection e with e; omega), ho, by rcases hf with e | e <;> omega, h4.grown hg h4.size (fun k e => by injection e with e; omega)⟩
theorem Dr.start {w0 w1 : World} (hr : RdAt w1 w0.heap.size w0.heap.size 0) (hb : Below w0.heap.size w0 w1) (hs : w1.heap.size = w0.heap.size + 1) : Dr w0 w0.heap.size 0 (w0.heap.size + 1) 0 [] (w1.alloc (.cells #[] 3)) :=
  ⟨hr.alloc _, by rw [← hs]; exact OwnI.made w1 _ (by omega), by omega, hb.alloc (by omega) _⟩
theorem OwnI.set {w : World} {B g c : Nat} {l : List Int} (h : OwnI w B g c l) (k : Nat) (v : Int) (hk : k < l.length) : OwnI (w.setCell ⟨g, k, none⟩ (.int .i64 v)) B g c (l.set k v) := by
  unfold OwnI at h ⊢
  obtain ⟨h0, h⟩ := h
  refine ⟨by simp, ?_⟩
  rcases h with ⟨h1, _⟩ | ⟨g', cap, cur, h1, hg, hh, hn, hm, hs, ht⟩
  · simp at h1
  · simp only [Value.slice.injEq, Option.some.injEq, Addr.mk.injEq, and_true, true_and] at h1
    obtain ⟨rfl, rfl⟩ := h1
    refine .inr ⟨g, c, cur.setIfInBounds k (.int .i64 v), by simp, hg, by simp [World.setCell, Array.getElem?_modify, hh], by simpa using hn, hm, by simpa using hs, ?_⟩
    rw [Array.toList_setIfInBounds, List.take_set, List.length_set, ht, List.map_set]
theorem Dr.set {w0 w : World} {gr p g c : Nat} {l : List Int} (h : Dr w0 gr p g c l w) (k : Nat) (v : Int) (hk : k < l.length) : Dr w0 gr p g c (l.set k v) (w.setCell ⟨g, k, none⟩ (.int .i64 v)) := by
  obtain ⟨h1, h2, h3, h4⟩ := h
  have hg := grown_set w ⟨g, k, none⟩ (.int .i64 v)
  exact ⟨h1.grown hg (fun e => h3 (by injection e)) (fun j e => by have e' : g = j := (by injection e); have := h2.parts.1; omega), h2.set k v hk, h3, h4.setCell (p := ⟨g, k, none⟩) h2.parts.1 _⟩
theorem OwnI.frozen {w : World} {B g c : Nat} {l : List Int} (h : OwnI w B g c l) (j : Nat) : w.frozen? ⟨g, j, none⟩ = false := h.parts.2.2.2.2.frozen j
theorem OwnI.cell {w : World} {B g c : Nat} {l : List Int} (h : OwnI w B g c l) {j : Nat} (hj : j < l.length) : w.cell? ⟨g, j, none⟩ = some (.int .i64 (nth l j)) := h.parts.2.2.2.2.cell hj
theorem OwnI.nil {w : World} {B g c : Nat} {l : List Int} (h : OwnI w B g c l) : OwnI w B g c [] := by
  rcases h.2 with ⟨h1, _⟩ | ⟨g', cap, cur, h1, hg, hh, hn, hm, hs, ht⟩
  · simp at h1
  · simp only [Value.slice.injEq, Option.some.injEq, Addr.mk.injEq, and_true, true_and] at h1
    obtain ⟨rfl, rfl⟩ := h1
    exact ⟨by simp, .inr ⟨g, c, cur, rfl, hg, hh, Nat.zero_le _, hm, hs, by simp⟩⟩
theorem cells_new3 (W : World) (x y z : Value) (t : TypeId) : (W.alloc (.cells #[x, y, z] t)).cell? ⟨W.heap.size, 0, none⟩ = some x ∧ (W.alloc (.cells #[x, y, z] t)).cell? ⟨W.heap.size, 1, none⟩ = some y ∧ (W.alloc (.cells #[x, y, z] t)).cell? ⟨W.heap.size, 2, none⟩ = some z := by
  have e := heap_alloc_new W (.cells #[x, y, z] t)
  refine ⟨?_, ?_, ?_⟩ <;> (simp only [World.cell?]; rw [e]; rfl)
theorem pick3 {W W' : World} {x y z : Int} {t : TypeId} {gr : Nat} (hgr : gr < W.heap.size) (hg : (W.alloc (.cells #[.int .i64 x, .int .i64 y, .int .i64 z] t)).grownBy W' (some gr)) (v : Int) (h0 : 0 ≤ v) (h1 : v < 3) : ∃ u : Int, W'.cell? ⟨W.heap.size, v.toNat, none⟩ = some (.int .i64 u) := by
  obtain ⟨k0, k1, k2⟩ := cells_new3 W (.int .i64 x) (.int .i64 y) (.int .i64 z) t
  have hne : some W.heap.size ≠ some gr := by simp; omega
  have hv : v = 0 ∨ v = 1 ∨ v = 2 := by omega
  rcases hv with rfl | rfl | rfl
  · exact ⟨x, hg.cell k0 hne⟩
  · exact ⟨y, hg.cell k1 hne⟩
  · exact ⟨z, hg.cell k2 hne⟩
/-- A list of numbers that was drawn. -/
def ListPost (n : Nat) (w : World) (e : Ending) (w' : World) : Prop :=
  ∃ (g c : Nat) (l : List Int), w.heap.size ≤ g ∧ e = .returned (.slice (some ⟨g, 0, none⟩) l.length c) ∧ Wr w' g l ∧ l.length ≤ n ∧ l.length ≤ c ∧ c ≤ maxLen ∧ Below w.heap.size w w'
end Go.Proofs.Ytfkmiflddpjllaa
