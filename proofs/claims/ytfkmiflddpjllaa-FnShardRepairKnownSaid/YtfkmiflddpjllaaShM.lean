/- Lists of shards in memory; rows of rows of integers in memory. No condition. -/
import Derived.Test.YtfkmiflddpjllaaShP
import Derived.Test.YtfkmiflddpjllaaApp
namespace Go.Proofs.Ytfkmiflddpjllaa
open Go.RowKit
set_option linter.unusedVariables false
set_option linter.unusedSimpArgs false

/-- The slice with address A and the length of l reads as the shards l, in blocks below B. -/
def ShL (w : World) (B : Nat) (A : Option Addr) (l : List Sh) : Prop :=
  l ≠ [] → ∃ b off, A = some ⟨b, off, none⟩ ∧ b < B ∧ ∀ j, j < l.length → w.cell? ⟨b, off + j * 2, none⟩ = some (.int .i64 (num_ l j)) ∧
    ∃ A' c', w.cell? ⟨b, off + j * 2 + 1, none⟩ = some (.slice A' (val_ l j).length c') ∧ (val_ l j).length ≤ c' ∧ Sl w B A' (val_ l j)
theorem ShL.nil (w : World) (B : Nat) (A : Option Addr) : ShL w B A [] := fun h => absurd rfl h
theorem ShL.below {w w' : World} {B : Nat} {A : Option Addr} {l : List Sh} (h : ShL w B A l) (hb : Below B w w') : ShL w' B A l := fun hl => by
  obtain ⟨b, off, e, hlt, hc⟩ := h hl
  refine ⟨b, off, e, hlt, fun j hj => ?_⟩
  obtain ⟨h1, A', c', h2, h3, h4⟩ := hc j hj
  exact ⟨(hb.cell (p := ⟨b, off + j * 2, none⟩) hlt).trans h1, A', c', (hb.cell (p := ⟨b, off + j * 2 + 1, none⟩) hlt).trans h2, h3, h4.below hb⟩
theorem ShL.more {w : World} {B B' : Nat} {A : Option Addr} {l : List Sh} (h : ShL w B A l) (hB : B ≤ B') : ShL w B' A l := fun hl => by
  obtain ⟨b, off, e, hlt, hc⟩ := h hl
  refine ⟨b, off, e, by omega, fun j hj => ?_⟩
  obtain ⟨h1, A', c', h2, h3, h4⟩ := hc j hj
  exact ⟨h1, A', c', h2, h3, h4.more hB⟩
theorem ShL.at_ {w : World} {B : Nat} {A : Option Addr} {l : List Sh} (h : ShL w B A l) {k : Nat} (hk : k < l.length) :
    ∃ b off A' c', A = some ⟨b, off, none⟩ ∧ b < B ∧ w.cell? ⟨b, off + k * 2, none⟩ = some (.int .i64 (num_ l k)) ∧ w.cell? ⟨b, off + k * 2 + 1, none⟩ = some (.slice A' (val_ l k).length c') ∧ (val_ l k).length ≤ c' ∧ Sl w B A' (val_ l k) := by
  obtain ⟨b, off, e, hlt, hc⟩ := h (by intro e; rw [e] at hk; simp at hk)
  obtain ⟨h1, A', c', h2, h3, h4⟩ := hc k hk
  exact ⟨b, off, A', c', e, hlt, h1, h2, h3, h4⟩
theorem ShL.take {w : World} {B : Nat} {A : Option Addr} {l : List Sh} (h : ShL w B A l) (n : Nat) : ShL w B A (l.take n) := fun hl => by
  obtain ⟨b, off, e, hlt, hc⟩ := h (by intro e; rw [e] at hl; simp at hl)
  refine ⟨b, off, e, hlt, fun j hj => ?_⟩
  have hj' : j < n ∧ j < l.length := by simp at hj; omega
  have e1 : num_ (l.take n) j = num_ l j := by simp [num_, hj'.1]
  have e2 : val_ (l.take n) j = val_ l j := by simp [val_, hj'.1]
  rw [e1, e2]
  exact hc j hj'.2

/-- A row of numbers given by its places. -/
def rowL (m : Nat) (f : Nat → Int) : List Int := (List.range m).map f
theorem rowL_len (m : Nat) (f : Nat → Int) : (rowL m f).length = m := by simp [rowL]
theorem rowL_nth (m : Nat) (f : Nat → Int) {j : Nat} (h : j < m) : nth (rowL m f) j = f j := by simp [rowL, nth, h]
theorem rowL_succ (m : Nat) (f : Nat → Int) : rowL m f ++ [f m] = rowL (m + 1) f := by simp [rowL, List.range_succ]
theorem rowL_as {m : Nat} {f f' : Nat → Int} (h : ∀ j, j < m → f j = f' j) : rowL m f = rowL m f' := by
  unfold rowL; exact List.map_congr_left fun j hj => h j (List.mem_range.1 hj)

/-- A row of k slices of m numbers that the call made. -/
def RowV (m : Nat) (h : Nat × Nat) : Value := .slice (some ⟨h.1, 0, none⟩) m h.2
def RowsF (w : World) (n0 g c m k : Nat) (R : Nat → Nat → Int) : Prop :=
  ∃ hs : Nat → Nat × Nat, w.ownsRow n0 26 1 (.slice (some ⟨g, 0, none⟩) k c) k ((List.range k).map fun i => RowV m (hs i)) ∧
    ∀ i, i < k → n0 ≤ (hs i).1 ∧ (hs i).1 ≠ g ∧ Wr w (hs i).1 (rowL m (R i))
theorem RowsF.own {w : World} {n0 g c m k : Nat} {R : Nat → Nat → Int} (h : RowsF w n0 g c m k R) : n0 ≤ g ∧ g < w.heap.size := by
  obtain ⟨hs, ho, _⟩ := h
  exact ⟨(World.ownsRow.lt ho g rfl).1, (World.ownsRow.lt ho g rfl).2⟩
theorem RowsF.at_ {w : World} {n0 g c m k : Nat} {R : Nat → Nat → Int} (h : RowsF w n0 g c m k R) {i : Nat} (hi : i < k) :
    ∃ b cb, n0 ≤ b ∧ b ≠ g ∧ b < w.heap.size ∧ Wr w b (rowL m (R i)) ∧ w.cell? ⟨g, i, none⟩ = some (.slice (some ⟨b, 0, none⟩) m cb) ∧ w.frozen? ⟨g, i, none⟩ = false := by
  obtain ⟨hs, ho, hr⟩ := h
  obtain ⟨h1, h2, h3⟩ := hr i hi
  have hc := ho.cells (g := g) rfl i (RowV m (hs i)) (by simp [hi])
  have hf : w.frozen? ⟨g, i, none⟩ = false := by
    rcases ho.2 with ⟨h1, _⟩ | ⟨g', cap, cur, h1, hg, hh, hn, hm, hs, ht⟩
    · simp at h1
    · simp only [Value.slice.injEq, Option.some.injEq, Addr.mk.injEq, and_true, true_and] at h1
      obtain ⟨rfl, rfl⟩ := h1
      simp [World.frozen?, hh]
  refine ⟨(hs i).1, (hs i).2, h1, h2, h3.lt, h3, ?_, hf⟩
  by_cases hz : i = 0
  · subst hz; simpa [Addr.add, RowV] using hc
  · simpa [Addr.add, hz, RowV] using hc
theorem RowsF.made (w : World) (n0 m : Nat) (R : Nat → Nat → Int) (hB : n0 ≤ w.heap.size) : RowsF (w.alloc (.cells #[] 26)) n0 w.heap.size 0 m 0 R :=
  ⟨fun _ => (0, 0), World.ownsRow_made w #[] 0 hB (by simp [maxLen]) (by simp), fun i hi => absurd hi (by omega)⟩
theorem RowsF.below {w w' : World} {n0 g c m k : Nat} {R : Nat → Nat → Int} (h : RowsF w n0 g c m k R) (hb : Below w.heap.size w w') : RowsF w' n0 g c m k R := by
  have hg := h.own.2
  obtain ⟨hs, ho, hr⟩ := h
  refine ⟨hs, ⟨ho.1, ?_⟩, fun i hi => ⟨(hr i hi).1, (hr i hi).2.1, (hr i hi).2.2.below hb (hr i hi).2.2.lt⟩⟩
  rcases ho.2 with h1 | ⟨g', cap, cur, h1, h2, hh, hrr⟩
  · exact .inl h1
  · have : g' = g := by simp only [Value.slice.injEq, Option.some.injEq, Addr.mk.injEq, and_true, true_and] at h1; omega
    subst this
    exact .inr ⟨g', cap, cur, h1, h2, (hb.block g' hg).trans hh, hrr⟩
theorem RowsF.drew {w : World} {n0 g c m k : Nat} {R : Nat → Nat → Int} (h : RowsF w n0 g c m k R) : RowsF w.drew n0 g c m k R := h
theorem RowsF.as {w : World} {n0 g c m k : Nat} {R R' : Nat → Nat → Int} (h : RowsF w n0 g c m k R) (e : ∀ i j, i < k → j < m → R i j = R' i j) : RowsF w n0 g c m k R' := by
  obtain ⟨hs, ho, hr⟩ := h
  exact ⟨hs, ho, fun i hi => ⟨(hr i hi).1, (hr i hi).2.1, by rw [← rowL_as (fun j hj => e i j hi hj)]; exact (hr i hi).2.2⟩⟩
def putR (R : Nat → Nat → Int) (i : Nat) (f : Nat → Int) (a b : Nat) : Int := if a = i then f b else R a b
theorem set_range_map {α : Type} (k i : Nat) (F : Nat → α) (x : α) (hi : i < k) : ((List.range k).map F).set i x = (List.range k).map (fun j => if j = i then x else F j) := by
  apply List.ext_getElem (by simp)
  intro j h1 h2
  rw [List.getElem_set]
  by_cases e : i = j
  · subst e; simp
  · rw [if_neg e]; simp [Ne.symm e]
theorem RowsF.set {w : World} {n0 g c m k : Nat} {R : Nat → Nat → Int} (h : RowsF w n0 g c m k R) {i b cb : Nat} {f : Nat → Int} (hi : i < k) (hb : n0 ≤ b) (hne : b ≠ g) (hw : Wr w b (rowL m f)) :
    RowsF (w.setCell ⟨g, i, none⟩ (.slice (some ⟨b, 0, none⟩) m cb)) n0 g c m k (putR R i f) := by
  obtain ⟨hs, ho, hr⟩ := h
  have hset : ∀ q, q ≠ g → (w.setCell ⟨g, i, none⟩ (.slice (some ⟨b, 0, none⟩) m cb)).heap[q]? = w.heap[q]? := fun q hq => Below.heap_setCell _ _ _ _ hq
  refine ⟨fun j => if j = i then (b, cb) else hs j, ⟨by simp, ?_⟩, fun j hj => ?_⟩
  · rcases ho.2 with ⟨h1, _⟩ | ⟨g', cap, cur, h1, hg, hh, hn, hm, hs', ht⟩
    · simp at h1
    · simp only [Value.slice.injEq, Option.some.injEq, Addr.mk.injEq, and_true, true_and] at h1
      obtain ⟨rfl, rfl⟩ := h1
      refine .inr ⟨g, c, cur.setIfInBounds i (RowV m (b, cb)), rfl, hg, by simp [World.setCell, Array.getElem?_modify, hh, RowV], hn, hm, by simpa using hs', ?_⟩
      rw [Array.toList_setIfInBounds, List.take_set, ht, set_range_map k i _ _ hi]
      exact List.map_congr_left fun j _ => by by_cases e : j = i <;> simp [e]
  · by_cases e : j = i
    · subst e
      simp only [if_pos]
      refine ⟨hb, hne, ?_⟩
      rw [show rowL m (putR R j f j) = rowL m f from rowL_as fun q _ => by simp [putR]]
      exact hw.block (hset _ hne)
    · simp only [if_neg e]
      obtain ⟨h1, h2, h3⟩ := hr j hj
      refine ⟨h1, h2, ?_⟩
      rw [show rowL m (putR R i f j) = rowL m (R j) from rowL_as fun q _ => by simp [putR, e]]
      exact h3.block (hset _ h2)

theorem info_ints : (Try.prog.info? 26).map (fun i => (i.zero, i.size, i.bytes)) = some (some (.slice none 0 0), 1, 24) := by kernel_rfl
theorem one_news (W : World) (g : Nat) (x : Value) (t : TypeId) (fr : Nat × Nat) (h : W.heap[g]? = some (.cells #[x] t fr)) : ∀ j u, [x][j]? = some u → W.cell? ((⟨g, 0, none⟩ : Addr).add j) = some u := World.news_of_block h
/-- One row more. -/
theorem wpList_row {W : World} {ops : Array Oper} {rest : List Oper} {o : Oper} {a : Act} {Q : Exit → Act → World → Prop} (hgd : o.guard = none) (s x : Operand)
    (ho : o.op = .call { callee := .builtin .append, args := #[s, x], argTypes := #[81, 81] }) (n0 g c m k : Nat) (R : Nat → Nat → Int) (b cb : Nat)
    (hs : a.eval s = .slice (some ⟨g, 0, none⟩) k c) (q : Nat) (hx : a.eval x = .slice (some ⟨q, 0, none⟩) 1 1) (hq : q = W.heap.size) (hown : RowsF W n0 g c m k R) (hk : k ≤ 1000000) (hB : n0 ≤ W.heap.size)
    (hb : n0 ≤ b) (hne : b ≠ g) (hw : Wr W b (rowL m (R k)))
    (h : ∀ g' c' w', RowsF w' n0 g' c' m (k + 1) R → W.grownBy w' (some g) → wpList Try.prog ops Q rest (a.put o.dst (.slice (some ⟨g', 0, none⟩) (k + 1) c')) w') :
    wpList Try.prog ops Q (o :: rest) a (W.alloc (.cells #[.slice (some ⟨b, 0, none⟩) m cb] 26)) := by
  subst hq
  obtain ⟨i0, hi, hz0, hz1, hz2⟩ := info_parts info_ints
  obtain ⟨hss, hoo, hr⟩ := hown
  have hlt := World.ownsRow.lt hoo g rfl
  refine wpList_app hgd s x 81 ho n0 26 i0 (.slice none 0 0) 1 24 Try.underlying81 hi hz0 hz1 hz2 rfl (by decide) g c k _ hs (World.ownsRow.alloc hoo _) ⟨W.heap.size, 0, none⟩ 1 1 [.slice (some ⟨b, 0, none⟩) m cb] hx rfl (one_new W _ _ _ rfl) (by simp [Value.oneCell']) (by simp only [maxLen]; omega) (by omega) (by simp; omega) ?_
  intro g' c' w' h1 h2 h3
  have h4 := unalloc _ h2
  refine h g' c' w' ⟨fun j => if j = k then (b, cb) else hss j, ?_, fun j hj => ?_⟩ h4
  · have e : (List.range (k + 1)).map (fun i => RowV m (if i = k then (b, cb) else hss i)) = (List.range k).map (fun i => RowV m (hss i)) ++ [.slice (some ⟨b, 0, none⟩) m cb] := by
      rw [List.range_succ, List.map_append]
      congr 1
      · exact List.map_congr_left fun j hj => by have := List.mem_range.1 hj; rw [if_neg (by omega)]
      · simp [RowV]
    rw [e]; exact h1
  · have hkeep : ∀ q l, q ≠ g → Wr W q l → Wr w' q l := fun q l hq hw => hw.block (h4.block q hw.lt (by simpa using hq))
    by_cases e : j = k
    · subst e
      simp only [if_pos]
      exact ⟨hb, by have := hw.lt; rcases h3 with e | e <;> (try simp at e) <;> omega, hkeep _ _ hne hw⟩
    · simp only [if_neg e]
      obtain ⟨q1, q2, q3⟩ := hr j (by omega)
      exact ⟨q1, by have := q3.lt; rcases h3 with e | e <;> (try simp at e) <;> omega, hkeep _ _ q2 q3⟩
end Go.Proofs.Ytfkmiflddpjllaa
