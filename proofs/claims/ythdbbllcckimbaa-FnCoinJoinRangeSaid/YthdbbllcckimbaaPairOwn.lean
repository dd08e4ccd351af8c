/- Rows of pairs that a call made. Conditions: sizes within a million. -/
import Derived.Test.YthdbbllcckimbaaParts
import Derived.Test.YthdbbllcckimbaaApp
namespace Go.Proofs.Ythdbbllcckimbaa
open Go.RowKit
set_option linter.unusedVariables false
set_option linter.unusedSimpArgs false

def cells2 (l : List (Int × Int)) : List Value := l.flatMap fun p => [.int .i64 p.1, .int .i64 p.2]
theorem cells2_len (l : List (Int × Int)) : (cells2 l).length = l.length * 2 := by
  induction l with
  | nil => rfl
  | cons p t ih => simp only [cells2, List.flatMap_cons, List.length_append] at ih ⊢; simp [ih]; omega
theorem cells2_get (l : List (Int × Int)) : ∀ j, j < l.length → (cells2 l)[j * 2]? = some (.int .i64 (fst_ l j)) ∧ (cells2 l)[j * 2 + 1]? = some (.int .i64 (snd_ l j)) := by
  induction l with
  | nil => intro j hj; simp at hj
  | cons p t ih =>
    intro j hj
    match j with
    | 0 => simp [cells2, fst_, snd_]
    | j + 1 =>
      have := ih j (by simpa using hj)
      have e1 : (j + 1) * 2 = j * 2 + 2 := by omega
      simpa [cells2, fst_, snd_, e1] using this
theorem cells2_snoc (l : List (Int × Int)) (p : Int × Int) : cells2 (l ++ [p]) = cells2 l ++ [.int .i64 p.1, .int .i64 p.2] := by simp [cells2]
theorem Pl.of_own {w : World} {base : Nat} {t : TypeId} {A : Option Addr} {c : Nat} {l : List (Int × Int)} (h : w.ownsRow base t 2 (.slice A l.length c) l.length (cells2 l)) : Pl w w.heap.size A l := fun hl => by
  have hpos : 0 < l.length := List.length_pos_iff.2 hl
  rcases h.2 with ⟨h1, h2⟩ | ⟨g, cap, cur, h1, hg, hh, _⟩
  · omega
  · have hA : A = some ⟨g, 0, none⟩ := by injection h1
    subst hA
    have hc := h.cells (g := g) rfl
    refine ⟨g, 0, rfl, (Array.getElem?_eq_some_iff.1 hh).1, fun j hj => ?_⟩
    have := cells2_get l j hj
    have e1 := hc _ _ this.1
    have e2 := hc _ _ this.2
    refine ⟨?_, by simpa [Addr.add] using e2⟩
    by_cases hz : j = 0
    · subst hz; simpa [Addr.add] using e1
    · simpa [Addr.add, show ¬ j * 2 = 0 by omega] using e1

theorem two_new (W : World) (b : Nat) (x y : Value) (t : TypeId) (hb : b = W.heap.size) : ∀ j u, [x, y][j]? = some u → (W.alloc (.cells #[x, y] t)).cell? ((⟨b, 0, none⟩ : Addr).add j) = some u := by
  subst hb
  intro j u hu
  have e := heap_alloc_new W (.cells #[x, y] t)
  match j with
  | 0 => simp at hu; subst hu; simp only [Addr.add, if_pos, World.cell?]; rw [e]; rfl
  | 1 => simp at hu; subst hu; simp only [Addr.add, World.cell?]; rw [if_neg (by decide)]; simp only []; rw [e]; rfl
  | j + 2 => simp at hu

theorem cells2_set (l : List (Int × Int)) (u : Nat) (y : Int) (hu : u < l.length) : (cells2 l).set (u * 2 + 1) (.int .i64 y) = cells2 (l.set u (fst_ l u, y)) := by
  induction l generalizing u with
  | nil => simp at hu
  | cons p t ih =>
    match u with
    | 0 => simp [cells2, fst_]
    | u + 1 =>
      have := ih u (by simpa using hu)
      have e1 : (u + 1) * 2 + 1 = u * 2 + 1 + 1 + 1 := by omega
      simp only [cells2, List.flatMap_cons, List.set_cons_succ, e1] at this ⊢
      simpa [fst_] using this

/-- A row of pairs that the call made. -/
def OwnP (w : World) (B g c : Nat) (l : List (Int × Int)) : Prop := w.ownsRow B 47 2 (.slice (some ⟨g, 0, none⟩) l.length c) l.length (cells2 l)
theorem OwnP.parts {w : World} {B g c : Nat} {l : List (Int × Int)} (h : OwnP w B g c l) : B ≤ g ∧ g < w.heap.size ∧ l.length ≤ c ∧ c ≤ maxLen ∧ Pl w w.heap.size (some ⟨g, 0, none⟩) l := by
  refine ⟨(World.ownsRow.lt h g rfl).1, (World.ownsRow.lt h g rfl).2, ?_, ?_, Pl.of_own h⟩ <;>
  · rcases h.2 with ⟨h1, _⟩ | ⟨g', cap, cur, h1, hg, hh, hn, hm, hs, ht⟩
    · simp at h1
    · simp only [Value.slice.injEq, Option.some.injEq, Addr.mk.injEq, and_true, true_and] at h1
      obtain ⟨rfl, rfl⟩ := h1
      assumption
theorem OwnP.made (w : World) (B : Nat) (hB : B ≤ w.heap.size) : OwnP (w.alloc (.cells #[] 47)) B w.heap.size 0 [] := World.ownsRow_made w #[] 0 hB (by simp [maxLen]) (by simp)
theorem OwnP.alloc {w : World} {B g c : Nat} {l : List (Int × Int)} (h : OwnP w B g c l) (o : Obj) : OwnP (w.alloc o) B g c l := World.ownsRow.alloc h o
theorem OwnP.kept {w w' : World} {B g c : Nat} {l : List (Int × Int)} {row : Option Nat} (h : OwnP w B g c l) (hg : w.grownBy w' row) (hne : row ≠ some g) : OwnP w' B g c l := World.ownsRow.kept h hg (.inr (fun e => hne e.symm))
theorem OwnP.below {w w' : World} {B g c D : Nat} {l : List (Int × Int)} (h : OwnP w B g c l) (hb : Below D w w') (hg : g < D) : OwnP w' B g c l := by
  refine ⟨h.1, ?_⟩
  rcases h.2 with h1 | ⟨g', cap, cur, h1, h2, hh, hr⟩
  · exact .inl h1
  · have : g' = g := by simp only [Value.slice.injEq, Option.some.injEq, Addr.mk.injEq, and_true, true_and] at h1; omega
    subst this
    exact .inr ⟨g', cap, cur, h1, h2, (hb.block g' hg).trans hh, hr⟩
theorem OwnP.frozen {w : World} {B g c : Nat} {l : List (Int × Int)} (h : OwnP w B g c l) (j : Nat) : w.frozen? ⟨g, j, none⟩ = false := by
  rcases h.2 with ⟨h1, _⟩ | ⟨g', cap, cur, h1, hg, hh, hn, hm, hs, ht⟩
  · simp at h1
  · simp only [Value.slice.injEq, Option.some.injEq, Addr.mk.injEq, and_true, true_and] at h1
    obtain ⟨rfl, rfl⟩ := h1
    simp [World.frozen?, hh]
theorem OwnP.set {w : World} {B g c : Nat} {l : List (Int × Int)} (h : OwnP w B g c l) (k : Nat) (y : Int) (hk : k < l.length) : OwnP (w.setCell ⟨g, k * 2 + 1, none⟩ (.int .i64 y)) B g c (l.set k (fst_ l k, y)) := by
  unfold OwnP at h ⊢
  obtain ⟨h0, h⟩ := h
  refine ⟨by rw [cells2_len], ?_⟩
  rcases h with ⟨h1, _⟩ | ⟨g', cap, cur, h1, hg, hh, hn, hm, hs, ht⟩
  · simp at h1
  · simp only [Value.slice.injEq, Option.some.injEq, Addr.mk.injEq, and_true, true_and] at h1
    obtain ⟨rfl, rfl⟩ := h1
    refine .inr ⟨g, c, cur.setIfInBounds (k * 2 + 1) (.int .i64 y), by simp, hg, by simp [World.setCell, Array.getElem?_modify, hh], by simpa using hn, hm, by simpa using hs, ?_⟩
    rw [Array.toList_setIfInBounds, List.take_set, List.length_set, ht, cells2_set l k y hk]
def FreshP (l : List (Int × Int)) (w : World) (e : Ending) (w' : World) : Prop :=
  ∃ g c, e = .returned (.slice (some ⟨g, 0, none⟩) l.length c) ∧ OwnP w' w.heap.size g c l ∧ Below w.heap.size w w'
/-- One pair more. -/
theorem wpList_two {W : World} {ops : Array Oper} {rest : List Oper} {o : Oper} {a : Act} {Q : Exit → Act → World → Prop} (hgd : o.guard = none) (s x : Operand)
    (ho : o.op = .call { callee := .builtin .append, args := #[s, x], argTypes := #[44, 44] }) (B g c : Nat) (l l' : List (Int × Int)) (y z : Int) (e : l ++ [(y, z)] = l')
    (hs : a.eval s = .slice (some ⟨g, 0, none⟩) l.length c) (m : Nat) (hx : a.eval x = .slice (some ⟨m, 0, none⟩) 1 1) (hm : m = W.heap.size) (hown : OwnP W B g c l) (hl : l.length ≤ 1000000) (hB : B ≤ W.heap.size)
    (h : ∀ g' c' w', OwnP w' B g' c' l' → W.grownBy w' (some g) → (g' = g ∨ W.heap.size ≤ g') → wpList Try.prog ops Q rest (a.put o.dst (.slice (some ⟨g', 0, none⟩) l'.length c')) w') :
    wpList Try.prog ops Q (o :: rest) a (W.alloc (.cells #[.int .i64 y, .int .i64 z] 47)) := by
  subst hm
  obtain ⟨i0, hi, hz0, hz1, hz2⟩ := info_parts info_el
  refine wpList_app hgd s x 44 ho B 47 i0 (.agg #[.int .i64 0, .int .i64 0]) 2 16 Try.underlying44 hi hz0 hz1 hz2 rfl (by decide) g c l.length _ hs (World.ownsRow.alloc hown _) ⟨W.heap.size, 0, none⟩ 1 1 [.int .i64 y, .int .i64 z] hx rfl (two_new W _ _ _ _ rfl) (by simp [Value.oneCell']) (by simp only [maxLen]; omega) (by omega) (by simp; omega) ?_
  intro g' c' w' h1 h2 h3
  have h4 : OwnP w' B g' c' l' := by subst e; unfold OwnP; rw [cells2_snoc]; simpa using h1
  have := h g' c' w' h4 (unalloc _ h2) (h3.imp_right fun e => by rw [e]; simp)
  rwa [show l'.length = l.length + 1 by rw [← e]; simp] at this
end Go.Proofs.Ythdbbllcckimbaa
