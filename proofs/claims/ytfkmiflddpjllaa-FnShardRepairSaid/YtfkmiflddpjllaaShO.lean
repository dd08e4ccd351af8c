/- Rows of shards that a call made; rows of integers that take a whole list more. Conditions: sizes within a million. -/
import Derived.Test.YtfkmiflddpjllaaShM
namespace Go.Proofs.Ytfkmiflddpjllaa
open Go.RowKit
set_option linter.unusedVariables false
set_option linter.unusedSimpArgs false

theorem Wr.news {w : World} {m : Nat} {xs : List Int} (h : Wr w m xs) : ∀ j u, (xs.map (Value.int .i64))[j]? = some u → w.cell? ((⟨m, 0, none⟩ : Addr).add j) = some u := by
  intro j u hu
  have hj : j < xs.length := by
    rcases Nat.lt_or_ge j xs.length with h | h
    · exact h
    · rw [List.getElem?_eq_none (by simpa using h)] at hu; cases hu
  have e : u = .int .i64 (nth xs j) := by rw [nth_lt hj]; simpa [hj] using hu.symm
  subst e
  by_cases hz : j = 0
  · subst hz; simpa [Addr.add] using h.cell hj
  · simpa [Addr.add, hz] using h.cell hj
/-- A list of numbers more, out of another row. -/
theorem wpList_many {W : World} {ops : Array Oper} {rest : List Oper} {o : Oper} {a : Act} {Q : Exit → Act → World → Prop} (hgd : o.guard = none) (s x : Operand)
    (ho : o.op = .call { callee := .builtin .append, args := #[s, x], argTypes := #[26, 26] }) (B g c : Nat) (l l' xs : List Int) (e : l ++ xs = l')
    (hs : a.eval s = .slice (some ⟨g, 0, none⟩) l.length c) (m cm n : Nat) (hx : a.eval x = .slice (some ⟨m, 0, none⟩) n cm) (hn : xs.length = n) (hm : Wr W m xs) (hown : OwnI W B g c l) (hl : l.length ≤ 1000000) (hxl : n ≤ 1000000) (hB : B ≤ W.heap.size)
    (h : ∀ g' c' w', OwnI w' B g' c' l' → W.grownBy w' (some g) → (g' = g ∨ W.heap.size ≤ g') → wpList Try.prog ops Q rest (a.put o.dst (.slice (some ⟨g', 0, none⟩) l'.length c')) w') :
    wpList Try.prog ops Q (o :: rest) a W := by
  subst hn
  obtain ⟨i0, hi, hz0, hz1, hz2⟩ := info_parts info_int
  refine wpList_app hgd s x 26 ho B 3 i0 (.int .i64 0) 1 8 Try.underlying26 hi hz0 hz1 hz2 rfl (by decide) g c l.length _ hs hown ⟨m, 0, none⟩ xs.length cm (xs.map (Value.int .i64)) hx (by simp) hm.news (fun u hu => by simp only [List.mem_map] at hu; obtain ⟨z, _, rfl⟩ := hu; rfl) (by simp only [maxLen]; omega) (by omega) hB ?_
  intro g' c' w' h1 h2 h3
  have h4 : OwnI w' B g' c' l' := by subst e; unfold OwnI; simpa using h1
  have := h g' c' w' h4 h2 (h3.imp_right fun e => by omega)
  rwa [show l'.length = l.length + xs.length by rw [← e]; simp] at this

/-- The cells of a row of shards whose values lie in the blocks H. -/
def cellsS : List Sh → (Nat → Nat × Nat) → List Value
  | [], _ => []
  | p :: t, H => .int .i64 p.1 :: .slice (some ⟨(H 0).1, 0, none⟩) p.2.length (H 0).2 :: cellsS t fun j => H (j + 1)
theorem cellsS_len (l : List Sh) : ∀ H, (cellsS l H).length = l.length * 2 := by
  induction l with
  | nil => intro H; rfl
  | cons p t ih => intro H; simp [cellsS, ih]; omega
theorem cellsS_get (l : List Sh) : ∀ H j, j < l.length → (cellsS l H)[j * 2]? = some (.int .i64 (num_ l j)) ∧ (cellsS l H)[j * 2 + 1]? = some (.slice (some ⟨(H j).1, 0, none⟩) (val_ l j).length (H j).2) := by
  induction l with
  | nil => intro H j hj; simp at hj
  | cons p t ih =>
    intro H j hj
    match j with
    | 0 => simp [cellsS, num_, val_]
    | j + 1 =>
      have := ih (fun j => H (j + 1)) j (by simpa using hj)
      have e1 : (j + 1) * 2 = j * 2 + 2 := by omega
      simpa [cellsS, num_, val_, e1] using this
theorem cellsS_as (l : List Sh) : ∀ H H', (∀ j, j < l.length → H j = H' j) → cellsS l H = cellsS l H' := by
  induction l with
  | nil => intro H H' _; rfl
  | cons p t ih =>
    intro H H' h
    have h0 := h 0 (by simp)
    simp only [cellsS, h0]
    rw [ih _ _ fun j hj => h (j + 1) (by simpa using hj)]
theorem cellsS_snoc (l : List Sh) (p : Sh) : ∀ H, cellsS (l ++ [p]) H = cellsS l H ++ [.int .i64 p.1, .slice (some ⟨(H l.length).1, 0, none⟩) p.2.length (H l.length).2] := by
  induction l with
  | nil => intro H; simp [cellsS]
  | cons q t ih => intro H; simp [cellsS, ih]
theorem cellsS_num (l : List Sh) : ∀ H (u : Nat) (y : Int), u < l.length → (cellsS l H).set (u * 2) (.int .i64 y) = cellsS (l.set u (y, val_ l u)) H := by
  induction l with
  | nil => intro H u y hu; simp at hu
  | cons p t ih =>
    intro H u y hu
    match u with
    | 0 => simp [cellsS, val_]
    | u + 1 =>
      have := ih (fun j => H (j + 1)) u y (by simpa using hu)
      have e1 : (u + 1) * 2 = u * 2 + 1 + 1 := by omega
      simp only [cellsS, e1, List.set_cons_succ]
      rw [this]
      simp [val_]
theorem cellsS_val (l : List Sh) : ∀ H (u : Nat) (vs : List Int), u < l.length → vs.length = (val_ l u).length → cellsS (l.set u (num_ l u, vs)) H = cellsS l H := by
  induction l with
  | nil => intro H u vs hu; simp at hu
  | cons p t ih =>
    intro H u vs hu hv
    match u with
    | 0 => simp [cellsS, num_, val_] at hv ⊢; exact hv
    | u + 1 =>
      have := ih (fun j => H (j + 1)) u vs (by simpa using hu) (by simpa [val_] using hv)
      simp only [List.set_cons_succ, cellsS]
      rw [show num_ (p :: t) (u + 1) = num_ t u by simp [num_], this]
def putH (H : Nat → Nat × Nat) (k : Nat) (x : Nat × Nat) (j : Nat) : Nat × Nat := if j = k then x else H j
theorem cellsS_slice (l : List Sh) : ∀ H (u : Nat) (vs : List Int) (x : Nat × Nat), u < l.length → (cellsS l H).set (u * 2 + 1) (.slice (some ⟨x.1, 0, none⟩) vs.length x.2) = cellsS (l.set u (num_ l u, vs)) (putH H u x) := by
  induction l with
  | nil => intro H u vs x hu; simp at hu
  | cons p t ih =>
    intro H u vs x hu
    match u with
    | 0 =>
      have e : cellsS t (fun j => H (j + 1)) = cellsS t fun j => putH H 0 x (j + 1) := cellsS_as _ _ _ fun j _ => by simp [putH]
      simp [cellsS, num_, putH, e]
    | u + 1 =>
      have := ih (fun j => H (j + 1)) u vs x (by simpa using hu)
      have e1 : (u + 1) * 2 + 1 = u * 2 + 1 + 1 + 1 := by omega
      have e : cellsS (t.set u (num_ t u, vs)) (putH (fun j => H (j + 1)) u x) = cellsS (t.set u (num_ t u, vs)) fun j => putH H (u + 1) x (j + 1) := cellsS_as _ _ _ fun j _ => by simp [putH]
      simp only [cellsS, e1, List.set_cons_succ]
      rw [this, e]
      simp [num_, putH]

theorem num_set (l : List Sh) (u j : Nat) (p : Sh) (hu : u < l.length) : num_ (l.set u p) j = if j = u then p.1 else num_ l j := by
  by_cases e : j = u
  · subst e; simp [num_, hu]
  · simp [num_, e, List.getElem?_set_ne (fun h => e h.symm)]
theorem val_set (l : List Sh) (u j : Nat) (p : Sh) (hu : u < l.length) : val_ (l.set u p) j = if j = u then p.2 else val_ l j := by
  by_cases e : j = u
  · subst e; simp [val_, hu]
  · simp [val_, e, List.getElem?_set_ne (fun h => e h.symm)]
theorem num_snoc (l : List Sh) (p : Sh) (j : Nat) (hj : j < l.length + 1) : num_ (l ++ [p]) j = if j = l.length then p.1 else num_ l j := by
  by_cases e : j = l.length
  · subst e; simp [num_]
  · simp [num_, e, List.getElem?_append_left (show j < l.length by omega)]
theorem val_snoc (l : List Sh) (p : Sh) (j : Nat) (hj : j < l.length + 1) : val_ (l ++ [p]) j = if j = l.length then p.2 else val_ l j := by
  by_cases e : j = l.length
  · subst e; simp [val_]
  · simp [val_, e, List.getElem?_append_left (show j < l.length by omega)]

/-- A row of shards that the call made, their values in blocks of the call's own. -/
def OwnS (w : World) (B g c : Nat) (l : List Sh) (H : Nat → Nat × Nat) : Prop :=
  w.ownsRow B 30 2 (.slice (some ⟨g, 0, none⟩) l.length c) l.length (cellsS l H) ∧
    ∀ j, j < l.length → B ≤ (H j).1 ∧ (H j).1 ≠ g ∧ Wr w (H j).1 (val_ l j) ∧ (val_ l j).length ≤ (H j).2
/-- The values lie in different blocks. -/
def Dst (H : Nat → Nat × Nat) (n : Nat) : Prop := ∀ i j, i < j → j < n → (H i).1 ≠ (H j).1
theorem Dst.put {H : Nat → Nat × Nat} {n : Nat} (h : Dst H n) (x : Nat × Nat) (hx : ∀ i, i < n → (H i).1 ≠ x.1) : Dst (putH H n x) (n + 1) := fun i j hij hj => by
  unfold putH
  rw [if_neg (by omega)]
  by_cases e : j = n
  · rw [if_pos e]; exact hx i (by omega)
  · rw [if_neg e]; exact h i j hij (by omega)
theorem row_block {w : World} {B g c n : Nat} {t : TypeId} {s : Nat} {xs : List Value} (h : w.ownsRow B t s (.slice (some ⟨g, 0, none⟩) n c) n xs) : ∃ cur, w.heap[g]? = some (.cells cur t (0, 0)) ∧ B ≤ g ∧ g < w.heap.size ∧ n ≤ c ∧ c ≤ maxLen ∧ cur.size = c * s ∧ cur.toList.take (n * s) = xs := by
  rcases h.2 with ⟨h1, _⟩ | ⟨g', cap, cur, h1, hg, hh, hn, hm, hs, ht⟩
  · simp at h1
  · simp only [Value.slice.injEq, Option.some.injEq, Addr.mk.injEq, and_true, true_and] at h1
    obtain ⟨rfl, rfl⟩ := h1
    exact ⟨cur, hh, hg, (Array.getElem?_eq_some_iff.1 hh).1, hn, hm, hs, ht⟩
theorem row_same {w w' : World} {B g c n : Nat} {t : TypeId} {s : Nat} {xs : List Value} (h : w.ownsRow B t s (.slice (some ⟨g, 0, none⟩) n c) n xs) (e : w'.heap[g]? = w.heap[g]?) : w'.ownsRow B t s (.slice (some ⟨g, 0, none⟩) n c) n xs := by
  obtain ⟨cur, h1, h2, h3, h4, h5, h6, h7⟩ := row_block h
  exact ⟨h.1, .inr ⟨g, c, cur, rfl, h2, e.trans h1, h4, h5, h6, h7⟩⟩
theorem OwnS.parts {w : World} {B g c : Nat} {l : List Sh} {H : Nat → Nat × Nat} (h : OwnS w B g c l H) : B ≤ g ∧ g < w.heap.size ∧ l.length ≤ c ∧ c ≤ maxLen := by
  obtain ⟨cur, h1, h2, h3, h4, h5, _⟩ := row_block h.1
  exact ⟨h2, h3, h4, h5⟩
theorem OwnS.frozen {w : World} {B g c : Nat} {l : List Sh} {H : Nat → Nat × Nat} (h : OwnS w B g c l H) (j : Nat) : w.frozen? ⟨g, j, none⟩ = false := by
  obtain ⟨cur, h1, _⟩ := row_block h.1
  simp [World.frozen?, h1]
theorem OwnS.at_ {w : World} {B g c : Nat} {l : List Sh} {H : Nat → Nat × Nat} (h : OwnS w B g c l H) {j : Nat} (hj : j < l.length) :
    w.cell? ⟨g, j * 2, none⟩ = some (.int .i64 (num_ l j)) ∧ w.cell? ⟨g, j * 2 + 1, none⟩ = some (.slice (some ⟨(H j).1, 0, none⟩) (val_ l j).length (H j).2) ∧ B ≤ (H j).1 ∧ (H j).1 ≠ g ∧ (H j).1 < w.heap.size ∧ Wr w (H j).1 (val_ l j) ∧ (val_ l j).length ≤ (H j).2 := by
  have hc := h.1.cells (g := g) rfl
  obtain ⟨e1, e2⟩ := cellsS_get l H j hj
  have q1 := hc _ _ e1
  have q2 := hc _ _ e2
  obtain ⟨r1, r2, r3, r4⟩ := h.2 j hj
  refine ⟨?_, by simpa [Addr.add] using q2, r1, r2, r3.lt, r3, r4⟩
  by_cases hz : j = 0
  · subst hz; simpa [Addr.add] using q1
  · simpa [Addr.add, show ¬ j * 2 = 0 by omega] using q1
theorem OwnS.shl {w : World} {B g c : Nat} {l : List Sh} {H : Nat → Nat × Nat} (h : OwnS w B g c l H) : ShL w w.heap.size (some ⟨g, 0, none⟩) l := fun hl =>
  ⟨g, 0, rfl, h.parts.2.1, fun j hj => by
    obtain ⟨c1, c2, c3, c4, c5, c6, c7⟩ := h.at_ hj
    exact ⟨by rw [Nat.zero_add]; exact c1, _, _, by rw [Nat.zero_add]; exact c2, c7, c6.sl'⟩⟩
theorem OwnS.same {w w' : World} {B g c : Nat} {l : List Sh} {H : Nat → Nat × Nat} (h : OwnS w B g c l H) (e : w'.heap[g]? = w.heap[g]?) (e' : ∀ j, j < l.length → w'.heap[(H j).1]? = w.heap[(H j).1]?) : OwnS w' B g c l H :=
  ⟨row_same h.1 e, fun j hj => by
    obtain ⟨r1, r2, r3, r4⟩ := h.2 j hj
    exact ⟨r1, r2, r3.block (e' j hj), r4⟩⟩
theorem OwnS.below {w w' : World} {B g c : Nat} {l : List Sh} {H : Nat → Nat × Nat} (h : OwnS w B g c l H) (hb : Below w.heap.size w w') : OwnS w' B g c l H :=
  h.same (hb.block g h.parts.2.1) fun j hj => hb.block _ (h.2 j hj).2.2.1.lt
theorem OwnS.alloc {w : World} {B g c : Nat} {l : List Sh} {H : Nat → Nat × Nat} (h : OwnS w B g c l H) (o : Obj) : OwnS (w.alloc o) B g c l H := h.below ((Below.refl _ _).alloc (Nat.le_refl _) o)
theorem OwnS.drew {w : World} {B g c : Nat} {l : List Sh} {H : Nat → Nat × Nat} (h : OwnS w B g c l H) : OwnS w.drew B g c l H := h
theorem OwnS.drewN {w : World} {B g c : Nat} {l : List Sh} {H : Nat → Nat × Nat} (h : OwnS w B g c l H) (n : Nat) : OwnS (w.drewN n) B g c l H := h
theorem OwnS.kept {w w' : World} {B g c r : Nat} {l : List Sh} {H : Nat → Nat × Nat} (h : OwnS w B g c l H) (hg : w.grownBy w' (some r)) (hr : r ≠ g) (hr' : ∀ j, j < l.length → r ≠ (H j).1) : OwnS w' B g c l H :=
  h.same (hg.block g h.parts.2.1 (fun e => hr (by injection e with e; exact e.symm))) fun j hj => hg.block _ (h.2 j hj).2.2.1.lt (fun e => hr' j hj (by injection e with e; exact e.symm))
theorem OwnS.made (w : World) (B : Nat) (H : Nat → Nat × Nat) (hB : B ≤ w.heap.size) : OwnS (w.alloc (.cells #[] 30)) B w.heap.size 0 [] H :=
  ⟨World.ownsRow_made w #[] 0 hB (by simp [maxLen]) (by simp), fun j hj => by simp at hj⟩
theorem OwnS.num {w : World} {B g c : Nat} {l : List Sh} {H : Nat → Nat × Nat} (h : OwnS w B g c l H) (k : Nat) (y : Int) (hk : k < l.length) : OwnS (w.setCell ⟨g, k * 2, none⟩ (.int .i64 y)) B g c (l.set k (y, val_ l k)) H := by
  obtain ⟨cur, h1, h2, h3, h4, h5, h6, h7⟩ := row_block h.1
  refine ⟨⟨by rw [cellsS_len], .inr ⟨g, c, cur.setIfInBounds (k * 2) (.int .i64 y), by simp, h2, by simp [World.setCell, Array.getElem?_modify, h1], by simpa using h4, h5, by simpa using h6, ?_⟩⟩, fun j hj => ?_⟩
  · rw [Array.toList_setIfInBounds, List.take_set, List.length_set, h7, cellsS_num l H k y hk]
  · have hj' : j < l.length := by simpa using hj
    obtain ⟨r1, r2, r3, r4⟩ := h.2 j hj'
    have e : val_ (l.set k (y, val_ l k)) j = val_ l j := by
      rw [val_set _ _ _ _ hk]; split
      · rename_i e; rw [e]
      · rfl
    rw [e]
    exact ⟨r1, r2, r3.block (Below.heap_setCell _ _ _ _ r2), r4⟩
/-- The values of shard k are others, as many. -/
theorem OwnS.vals {w w' : World} {B g c : Nat} {l : List Sh} {H : Nat → Nat × Nat} (h : OwnS w B g c l H) (k : Nat) (vs : List Int) (hk : k < l.length) (hv : vs.length = (val_ l k).length) (hd : Dst H l.length)
    (hg : w.grownBy w' (some (H k).1)) (hw : Wr w' (H k).1 vs) : OwnS w' B g c (l.set k (num_ l k, vs)) H := by
  obtain ⟨_, _, _, n1, n2, _, _⟩ := h.at_ hk
  refine ⟨?_, fun j hj => ?_⟩
  · rw [cellsS_val l H k vs hk hv, List.length_set]
    exact row_same h.1 (hg.block g h.parts.2.1 (fun e => n1 (by injection e with e; exact e.symm)))
  · have hj' : j < l.length := by simpa using hj
    obtain ⟨r1, r2, r3, r4⟩ := h.2 j hj'
    rw [val_set _ _ _ _ hk]
    by_cases e : j = k
    · subst e; rw [if_pos rfl]; exact ⟨r1, r2, hw, by show vs.length ≤ _; omega⟩
    · rw [if_neg e]
      refine ⟨r1, r2, r3.block (hg.block _ r3.lt (fun e' => ?_)), r4⟩
      injection e' with e'
      rcases Nat.lt_or_gt_of_ne e with q | q
      · exact hd j k q hk e'
      · exact hd k j q hj' e'.symm

theorem info_sh : (Try.prog.info? 30).map (fun i => (i.zero, i.size, i.bytes)) = some (some (.agg #[.int .i64 0, .slice none 0 0]), 2, 32) := by kernel_rfl
theorem two_newS (W : World) (b : Nat) (x y : Value) (t : TypeId) (hb : b = W.heap.size) : ∀ j u, [x, y][j]? = some u → (W.alloc (.cells #[x, y] t)).cell? ((⟨b, 0, none⟩ : Addr).add j) = some u := by
  subst hb
  intro j u hu
  have e := heap_alloc_new W (.cells #[x, y] t)
  match j with
  | 0 => simp at hu; subst hu; simp only [Addr.add, if_pos, World.cell?]; rw [e]; rfl
  | 1 => simp at hu; subst hu; simp only [Addr.add, World.cell?]; rw [if_neg (by decide)]; simp only []; rw [e]; rfl
  | j + 2 => simp at hu
/-- What a shard more leaves. -/
theorem own_shard {W w' : World} {B g c g' c' : Nat} {l : List Sh} {H : Nat → Nat × Nat} {x : Int} {vs : List Int} {b cb : Nat} (hown : OwnS W B g c l H) (hb : B ≤ b) (hne : b ≠ g) (hw : Wr W b vs) (hcb : vs.length ≤ cb)
    (h1 : w'.ownsRow B 30 2 (.slice (some ⟨g', 0, none⟩) (l.length + 1) c') (l.length + 1) (cellsS l H ++ [.int .i64 x, .slice (some ⟨b, 0, none⟩) vs.length cb])) (h2 : W.grownBy w' (some g)) (h3 : g' = g ∨ W.heap.size ≤ g') :
    OwnS w' B g' c' (l ++ [(x, vs)]) (putH H l.length (b, cb)) := by
  refine ⟨?_, fun j hj => ?_⟩
  · rw [cellsS_snoc, cellsS_as l _ H fun j hj => by simp [putH, show j ≠ l.length by omega]]
    simpa [putH] using h1
  · have hj' : j < l.length + 1 := by simpa using hj
    rw [val_snoc _ _ _ hj']
    have hlt := hw.lt
    by_cases e : j = l.length
    · rw [if_pos e]; simp only [putH, if_pos e]
      exact ⟨hb, by rcases h3 with e | e <;> omega, hw.block (h2.block b hlt (fun e => hne (by injection e))), hcb⟩
    · rw [if_neg e]; simp only [putH, if_neg e]
      obtain ⟨r1, r2, r3, r4⟩ := hown.2 j (by omega)
      have := r3.lt
      exact ⟨r1, by rcases h3 with e | e <;> omega, r3.block (h2.block _ this (fun e => r2 (by injection e))), r4⟩
/-- One shard more. -/
theorem wpList_shard {W : World} {ops : Array Oper} {rest : List Oper} {o : Oper} {a : Act} {Q : Exit → Act → World → Prop} (hgd : o.guard = none) (s x : Operand)
    (ho : o.op = .call { callee := .builtin .append, args := #[s, x], argTypes := #[23, 23] }) (B g c : Nat) (l l' : List Sh) (H : Nat → Nat × Nat) (y : Int) (vs : List Int) (b cb n : Nat) (hn : vs.length = n) (e : l ++ [(y, vs)] = l')
    (hs : a.eval s = .slice (some ⟨g, 0, none⟩) l.length c) (m : Nat) (hx : a.eval x = .slice (some ⟨m, 0, none⟩) 1 1) (hm : m = W.heap.size) (hown : OwnS W B g c l H) (hl : l.length ≤ 1000000) (hB : B ≤ W.heap.size) (hb : B ≤ b) (hne : b ≠ g) (hw : Wr W b vs) (hcb : n ≤ cb)
    (h : ∀ g' c' w', OwnS w' B g' c' l' (putH H l.length (b, cb)) → W.grownBy w' (some g) → (g' = g ∨ W.heap.size ≤ g') → wpList Try.prog ops Q rest (a.put o.dst (.slice (some ⟨g', 0, none⟩) l'.length c')) w') :
    wpList Try.prog ops Q (o :: rest) a (W.alloc (.cells #[.int .i64 y, .slice (some ⟨b, 0, none⟩) n cb] 30)) := by
  subst hm hn
  obtain ⟨i0, hi, hz0, hz1, hz2⟩ := info_parts info_sh
  refine wpList_app hgd s x 23 ho B 30 i0 (.agg #[.int .i64 0, .slice none 0 0]) 2 32 Try.underlying23 hi hz0 hz1 hz2 rfl (by decide) g c l.length _ hs (World.ownsRow.alloc hown.1 _) ⟨W.heap.size, 0, none⟩ 1 1 [.int .i64 y, .slice (some ⟨b, 0, none⟩) vs.length cb] hx rfl (two_newS W _ _ _ _ rfl) (by simp [Value.oneCell']) (by simp only [maxLen]; omega) (by omega) (by simp; omega) ?_
  intro g' c' w' h1 h2 h3
  have h4 := unalloc _ h2
  have h5 : g' = g ∨ W.heap.size ≤ g' := h3.imp_right fun e => by rw [e]; simp
  have h6 := own_shard hown hb hne hw hcb h1 h4 h5
  rw [e] at h6
  have := h g' c' w' h6 h4 h5
  rwa [show l'.length = l.length + 1 by rw [← e]; simp] at this
/-- One shard more, in a region that draws its order. -/
theorem step_shard {W : World} {ops : Array Oper} {o : Oper} {a : Act} {K : Act → World → Prop} {Q : Exit → Act → World → Prop} {E : Prop} (hgd : o.guard = none) (s x : Operand)
    (ho : o.op = .call { callee := .builtin .append, args := #[s, x], argTypes := #[23, 23] }) (B g c : Nat) (l l' : List Sh) (H : Nat → Nat × Nat) (y : Int) (vs : List Int) (b cb n : Nat) (hn : vs.length = n) (e : l ++ [(y, vs)] = l')
    (hs : a.eval s = .slice (some ⟨g, 0, none⟩) l.length c) (m : Nat) (hx : a.eval x = .slice (some ⟨m, 0, none⟩) 1 1) {t : TypeId} {fr : Nat × Nat} (hm : W.heap[m]? = some (.cells #[.int .i64 y, .slice (some ⟨b, 0, none⟩) n cb] t fr)) (hown : OwnS W B g c l H) (hl : l.length ≤ 1000000) (hB : B ≤ W.heap.size) (hb : B ≤ b) (hne : b ≠ g) (hw : Wr W b vs) (hcb : n ≤ cb)
    (h : ∀ g' c' w', OwnS w' B g' c' l' (putH H l.length (b, cb)) → W.grownBy w' (some g) → (g' = g ∨ W.heap.size ≤ g') → K (a.put o.dst (.slice (some ⟨g', 0, none⟩) l'.length c')) w') :
    if Region.wanted o (yielded ops a.tmps) = true then Oper.wp Try.prog o a W K Q else E := by
  subst hn
  obtain ⟨i0, hi, hz0, hz1, hz2⟩ := info_parts info_sh
  refine step_append_lies W hgd s x 23 ho B 30 i0 (.agg #[.int .i64 0, .slice none 0 0]) 2 32 Try.underlying23 hi hz0 hz1 hz2 rfl (by decide) _ l.length _ hs hown.1 ⟨m, 0, none⟩ 1 1 [.int .i64 y, .slice (some ⟨b, 0, none⟩) vs.length cb] hx rfl (World.news_of_block hm) (by simp [Value.oneCell']) (by decide) (by simp only [maxLen]; omega) (by omega) hB W.heap.size rfl ?_
  intro g' c' w' h1 h2 h3 _
  have h5 : g' = g ∨ W.heap.size ≤ g' := by
    rcases h3 with e | e
    · exact .inl (by injection e with e; exact e.symm)
    · exact .inr (by omega)
  have h6 := own_shard hown hb hne hw hcb h1 h2 h5
  rw [e] at h6
  have := h g' c' w' h6 h2 h5
  rwa [show l'.length = l.length + 1 by rw [← e]; simp] at this
/-- The call returned shards in blocks of its own. -/
def FreshS (l : List Sh) (w : World) (e : Ending) (w' : World) : Prop :=
  ∃ g c H, e = .returned (.slice (some ⟨g, 0, none⟩) l.length c) ∧ OwnS w' w.heap.size g c l H ∧ Dst H l.length ∧ Below w.heap.size w w'
end Go.Proofs.Ytfkmiflddpjllaa
