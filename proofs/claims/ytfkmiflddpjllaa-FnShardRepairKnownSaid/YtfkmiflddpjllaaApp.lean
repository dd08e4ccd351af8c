/- An append to a row of one's own: the row stays in its block or moves into a new one. Conditions: sizes within a million. -/
import Derived.Test.YtfkmiflddpjllaaOwn
import Derived.OwnWalkIn
import Derived.Deep.AppendLies
import Derived.Deep.RegionLaw
namespace Go.Proofs.Ytfkmiflddpjllaa
open Go.RowKit
set_option linter.unusedVariables false
set_option linter.unusedSimpArgs false

section
variable {P : Program}
theorem run_app (w : World) (base : Nat) (t ty e : TypeId) (i : TypeInfo) (z : Value) (size bytes : Nat) (ht : P.underlying t = some (.slice e)) (hi : P.info? e = some i) (hz : i.zero = some z)
    (hsize : i.size = size) (hby : i.bytes = bytes) (hzs : z.cells.size = size) (hsz : 0 < size)
    (g k : Nat) (n : Nat) (xs : List Value) (hown : w.ownsRow base e size (.slice (some ⟨g, 0, none⟩) n k) n xs)
    (a : Addr) (m c : Nat) (news : List Value) (hl : news.length = m * size) (hnews : ∀ j u, news[j]? = some u → w.cell? (a.add j) = some u) (h1 : ∀ u ∈ news, u.oneCell' = true)
    (h63 : n + m ≤ maxLen) (hbytes : (n + m) * bytes ≤ 140737488355328) (hbase : base ≤ w.heap.size) :
    ∃ g' k' w', (Builtin.append_ #[t, t] ty #[.slice (some ⟨g, 0, none⟩) n k, .slice (some a) m c]).run P w = .ok (.slice (some ⟨g', 0, none⟩) (n + m) k') w' ∧
      w'.ownsRow base e size (.slice (some ⟨g', 0, none⟩) (n + m) k') (n + m) (xs ++ news) ∧ w.grownBy w' (some g) ∧ (g' = g ∨ g' = w.heap.size) := by
  obtain ⟨v', w', hr, h2, h3, h4⟩ := run_append_own (P := P) w base t ty e i z size bytes ht hi hz hsize hby hzs hsz _ n xs hown a m c news hl hnews h1 h63 hbytes hbase
  rcases hown.2 with ⟨h0, _⟩ | ⟨g0, cap, cur, he, hbg, hg, hnc, hcm, hcs, htake⟩
  · simp at h0
  · simp only [Value.slice.injEq, Option.some.injEq, Addr.mk.injEq, and_true, true_and] at he
    obtain ⟨rfl, rfl⟩ := he
    subst hsize
    subst hby
    by_cases hroom : n + m ≤ k
    · have hfit : n * i.size + news.length ≤ cur.size := by rw [hl, hcs, ← Nat.add_mul]; exact Nat.mul_le_mul_right _ hroom
      have hr' := run_append_room (P := P) w t ty e i ht hi g n k cur hg a m c news hl hnews h1 hroom hfit
      rw [hr] at hr'
      injection hr' with e1 e2
      subst e1
      exact ⟨g, k, w', hr, h2, h3, .inl rfl⟩
    · have holds : ∀ j u, xs[j]? = some u → w.cell? ((⟨g, 0, none⟩ : Addr).add j) = some u := hown.cells (g := g) rfl
      have hr' := run_append_grow (P := P) w t ty e i z ht hi hz ⟨g, 0, none⟩ n k xs hown.1 holds a m c news hl hnews (by omega) (by simp only [maxLen] at h63; omega) (growslice_fits (by omega) hbytes)
      rw [hr] at hr'
      injection hr' with e1 e2
      subst e1
      exact ⟨w.heap.size, _, w', hr, h2, h3, .inr rfl⟩

theorem wpList_app {w : World} {ops : Array Oper} {rest : List Oper} {o : Oper} {a : Act} {Q : Exit → Act → World → Prop} (hgd : o.guard = none) (s x : Operand) (t : TypeId)
    (ho : o.op = .call { callee := .builtin .append, args := #[s, x], argTypes := #[t, t] })
    (base : Nat) (e : TypeId) (i : TypeInfo) (z : Value) (size bytes : Nat) (ht : P.underlying t = some (.slice e)) (hi : P.info? e = some i) (hz : i.zero = some z)
    (hsize : i.size = size) (hby : i.bytes = bytes) (hzs : z.cells.size = size) (hsz : 0 < size)
    (g k : Nat) (n : Nat) (xs : List Value) (hs : a.eval s = .slice (some ⟨g, 0, none⟩) n k) (hown : w.ownsRow base e size (.slice (some ⟨g, 0, none⟩) n k) n xs)
    (ad : Addr) (m c : Nat) (news : List Value) (hx : a.eval x = .slice (some ad) m c) (hl : news.length = m * size) (hnews : ∀ j u, news[j]? = some u → w.cell? (ad.add j) = some u) (h1 : ∀ u ∈ news, u.oneCell' = true)
    (h63 : n + m ≤ maxLen) (hbytes : (n + m) * bytes ≤ 140737488355328) (hbase : base ≤ w.heap.size)
    (h : ∀ g' k' w', w'.ownsRow base e size (.slice (some ⟨g', 0, none⟩) (n + m) k') (n + m) (xs ++ news) → w.grownBy w' (some g) → (g' = g ∨ g' = w.heap.size) → wpList P ops Q rest (a.put o.dst (.slice (some ⟨g', 0, none⟩) (n + m) k')) w') : wpList P ops Q (o :: rest) a w :=
  wpList_plain hgd fun _ hK => by
    obtain ⟨g', k', w', hr, h2, h3, h4⟩ := run_app (P := P) w base t o.type e i z size bytes ht hi hz hsize hby hzs hsz g k n xs hown ad m c news hl hnews h1 h63 hbytes hbase
    unfold Oper.wp execOp
    simp only [ho, resolve, invoke, builtin, Sem.run_bind, Sem.run_pure, Result.andThen_ok, List.map_toArray, List.map_cons, List.map_nil, hs, hx, hr]
    exact hK _ _ (h g' k' w' h2 h3 h4)

theorem wpList_appG {w : World} {ops : Array Oper} {rest : List Oper} {o : Oper} {a : Act} {Q : Exit → Act → World → Prop} (hgd : Region.wanted o (yielded ops a.tmps) = true) (s x : Operand) (t : TypeId)
    (ho : o.op = .call { callee := .builtin .append, args := #[s, x], argTypes := #[t, t] })
    (base : Nat) (e : TypeId) (i : TypeInfo) (z : Value) (size bytes : Nat) (ht : P.underlying t = some (.slice e)) (hi : P.info? e = some i) (hz : i.zero = some z)
    (hsize : i.size = size) (hby : i.bytes = bytes) (hzs : z.cells.size = size) (hsz : 0 < size)
    (g k : Nat) (n : Nat) (xs : List Value) (hs : a.eval s = .slice (some ⟨g, 0, none⟩) n k) (hown : w.ownsRow base e size (.slice (some ⟨g, 0, none⟩) n k) n xs)
    (ad : Addr) (m c : Nat) (news : List Value) (hx : a.eval x = .slice (some ad) m c) (hl : news.length = m * size) (hnews : ∀ j u, news[j]? = some u → w.cell? (ad.add j) = some u) (h1 : ∀ u ∈ news, u.oneCell' = true)
    (h63 : n + m ≤ maxLen) (hbytes : (n + m) * bytes ≤ 140737488355328) (hbase : base ≤ w.heap.size)
    (h : ∀ g' k' w', w'.ownsRow base e size (.slice (some ⟨g', 0, none⟩) (n + m) k') (n + m) (xs ++ news) → w.grownBy w' (some g) → (g' = g ∨ g' = w.heap.size) → wpList P ops Q rest (a.put o.dst (.slice (some ⟨g', 0, none⟩) (n + m) k')) w') : wpList P ops Q (o :: rest) a w :=
  wpList_step fun _ hK => by
    rw [if_pos hgd]
    obtain ⟨g', k', w', hr, h2, h3, h4⟩ := run_app (P := P) w base t o.type e i z size bytes ht hi hz hsize hby hzs hsz g k n xs hown ad m c news hl hnews h1 h63 hbytes hbase
    unfold Oper.wp execOp
    simp only [ho, resolve, invoke, builtin, Sem.run_bind, Sem.run_pure, Result.andThen_ok, List.map_toArray, List.map_cons, List.map_nil, hs, hx, hr]
    exact hK _ _ (h g' k' w' h2 h3 h4)

theorem wpListIn_app {F : Fence} {nn : Nat} {w : World} {ops : Array Oper} {rest : List Oper} {o : Oper} {a : Act} {Q : Exit → Act → World → Prop} (hgd : o.guard = none) (s x : Operand) (t : TypeId)
    (ho : o.op = .call { callee := .builtin .append, args := #[s, x], argTypes := #[t, t] })
    (base : Nat) (e : TypeId) (i : TypeInfo) (z : Value) (size bytes : Nat) (ht : P.underlying t = some (.slice e)) (hi : P.info? e = some i) (hz : i.zero = some z)
    (hsize : i.size = size) (hby : i.bytes = bytes) (hzs : z.cells.size = size) (hsz : 0 < size)
    (g k : Nat) (n : Nat) (xs : List Value) (hs : a.eval s = .slice (some ⟨g, 0, none⟩) n k) (hown : w.ownsRow base e size (.slice (some ⟨g, 0, none⟩) n k) n xs)
    (ad : Addr) (m c : Nat) (news : List Value) (hx : a.eval x = .slice (some ad) m c) (hl : news.length = m * size) (hnews : ∀ j u, news[j]? = some u → w.cell? (ad.add j) = some u) (h1 : ∀ u ∈ news, u.oneCell' = true)
    (h63 : n + m ≤ maxLen) (hbytes : (n + m) * bytes ≤ 140737488355328) (hbase : base ≤ w.heap.size)
    (h : ∀ g' k' w', w'.ownsRow base e size (.slice (some ⟨g', 0, none⟩) (n + m) k') (n + m) (xs ++ news) → w.grownBy w' (some g) → (g' = g ∨ g' = w.heap.size) → wpListIn F nn P ops Q rest (a.put o.dst (.slice (some ⟨g', 0, none⟩) (n + m) k')) w') : wpListIn F nn P ops Q (o :: rest) a w :=
  wpListIn_plain hgd fun _ hK => by
    obtain ⟨g', k', w', hr, h2, h3, h4⟩ := run_app (P := P) w base t o.type e i z size bytes ht hi hz hsize hby hzs hsz g k n xs hown ad m c news hl hnews h1 h63 hbytes hbase
    unfold Oper.wpIn
    refine ⟨?_, ?_⟩
    · simp [Oper.about, ho, resolve, Target.leads, Sem.run_pure]
    · rw [Oper.semAt_plain F _ _ (by rw [ho]; intro c hc'; cases hc')]
      simp [execOp, ho, resolve, invoke, builtin, hs, hx, hr, Result.andThen]
      exact hK _ _ (h g' k' w' h2 h3 h4)
end

theorem OwnI.alloc {w : World} {B g c : Nat} {l : List Int} (h : OwnI w B g c l) (o : Obj) : OwnI (w.alloc o) B g c l := World.ownsRow.alloc h o
theorem own_app {w : World} {B g c : Nat} {l l' : List Int} {y : Int} (e : l ++ [y] = l') (h : w.ownsRow B 3 1 (.slice (some ⟨g, 0, none⟩) (l.length + 1) c) (l.length + 1) (l.map (Value.int .i64) ++ [.int .i64 y])) : OwnI w B g c l' := by
  subst e
  unfold OwnI
  simpa using h
theorem unalloc {w w' : World} {row : Option Nat} (o : Obj) (h : (w.alloc o).grownBy w' row) : w.grownBy w' row :=
  ⟨h.os, h.tape, h.output, Nat.le_trans (by simp) h.size, fun k hk hne => (h.block k (by simp; omega) hne).trans (Below.heap_alloc w o k hk)⟩

theorem cell_new2 (W : World) (x y : Value) (t : TypeId) : (W.alloc (.cells #[x, y] t)).cell? ⟨W.heap.size, 0, none⟩ = some x ∧ (W.alloc (.cells #[x, y] t)).cell? ⟨W.heap.size, 1, none⟩ = some y := by
  have e := heap_alloc_new W (.cells #[x, y] t)
  constructor <;> (simp only [World.cell?]; rw [e]; rfl)

/-- One number more. -/
theorem wpList_one {W : World} {ops : Array Oper} {rest : List Oper} {o : Oper} {a : Act} {Q : Exit → Act → World → Prop} (hgd : o.guard = none) (s x : Operand)
    (ho : o.op = .call { callee := .builtin .append, args := #[s, x], argTypes := #[26, 26] }) (B g c : Nat) (l l' : List Int) (y : Int) (e : l ++ [y] = l')
    (hs : a.eval s = .slice (some ⟨g, 0, none⟩) l.length c) (m : Nat) (hx : a.eval x = .slice (some ⟨m, 0, none⟩) 1 1) (hm : m = W.heap.size) (hown : OwnI W B g c l) (hl : l.length ≤ 1000000) (hB : B ≤ W.heap.size)
    (h : ∀ g' c' w', OwnI w' B g' c' l' → W.grownBy w' (some g) → (g' = g ∨ W.heap.size ≤ g') → wpList Try.prog ops Q rest (a.put o.dst (.slice (some ⟨g', 0, none⟩) l'.length c')) w') :
    wpList Try.prog ops Q (o :: rest) a (W.alloc (.cells #[.int .i64 y] 3)) := by
  subst hm
  obtain ⟨i0, hi, hz0, hz1, hz2⟩ := info_parts info_int
  refine wpList_app hgd s x 26 ho B 3 i0 (.int .i64 0) 1 8 Try.underlying26 hi hz0 hz1 hz2 rfl (by decide) g c l.length _ hs (World.ownsRow.alloc hown _) ⟨W.heap.size, 0, none⟩ 1 1 [.int .i64 y] hx rfl (one_new W _ _ _ rfl) (by simp [Value.oneCell']) (by simp only [maxLen]; omega) (by omega) (by simp; omega) ?_
  intro g' c' w' h1 h2 h3
  have := h g' c' w' (own_app e h1) (unalloc _ h2) (h3.imp_right fun e => by rw [e]; simp)
  rwa [show l'.length = l.length + 1 by rw [← e]; simp] at this
/-- One number more, under a guard. -/
theorem wpList_oneG {W : World} {ops : Array Oper} {rest : List Oper} {o : Oper} {a : Act} {Q : Exit → Act → World → Prop} (hgd : Region.wanted o (yielded ops a.tmps) = true) (s x : Operand)
    (ho : o.op = .call { callee := .builtin .append, args := #[s, x], argTypes := #[26, 26] }) (B g c : Nat) (l l' : List Int) (y : Int) (e : l ++ [y] = l')
    (hs : a.eval s = .slice (some ⟨g, 0, none⟩) l.length c) (m : Nat) (hx : a.eval x = .slice (some ⟨m, 0, none⟩) 1 1) (hm : m = W.heap.size) (hown : OwnI W B g c l) (hl : l.length ≤ 1000000) (hB : B ≤ W.heap.size)
    (h : ∀ g' c' w', OwnI w' B g' c' l' → W.grownBy w' (some g) → (g' = g ∨ W.heap.size ≤ g') → wpList Try.prog ops Q rest (a.put o.dst (.slice (some ⟨g', 0, none⟩) l'.length c')) w') :
    wpList Try.prog ops Q (o :: rest) a (W.alloc (.cells #[.int .i64 y] 3)) := by
  subst hm
  obtain ⟨i0, hi, hz0, hz1, hz2⟩ := info_parts info_int
  refine wpList_appG hgd s x 26 ho B 3 i0 (.int .i64 0) 1 8 Try.underlying26 hi hz0 hz1 hz2 rfl (by decide) g c l.length _ hs (World.ownsRow.alloc hown _) ⟨W.heap.size, 0, none⟩ 1 1 [.int .i64 y] hx rfl (one_new W _ _ _ rfl) (by simp [Value.oneCell']) (by simp only [maxLen]; omega) (by omega) (by simp; omega) ?_
  intro g' c' w' h1 h2 h3
  have := h g' c' w' (own_app e h1) (unalloc _ h2) (h3.imp_right fun e => by rw [e]; simp)
  rwa [show l'.length = l.length + 1 by rw [← e]; simp] at this
theorem wpListIn_one {F : Fence} {nn : Nat} {W : World} {ops : Array Oper} {rest : List Oper} {o : Oper} {a : Act} {Q : Exit → Act → World → Prop} (hgd : o.guard = none) (s x : Operand)
    (ho : o.op = .call { callee := .builtin .append, args := #[s, x], argTypes := #[26, 26] }) (B g c : Nat) (l l' : List Int) (y : Int) (e : l ++ [y] = l')
    (hs : a.eval s = .slice (some ⟨g, 0, none⟩) l.length c) (m : Nat) (hx : a.eval x = .slice (some ⟨m, 0, none⟩) 1 1) (hm : m = W.heap.size) (hown : OwnI W B g c l) (hl : l.length ≤ 1000000) (hB : B ≤ W.heap.size)
    (h : ∀ g' c' w', OwnI w' B g' c' l' → W.grownBy w' (some g) → (g' = g ∨ W.heap.size ≤ g') → wpListIn F nn Try.prog ops Q rest (a.put o.dst (.slice (some ⟨g', 0, none⟩) l'.length c')) w') :
    wpListIn F nn Try.prog ops Q (o :: rest) a (W.alloc (.cells #[.int .i64 y] 3)) := by
  subst hm
  obtain ⟨i0, hi, hz0, hz1, hz2⟩ := info_parts info_int
  refine wpListIn_app hgd s x 26 ho B 3 i0 (.int .i64 0) 1 8 Try.underlying26 hi hz0 hz1 hz2 rfl (by decide) g c l.length _ hs (World.ownsRow.alloc hown _) ⟨W.heap.size, 0, none⟩ 1 1 [.int .i64 y] hx rfl (one_new W _ _ _ rfl) (by simp [Value.oneCell']) (by simp only [maxLen]; omega) (by omega) (by simp; omega) ?_
  intro g' c' w' h1 h2 h3
  have := h g' c' w' (own_app e h1) (unalloc _ h2) (h3.imp_right fun e => by rw [e]; simp)
  rwa [show l'.length = l.length + 1 by rw [← e]; simp] at this
/-- One number more, in a region that draws its order. -/
theorem step_one {W : World} {ops : Array Oper} {o : Oper} {a : Act} {K : Act → World → Prop} {Q : Exit → Act → World → Prop} {E : Prop} (hgd : o.guard = none) (s x : Operand)
    (ho : o.op = .call { callee := .builtin .append, args := #[s, x], argTypes := #[26, 26] }) (B g c : Nat) (l l' : List Int) (y : Int) (e : l ++ [y] = l')
    (hs : a.eval s = .slice (some ⟨g, 0, none⟩) l.length c) (m : Nat) (hx : a.eval x = .slice (some ⟨m, 0, none⟩) 1 1) {t : TypeId} {fr : Nat × Nat} (hm : W.heap[m]? = some (.cells #[.int .i64 y] t fr)) (hown : OwnI W B g c l) (hl : l.length ≤ 1000000) (hB : B ≤ W.heap.size)
    (h : ∀ g' c' w', OwnI w' B g' c' l' → W.grownBy w' (some g) → (g' = g ∨ W.heap.size ≤ g') → K (a.put o.dst (.slice (some ⟨g', 0, none⟩) l'.length c')) w') :
    if Region.wanted o (yielded ops a.tmps) = true then Oper.wp Try.prog o a W K Q else E := by
  obtain ⟨i0, hi, hz0, hz1, hz2⟩ := info_parts info_int
  refine step_append_lies W hgd s x 26 ho B 3 i0 (.int .i64 0) 1 8 Try.underlying26 hi hz0 hz1 hz2 rfl (by decide) _ l.length _ hs hown ⟨m, 0, none⟩ 1 1 [.int .i64 y] hx rfl (World.news_of_block hm) (by simp [Value.oneCell']) (by decide) (by simp only [maxLen]; omega) (by omega) hB W.heap.size rfl ?_
  intro g' c' w' h1 h2 h3 _
  have := h g' c' w' (own_app e h1) h2 (by rcases h3 with e | e; exact .inl (by injection e with e; exact e.symm); exact .inr (by omega))
  rwa [show l'.length = l.length + 1 by rw [← e]; simp] at this
/-- The same inside a fence. -/
theorem stepIn_one {F : Fence} {nn : Nat} {W : World} {ops : Array Oper} {o : Oper} {a : Act} {K : Act → World → Prop} {Q : Exit → Act → World → Prop} {E : Prop} (hgd : o.guard = none) (s x : Operand)
    (ho : o.op = .call { callee := .builtin .append, args := #[s, x], argTypes := #[26, 26] }) (B g c : Nat) (l l' : List Int) (y : Int) (e : l ++ [y] = l')
    (hs : a.eval s = .slice (some ⟨g, 0, none⟩) l.length c) (m : Nat) (hx : a.eval x = .slice (some ⟨m, 0, none⟩) 1 1) {t : TypeId} {fr : Nat × Nat} (hm : W.heap[m]? = some (.cells #[.int .i64 y] t fr)) (hown : OwnI W B g c l) (hl : l.length ≤ 1000000) (hB : B ≤ W.heap.size)
    (h : ∀ g' c' w', OwnI w' B g' c' l' → W.grownBy w' (some g) → (g' = g ∨ W.heap.size ≤ g') → K (a.put o.dst (.slice (some ⟨g', 0, none⟩) l'.length c')) w') :
    if Region.wanted o (yielded ops a.tmps) = true then Oper.wpIn F nn Try.prog o a W K Q else E := by
  obtain ⟨i0, hi, hz0, hz1, hz2⟩ := info_parts info_int
  obtain ⟨g', c', w', hr, h1, h2, h3⟩ := run_app (P := Try.prog) W B 26 o.type 3 i0 (.int .i64 0) 1 8 Try.underlying26 hi hz0 hz1 hz2 rfl (by decide) g c l.length _ hown ⟨m, 0, none⟩ 1 1 [.int .i64 y] rfl (World.news_of_block hm) (by simp [Value.oneCell']) (by simp only [maxLen]; omega) (by omega) hB
  have hw : Region.wanted o (yielded ops a.tmps) = true := by simp [Region.wanted, hgd]
  rw [if_pos hw]
  unfold Oper.wpIn
  refine ⟨?_, ?_⟩
  · simp [Oper.about, ho, resolve, Target.leads, Sem.run_pure]
  · rw [Oper.semAt_plain F _ _ (by rw [ho]; intro c hc'; cases hc')]
    simp [execOp, ho, resolve, invoke, builtin, hs, hx, hr, Result.andThen]
    have := h g' c' w' (own_app e h1) h2 (h3.imp_right (fun e => by omega))
    rwa [show l'.length = l.length + 1 by rw [← e]; simp] at this
end Go.Proofs.Ytfkmiflddpjllaa
