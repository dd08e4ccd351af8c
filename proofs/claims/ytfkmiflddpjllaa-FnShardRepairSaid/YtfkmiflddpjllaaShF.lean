/- The program's shard of symbols. Conditions: symbols, one to twelve. -/
import Derived.Test.YtfkmiflddpjllaaChunk
import Derived.Test.YtfkmiflddpjllaaSpS
import Derived.Test.YtfkmiflddpjllaaEval
namespace Go.Proofs.Ytfkmiflddpjllaa
open Go.RowKit Go.Shelf
set_option linter.unusedVariables false
set_option linter.unusedSimpArgs false
attribute [local go_sem] Oper.semAt_some

theorem StepX.cells {B : Nat} {row : Option Nat} {X Y : World} (h : StepX B row X Y) {k : Nat} {o : Obj} (hk : X.heap[k]? = some o) (ho : o.isCells = true) (hr : row ≠ some k) : Y.heap[k]? = some o := by
  rcases h with h | ⟨l, q, q', hl, hq, hc, rfl⟩
  · exact kept_obj h hk hr
  · refine (World.putObj_heap_other (fun e => ?_)).trans hk
    subst e; rw [hk] at hq; cases hq; rw [hc] at ho; cases ho
theorem StepX.below {B n₀ : Nat} {row : Option Nat} {w X Y : World} (h : StepX B row X Y) (hb : Below n₀ w X) (hn : n₀ ≤ w.heap.size) (hB : n₀ ≤ B) (hr : ∀ r, row = some r → n₀ ≤ r) : Below n₀ w Y := by
  rcases h with h | ⟨l, o, o', hl, _, _, rfl⟩
  · exact hb.grown h (Nat.le_trans hn hb.size) hr
  · exact ⟨hb.os, hb.tape, hb.output, by simpa using hb.size, fun k hk => (World.putObj_heap_other (by omega)).trans (hb.block k hk)⟩
theorem StepX.size {B : Nat} {row : Option Nat} {X Y : World} (h : StepX B row X Y) : X.heap.size ≤ Y.heap.size := by
  rcases h with h | ⟨l, o, o', hl, _, _, rfl⟩
  · exact h.size
  · simp
theorem OwnI.through {w w' : World} {B g c : Nat} {l : List Int} (h : OwnI w B g c l) (hk : ∀ o : Obj, w.heap[g]? = some o → o.isCells = true → w'.heap[g]? = some o) : OwnI w' B g c l := by
  refine ⟨h.1, ?_⟩
  rcases h.2 with h1 | ⟨g', cap, cur, h1, h2, hh, hr⟩
  · exact .inl h1
  · have : g' = g := by simp only [Value.slice.injEq, Option.some.injEq, Addr.mk.injEq, and_true, true_and] at h1; omega
    subst this
    exact .inr ⟨g', cap, cur, h1, h2, hk _ hh rfl, hr⟩
theorem make_cap0 (n : Nat) (hn : n ≤ 2000000) (w : World) : (Instr.makeSlice 26 (.int .i64 0) (.int .i64 (n : Int))).run Try.prog w = .ok (.slice (some ⟨w.heap.size, 0, none⟩) 0 n) (w.alloc (.cells (madeCells #[.int .i64 0] n) 3)) := by
  obtain ⟨i0, hi, hz0, hz1, hz2⟩ := info_parts info_int
  have hr := run_make (P := Try.prog) w 26 3 i0 _ Try.underlying26 hi hz0 .i64 .i64 0 (n : Int) (by omega) (by omega) (by rw [hz2]; omega) (by omega)
  simp only [hz1, Nat.mul_one, Int.toNat_natCast] at hr
  exact hr
theorem OwnI.make (w : World) (n : Nat) (hn : n ≤ 2000000) : OwnI (w.alloc (.cells (madeCells #[.int .i64 0] n) 3)) w.heap.size w.heap.size n [] :=
  World.ownsRow_made w _ n (Nat.le_refl _) (by simp only [maxLen]; omega) (by rw [size_madeCells]; omega)
theorem colsOf_any (size need : Nat) (w : World) (h1 : 1 ≤ need) (h8 : need ≤ 8) (hs : size ≤ 1000) (h0 : 1 ≤ size) :
    Calls Try.prog 48 #[.int .i64 size, .int .i64 need] w fun e w' => e = .returned (.int .i64 ((cols size need : Nat) : Int)) ∧ w = w' := by
  have t9 : ((need : Int) == 0) = false := by simp only [beq_eq_false_iff_ne]; omega
  have hc : ((size : Int) + (need : Int) - 1) / (need : Int) = ((cols size need : Nat) : Int) := by
    unfold cols
    rw [show (size : Int) + (need : Int) - 1 = ((size + need - 1 : Nat) : Int) by omega]
    exact (Int.natCast_ediv _ _).symm
  have HC := Lib.hid hc
  clear hc
  go_enter Try.func48, Try.ntmps48
  go_wp2_with fail
  go_ret
  exact ⟨by rw [← HC.out]; rfl, rfl⟩

/-- What the loop of shardOf keeps: the boxes of the number and of the values, the values' row, the result's block. -/
def SfI (w : World) (data : List Int) (need : Nat) (x : Int) (k : Nat) (W : World) : Prop :=
  ∃ g c : Nat, Boxed W w.heap.size 3 (.int .i64 x) ∧ W.heap[w.heap.size + 1]? = some (.cells #[.int .i64 0, .slice none 0 0] 30 (0, 0)) ∧ Boxed W (w.heap.size + 3) 26 (.slice (some ⟨g, 0, none⟩) (shPre data need x k).length c) ∧ OwnI W w.heap.size g c (shPre data need x k) ∧ g ≠ w.heap.size ∧ g ≠ w.heap.size + 1 ∧ g ≠ w.heap.size + 3 ∧ g ≠ w.heap.size + 4 ∧ g ≠ w.heap.size + 5 ∧ w.heap.size + 6 ≤ W.heap.size ∧ Below w.heap.size w W

theorem sf_step {w W w8 w5 : World} {data : List Int} {need : Nat} {x EV : Int} {k gp cq g5 c5 : Nat} (b1 : Boxed W w.heap.size 3 (.int .i64 x)) (bR : W.heap[w.heap.size + 1]? = some (.cells #[.int .i64 0, .slice none 0 0] 30 (0, 0)))
    (b2 : Boxed W (w.heap.size + 3) 26 (.slice (some ⟨gp, 0, none⟩) (shPre data need x k).length cq)) (ho : OwnI W w.heap.size gp cq (shPre data need x k)) (n0 : gp ≠ w.heap.size) (n1 : gp ≠ w.heap.size + 1) (n3 : gp ≠ w.heap.size + 3) (n4 : gp ≠ w.heap.size + 4) (n5 : gp ≠ w.heap.size + 5) (hb : Below w.heap.size w W) (hsW : w.heap.size + 6 ≤ W.heap.size)
    (hb8 : Below W.heap.size W.drew w8) (hg5 : (w8.alloc (.cells #[.int .i64 EV] 3)).grownBy w5 (some gp)) (hf5 : g5 = gp ∨ (w8.alloc (.cells #[.int .i64 EV] 3)).heap.size ≤ g5) (ho5 : OwnI w5 w.heap.size g5 c5 (shPre data need x (k + 1))) :
    KeepsOthers W (w5.setCell ⟨w.heap.size + 3, 0, none⟩ (.slice (some ⟨g5, 0, none⟩) (shPre data need x (k + 1)).length c5)) ∧
    KpTwo (w.heap.size + 4) (w.heap.size + 5) W (w5.setCell ⟨w.heap.size + 3, 0, none⟩ (.slice (some ⟨g5, 0, none⟩) (shPre data need x (k + 1)).length c5)) ∧
    SfI w data need x (k + 1) (w5.setCell ⟨w.heap.size + 3, 0, none⟩ (.slice (some ⟨g5, 0, none⟩) (shPre data need x (k + 1)).length c5)) := by
  have hs8 : W.heap.size ≤ w8.heap.size := hb8.size
  have hgl := ho.parts.2.1
  have hge := ho.parts.1
  have keep5 : ∀ q, q < W.heap.size → q ≠ gp → w5.heap[q]? = W.heap[q]? := fun q hq hne =>
    (hg5.block q (by simp; omega) (fun e => hne (by injection e))).trans ((Below.heap_alloc w8 _ q (by omega)).trans (hb8.block q (by simpa using hq)))
  have keep : ∀ q, q < W.heap.size → q ≠ gp → q ≠ w.heap.size + 3 → (w5.setCell ⟨w.heap.size + 3, 0, none⟩ (.slice (some ⟨g5, 0, none⟩) (shPre data need x (k + 1)).length c5)).heap[q]? = W.heap[q]? := fun q hq hne h3 =>
    (Below.heap_setCell _ _ _ _ h3).trans (keep5 q hq hne)
  have hg5n : g5 ≠ w.heap.size ∧ g5 ≠ w.heap.size + 1 ∧ g5 ≠ w.heap.size + 3 ∧ g5 ≠ w.heap.size + 4 ∧ g5 ≠ w.heap.size + 5 := by
    rcases hf5 with e | e
    · omega
    · simp at e; omega
  have h8g : w8.heap[gp]? = W.heap[gp]? := hb8.block gp (by simpa using hgl)
  refine ⟨?_, ⟨keep _ (by omega) (by omega) (by omega), keep _ (by omega) (by omega) (by omega)⟩, g5, c5, (keep _ (by omega) (by omega) (by omega)).trans b1, (keep _ (by omega) (by omega) (by omega)).trans bR, ?_, ?_, hg5n.1, hg5n.2.1, hg5n.2.2.1, hg5n.2.2.2.1, hg5n.2.2.2.2, ?_, ?_⟩
  · have k1 : KeepsOthers W w8 := ⟨hs8, fun q o hq _ => (hb8.block q (by have := (Array.getElem?_eq_some_iff.1 hq).1; simpa using this)).trans hq⟩
    refine ((k1.trans (KeepsOthers.alloc _ _)).trans (KeepsOthers.of_grownBy hg5 (fun j o e hj => ?_))).trans (KeepsOthers.setCell _ _ _)
    injection e with e
    subst e
    obtain ⟨cs, t, hh, _⟩ := ho.parts.2.2.2.2
    rw [Below.heap_alloc _ _ _ (by omega), h8g, hh] at hj
    cases hj; rfl
  · exact Boxed.set _ ((keep5 (w.heap.size + 3) (by omega) (by omega)).trans b2 : Boxed w5 (w.heap.size + 3) 26 _)
  · exact ho5.through fun o hh _ => (Below.heap_setCell _ _ _ _ hg5n.2.2.1).trans hh
  · have := hg5.size; simp [World.setCell] at this ⊢; omega
  · refine Below.setCell (p := ⟨w.heap.size + 3, 0, none⟩) ?_ (by simp) _
    have q8 : Below w.heap.size w w8 := (Below.trans (b := W.drew) ⟨hb.os, hb.tape, hb.output, hb.size, hb.block⟩ (hb8.mono hb.size))
    exact (q8.alloc q8.size _).grown hg5 (by have := q8.size; simp; omega) (fun k e => by injection e with e; omega)

set_option maxRecDepth 100000 in
set_option maxHeartbeats 4000000 in
theorem shardF_in (A : Option Addr) (c : Nat) (data : List Int) (need : Nat) (x : Int) (w : World) (hI : Sl w w.heap.size A data) (hd : allIn 0 250 data = true) (hl0 : 1 ≤ data.length) (hl : data.length ≤ 12) (hlc : data.length ≤ c) (hcm : c ≤ maxLen) (h1 : 1 ≤ need) (h8 : need ≤ 8) (hx0 : 0 ≤ x) (hx1 : x ≤ 250) :
    CallsIn Fence.wide 12 Try.prog 51 #[.slice A data.length c, .int .i64 need, .int .i64 x] w fun e W' => ShardIs x (shVals data need x) w e W' := by
  have hw : ∀ f, Fence.wide.fn f := fun _ => trivial
  have hC : cols data.length need ≤ 12 := cols_12 (by omega) hl
  obtain ⟨C, hCe⟩ : ∃ C, C = cols data.length need := ⟨_, rfl⟩
  have HVA : Hid (shPre data need x C = shVals data need x) := by unfold Hid; rw [hCe]; exact shPre_all data need x
  have HCE := Lib.hid hCe
  rw [← hCe] at hC
  have hmk := make_cap0 C (by omega)
  clear hCe
  obtain ⟨W0, hW0⟩ : ∃ W, W = (w.alloc (.cells #[.int .i64 x] 3)).alloc (.cells #[.int .i64 0, .slice none 0 0] 30) := ⟨_, rfl⟩
  refine callsIn_of_wp_marks Try.func51 rfl trivial ?_ rfl
  simp only [Try.ntmps51, List.size_toArray, List.length_cons, List.length_nil, Nat.reduceAdd, Nat.reduceSub, Array.replicate_succ, Array.replicate_zero, List.push_toArray, List.append_toArray, List.nil_append, List.cons_append]
  gi_wp2_with (first
    | (gi_at_call 48; refine (callsIn_wide.2 (colsOf_any data.length need _ h1 h8 (by omega) hl0)).mono ?_; rintro e w' ⟨rfl, rfl⟩; rw [← HCE.out])
    | (gi_at_call 64; refine (callsIn_wide.2 (chunk_any _ _ _ need _ h1)).mono ?_; rintro e w' ⟨rfl, rfl⟩))
  obtain ⟨b, off, hA, hbl, hcd⟩ := hI (by intro e; rw [e] at hl0; simp at hl0)
  have bX : Boxed W0 w.heap.size 3 (.int .i64 x) := by
    rw [hW0]; exact (Boxed.new w 3 (.int .i64 x)).alloc _
  have bR : W0.heap[w.heap.size + 1]? = some (.cells #[.int .i64 0, .slice none 0 0] 30 (0, 0)) := by
    rw [hW0]; have := heap_alloc_new (w.alloc (.cells #[.int .i64 x] 3)) (.cells #[.int .i64 0, .slice none 0 0] 30); simpa using this
  have hs0 : W0.heap.size = w.heap.size + 2 := by rw [hW0]; simp
  have hB0 : Below w.heap.size w W0 := by rw [hW0]; exact ((Below.refl _ w).alloc (Nat.le_refl _) _).alloc (by simp) _
  rw [← hW0]
  clear hW0
  obtain ⟨W1, hW1⟩ : ∃ W, W = (((W0.alloc (.cells (madeCells #[.int .i64 0] C) 3)).alloc (.cells #[.slice (some ⟨w.heap.size + 1 + 1, 0, none⟩) 0 C] 26)).alloc (.cells #[.slice A data.length c] 26)).alloc (.cells #[.int .i64 need] 3) := ⟨_, rfl⟩
  have hO0 := OwnI.make W0 C (by omega)
  have bX1 : Boxed W1 w.heap.size 3 (.int .i64 x) := by rw [hW1]; exact (((bX.alloc _).alloc _).alloc _).alloc _
  have bR1 : W1.heap[w.heap.size + 1]? = some (.cells #[.int .i64 0, .slice none 0 0] 30 (0, 0)) := by
    rw [hW1, Below.heap_alloc _ _ _ (by simp; omega), Below.heap_alloc _ _ _ (by simp; omega), Below.heap_alloc _ _ _ (by simp; omega), Below.heap_alloc _ _ _ (by omega)]; exact bR
  have bV1 : Boxed W1 (w.heap.size + 3) 26 (.slice (some ⟨w.heap.size + 2, 0, none⟩) 0 C) := by
    have := ((Boxed.new (W0.alloc (.cells (madeCells #[.int .i64 0] C) 3)) 26 (.slice (some ⟨w.heap.size + 1 + 1, 0, none⟩) 0 C)).alloc (.cells #[.slice A data.length c] 26)).alloc (.cells #[.int .i64 need] 3)
    rw [World.size_alloc, hs0] at this
    rw [hW1]; exact this
  have bS1 : Boxed W1 (w.heap.size + 4) 26 (.slice A data.length c) := by
    have := (Boxed.new ((W0.alloc (.cells (madeCells #[.int .i64 0] C) 3)).alloc (.cells #[.slice (some ⟨w.heap.size + 1 + 1, 0, none⟩) 0 C] 26)) 26 (.slice A data.length c)).alloc (.cells #[.int .i64 need] 3)
    rw [World.size_alloc, World.size_alloc, hs0] at this
    rw [hW1]; exact this
  have bN1 : Boxed W1 (w.heap.size + 5) 3 (.int .i64 need) := by
    have := Boxed.new (((W0.alloc (.cells (madeCells #[.int .i64 0] C) 3)).alloc (.cells #[.slice (some ⟨w.heap.size + 1 + 1, 0, none⟩) 0 C] 26)).alloc (.cells #[.slice A data.length c] 26)) 3 (.int .i64 need)
    rw [World.size_alloc, World.size_alloc, World.size_alloc, hs0] at this
    rw [hW1]; exact this
  have hO1 : OwnI W1 w.heap.size (w.heap.size + 2) C [] := by
    have h2 := ((hO0.alloc (.cells #[.slice (some ⟨w.heap.size + 1 + 1, 0, none⟩) 0 C] 26)).alloc (.cells #[.slice A data.length c] 26)).alloc (.cells #[.int .i64 need] 3)
    rw [← hW1, hs0] at h2
    refine ⟨by simp, ?_⟩
    obtain ⟨g, cap, cur, e1, e2, e3⟩ := h2.2.resolve_left (by simp)
    exact .inr ⟨g, cap, cur, e1, by omega, e3⟩
  have hB1 : Below w.heap.size w W1 := by
    rw [hW1]; exact (((hB0.alloc (by omega) _).alloc (by simp; omega) _).alloc (by simp; omega) _).alloc (by simp; omega) _
  have hs1 : W1.heap.size = w.heap.size + 6 := by rw [hW1]; simp; omega
  rw [← hW1]
  clear hW1 hO0 bX bR hB0 hs0
  subst hA
  refine range_x (row := none) (F := Fence.wide) rfl (by omega) (gf := 69) (lb := #[.pointer (some ⟨w.heap.size + 4, 0, none⟩), .pointer (some ⟨w.heap.size + 5, 0, none⟩)]) rfl trivial (enters_of Try.func69 (by kernel_rfl) rfl)
    (chunk_seq 11 (by omega) (w.heap.size + 4) (w.heap.size + 5) b off c need data.length C h1 h8 hl hlc hcm HCE.out W1 bS1 bN1 (by omega) (by omega)) (fun r e => by cases e)
    (fun h k => ⟨k.1.trans h.1, k.2.trans h.2⟩) (fun x W l o o' hl ho hc => ⟨World.putObj_heap_other (by omega), World.putObj_heap_other (by omega)⟩) (fun _ => rfl)
    (fun pre W => SfI w data need x pre.length W) (fun _ _ _ => False) ?hI (fun _ _ _ _ h _ => h)
    (fun s x Z X l o o' h hl ho hc => h) ?h0
    (fun k => { tmps := #[.slice (some ⟨b, off, none⟩) data.length c, .int .i64 need, .int .i64 x, undef, undef, .pointer (some ⟨w.heap.size, 0, none⟩), .pointer (some ⟨w.heap.size + 1, 0, none⟩), .pointer (some ⟨w.heap.size + 1 + 1 + 1, 0, none⟩), .slice (some ⟨b, off + k * need, none⟩) (min need (data.length - k * need)) (min need (data.length - k * need)), .slice (some ⟨b, off, none⟩) data.length c, .int .i64 (data.length : Int), .int .i64 need, .int .i64 C, .slice (some ⟨w.heap.size + 1 + 1, 0, none⟩) 0 C, .slice (some ⟨b, off, none⟩) data.length c, .int .i64 need, .func (.func 69) #[] #[.pointer (some ⟨w.heap.size + 4, 0, none⟩), .pointer (some ⟨w.heap.size + 5, 0, none⟩)], .slice (some ⟨b, off + k * need, none⟩) (min need (data.length - k * need)) (min need (data.length - k * need)), undef, undef, undef, undef, undef, undef, undef, undef, undef], defers := [] }) ?assign ?body ?done ?stop
  case hI =>
    rintro s X Y ⟨g, cp, b1, bR, b2, ho, n0, n1, n3, n4, n5, h6, hb⟩ k
    exact ⟨g, cp, k.cells b1 rfl (by simp), k.cells bR rfl (by simp), k.cells b2 rfl (by simp), ho.through (fun o hh hc => k.cells hh hc (by simp)), n0, n1, n3, n4, n5, Nat.le_trans h6 k.size, k.below hb (Nat.le_refl _) (by omega) (fun r e => by cases e)⟩
  case h0 => exact ⟨w.heap.size + 2, C, bX1, bR1, by simpa [shPre, rowL] using bV1, by simpa [shPre, rowL] using hO1, by omega, by omega, by omega, by omega, by omega, by omega, hB1⟩
  case assign =>
    intro l k W K hK
    simp only [encC]
    gi_wp2
    exact hK
  case done =>
    rintro D ys W hD hS ⟨g, cp, b1, bR, b2, ho, n0, n1, n3, n4, n5, h6, hb⟩ hK
    rw [hS] at b2 ho
    have c1 := b1.cell
    have c2 := b2.cell
    obtain ⟨r0, r1, r2, r3⟩ := box2 bR
    obtain ⟨k1, k2, k3, k4, k5⟩ := ho.parts
    have hpl := shPre_len data need x C
    have HPL := Lib.hid hpl
    clear hpl ho
    gi_wp2
    have hKD : D ≠ w.heap.size + 1 := by omega
    have hK' := ((Below.heap_setCell (W.setCell ⟨w.heap.size + 1, 0, none⟩ (.int .i64 x)) ⟨w.heap.size + 1, 1, none⟩ (.slice (some ⟨g, 0, none⟩) (shPre data need x C).length cp) D hKD).trans (Below.heap_setCell W ⟨w.heap.size + 1, 0, none⟩ (.int .i64 x) D hKD)).trans hK
    refine ⟨by simp, .inl ⟨_, _, rfl, run_takeDeferred hK', ?_⟩⟩
    obtain ⟨V, hV⟩ : ∃ V, V = (W.setCell ⟨w.heap.size + 1, 0, none⟩ (.int .i64 x)).setCell ⟨w.heap.size + 1, 1, none⟩ (.slice (some ⟨g, 0, none⟩) (shPre data need x C).length cp) := ⟨_, rfl⟩
    have bV : (V.putObj D (.deferred none)).heap[w.heap.size + 1]? = some (.cells #[.int .i64 x, .slice (some ⟨g, 0, none⟩) (shPre data need x C).length cp] 30 (0, 0)) := by
      rw [World.putObj_heap_other (by omega), hV]; exact box2_set (box2_set0 bR _) _
    have hVb : Below w.heap.size w V := by
      rw [hV]; exact (hb.setCell (p := ⟨w.heap.size + 1, 0, none⟩) (by simp) _).setCell (p := ⟨w.heap.size + 1, 1, none⟩) (by simp) _
    have hVb' : Below w.heap.size w (V.putObj D (.deferred none)) := ⟨hVb.os, hVb.tape, hVb.output, by simpa using hVb.size, fun q hq => (World.putObj_heap_other (by omega)).trans (hVb.block q hq)⟩
    have hgD : g ≠ D := by
      obtain ⟨cs, t, hh, _⟩ := k5
      intro e
      rw [e, hK] at hh
      cases hh
    have hVw : Wr (V.putObj D (.deferred none)) g (shPre data need x C) := by
      refine Wr.block (w := V) ?_ (World.putObj_heap_other hgD)
      rw [hV]; exact (k5.block (Below.heap_setCell _ _ _ _ n1)).block (Below.heap_setCell _ _ _ _ n1)
    obtain ⟨v0, v1, _, _⟩ := box2 bV
    rw [← hV]
    clear hV bV
    refine ⟨.agg #[.int .i64 x, .slice (some ⟨g, 0, none⟩) (shPre data need x C).length cp], by simp [results, Try.results51, go_sem, v0, v1], ?_⟩
    exact ⟨g, cp, k1, by rw [HVA.out], by rw [← HVA.out]; exact hVw, by rw [← HVA.out]; exact k3, k4, hVb'⟩
  case stop =>
    rintro D c pre W _ h _
    exact h.elim
  case body =>
    rintro l pre k X W ⟨gp, cq, b1, bR, b2, ho, n0, n1, n3, n4, n5, hX6, hbX⟩ hIW hsz hkeep ⟨rfl, hkC⟩
    obtain ⟨_, _, _, _, _, _, _, _, _, _, _, hW6, hbW⟩ := hIW
    have hgp := ho.parts.2.1
    have hx2 := (Array.getElem?_eq_some_iff.1 b2).1
    replace b1 : Boxed W w.heap.size 3 (.int .i64 x) := hkeep _ _ b1 rfl (by simp)
    replace bR := hkeep _ _ bR rfl (by simp)
    replace b2 : Boxed W (w.heap.size + 3) 26 (.slice (some ⟨gp, 0, none⟩) (shPre data need x pre.length).length cq) := hkeep _ _ b2 rfl (by simp)
    replace ho := ho.through (fun o hh hc => hkeep _ o hh hc (by simp))
    have hpl := shPre_len data need x pre.length
    have hst := shPre_succ data need x pre.length
    have hpk : pre.length * need < data.length := (cols_le h1).1 (by rw [← HCE.out]; exact hkC)
    obtain ⟨cl, hcl⟩ : ∃ cl, cl = col data need pre.length := ⟨_, rfl⟩
    have hcll : min need (data.length - pre.length * need) = cl.length := by rw [hcl]; simp [col]
    have HCR : Hid (allIn 0 250 cl = true) := by unfold Hid; rw [hcl]; exact col_in hd _ _
    have HSL : Hid (Sl W.drew w.heap.size (some ⟨b, off + pre.length * need, none⟩) cl) := by
      unfold Hid
      intro hne
      refine ⟨b, off + pre.length * need, rfl, hbl, fun j hj => ?_⟩
      have hj2 : j < need ∧ pre.length * need + j < data.length := by omega
      rw [Nat.add_assoc, hcl, col_nth _ _ _ _ hj2.1]
      exact (hbW.cell (p := ⟨b, off + (pre.length * need + j), none⟩) hbl).trans (hcd _ hj2.2)
    have HSLD : Hid (Sl W.drew W.drew.heap.size (some ⟨b, off + pre.length * need, none⟩) cl) := HSL.out.more (show w.heap.size ≤ W.heap.size by omega)
    have hc8 : cl.length ≤ 8 := by omega
    rw [hcll]
    obtain ⟨EV, hEV⟩ : ∃ EV, EV = Dag.ev cl x := ⟨_, rfl⟩
    rw [← hcl, ← hEV] at hst
    have HEV := Lib.hid hEV
    have HST := Lib.hid hst
    have hpl12 : (shPre data need x pre.length).length ≤ 12 := by omega
    have hsW : w.heap.size + 6 ≤ W.heap.size := by omega
    have hlen1 : (pre ++ [pre.length]).length = pre.length + 1 := by simp
    have HL1 := Lib.hid hlen1
    obtain ⟨P0, hP0⟩ : ∃ P, P = shPre data need x pre.length := ⟨_, rfl⟩
    obtain ⟨P1, hP1⟩ : ∃ P, P = shPre data need x (pre.length + 1) := ⟨_, rfl⟩
    rw [← hP0, ← hP1] at HST
    rw [← hP0] at hpl12
    have HFIN : Hid (∀ (w8 w5 : World) (g5 c5 : Nat), Below W.heap.size W.drew w8 → (w8.alloc (.cells #[.int .i64 EV] 3)).grownBy w5 (some gp) → (g5 = gp ∨ (w8.alloc (.cells #[.int .i64 EV] 3)).heap.size ≤ g5) → OwnI w5 w.heap.size g5 c5 P1 →
      KeepsOthers W (w5.setCell ⟨w.heap.size + 3, 0, none⟩ (.slice (some ⟨g5, 0, none⟩) P1.length c5)) ∧ KpTwo (w.heap.size + 4) (w.heap.size + 5) W (w5.setCell ⟨w.heap.size + 3, 0, none⟩ (.slice (some ⟨g5, 0, none⟩) P1.length c5)) ∧ SfI w data need x (pre.length + 1) (w5.setCell ⟨w.heap.size + 3, 0, none⟩ (.slice (some ⟨g5, 0, none⟩) P1.length c5))) := by
      unfold Hid
      rw [hP1]
      exact fun w8 w5 g5 c5 q1 q2 q3 q4 => sf_step b1 bR b2 ho n0 n1 n3 n4 n5 hbW hsW q1 q2 q3 q4
    rw [← hP0] at b2 ho
    clear hcl hst hEV hP0 hP1 hpl hlen1 hcll
    have c1 := Boxed.cell b1
    have c2 := Boxed.cell b2
    have c3 := Boxed.frozen b2
    gi_wp2
    refine region_round (F := Fence.wide) (by kernel_rfl) (by kernel_rfl) ?_
  -- tail by gen_shf.py
    refine wpAnyIn_take (i := 1) (v := ?_) rfl rfl (by kernel_rfl) (by kernel_rfl) (by kernel_rfl) (fun _ _ _ h => h) ⟨Or.inl ⟨by rfl, ?_⟩, fun _ => rfl⟩ ?_
    rotate_left
    · intro w'; go_simp; try with_reducible rfl
    refine wpAnyIn_ready (rs := [0, 2]) (by kernel_rfl) (by simp) ?_
    refine AllReadyIn.cons rfl (fun K hK => ?_) (AllReadyIn.cons rfl (fun K hK => ?_) AllReadyIn.nil)
    · skip
      go_simp
      refine hK _ _ ?_
      clear hK K
      refine wpAnyIn_ready (rs := [2]) (by kernel_rfl) (by simp) ?_
      refine AllReadyIn.cons rfl (fun K hK => ?_) AllReadyIn.nil
      go_simp
      refine hK _ _ ?_
      clear hK K
      refine wpAnyIn_ready (rs := [3]) (by kernel_rfl) (by simp) ?_
      refine AllReadyIn.cons rfl (fun K hK => ?_) AllReadyIn.nil
      go_simp
      gi_at_call 65
      refine (evaluate_in Fence.wide.plain 9 trivial trivial trivial rfl (by omega) _ _ cl x HCR.out (by omega) hx0 hx1 _ HSLD.out).mono ?_
      rintro e w8 ⟨rfl, hb8⟩
      rw [← HEV.out]
      have b1' : Boxed w8 w.heap.size 3 (.int .i64 x) := (hb8.block _ (by simp; omega)).trans b1
      have b2' : Boxed w8 (w.heap.size + 3) 26 (.slice (some ⟨gp, 0, none⟩) P0.length cq) := (hb8.block _ (by simp; omega)).trans b2
      have d3 := Boxed.cell b2'
      have d5 := Boxed.cell (b2'.alloc (.cells #[.int .i64 EV] 3))
      have ho8 : OwnI w8 w.heap.size gp cq P0 := ho.below (w := W.drew) hb8 (by simp; omega)
      have hs8 : W.heap.size ≤ w8.heap.size := by have := hb8.size; simpa using this
      refine hK _ _ ?_
      clear hK K
      refine wpAnyIn_ready (rs := [4]) (by kernel_rfl) (by simp) ?_
      refine AllReadyIn.cons rfl (fun K hK => ?_) AllReadyIn.nil
      go_simp
      refine hK _ _ ?_
      clear hK K
      refine wpAnyIn_ready (rs := [5]) (by kernel_rfl) (by simp) ?_
      refine AllReadyIn.cons rfl (fun K hK => ?_) AllReadyIn.nil
      refine stepIn_one rfl (.tmp 18) (.tmp 22) rfl w.heap.size gp cq P0 P1 EV HST.out (by simp [Act.eval, Act.put]) w8.heap.size (by simp [Act.eval, Act.put]) (heap_alloc_new _ _) (OwnI.alloc ho8 _) (by omega) (by simp; omega) ?_
      intro g5 c5 w5 ho5 hg5 hf5
      have b2'' : Boxed w5 (w.heap.size + 3) 26 (.slice (some ⟨gp, 0, none⟩) P0.length cq) := Boxed.kept (Boxed.alloc b2' _) hg5 (by simp; omega)
      have d7 := Boxed.cell b2''
      have d8 := Boxed.frozen b2''
      refine hK _ _ ?_
      clear hK K
      refine wpAnyIn_ready (rs := [6]) (by kernel_rfl) (by simp) ?_
      refine AllReadyIn.cons rfl (fun K hK => ?_) AllReadyIn.nil
      go_simp
      refine hK _ _ ?_
      clear hK K
      refine wpAnyIn_done (by kernel_rfl) ?_ _
      obtain ⟨z1, z2, z3⟩ := HFIN.out w8 w5 g5 c5 hb8 hg5 hf5 ho5
      clear hb8 hg5 hf5 ho5 d3 d5 d7 d8 b2'' b2' b1' ho8 c1 c2 c3
      gi_wp2
      exact ⟨z1.from _, z2, by show SfI w data need x (pre ++ [pre.length]).length _; rw [HL1.out]; exact z3⟩
    · skip
      go_simp
      refine hK _ _ ?_
      clear hK K
      refine wpAnyIn_ready (rs := [0, 3]) (by kernel_rfl) (by simp) ?_
      refine AllReadyIn.cons rfl (fun K hK => ?_) (AllReadyIn.cons rfl (fun K hK => ?_) AllReadyIn.nil)
      · skip
        go_simp
        refine hK _ _ ?_
        clear hK K
        refine wpAnyIn_ready (rs := [3]) (by kernel_rfl) (by simp) ?_
        refine AllReadyIn.cons rfl (fun K hK => ?_) AllReadyIn.nil
        go_simp
        gi_at_call 65
        refine (evaluate_in Fence.wide.plain 9 trivial trivial trivial rfl (by omega) _ _ cl x HCR.out (by omega) hx0 hx1 _ HSLD.out).mono ?_
        rintro e w8 ⟨rfl, hb8⟩
        rw [← HEV.out]
        have b1' : Boxed w8 w.heap.size 3 (.int .i64 x) := (hb8.block _ (by simp; omega)).trans b1
        have b2' : Boxed w8 (w.heap.size + 3) 26 (.slice (some ⟨gp, 0, none⟩) P0.length cq) := (hb8.block _ (by simp; omega)).trans b2
        have d3 := Boxed.cell b2'
        have d5 := Boxed.cell (b2'.alloc (.cells #[.int .i64 EV] 3))
        have ho8 : OwnI w8 w.heap.size gp cq P0 := ho.below (w := W.drew) hb8 (by simp; omega)
        have hs8 : W.heap.size ≤ w8.heap.size := by have := hb8.size; simpa using this
        refine hK _ _ ?_
        clear hK K
        refine wpAnyIn_ready (rs := [4]) (by kernel_rfl) (by simp) ?_
        refine AllReadyIn.cons rfl (fun K hK => ?_) AllReadyIn.nil
        go_simp
        refine hK _ _ ?_
        clear hK K
        refine wpAnyIn_ready (rs := [5]) (by kernel_rfl) (by simp) ?_
        refine AllReadyIn.cons rfl (fun K hK => ?_) AllReadyIn.nil
        refine stepIn_one rfl (.tmp 18) (.tmp 22) rfl w.heap.size gp cq P0 P1 EV HST.out (by simp [Act.eval, Act.put]) w8.heap.size (by simp [Act.eval, Act.put]) (heap_alloc_new _ _) (OwnI.alloc ho8 _) (by omega) (by simp; omega) ?_
        intro g5 c5 w5 ho5 hg5 hf5
        have b2'' : Boxed w5 (w.heap.size + 3) 26 (.slice (some ⟨gp, 0, none⟩) P0.length cq) := Boxed.kept (Boxed.alloc b2' _) hg5 (by simp; omega)
        have d7 := Boxed.cell b2''
        have d8 := Boxed.frozen b2''
        refine hK _ _ ?_
        clear hK K
        refine wpAnyIn_ready (rs := [6]) (by kernel_rfl) (by simp) ?_
        refine AllReadyIn.cons rfl (fun K hK => ?_) AllReadyIn.nil
        go_simp
        refine hK _ _ ?_
        clear hK K
        refine wpAnyIn_done (by kernel_rfl) ?_ _
        obtain ⟨z1, z2, z3⟩ := HFIN.out w8 w5 g5 c5 hb8 hg5 hf5 ho5
        clear hb8 hg5 hf5 ho5 d3 d5 d7 d8 b2'' b2' b1' ho8 c1 c2 c3
        gi_wp2
        exact ⟨z1.from _, z2, by show SfI w data need x (pre ++ [pre.length]).length _; rw [HL1.out]; exact z3⟩
      · skip
        go_simp
        gi_at_call 65
        refine (evaluate_in Fence.wide.plain 9 trivial trivial trivial rfl (by omega) _ _ cl x HCR.out (by omega) hx0 hx1 _ HSLD.out).mono ?_
        rintro e w8 ⟨rfl, hb8⟩
        rw [← HEV.out]
        have b1' : Boxed w8 w.heap.size 3 (.int .i64 x) := (hb8.block _ (by simp; omega)).trans b1
        have b2' : Boxed w8 (w.heap.size + 3) 26 (.slice (some ⟨gp, 0, none⟩) P0.length cq) := (hb8.block _ (by simp; omega)).trans b2
        have d3 := Boxed.cell b2'
        have d5 := Boxed.cell (b2'.alloc (.cells #[.int .i64 EV] 3))
        have ho8 : OwnI w8 w.heap.size gp cq P0 := ho.below (w := W.drew) hb8 (by simp; omega)
        have hs8 : W.heap.size ≤ w8.heap.size := by have := hb8.size; simpa using this
        refine hK _ _ ?_
        clear hK K
        refine wpAnyIn_ready (rs := [0, 4]) (by kernel_rfl) (by simp) ?_
        refine AllReadyIn.cons rfl (fun K hK => ?_) (AllReadyIn.cons rfl (fun K hK => ?_) AllReadyIn.nil)
        · skip
          go_simp
          refine hK _ _ ?_
          clear hK K
          refine wpAnyIn_ready (rs := [4]) (by kernel_rfl) (by simp) ?_
          refine AllReadyIn.cons rfl (fun K hK => ?_) AllReadyIn.nil
          go_simp
          refine hK _ _ ?_
          clear hK K
          refine wpAnyIn_ready (rs := [5]) (by kernel_rfl) (by simp) ?_
          refine AllReadyIn.cons rfl (fun K hK => ?_) AllReadyIn.nil
          refine stepIn_one rfl (.tmp 18) (.tmp 22) rfl w.heap.size gp cq P0 P1 EV HST.out (by simp [Act.eval, Act.put]) w8.heap.size (by simp [Act.eval, Act.put]) (heap_alloc_new _ _) (OwnI.alloc ho8 _) (by omega) (by simp; omega) ?_
          intro g5 c5 w5 ho5 hg5 hf5
          have b2'' : Boxed w5 (w.heap.size + 3) 26 (.slice (some ⟨gp, 0, none⟩) P0.length cq) := Boxed.kept (Boxed.alloc b2' _) hg5 (by simp; omega)
          have d7 := Boxed.cell b2''
          have d8 := Boxed.frozen b2''
          refine hK _ _ ?_
          clear hK K
          refine wpAnyIn_ready (rs := [6]) (by kernel_rfl) (by simp) ?_
          refine AllReadyIn.cons rfl (fun K hK => ?_) AllReadyIn.nil
          go_simp
          refine hK _ _ ?_
          clear hK K
          refine wpAnyIn_done (by kernel_rfl) ?_ _
          obtain ⟨z1, z2, z3⟩ := HFIN.out w8 w5 g5 c5 hb8 hg5 hf5 ho5
          clear hb8 hg5 hf5 ho5 d3 d5 d7 d8 b2'' b2' b1' ho8 c1 c2 c3
          gi_wp2
          exact ⟨z1.from _, z2, by show SfI w data need x (pre ++ [pre.length]).length _; rw [HL1.out]; exact z3⟩
        · skip
          go_simp
          refine hK _ _ ?_
          clear hK K
          refine wpAnyIn_ready (rs := [0]) (by kernel_rfl) (by simp) ?_
          refine AllReadyIn.cons rfl (fun K hK => ?_) AllReadyIn.nil
          go_simp
          refine hK _ _ ?_
          clear hK K
          refine wpAnyIn_ready (rs := [5]) (by kernel_rfl) (by simp) ?_
          refine AllReadyIn.cons rfl (fun K hK => ?_) AllReadyIn.nil
          refine stepIn_one rfl (.tmp 18) (.tmp 22) rfl w.heap.size gp cq P0 P1 EV HST.out (by simp [Act.eval, Act.put]) w8.heap.size (by simp [Act.eval, Act.put]) (heap_alloc_new _ _) (OwnI.alloc ho8 _) (by omega) (by simp; omega) ?_
          intro g5 c5 w5 ho5 hg5 hf5
          have b2'' : Boxed w5 (w.heap.size + 3) 26 (.slice (some ⟨gp, 0, none⟩) P0.length cq) := Boxed.kept (Boxed.alloc b2' _) hg5 (by simp; omega)
          have d7 := Boxed.cell b2''
          have d8 := Boxed.frozen b2''
          refine hK _ _ ?_
          clear hK K
          refine wpAnyIn_ready (rs := [6]) (by kernel_rfl) (by simp) ?_
          refine AllReadyIn.cons rfl (fun K hK => ?_) AllReadyIn.nil
          go_simp
          refine hK _ _ ?_
          clear hK K
          refine wpAnyIn_done (by kernel_rfl) ?_ _
          obtain ⟨z1, z2, z3⟩ := HFIN.out w8 w5 g5 c5 hb8 hg5 hf5 ho5
          clear hb8 hg5 hf5 ho5 d3 d5 d7 d8 b2'' b2' b1' ho8 c1 c2 c3
          gi_wp2
          exact ⟨z1.from _, z2, by show SfI w data need x (pre ++ [pre.length]).length _; rw [HL1.out]; exact z3⟩

theorem shardF_any (A : Option Addr) (c : Nat) (data : List Int) (need : Nat) (x : Int) (w : World) (hI : Sl w w.heap.size A data) (hd : allIn 0 250 data = true) (hl0 : 1 ≤ data.length) (hl : data.length ≤ 12) (hlc : data.length ≤ c) (hcm : c ≤ maxLen) (h1 : 1 ≤ need) (h8 : need ≤ 8) (hx0 : 0 ≤ x) (hx1 : x ≤ 250) :
    Calls Try.prog 51 #[.slice A data.length c, .int .i64 need, .int .i64 x] w (ShardIs x (shVals data need x) w) :=
  callsIn_wide.1 (shardF_in A c data need x w hI hd hl0 hl hlc hcm h1 h8 hx0 hx1)
end Go.Proofs.Ytfkmiflddpjllaa
