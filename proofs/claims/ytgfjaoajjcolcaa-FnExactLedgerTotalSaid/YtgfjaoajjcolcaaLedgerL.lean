/- The walks of FnExactLedgerValid and FnExactLedgerTotal. No condition. -/
import Derived.Test.YtgfjaoajjcolcaaLedger
namespace Go.Proofs.Ytgfjaoajjcolcaa
open Go.RowKit Go.ChangeShapes Go.WideShapes Go.Joins
set_option linter.unusedVariables false
set_option linter.unusedSimpArgs false
theorem Sl.drew {w : World} {B : Nat} {A : Option Addr} {l : List Int} (h : Sl w B A l) : Sl w.drew B A l := h

set_option maxHeartbeats 8000000 in
theorem walk_FnExactLedgerValid (A : Option Addr) (n c : Nat) (l : List Int) (f : Int) (w : World) (w0 : Ints .i64 w w.heap.size A n c l) (wf : (Lit.int .i64 f).wf = true) :
    Calls Try.prog 10 #[.agg #[.slice A n c, .int .i64 f]] w fun e w' => e = .returned (.bool true) ∧ Below w.heap.size w w' := by
  obtain ⟨rfl, h⟩ := Sl.of_ints w0
  have hmax : l.length ≤ 9223372036854775807 := by have h1 := w0.2.1; have h2 := w0.2.2.1; unfold maxLen at h2; omega
  clear w0
  have hB0 : Below w.heap.size w (w.alloc (.cells #[.slice A l.length c, .int .i64 f] 36)) := (Below.refl _ _).alloc (Nat.le_refl _) _
  go_enter Try.func10, Try.ntmps10
  go_wp2_with fail
  refine (szLedger_any A l c f _ hmax).mono ?_
  rintro e w1 ⟨rfl, hb1⟩
  have hB1 : Below w.heap.size w w1 := hB0.trans (hb1.mono (by simp))
  by_cases hl : (l.length : Int) ≤ 1048576
  · rw [szV_pos hl]
    have hl2 : l.length ≤ 2000000 := by omega
    have r0 := hb1.cell (p := ⟨w.heap.size, 0, none⟩) (by simp)
    have r1 := hb1.cell (p := ⟨w.heap.size, 1, none⟩) (by simp)
    have s1 : w.heap.size < w1.heap.size := by have := hb1.size; simp at this; omega
    clear hb1
    go_wp2_with fail
    refine (toLedger_any A l c f _ ((h.below hB1).more hB1.size) hl2).mono ?_
    rintro e w2 ⟨g2, hg2, rfl, hrow2, hb2⟩
    have hlt2 := hrow2.lt
    have hB2 : Below w.heap.size w w2 := hB1.trans (hb2.mono hB1.size)
    have q0 := (hb2.cell (p := ⟨w.heap.size, 0, none⟩) s1).trans r0
    have q1 := (hb2.cell (p := ⟨w.heap.size, 1, none⟩) s1).trans r1
    go_wp2_with fail
    refine (ldS_any (some ⟨g2, 0, none⟩) l l.length f _ ((Sl.of_row hrow2 (Nat.le_refl _)).more (by omega)) hl2).mono ?_
    rintro e w3 ⟨rfl, hb3⟩
    have s2 : w.heap.size < w2.heap.size := by omega
    have hB3 : Below w.heap.size w w3 := hB2.trans (hb3.mono hB2.size)
    have p0 := (hb3.cell (p := ⟨w.heap.size, 0, none⟩) s2).trans q0
    have p1 := (hb3.cell (p := ⟨w.heap.size, 1, none⟩) s2).trans q1
    clear r0 r1 q0 q1
    go_wp2_with fail
    refine (toLedger_any A l c f _ ((h.below hB3).more hB3.size) hl2).mono ?_
    rintro e w4 ⟨g4, hg4, rfl, hrow4, hb4⟩
    have hlt4 := hrow4.lt
    have hB4 : Below w.heap.size w w4 := hB3.trans (hb4.mono hB3.size)
    have s3 : w.heap.size < w3.heap.size := by have := hb3.size; omega
    have o0 := (hb4.cell (p := ⟨w.heap.size, 0, none⟩) s3).trans p0
    have o1 := (hb4.cell (p := ⟨w.heap.size, 1, none⟩) s3).trans p1
    clear p0 p1
    go_wp2_with fail
    refine (ld_any (some ⟨g4, 0, none⟩) l l.length f _ ((Sl.of_row (hrow4.alloc _) (Nat.le_refl _)).more (by simp; omega)) hl2).mono ?_
    rintro e w5 ⟨rfl, hb5⟩
    simp only [World.size_alloc] at hb5
    have s4 : w.heap.size < w4.heap.size := by omega
    have n0 := (hb5.cell (p := ⟨w.heap.size, 0, none⟩) (by simp; omega)).trans ((World.cell?_alloc_lt w4 _ ⟨w.heap.size, 0, none⟩ s4).trans o0)
    have n1 := (hb5.cell (p := ⟨w.heap.size, 1, none⟩) (by simp; omega)).trans ((World.cell?_alloc_lt w4 _ ⟨w.heap.size, 1, none⟩ s4).trans o1)
    have m0 := hb5.cell (p := ⟨w4.heap.size, 0, none⟩) (by simp)
    have m1 := hb5.cell (p := ⟨w4.heap.size, 1, none⟩) (by simp)
    have m0' : w5.cell? ⟨w4.heap.size, 0, none⟩ = some (.slice (some ⟨g4, 0, none⟩) l.length l.length) := by rw [m0]; go_simp
    have m1' : w5.cell? ⟨w4.heap.size, 1, none⟩ = some (.int .i64 f) := by rw [m1]; go_simp
    clear m0 m1 o0 o1
    have hB5 : Below w.heap.size w w5 := (hB4.alloc hB4.size _).trans (hb5.mono (by omega))
    have hrow5 : w5.rowIs g4 3 l.length (fun j => .int .i64 (nth l j)) := (hrow4.alloc _).of_block (hb5.block g4 (by omega))
    have s5 : w4.heap.size < w5.heap.size := by have := hb5.size; simp at this; omega
    have s5' : w.heap.size < w5.heap.size := by omega
    have hsl5 : Sl w5 w5.heap.size (some ⟨g4, 0, none⟩) l := (Sl.of_row hrow5 (Nat.le_refl _)).more (by omega)
    have hslA : Sl w5 w5.heap.size A l := (h.below hB5).more hB5.size
    clear hrow5 hb5 hrow4 hb4 hb3 hrow2 hb2 h
    have ht : eqTo l l = true := by simp [eqTo]
    go_wp2_with fail
    go_region_with (first
      | (go_at_call 29; refine (toLedger_any A l c f _ ?_ hl2).mono ?_; (exact hslA.drew); rintro e w6 ⟨g6, hg6, rfl, hrow6, hb6⟩; have y0 : w6.cell? ⟨w4.heap.size, 0, none⟩ = some (.slice (some ⟨g4, 0, none⟩) l.length l.length) := (hb6.cell (p := ⟨w4.heap.size, 0, none⟩) s5).trans m0'; have y1 : w6.cell? ⟨w4.heap.size, 1, none⟩ = some (.int .i64 f) := (hb6.cell (p := ⟨w4.heap.size, 1, none⟩) s5).trans m1')
      | (go_at_call 31; refine (eqLedger_any (some ⟨g4, 0, none⟩) (some ⟨g6, 0, none⟩) l l l.length l.length f f _ ?_ ?_ hl2 hl2).mono ?_; (exact (hsl5.drew.below hb6).more hb6.size); (exact (Sl.of_row hrow6 (Nat.le_refl _)).more hrow6.lt); rintro e w7 ⟨rfl, hb7⟩))
    all_goals
      go_wp2_with fail
      go_ret
      exact ⟨rfl, (hB5.drew.trans (hb6.mono hB5.size)).trans (hb7.mono (Nat.le_trans hB5.size hb6.size))⟩
  · rw [szV_neg hl]
    go_wp2_with fail
    go_ret
    exact ⟨rfl, hB1⟩
set_option maxHeartbeats 8000000 in
theorem walk_FnExactLedgerTotal (A : Option Addr) (n c : Nat) (l : List Int) (f : Int) (w : World) (w0 : Ints .i64 w w.heap.size A n c l) (wf : (Lit.int .i64 f).wf = true) :
    Calls Try.prog 11 #[.agg #[.slice A n c, .int .i64 f]] w fun e w' => e = .returned (.bool true) ∧ Below w.heap.size w w' := by
  obtain ⟨rfl, h⟩ := Sl.of_ints w0
  have hmax : l.length ≤ 9223372036854775807 := by have h1 := w0.2.1; have h2 := w0.2.2.1; unfold maxLen at h2; omega
  clear w0
  have hB0 : Below w.heap.size w (w.alloc (.cells #[.slice A l.length c, .int .i64 f] 36)) := (Below.refl _ _).alloc (Nat.le_refl _) _
  go_enter Try.func11, Try.ntmps11
  go_wp2_with fail
  refine (szLedger_any A l c f _ hmax).mono ?_
  rintro e w1 ⟨rfl, hb1⟩
  have hB1 : Below w.heap.size w w1 := hB0.trans (hb1.mono (by simp))
  by_cases hl : (l.length : Int) ≤ 1048576
  · rw [szV_pos hl]
    have hl2 : l.length ≤ 2000000 := by omega
    have r0 := hb1.cell (p := ⟨w.heap.size, 0, none⟩) (by simp)
    have r1 := hb1.cell (p := ⟨w.heap.size, 1, none⟩) (by simp)
    have s1 : w.heap.size < w1.heap.size := by have := hb1.size; simp at this; omega
    clear hb1
    go_wp2_with fail
    refine (toLedger_any A l c f _ ((h.below hB1).more hB1.size) hl2).mono ?_
    rintro e w2 ⟨g2, hg2, rfl, hrow2, hb2⟩
    have hlt2 := hrow2.lt
    have hB2 : Below w.heap.size w w2 := hB1.trans (hb2.mono hB1.size)
    have q0 := (hb2.cell (p := ⟨w.heap.size, 0, none⟩) s1).trans r0
    have q1 := (hb2.cell (p := ⟨w.heap.size, 1, none⟩) s1).trans r1
    go_wp2_with fail
    refine (totS_any (some ⟨g2, 0, none⟩) l l.length f _ ((Sl.of_row hrow2 (Nat.le_refl _)).more (by omega)) hl2).mono ?_
    rintro e w3 ⟨rfl, hb3⟩
    have s2 : w.heap.size < w2.heap.size := by omega
    have hB3 : Below w.heap.size w w3 := hB2.trans (hb3.mono hB2.size)
    have p0 := (hb3.cell (p := ⟨w.heap.size, 0, none⟩) s2).trans q0
    have p1 := (hb3.cell (p := ⟨w.heap.size, 1, none⟩) s2).trans q1
    clear r0 r1 q0 q1
    go_wp2_with fail
    refine (toLedger_any A l c f _ ((h.below hB3).more hB3.size) hl2).mono ?_
    rintro e w4 ⟨g4, hg4, rfl, hrow4, hb4⟩
    have hlt4 := hrow4.lt
    have hB4 : Below w.heap.size w w4 := hB3.trans (hb4.mono hB3.size)
    have s3 : w.heap.size < w3.heap.size := by have := hb3.size; omega
    have o0 := (hb4.cell (p := ⟨w.heap.size, 0, none⟩) s3).trans p0
    have o1 := (hb4.cell (p := ⟨w.heap.size, 1, none⟩) s3).trans p1
    clear p0 p1
    go_wp2_with fail
    refine (tot_any (some ⟨g4, 0, none⟩) l l.length f _ ((Sl.of_row (hrow4.alloc _) (Nat.le_refl _)).more (by simp; omega)) hl2).mono ?_
    rintro e w5 ⟨rfl, hb5⟩
    simp only [World.size_alloc] at hb5
    have s4 : w.heap.size < w4.heap.size := by omega
    have n0 := (hb5.cell (p := ⟨w.heap.size, 0, none⟩) (by simp; omega)).trans ((World.cell?_alloc_lt w4 _ ⟨w.heap.size, 0, none⟩ s4).trans o0)
    have n1 := (hb5.cell (p := ⟨w.heap.size, 1, none⟩) (by simp; omega)).trans ((World.cell?_alloc_lt w4 _ ⟨w.heap.size, 1, none⟩ s4).trans o1)
    have m0 := hb5.cell (p := ⟨w4.heap.size, 0, none⟩) (by simp)
    have m1 := hb5.cell (p := ⟨w4.heap.size, 1, none⟩) (by simp)
    have m0' : w5.cell? ⟨w4.heap.size, 0, none⟩ = some (.slice (some ⟨g4, 0, none⟩) l.length l.length) := by rw [m0]; go_simp
    have m1' : w5.cell? ⟨w4.heap.size, 1, none⟩ = some (.int .i64 f) := by rw [m1]; go_simp
    clear m0 m1 o0 o1
    have hB5 : Below w.heap.size w w5 := (hB4.alloc hB4.size _).trans (hb5.mono (by omega))
    have hrow5 : w5.rowIs g4 3 l.length (fun j => .int .i64 (nth l j)) := (hrow4.alloc _).of_block (hb5.block g4 (by omega))
    have s5 : w4.heap.size < w5.heap.size := by have := hb5.size; simp at this; omega
    have s5' : w.heap.size < w5.heap.size := by omega
    have hsl5 : Sl w5 w5.heap.size (some ⟨g4, 0, none⟩) l := (Sl.of_row hrow5 (Nat.le_refl _)).more (by omega)
    have hslA : Sl w5 w5.heap.size A l := (h.below hB5).more hB5.size
    clear hrow5 hb5 hrow4 hb4 hb3 hrow2 hb2 h
    have ht : eqTo l l = true := by simp [eqTo]
    go_wp2_with fail
    go_region_with (first
      | (go_at_call 29; refine (toLedger_any A l c f _ ?_ hl2).mono ?_; (exact hslA.drew); rintro e w6 ⟨g6, hg6, rfl, hrow6, hb6⟩; have y0 : w6.cell? ⟨w4.heap.size, 0, none⟩ = some (.slice (some ⟨g4, 0, none⟩) l.length l.length) := (hb6.cell (p := ⟨w4.heap.size, 0, none⟩) s5).trans m0'; have y1 : w6.cell? ⟨w4.heap.size, 1, none⟩ = some (.int .i64 f) := (hb6.cell (p := ⟨w4.heap.size, 1, none⟩) s5).trans m1')
      | (go_at_call 31; refine (eqLedger_any (some ⟨g4, 0, none⟩) (some ⟨g6, 0, none⟩) l l l.length l.length f f _ ?_ ?_ hl2 hl2).mono ?_; (exact (hsl5.drew.below hb6).more hb6.size); (exact (Sl.of_row hrow6 (Nat.le_refl _)).more hrow6.lt); rintro e w7 ⟨rfl, hb7⟩))
    all_goals
      go_wp2_with fail
      go_ret
      exact ⟨rfl, (hB5.drew.trans (hb6.mono hB5.size)).trans (hb7.mono (Nat.le_trans hB5.size hb6.size))⟩
  · rw [szV_neg hl]
    go_wp2_with fail
    go_ret
    exact ⟨rfl, hB1⟩

/-- What the reading of a ledger gives. -/
theorem ledger_of_trod {H : Type} {enc : TypeId × Value → H} {W : World} {base : Nat} {v : Value} {d : DataW H} {p : List MemPlace}
    (hv : Value.okWide Try.prog W .any base 36 v) (h : DataW.Trod enc Try.prog W 0 (fun _ => true) true 36 v d p) :
    ∃ (A0 : Option Addr) (n0 c0 : Nat) (fees : Int), v = .agg #[.slice A0 n0 c0, .int .i64 fees] ∧ (Lit.int .i64 fees).wf = true ∧ ∃ z0, Ints .i64 W W.heap.size A0 n0 c0 z0 := by
  obtain ⟨v0, v1, y0, y1, m, rfl, rfl, rfl, hy0, hy1⟩ := open_agg2 Try.underlying36 (by kernel_rfl) (by kernel_rfl) hv h
  obtain ⟨f, e1, rfl, wf⟩ := DataW.trod_int Try.underlying3 hy1
  simp at e1
  subst e1
  have hs : ∃ A n c, v0 = .slice A n c := by
    rcases open_ints Try.underlying34 Try.underlying3 (by kernel_rfl) hy0 with ⟨hcs, _⟩ | ⟨x, l, c', zs, hcs, _⟩
    · simp at hcs; exact ⟨_, _, _, hcs⟩
    · simp at hcs; exact ⟨_, _, _, hcs⟩
  obtain ⟨A, n, c, rfl⟩ := hs
  obtain ⟨zs, hz⟩ := ints_of_trod (d := y0.1) (p := y0.2) Try.underlying34 Try.underlying3 (by kernel_rfl) ⟨m, by simpa [Value.cells] using hy0⟩
  exact ⟨A, n, c, f, rfl, wf, zs, hz⟩
end Go.Proofs.Ytgfjaoajjcolcaa
