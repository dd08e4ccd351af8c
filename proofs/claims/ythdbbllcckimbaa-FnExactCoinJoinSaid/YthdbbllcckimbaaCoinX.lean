/- The walk of FnExactCoinJoin. No condition. -/
import Derived.Test.YthdbbllcckimbaaSpC
import Derived.Deep.SlicePairs
namespace Go.Proofs.Ythdbbllcckimbaa
open Go.RowKit Go.ChangeShapes Go.WideShapes Go.Deep
set_option linter.unusedVariables false
set_option linter.unusedSimpArgs false

/-- The slice with address A, n elements and capacity c holds the pairs l. -/
def PartsAt (w : World) (A : Option Addr) (n c : Nat) (l : List (Int × Int)) : Prop := n = l.length ∧ n ≤ c ∧ c ≤ maxLen ∧ Pl w w.heap.size A l

theorem parts_of_trod {H : Type} {enc : TypeId × Value → H} {W : World} {A : Option Addr} {n c : Nat} {d : DataW H} {p : List MemPlace}
    (h : DataW.Trod enc Try.prog W 0 (fun _ => true) true 49 (.slice A n c) d p) : ∃ l, PartsAt W A n c l := by
  obtain ⟨fuel, hf⟩ := h
  rcases open_slice_pairs Try.underlying49 Try.underlying70 (by kernel_rfl) rfl rfl (by kernel_rfl) (by kernel_rfl) hf with ⟨hcs, _⟩ | ⟨x, len, cap, m, n', V0, V1, D0, D1, P0, P1, hcs, _, hl, hm, hmm, _, hi⟩
  · simp [Value.cells] at hcs
    obtain ⟨rfl, rfl, rfl⟩ := hcs
    exact ⟨[], rfl, Nat.le_refl _, by simp [maxLen], Pl.nil _ _ _⟩
  · simp [Value.cells] at hcs
    obtain ⟨rfl, rfl, rfl⟩ := hcs
    have hmc : n ≤ m := by simp at hmm; omega
    have hv : ∀ i, i < n → ∃ a b : Int, W.cell? (x.add (i * 2)) = some (.int .i64 a) ∧ W.cell? (x.add (i * 2 + 1)) = some (.int .i64 b) := fun i hin => by
      obtain ⟨g0, g1, t0, t1⟩ := hi i (by omega)
      obtain ⟨a, e0, _, _⟩ := DataW.trod_int Try.underlying3 t0
      obtain ⟨b, e1, _, _⟩ := DataW.trod_int Try.underlying3 t1
      simp at e0 e1
      exact ⟨a, b, by rw [g0, e0], by rw [g1, e1]⟩
    have hch : ∃ f : Nat → Int × Int, ∀ i, i < n → W.cell? (x.add (i * 2)) = some (.int .i64 (f i).1) ∧ W.cell? (x.add (i * 2 + 1)) = some (.int .i64 (f i).2) := by
      refine ⟨fun i => if h : i < n then ((hv i h).choose, (hv i h).choose_spec.choose) else (0, 0), fun i hin => ?_⟩
      simp only [dif_pos hin]
      exact (hv i hin).choose_spec.choose_spec
    obtain ⟨f, hf'⟩ := hch
    refine ⟨(List.range n).map f, by simp, hl, hm, fun hne => ?_⟩
    have hn0 : 0 < n := by
      rcases Nat.eq_zero_or_pos n with h0 | h0
      · subst h0; simp at hne
      · exact h0
    obtain ⟨b, off, spot⟩ := x
    have h0 := (hf' 0 hn0).1
    have hspot : spot = none := by simpa [Addr.add] using World.cell?_spot h0
    subst hspot
    refine ⟨b, off, rfl, by simpa [Addr.add] using World.block_lt_of_cell? W _ h0, fun j hj => ?_⟩
    have hj' : j < n := by simpa using hj
    have := hf' j hj'
    have e1 : fst_ ((List.range n).map f) j = (f j).1 := by simp [fst_, hj']
    have e2 : snd_ ((List.range n).map f) j = (f j).2 := by simp [snd_, hj']
    rw [e1, e2]
    refine ⟨?_, by simpa [Addr.add, Nat.add_assoc] using this.2⟩
    by_cases hz : j = 0
    · subst hz; simpa [Addr.add] using this.1
    · simpa [Addr.add, show ¬ j * 2 = 0 by omega] using this.1
theorem eqP_same (l : List (Int × Int)) : eqP l l = true := by simp [eqP]

set_option maxHeartbeats 4000000 in
theorem walk_FnExactCoinJoin (need : Int) (A : Option Addr) (n c : Nat) (l : List (Int × Int)) (w : World) (wf : (Lit.int .i64 need).wf = true) (w0 : PartsAt w A n c l) :
    Calls Try.prog 9 #[.int .i64 need, .slice A n c] w fun e w' => e = .returned (.bool true) ∧ Below w.heap.size w w' := by
  obtain ⟨rfl, hc, hm, h⟩ := w0
  unfold maxLen at hm
  have hEL := eqP_same l
  by_cases hl : (l.length : Int) ≤ 1048576
  · have hl2 : l.length ≤ 2000000 := by omega
    have HSZ := Lib.hid (szV_pos (n := l.length) (left := 1048576) hl)
    have q1 : decide ((1048576 : Int) - (l.length : Int) < 0) = false := by simp only [decide_eq_false_iff_not]; omega
    have q2 : ¬ ((1048576 : Int) - (l.length : Int) < 0) := by omega
    go_enter Try.func9, Try.ntmps9
    go_wp2_with (go_at_call 28; refine (sz_any A l c 1048576 _ (by omega) (by omega) (by omega)).mono ?_; rintro e w1 ⟨rfl, rfl⟩; rw [HSZ.out])
    refine (toList_any A l c _ h hl2).mono ?_
    rintro e w1 ⟨rfl, hr1, hb1⟩
    have u1 := (Pl.of_row hr1 (Nat.le_refl _)).more hr1.lt
    go_wp2_with fail
    refine (coinJoinS_any need _ l.length l _ u1 hl2).mono ?_
    rintro e w2 ⟨v, b, rfl, hj, hb2⟩
    have hB2 : Below w.heap.size w w2 := hb1.trans (hb2.mono hb1.size)
    clear hb1 hb2 u1 hr1
    go_wp2_with fail
    refine (toList_any A l c _ ((h.below hB2).more hB2.size) hl2).mono ?_
    rintro e w3 ⟨rfl, hr3, hb3⟩
    have ux := (Pl.of_row hr3 (Nat.le_refl _)).more hr3.lt
    have hB3 : Below w.heap.size w w3 := hB2.trans (hb3.mono hB2.size)
    clear hb3 hr3 hB2
    go_wp2_with fail
    refine (join_any need _ l.length l _ ux hl2 (Nat.le_refl _)).mono ?_
    rintro e w4 ⟨v', b', rfl, hj', hb4⟩
    obtain ⟨rfl, rfl⟩ := hj'.one hj
    have hB4 : Below w.heap.size w w4 := hB3.trans (hb4.mono hB3.size)
    have ux4 := (ux.below hb4).more hb4.size
    clear hb4 hB3 ux hj hj'
    go_wp2_with fail
    refine (toList_any A l c _ ((h.below hB4).more hB4.size) hl2).mono ?_
    rintro e w5 ⟨rfl, hr5, hb5⟩
    have u5 := (Pl.of_row hr5 (Nat.le_refl _)).more hr5.lt
    have hB5 : Below w.heap.size w w5 := hB4.trans (hb5.mono hB4.size)
    have ux5 := (ux4.below hb5).more hb5.size
    clear hb5 hB4 ux4 hr5
    go_wp2_with fail
    refine (eqList_any _ _ l l l.length l.length _ ux5 u5 hl2 hl2).mono ?_
    rintro e w6 ⟨rfl, hb6⟩
    rw [hEL]
    go_wp2_with fail
    go_ret
    exact ⟨rfl, hB5.trans (hb6.mono hB5.size)⟩
  · have HSZ := Lib.hid (szV_neg (n := l.length) (left := 1048576) hl)
    go_enter Try.func9, Try.ntmps9
    go_wp2_with (go_at_call 28; refine (sz_any A l c 1048576 _ (by omega) (by omega) (by omega)).mono ?_; rintro e w1 ⟨rfl, rfl⟩; rw [HSZ.out])
    go_ret
    exact ⟨rfl, Below.refl _ _⟩
end Go.Proofs.Ythdbbllcckimbaa
