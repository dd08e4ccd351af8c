/- The walk of FnExactSlotsPrefix. No condition. -/
import Derived.Test.YtgfjaoajjcolcaaSlotsP
import Derived.Deep.SlicePairs
namespace Go.Proofs.Ytgfjaoajjcolcaa
open Go.RowKit Go.ChangeShapes Go.WideShapes Go.Deep
set_option linter.unusedVariables false
set_option linter.unusedSimpArgs false

/-- The slice with address A, n elements and capacity c holds the pairs l. -/
def PairsAt (w : World) (A : Option Addr) (n c : Nat) (l : List (Int × Int)) : Prop := n = l.length ∧ n ≤ c ∧ c ≤ maxLen ∧ Pl w w.heap.size A l

theorem slots_of_trod {H : Type} {enc : TypeId × Value → H} {W : World} {A : Option Addr} {n c : Nat} {d : DataW H} {p : List MemPlace}
    (h : DataW.Trod enc Try.prog W 0 (fun _ => true) true 44 (.slice A n c) d p) : ∃ l, PairsAt W A n c l := by
  obtain ⟨fuel, hf⟩ := h
  rcases open_slice_pairs Try.underlying44 Try.underlying63 (by kernel_rfl) rfl rfl (by kernel_rfl) (by kernel_rfl) hf with ⟨hcs, _⟩ | ⟨x, len, cap, m, n', V0, V1, D0, D1, P0, P1, hcs, _, hl, hm, hmm, _, hi⟩
  · simp [Value.cells] at hcs
    obtain ⟨rfl, rfl, rfl⟩ := hcs
    exact ⟨[], rfl, Nat.le_refl _, by simp [maxLen], Pl.nil _ _ _⟩
  · simp [Value.cells] at hcs
    obtain ⟨rfl, rfl, rfl⟩ := hcs
    have hmc : n ≤ m := by simp at hmm; omega
    have hv : ∀ i, i < n → ∃ a b : Int, W.cell? (x.add (i * 2)) = some (.int .i64 a) ∧ W.cell? (x.add (i * 2 + 1)) = some (.int .i64 b) := fun i hin => by
      obtain ⟨g0, g1, t0, t1⟩ := hi i (by omega)
      obtain ⟨a, e0, _, _⟩ := DataW.trod_int Try.underlying3 t0
      obtain ⟨b, e1, _, _⟩ := DataW.trod_int Try.underlying3 t1
      simp at e0 e1
      exact ⟨a, b, by rw [g0, e0], by rw [g1, e1]⟩
    have hch : ∃ f : Nat → Int × Int, ∀ i, i < n → W.cell? (x.add (i * 2)) = some (.int .i64 (f i).1) ∧ W.cell? (x.add (i * 2 + 1)) = some (.int .i64 (f i).2) := by
      refine ⟨fun i => if h : i < n then ((hv i h).choose, (hv i h).choose_spec.choose) else (0, 0), fun i hin => ?_⟩
      simp only [dif_pos hin]
      exact (hv i hin).choose_spec.choose_spec
    obtain ⟨f, hf'⟩ := hch
    refine ⟨(List.range n).map f, by simp, hl, hm, fun hne => ?_⟩
    have hn0 : 0 < n := by
      rcases Nat.eq_zero_or_pos n with h0 | h0
      · subst h0; simp at hne
      · exact h0
    obtain ⟨b, off, spot⟩ := x
    have h0 := (hf' 0 hn0).1
    have hspot : spot = none := by simpa [Addr.add] using World.cell?_spot h0
    subst hspot
    refine ⟨b, off, rfl, by simpa [Addr.add] using World.block_lt_of_cell? W _ h0, fun j hj => ?_⟩
    have hj' : j < n := by simpa using hj
    have := hf' j hj'
    have e1 : fst_ ((List.range n).map f) j = (f j).1 := by simp [fst_, hj']
    have e2 : snd_ ((List.range n).map f) j = (f j).2 := by simp [snd_, hj']
    rw [e1, e2]
    refine ⟨?_, by simpa [Addr.add, Nat.add_assoc] using this.2⟩
    by_cases hz : j = 0
    · subst hz; simpa [Addr.add] using this.1
    · simpa [Addr.add, show ¬ j * 2 = 0 by omega] using this.1

set_option maxHeartbeats 8000000 in
theorem walk_FnExactSlotsPrefix (A : Option Addr) (n c : Nat) (l : List (Int × Int)) (A' : Option Addr) (n' c' : Nat) (l' : List (Int × Int)) (w : World) (w0 : PairsAt w A n c l) (w0' : PairsAt w A' n' c' l') :
    Calls Try.prog 12 #[.slice A n c, .slice A' n' c'] w fun e w' => e = .returned (.bool true) ∧ Below w.heap.size w w' := by
  obtain ⟨rfl, hc, hm, h⟩ := w0
  obtain ⟨rfl, hc', hm', h'⟩ := w0'
  unfold maxLen at hm hm'
  by_cases hl : (l.length : Int) ≤ 1048576
  · have hl2 : l.length ≤ 2000000 := by omega
    by_cases hl' : (l'.length : Int) ≤ 1048576 - l.length
    · have hl2' : l'.length ≤ 2000000 := by omega
      go_enter Try.func12, Try.ntmps12
      go_wp2_with fail
      refine (sz_any A l c 1048576 _ (by omega) (by omega) (by omega)).mono ?_
      rintro e w1 ⟨rfl, rfl⟩
      rw [szV_pos hl]
      go_wp2_with fail
      refine (sz_any A' l' c' (1048576 - l.length) _ (by omega) (by omega) (by omega)).mono ?_
      rintro e w1 ⟨rfl, rfl⟩
      rw [szV_pos hl']
      go_wp2_with fail
      refine (toList_any A l c _ h hl2).mono ?_
      rintro e w1 ⟨rfl, hr1, hb1⟩
      have s1 := hr1.lt
      go_wp2_with fail
      refine (toList_any A' l' c' _ ((h'.below hb1).more hb1.size) hl2').mono ?_
      rintro e w2 ⟨rfl, hr2, hb2⟩
      have s2 := hr2.lt
      have hB2 : Below w.heap.size w w2 := hb1.trans (hb2.mono hb1.size)
      have hr1' := hr1.of_block (hb2.block _ s1)
      go_wp2_with fail
      refine (prefS_any (some ⟨w.heap.size, 0, none⟩) (some ⟨w1.heap.size, 0, none⟩) l l' l.length l'.length _ _ _ (Pl.of_row hr1' (Nat.le_refl _)) (Pl.of_row hr2 (Nat.le_refl _)) hl2 hl2').mono ?_
      rintro e w3 ⟨rfl, n3, rfl⟩
      have hB3 := below_n hB2 n3
      have s3 := hB3.size
      clear hr1 hr2 hr1' hb1 hb2
      go_wp2_with fail
      refine (toList_any A l c _ ((h.below hB3).more s3) hl2).mono ?_
      rintro e w4 ⟨rfl, hr4, hb4⟩
      have s4 := hr4.lt
      have hB4 : Below w.heap.size w w4 := hB3.trans (hb4.mono s3)
      go_wp2_with fail
      refine (toList_any A' l' c' _ ((h'.below hB4).more hB4.size) hl2').mono ?_
      rintro e w5 ⟨rfl, hr5, hb5⟩
      have s5 := hr5.lt
      have hB5 : Below w.heap.size w w5 := hB4.trans (hb5.mono hB4.size)
      have hr4' := hr4.of_block (hb5.block _ s4)
      go_wp2_with fail
      refine (pref_any (some ⟨w2.heap.size, 0, none⟩) (some ⟨w4.heap.size, 0, none⟩) l l' l.length l'.length _ _ _ (Pl.of_row hr4' (Nat.le_refl _)) (Pl.of_row hr5 (Nat.le_refl _)) hl2 hl2' (Nat.le_refl _) (by omega)).mono ?_
      rintro e w6 ⟨rfl, n6, rfl⟩
      have hB6 := below_n hB5 n6
      have s6 := hB6.size
      have hx0 : Pl (w5.drewN n6) (w2.heap.size + 1) (some ⟨w2.heap.size, 0, none⟩) l := (Pl.of_row hr4' (Nat.le_refl _)).drewN n6
      have hx1 : Pl (w5.drewN n6) (w4.heap.size + 1) (some ⟨w4.heap.size, 0, none⟩) l' := (Pl.of_row hr5 (Nat.le_refl _)).drewN n6
      have s42 : w2.heap.size + 1 ≤ w5.heap.size := by have := hb5.size; have : w2.heap.size < w4.heap.size := s4; omega
      have s54 : w4.heap.size + 1 ≤ w5.heap.size := s5
      clear hr4 hr5 hr4' hb4 hb5 s4 s5
      go_wp2_with fail
      refine (toList_any A l c _ ((h.below hB6).more s6) hl2).mono ?_
      rintro e w7 ⟨rfl, hr7, hb7⟩
      have s7 := hr7.lt
      have hB7 : Below w.heap.size w w7 := hB6.trans (hb7.mono s6)
      have s57 : w5.heap.size ≤ w7.heap.size := hb7.size
      have ht : eqP l l = true := by simp [eqP]
      have ht' : eqP l' l' = true := by simp [eqP]
      go_wp2_with fail
      refine (eqList_any (some ⟨w2.heap.size, 0, none⟩) (some ⟨w5.heap.size, 0, none⟩) l l l.length l.length _ ((hx0.below (hb7.mono s42)).more (by omega)) ((Pl.of_row hr7 (Nat.le_refl _)).more s7) hl2 hl2).mono ?_
      rintro e w8 ⟨rfl, hb8⟩
      have hB8 : Below w.heap.size w w8 := hB7.trans (hb8.mono hB7.size)
      have hx1' := (hx1.below (hb7.mono s54)).below (hb8.mono (by omega))
      have s78 := hb8.size
      rw [ht]
      go_wp2_with fail
      refine (toList_any A' l' c' _ ((h'.below hB8).more hB8.size) hl2').mono ?_
      rintro e w9 ⟨rfl, hr9, hb9⟩
      have s9 := hr9.lt
      have hB9 : Below w.heap.size w w9 := hB8.trans (hb9.mono hB8.size)
      go_wp2_with fail
      refine (eqList_any (some ⟨w4.heap.size, 0, none⟩) (some ⟨w8.heap.size, 0, none⟩) l' l' l'.length l'.length _ ((hx1'.below (hb9.mono (by omega))).more (by have := hb9.size; omega)) ((Pl.of_row hr9 (Nat.le_refl _)).more s9) hl2' hl2').mono ?_
      rintro e w10 ⟨rfl, hb10⟩
      rw [ht']
      go_wp2_with fail
      go_ret
      exact ⟨rfl, hB9.trans (hb10.mono hB9.size)⟩
    · go_enter Try.func12, Try.ntmps12
      go_wp2_with fail
      refine (sz_any A l c 1048576 _ (by omega) (by omega) (by omega)).mono ?_
      rintro e w1 ⟨rfl, rfl⟩
      rw [szV_pos hl]
      go_wp2_with fail
      refine (sz_any A' l' c' (1048576 - l.length) _ (by omega) (by omega) (by omega)).mono ?_
      rintro e w1 ⟨rfl, rfl⟩
      rw [szV_neg (by omega)]
      go_wp2_with fail
      go_ret
      exact ⟨rfl, Below.refl _ _⟩
  · go_enter Try.func12, Try.ntmps12
    go_wp2_with fail
    refine (sz_any A l c 1048576 _ (by omega) (by omega) (by omega)).mono ?_
    rintro e w1 ⟨rfl, rfl⟩
    rw [szV_neg (by omega)]
    go_wp2_with fail
    go_ret
    exact ⟨rfl, Below.refl _ _⟩
end Go.Proofs.Ytgfjaoajjcolcaa
