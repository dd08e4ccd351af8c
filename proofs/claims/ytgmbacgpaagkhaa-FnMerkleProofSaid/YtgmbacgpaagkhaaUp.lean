/- Leaves, pairs and levels of the trees, of program and reference. Conditions: at most sixteen digests. -/
import Derived.Test.YtgmbacgpaagkhaaApp
import Derived.Test.YtgmbacgpaagkhaaMrk
import Derived.StillTailTactics
import Derived.IntWalk
namespace Go.Proofs.Ytgmbacgpaagkhaa
open Go.RowKit
set_option linter.unusedVariables false
set_option linter.unusedSimpArgs false

theorem OwnI.fresh {w w' : World} {g c : Nat} {l : List Int} (h : OwnI w' w.heap.size g c l) (hb : Below w.heap.size w w') : FreshI l w (.returned (.slice (some ⟨g, 0, none⟩) l.length c)) w' := by
  obtain ⟨h1, h2, h3, h4, h5⟩ := h.parts
  exact ⟨g, c, h1, rfl, h5, h3, h4, hb⟩

def leavesB (l : List Int) : Bool := allIn 0 990 l && decide (1 ≤ l.length ∧ l.length ≤ 16)
theorem leavesB_false {l : List Int} (h : ¬ (1 ≤ l.length ∧ l.length ≤ 16) ∨ allIn 0 990 l = false) : leavesB l = false := by
  unfold leavesB
  rcases h with h | h
  · rw [show decide (1 ≤ l.length ∧ l.length ≤ 16) = false by simp only [decide_eq_false_iff_not]; omega]; simp
  · rw [h]; rfl
theorem leavesB_true {l : List Int} (h : allIn 0 990 l = true) (h1 : 1 ≤ l.length) (h2 : l.length ≤ 16) : leavesB l = true := by
  unfold leavesB; rw [h]; simp; omega
theorem leavesB_parts {l : List Int} (h : leavesB l = true) : 1 ≤ l.length ∧ l.length ≤ 16 ∧ allIn 0 990 l = true := by
  simp only [leavesB, Bool.and_eq_true, decide_eq_true_eq] at h; exact ⟨h.2.1, h.2.2, h.1⟩

set_option maxHeartbeats 2000000 in
theorem leaves_any (A : Option Addr) (c : Nat) (l : List Int) (w : World) (B : Nat) (h : Sl w B A l) (hl : l.length ≤ 2000000) :
    Calls Try.prog 34 #[.slice A l.length c] w fun e w' => e = .returned (.bool (leavesB l)) ∧ w = w' := by
  by_cases n0 : 1 ≤ l.length
  · have g0 : decide ((l.length : Int) < 1) = false := by simp only [decide_eq_false_iff_not]; omega
    by_cases n1 : l.length ≤ 16
    · have g1 : decide ((16 : Int) < l.length) = false := by simp; omega
      go_enter Try.func34, Try.ntmps34
      go_wp2_with fail
      go_loop [4, 15] (fun _ i => ∃ k : Nat, k ≤ l.length ∧ i = .int .i64 k ∧ ∀ j, j < k → 0 ≤ nth l j ∧ nth l j ≤ 990) (fun _ i => l.length - (intOf i).toNat)
      case atStart => exact ⟨0, Nat.zero_le _, rfl, fun j hj => absurd hj (by omega)⟩
      case round =>
        obtain ⟨k, hk, rfl, hq⟩ := hrel
        have HQ := Lib.hid hq
        clear hq
        by_cases hlt : k < l.length
        · obtain ⟨b, off, rfl, hb, hc⟩ := h.at_ hlt
          by_cases e0 : 0 ≤ nth l k
          · by_cases e1 : nth l k < 991
            · go_wp2
              exact ⟨⟨k + 1, by omega, by go_num, fun j hj => by
                by_cases e : j = k
                · rw [e]; exact ⟨e0, by omega⟩
                · exact HQ.out j (by omega)⟩, by simp [intOf]; omega⟩
            · have g : decide (nth l k < 991) = false := by simp; omega
              have HF := Lib.hid (leavesB_false (.inr (allIn_false (lo := 0) (hi := 990) hlt (.inr (by omega)))))
              go_wp2
              go_ret
              exact ⟨by rw [HF.out]; rfl, rfl⟩
          · have g : decide (0 ≤ nth l k) = false := by simp; omega
            have HF := Lib.hid (leavesB_false (.inr (allIn_false (lo := 0) (hi := 990) hlt (.inl (by omega)))))
            go_wp2
            go_ret
            exact ⟨by rw [HF.out]; rfl, rfl⟩
        · have HT := Lib.hid (leavesB_true (allIn_true (lo := 0) (hi := 990) (l := l) (fun j hj => HQ.out j (by omega))) n0 n1)
          go_wp2
          go_ret
          exact ⟨by rw [HT.out]; rfl, rfl⟩
    · have g1 : decide ((16 : Int) < l.length) = true := by simp; omega
      rw [leavesB_false (.inl (by omega))]
      go_enter Try.func34, Try.ntmps34
      go_wp2_with fail
      go_ret
      exact ⟨rfl, rfl⟩
  · have g0 : decide ((l.length : Int) < 1) = true := by simp only [decide_eq_true_eq]; omega
    rw [leavesB_false (.inl (by omega))]
    go_enter Try.func34, Try.ntmps34
    go_wp2_with fail
    go_ret
    exact ⟨rfl, rfl⟩

set_option maxHeartbeats 2000000 in
theorem leavesS_any (A : Option Addr) (c : Nat) (l : List Int) (w : World) (B : Nat) (h : Sl w B A l) (hl : l.length ≤ 2000000) :
    Calls Try.prog 32 #[.slice A l.length c] w fun e w' => e = .returned (.bool (leavesB l)) ∧ w = w' := by
  go_enter Try.func32, Try.ntmps32
  go_wp2_with fail
  go_loop [3] (fun i => ∃ k : Nat, k ≤ l.length ∧ i = .int .i64 k ∧ ∀ j, j < k → 0 ≤ nth l j ∧ nth l j ≤ 990) (fun i => l.length - (intOf i).toNat)
  case atStart => exact ⟨0, Nat.zero_le _, rfl, fun j hj => absurd hj (by omega)⟩
  case round =>
    obtain ⟨k, hk, rfl, hq⟩ := hrel
    have HQ := Lib.hid hq
    clear hq
    by_cases hlt : k < l.length
    · obtain ⟨b, off, rfl, hb, hc⟩ := h.at_ hlt
      by_cases e0 : 0 ≤ nth l k
      · by_cases e1 : nth l k ≤ 990
        · go_wp2
          exact ⟨⟨k + 1, by omega, by go_num, fun j hj => by
            by_cases e : j = k
            · rw [e]; exact ⟨e0, by omega⟩
            · exact HQ.out j (by omega)⟩, by simp [intOf]; omega⟩
        · have g : decide (nth l k ≤ 990) = false := by simp; omega
          have HF := Lib.hid (leavesB_false (.inr (allIn_false (lo := 0) (hi := 990) hlt (.inr (by omega)))))
          go_wp2
          go_ret
          exact ⟨by rw [HF.out]; rfl, rfl⟩
      · have g : decide (0 ≤ nth l k) = false := by simp; omega
        have HF := Lib.hid (leavesB_false (.inr (allIn_false (lo := 0) (hi := 990) hlt (.inl (by omega)))))
        go_wp2
        go_ret
        exact ⟨by rw [HF.out]; rfl, rfl⟩
    · have HA := Lib.hid (allIn_true (lo := 0) (hi := 990) (l := l) (fun j hj => HQ.out j (by omega)))
      by_cases n0 : 1 ≤ l.length
      · by_cases n1 : l.length ≤ 16
        · have g' : decide ((l.length : Int) ≤ 16) = true := by simp; omega
          have HT := Lib.hid (leavesB_true HA.out n0 n1)
          go_wp2
          go_ret
          exact ⟨by rw [HT.out]; rfl, rfl⟩
        · have g : decide (l.length ≤ 16) = false := by simp; omega
          have g' : decide ((l.length : Int) ≤ 16) = false := by simp; omega
          have HT := Lib.hid (leavesB_false (l := l) (.inl (by omega)))
          go_wp2
          go_ret
          exact ⟨by rw [HT.out]; rfl, rfl⟩
      · have g : decide (1 ≤ l.length) = false := by simp only [decide_eq_false_iff_not]; omega
        have g' : decide ((1 : Int) ≤ l.length) = false := by simp only [decide_eq_false_iff_not]; omega
        have HT := Lib.hid (leavesB_false (l := l) (.inl (by omega)))
        go_wp2
        go_ret
        exact ⟨by rw [HT.out]; rfl, rfl⟩

theorem pair_any (a b : Int) (w : World) (a0 : 0 ≤ a) (a1 : a ≤ 990) (b0 : 0 ≤ b) (b1 : b ≤ 990) :
    Calls Try.prog 23 #[.int .i64 a, .int .i64 b] w fun e w' => e = .returned (.int .i64 (Dag.pair a b)) ∧ w' = w := by
  have x1 : a < 991 := by omega
  have x2 : b < 991 := by omega
  go_enter Try.func23, Try.ntmps23
  go_wp2
  go_ret
  exact ⟨rfl, rfl⟩
theorem pairS_any (a b : Int) (w : World) (a0 : 0 ≤ a) (a1 : a ≤ 990) (b0 : 0 ≤ b) (b1 : b ≤ 990) :
    Calls Try.prog 29 #[.int .i64 a, .int .i64 b] w fun e w' => e = .returned (.int .i64 (Dag.pair a b)) ∧ w' = w := by
  go_enter Try.func29, Try.ntmps29
  go_wp2
  go_ret
  exact ⟨rfl, rfl⟩

/-- The k-th node of the level above. -/
theorem up_nth {l : List Int} {k : Nat} (h : 2 * k < l.length) : nth (Dag.up l) k = if 2 * k + 1 < l.length then Dag.pair (nth l (2 * k)) (nth l (2 * k + 1)) else nth l (2 * k) := by
  have := Dag.up_get l (2 * k) h
  have e1 : 2 * k / 2 = k := by omega
  have e2 : Dag.sib (2 * k) = 2 * k + 1 := by unfold Dag.sib; rw [if_pos (by omega)]
  rw [e1, e2, if_pos (by omega : 2 * k % 2 = 0)] at this
  exact this
def tk (l : List Int) (k : Nat) : List Int := l.take k
theorem tk_snoc {l : List Int} {k : Nat} (h : k < l.length) : tk l k ++ [nth l k] = tk l (k + 1) := by
  unfold tk; rw [nth_lt h, List.take_succ_eq_append_getElem h]
theorem tk_len (l : List Int) (k : Nat) : (tk l k).length ≤ k := by simp [tk]; omega
theorem tk_zero (l : List Int) : tk l 0 = [] := rfl
theorem tk_up {l : List Int} {k : Nat} (h : l.length ≤ 2 * k) : tk (Dag.up l) k = Dag.up l := by
  apply List.take_of_length_le; rw [Dag.up_len]; omega
theorem region_tail {P : Program} {id : Nat} {Q : Exit → Act → World → Prop} {a : Act} {w : World} {l : List Oper} (n : Nat) (hm : P.follows .mixedOrders = true) (hB : Region.lexTailB .any l.toArray n = true)
    (h : wpStill P l.toArray w.drew (fun a' => wpList P l.toArray Q (l.drop n) a' w.drew) (l.take n) a) : (Code.region id l.toArray true).wp P Q a w := wp_region_still_tail n hm hB h

theorem make_cap (z : Int) (h0 : 0 ≤ z) (h1 : z ≤ 2000000) (w : World) : (Instr.makeSlice 22 (.int .i64 0) (.int .i64 z)).run Try.prog w = .ok (.slice (some ⟨w.heap.size, 0, none⟩) 0 z.toNat) (w.alloc (.cells (madeCells #[.int .i64 0] z.toNat) 3)) := by
  obtain ⟨i0, hi, hz0, hz1, hz2⟩ := info_parts info_int
  have hr := run_make (P := Try.prog) w 22 3 i0 _ Try.underlying22 hi hz0 .i64 .i64 0 z (by omega) h0 (by rw [hz2]; omega) (by omega)
  simp only [hz1, Nat.mul_one] at hr
  exact hr
theorem OwnI.make (w : World) (n : Nat) (hn : n ≤ 2000000) : OwnI (w.alloc (.cells (madeCells #[.int .i64 0] n) 3)) w.heap.size w.heap.size n [] :=
  World.ownsRow_made w _ n (Nat.le_refl _) (by simp only [maxLen]; omega) (by rw [size_madeCells]; omega)

theorem below_drew {w w' : World} {B : Nat} (h : Below B w w') : Below B w w'.drew := ⟨h.os, h.tape, h.output, h.size, h.block⟩
set_option maxHeartbeats 4000000 in
theorem above_any (A : Option Addr) (c : Nat) (l : List Int) (w : World) (h : Sl w w.heap.size A l) (hd : allIn 0 990 l = true) (hl : l.length ≤ 16) :
    Calls Try.prog 43 #[.slice A l.length c] w (FreshI (Dag.up l) w) := by
  have hcp : (((l.length : Int) + 1) / 2).toNat = (l.length + 1) / 2 := by omega
  have hmk := make_cap (((l.length : Int) + 1) / 2) (by omega) (by omega)
  rw [hcp] at hmk
  have hown0 := OwnI.make w ((l.length + 1) / 2) (by omega)
  clear hcp
  have hB0 : Below w.heap.size w (w.alloc (.cells (madeCells #[.int .i64 0] ((l.length + 1) / 2)) 3)) := (Below.refl _ _).alloc (Nat.le_refl _) _
  have HUL := Lib.hid (Dag.up_len l)
  go_enter Try.func43, Try.ntmps43
  go_wp2_with fail
  go_loopw [3, 4] (fun v i wr => ∃ k g cp : Nat, k ≤ (l.length + 1) / 2 ∧ i = .int .i64 (2 * (k : Int)) ∧ v = .slice (some ⟨g, 0, none⟩) (tk (Dag.up l) k).length cp ∧ OwnI wr w.heap.size g cp (tk (Dag.up l) k) ∧ Below w.heap.size w wr) (fun _ i _ => l.length + 1 - (intOf i).toNat)
  case atStart => exact ⟨0, w.heap.size, (l.length + 1) / 2, Nat.zero_le _, rfl, rfl, hown0, hB0⟩
  case round =>
    clear hown0 hB0
    obtain ⟨k, g, cp, hk, rfl, rfl, hown, hb⟩ := hrel
    have htl : (tk (Dag.up l) k).length ≤ 8 := by have := tk_len (Dag.up l) k; omega
    have hge := hown.parts.1
    by_cases hlt : 2 * k < l.length
    · obtain ⟨b, off, rfl, hbl, hc⟩ := (h.below hb).at_ hlt
      obtain ⟨d0, d1⟩ := allIn_get hd hlt
      have c1 : 2 * (k : Int) < (l.length : Int) := by omega
      have c2 : (0 : Int) ≤ 2 * (k : Int) := by omega
      have c3 : (2 * (k : Int)).toNat = 2 * k := by omega
      have hnt := up_nth hlt
      have htk := tk_snoc (l := Dag.up l) (k := k) (by have := HUL.out; omega)
      by_cases h2 : 2 * k + 1 < l.length
      · rw [if_pos h2] at hnt
        rw [hnt] at htk
        obtain ⟨b', off', e', hbl', hc'⟩ := (h.below hb).at_ h2
        simp only [Option.some.injEq, Addr.mk.injEq, and_true] at e'
        obtain ⟨rfl, rfl⟩ := e'
        obtain ⟨d0', d1'⟩ := allIn_get hd h2
        have c4 : 2 * (k : Int) + 1 < (l.length : Int) := by omega
        have c5 : (0 : Int) ≤ 2 * (k : Int) + 1 := by omega
        have c6 : (2 * (k : Int) + 1).toNat = 2 * k + 1 := by omega
        have a1 : IntKind.i64.wrap (2 * (k : Int) + 1) = 2 * (k : Int) + 1 := IntWalk.i64_in _ (by omega)
        have HT := Lib.hid htk
        clear hnt htk
        go_wp2_with fail
        obtain ⟨W, hW⟩ : ∃ W, W = wr := ⟨_, rfl⟩
        rw [← hW] at hown hb hc hc' ⊢
        clear hW
        go_region_law (first
          | (refine step_one rfl (.tmp 21) (.tmp 32) rfl w.heap.size g cp _ _ _ HT.out (by simp [Act.eval, Act.put]) W.heap.size (by simp [Act.eval, Act.put]) (heap_alloc_new _ _) (OwnI.alloc (w := W.drew) hown _) (by omega) (by have := hb.size; simp; omega) ?_; intro g' c' w5 ho hg hf)
          | (go_simp; go_at_call 23; refine (pair_any _ _ _ d0 d1 d0' d1').mono ?_; rintro e w1 ⟨rfl, rfl⟩))
        all_goals
          have hb5 : Below w.heap.size w w5 := (below_drew (w' := W) hb).grown (unalloc (w := W.drew) _ hg) hb.size (fun kk e => by injection e with e; omega)
          clear hown hb hg hf HT
          go_wp2_with fail
          exact ⟨⟨k + 1, g', c', by omega, by go_num, rfl, ho, hb5⟩, by simp [intOf]; omega⟩
      · rw [if_neg h2] at hnt
        rw [hnt] at htk
        have HT := Lib.hid htk
        clear hnt htk
        have c4 : decide (2 * (k : Int) + 1 < (l.length : Int)) = false := by simp; omega
        go_wp2_with (at_builtin; refine wpList_one rfl _ _ rfl w.heap.size g cp _ _ _ HT.out rfl _ rfl (by simp) hown (by omega) hb.size ?_)
        intro g' c' w5 ho hg hf
        have hb5 : Below w.heap.size w w5 := hb.grown hg hb.size (fun kk e => by injection e with e; omega)
        clear hown hb hg hf HT
        go_wp2_with fail
        exact ⟨⟨k + 1, g', c', by omega, by go_num, rfl, ho, hb5⟩, by simp [intOf]; omega⟩
    · have HT := Lib.hid (tk_up (l := l) (k := k) (by omega))
      have c1 : decide (2 * (k : Int) < (l.length : Int)) = false := by simp; omega
      go_wp2_with fail
      go_ret
      have hh := hown.fresh hb
      rw [HT.out] at hh
      rw [HT.out]
      exact hh

set_option maxHeartbeats 4000000 in
theorem up_any (A : Option Addr) (c : Nat) (l : List Int) (w : World) (h : Sl w w.heap.size A l) (hd : allIn 0 990 l = true) (hl : l.length ≤ 16) :
    Calls Try.prog 33 #[.slice A l.length c] w (FreshI (Dag.up l) w) := by
  have hown0 := OwnI.made w w.heap.size (Nat.le_refl _)
  have hB0 : Below w.heap.size w (w.alloc (.cells #[] 3)) := (Below.refl _ _).alloc (Nat.le_refl _) _
  have HUL := Lib.hid (Dag.up_len l)
  go_enter Try.func33, Try.ntmps33
  go_wp2_with fail
  go_loopw [3, 4] (fun v i wr => ∃ k g cp : Nat, k ≤ (l.length + 1) / 2 ∧ i = .int .i64 (2 * (k : Int)) ∧ v = .slice (some ⟨g, 0, none⟩) (tk (Dag.up l) k).length cp ∧ OwnI wr w.heap.size g cp (tk (Dag.up l) k) ∧ Below w.heap.size w wr) (fun _ i _ => l.length + 1 - (intOf i).toNat)
  case atStart => exact ⟨0, w.heap.size, 0, Nat.zero_le _, rfl, rfl, hown0, hB0⟩
  case round =>
    clear hown0 hB0
    obtain ⟨k, g, cp, hk, rfl, rfl, hown, hb⟩ := hrel
    have htl : (tk (Dag.up l) k).length ≤ 8 := by have := tk_len (Dag.up l) k; omega
    have hge := hown.parts.1
    by_cases hlt : 2 * k < l.length
    · obtain ⟨b, off, rfl, hbl, hc⟩ := (h.below hb).at_ hlt
      obtain ⟨d0, d1⟩ := allIn_get hd hlt
      have c1 : 2 * (k : Int) < (l.length : Int) := by omega
      have c2 : (0 : Int) ≤ 2 * (k : Int) := by omega
      have c3 : (2 * (k : Int)).toNat = 2 * k := by omega
      have hnt := up_nth hlt
      have htk := tk_snoc (l := Dag.up l) (k := k) (by have := HUL.out; omega)
      by_cases h2 : 2 * k + 1 < l.length
      · rw [if_pos h2] at hnt
        rw [hnt] at htk
        obtain ⟨b', off', e', hbl', hc'⟩ := (h.below hb).at_ h2
        simp only [Option.some.injEq, Addr.mk.injEq, and_true] at e'
        obtain ⟨rfl, rfl⟩ := e'
        obtain ⟨d0', d1'⟩ := allIn_get hd h2
        have c4 : 2 * (k : Int) + 1 < (l.length : Int) := by omega
        have c5 : (0 : Int) ≤ 2 * (k : Int) + 1 := by omega
        have c6 : (2 * (k : Int) + 1).toNat = 2 * k + 1 := by omega
        have a1 : IntKind.i64.wrap (2 * (k : Int) + 1) = 2 * (k : Int) + 1 := IntWalk.i64_in _ (by omega)
        have HT := Lib.hid htk
        clear hnt htk
        go_wp2_with fail
        obtain ⟨W, hW⟩ : ∃ W, W = wr := ⟨_, rfl⟩
        rw [← hW] at hown hb hc hc' ⊢
        clear hW
        go_region_law (first
          | (refine step_one rfl (.tmp 17) (.tmp 28) rfl w.heap.size g cp _ _ _ HT.out (by simp [Act.eval, Act.put]) W.heap.size (by simp [Act.eval, Act.put]) (heap_alloc_new _ _) (OwnI.alloc (w := W.drew) hown _) (by omega) (by have := hb.size; simp; omega) ?_; intro g' c' w5 ho hg hf)
          | (go_simp; go_at_call 29; refine (pairS_any _ _ _ d0 d1 d0' d1').mono ?_; rintro e w1 ⟨rfl, rfl⟩))
        all_goals
          have hb5 : Below w.heap.size w w5 := (below_drew (w' := W) hb).grown (unalloc (w := W.drew) _ hg) hb.size (fun kk e => by injection e with e; omega)
          clear hown hb hg hf HT
          go_wp2_with fail
          exact ⟨⟨k + 1, g', c', by omega, by go_num, rfl, ho, hb5⟩, by simp [intOf]; omega⟩
      · rw [if_neg h2] at hnt
        rw [hnt] at htk
        have HT := Lib.hid htk
        clear hnt htk
        have c4 : decide (2 * (k : Int) + 1 < (l.length : Int)) = false := by simp; omega
        go_wp2_with (at_builtin; refine wpList_one rfl _ _ rfl w.heap.size g cp _ _ _ HT.out rfl _ rfl (by simp) hown (by omega) hb.size ?_)
        intro g' c' w5 ho hg hf
        have hb5 : Below w.heap.size w w5 := hb.grown hg hb.size (fun kk e => by injection e with e; omega)
        clear hown hb hg hf HT
        go_wp2_with fail
        exact ⟨⟨k + 1, g', c', by omega, by go_num, rfl, ho, hb5⟩, by simp [intOf]; omega⟩
    · have HT := Lib.hid (tk_up (l := l) (k := k) (by omega))
      have c1 : decide (2 * (k : Int) < (l.length : Int)) = false := by simp; omega
      go_wp2_with fail
      go_ret
      have hh := hown.fresh hb
      rw [HT.out] at hh
      rw [HT.out]
      exact hh

end Go.Proofs.Ytgmbacgpaagkhaa
