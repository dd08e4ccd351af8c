/- The walk of FnMerkleSingle. No condition. -/
import Derived.Test.YtgmbacgpaagkhaaSkip
import Derived.Deep.RegionHeld3
import Derived.Deep.RegionWith
namespace Go.Proofs.Ytgmbacgpaagkhaa
open Go.RowKit
set_option linter.unusedVariables false
set_option linter.unusedSimpArgs false

theorem sl_one {V : World} {g : Nat} {x : Int} (h1 : V.cell? ⟨g, 0, none⟩ = some (.int .i64 x)) (h2 : g < V.heap.size) : Sl V V.heap.size (some ⟨g, 0, none⟩) [x] := fun _ => ⟨g, 0, rfl, h2, fun j hj => by
  have : j = 0 := by simpa using hj
  subst this
  exact h1⟩


set_option maxHeartbeats 16000000 in
theorem walk_FnMerkleSingle (a0 : Option Addr) (len0 cap0 : Nat) (z0 : List Int) (w : World) (w0 : Ints .u8 w w.heap.size a0 len0 cap0 z0) :
    Calls Try.prog 7 #[.slice a0 len0 cap0] w fun e w' => e = .returned (.bool true) ∧ Below w.heap.size w w' := by
  by_cases h1 : len0 ≤ 1048576
  · have g1 : decide (1048576 < len0) = false := by simp; omega
    have hEV := eqTo_same
    obtain ⟨i0, hi, hz0, hz1, hz2⟩ := info_parts info_int
    go_enter Try.func7, Try.ntmps7
    go_wp2_with fail
    refine (drawRoot_any a0 len0 cap0 z0 _ w0).mono ?_
    clear w0
    rintro e w2 ⟨gd, cd, l, hgd, rfl, ud, hdl, hdc, hdm, hb2⟩
    go_wp2_with fail
    refine (root_any _ _ l _ ud.sl' (by omega)).mono ?_
    rintro e w3 ⟨rfl, hb3⟩
    replace ud := ud.below hb3 ud.lt
    have hB3 : Below w.heap.size w w3 := hb2.trans (hb3.mono hb2.size)
    clear hb2 hb3
    go_wp2_with fail
    refine (rootS_any _ _ l _ ud.sl' (by omega)).mono ?_
    rintro e w4 ⟨rfl, hb4⟩
    replace ud := ud.below hb4 ud.lt
    have hB : Below w.heap.size w w4 := hB3.trans (hb4.mono hB3.size)
    clear hB3 hb4
    have hneg := rootV_neg l
    by_cases hlv : leavesB l = true
    · rw [hlv] at hneg
      have t1 : decide (rootV l < 0) = false := hneg
      have HL := Lib.hid hlv
      obtain ⟨k1, k16, _⟩ := leavesB_parts hlv
      obtain ⟨R, hR⟩ : ∃ R, R = rootV l := ⟨_, rfl⟩
      rw [← hR] at t1 ⊢
      have HR := Lib.hid hR
      clear hlv hneg hR
      have hO : rootV [nth l 0] = nth l 0 ∧ proofV [nth l 0] 0 = [] := by
        match l, k1, HL with
        | a :: t, _, HL => exact ⟨(root_one HL.out).1, (root_one HL.out).2.1⟩
      have HO1 := Lib.hid hO.1
      have HO2 := Lib.hid hO.2
      clear hO
      have t7 : (nth l 0 == nth l 0) = true := by simp
      have j0 : (0 : Int) < (l.length : Int) := by omega
      have j3 : (1 : Int) ≤ (cd : Int) := by omega
      by_cases hlen : l.length = 2
      · have t5 : ((l.length : Int) != 2) = false := by simp; omega
        obtain ⟨p0, p1⟩ := allIn_get (leavesB_parts HL.out).2.2 (j := 0) (by omega)
        obtain ⟨p2, p3⟩ := allIn_get (leavesB_parts HL.out).2.2 (j := 1) (by omega)
        have hR2 : R = Dag.pair (nth l 0) (nth l 1) := by
          rw [HR.out]
          match l, hlen, HL with
          | [a, b], _, HL => rw [root_two HL.out]; rfl
        have HR2 := Lib.hid hR2
        have t6 : (R == Dag.pair (nth l 0) (nth l 1)) = true := by simpa using hR2
        clear hR2
        have b0 := ud.cell (j := 1) (by omega)
        have a0' := ud.cell (j := 0) (by omega)
        obtain ⟨W, hW⟩ : ∃ W, W = w4 := ⟨_, rfl⟩
        rw [← hW] at a0' ud hB b0 ⊢
        clear hW
        have a0 := a0'
        clear a0'
        have HGD0 := Lib.hid ud.lt
        have H1 := Lib.hid (fun (V : World) (h1 : V.cell? ⟨gd, 0, none⟩ = some (.int .i64 (nth l 0))) (h2 : gd < V.heap.size) => (show Calls Try.prog 17 #[.slice (some ⟨gd, 0, none⟩) 1 cd] V fun e w' => e = .returned (.int .i64 (rootV [nth l 0])) ∧ Below V.heap.size V w' from root_any (some ⟨gd, 0, none⟩) cd [nth l 0] V (sl_one h1 h2) (by simp)))
        have H2 := Lib.hid (fun (V : World) (h1 : V.cell? ⟨gd, 0, none⟩ = some (.int .i64 (nth l 0))) (h2 : gd < V.heap.size) => (show Calls Try.prog 19 #[.slice (some ⟨gd, 0, none⟩) 1 cd, .int .i64 0] V (FreshI (proofV [nth l 0] 0) V) from proof_any (some ⟨gd, 0, none⟩) cd [nth l 0] 0 V (sl_one h1 h2) (by simp)))
        go_wp2_with fail
        first | (go_region_held3 (fun w' => w'.cell? ⟨gd, 0, none⟩ = some (.int .i64 (nth l 0)) ∧ w'.cell? ⟨gd, 1, none⟩ = some (.int .i64 (nth l 1))) (first | exact ⟨a0, b0⟩ | exact ⟨a1, b1⟩ | exact ⟨a2, b2⟩)
          (first
            | (go_at_call 17; refine (H1.out _ ?_ ?_).mono ?_; exact a0; exact HGD0.out; rintro e w5 ⟨rfl, hb5⟩; rw [HO1.out]; have a1 := (hb5.cell (p := ⟨gd, 0, none⟩) HGD0.out).trans a0; have b1 := (hb5.cell (p := ⟨gd, 1, none⟩) HGD0.out).trans b0; have HGD1 := Lib.hid (Nat.lt_of_lt_of_le HGD0.out hb5.size))
            | (go_at_call 19; refine (H2.out _ ?_ ?_).mono ?_; exact a1; exact HGD1.out; rintro e w6 ⟨g6, c6, hg6, rfl, u6, hc6, hm6, hb6⟩; rw [HO2.out]; have a2 := (hb6.cell (p := ⟨gd, 0, none⟩) HGD1.out).trans a1; have b2 := (hb6.cell (p := ⟨gd, 1, none⟩) HGD1.out).trans b1; have HGD2 := Lib.hid (Nat.lt_of_lt_of_le HGD1.out hb6.size); simp only [List.length_nil])
            | (go_at_call 23; refine (pair_any _ _ _ p0 p1 p2 p3).mono ?_; rintro e w7 ⟨rfl, hw7⟩; rw [hw7]; clear hw7 w7))) | fail
        all_goals
          have hB5 : Below w.heap.size w w5 := (show Below w.heap.size w W.drew from ⟨hB.os, hB.tape, hB.output, hB.size, hB.block⟩).trans (hb5.mono hB.size)
          have hB6 : Below w.heap.size w w6 := hB5.trans (hb6.mono hB5.size)
          go_wp2_with fail
          go_ret
          exact ⟨by simp [t5, t6], hB6⟩
      · have t5 : ((l.length : Int) != 2) = true := by simp; omega
        have s1 : ((l.length : Int) == 2) = false := by simp; omega
        have s2 : decide ((l.length : Int) = 2) = false := by simp; omega
        have s3 : (l.length == 2) = false := by simp; omega
        have s4 : ¬ (l.length : Int) = 2 := by omega
        have s5 : l ≠ [] := by intro e; rw [e] at k1; simp at k1
        have s6 : 0 < l.length := by omega
        have a0' := ud.cell (j := 0) (by omega)
        obtain ⟨W, hW⟩ : ∃ W, W = w4 := ⟨_, rfl⟩
        rw [← hW] at a0' ud hB ⊢
        clear hW
        have a0 := a0'
        clear a0'
        have HGD0 := Lib.hid ud.lt
        have H1 := Lib.hid (fun (V : World) (h1 : V.cell? ⟨gd, 0, none⟩ = some (.int .i64 (nth l 0))) (h2 : gd < V.heap.size) => (show Calls Try.prog 17 #[.slice (some ⟨gd, 0, none⟩) 1 cd] V fun e w' => e = .returned (.int .i64 (rootV [nth l 0])) ∧ Below V.heap.size V w' from root_any (some ⟨gd, 0, none⟩) cd [nth l 0] V (sl_one h1 h2) (by simp)))
        have H2 := Lib.hid (fun (V : World) (h1 : V.cell? ⟨gd, 0, none⟩ = some (.int .i64 (nth l 0))) (h2 : gd < V.heap.size) => (show Calls Try.prog 19 #[.slice (some ⟨gd, 0, none⟩) 1 cd, .int .i64 0] V (FreshI (proofV [nth l 0] 0) V) from proof_any (some ⟨gd, 0, none⟩) cd [nth l 0] 0 V (sl_one h1 h2) (by simp)))
        have x1 := a0
        go_wp2_with fail
        refine wp_region_any (by kernel_rfl) ?_
        refine wpAny_take (i := 0) (v := ?_) rfl (by kernel_rfl) (by kernel_rfl) (by kernel_rfl) (fun _ _ _ h => h) (Or.inl ⟨by kernel_rfl, ?_⟩) ?_
        rotate_left
        · intro w'; go_simp; try with_reducible rfl
        refine wpAny_take (i := 1) (v := ?_) rfl (by kernel_rfl) (by kernel_rfl) (by kernel_rfl) (fun _ _ _ h => h) (Or.inl ⟨by kernel_rfl, ?_⟩) ?_
        rotate_left
        · intro w'; go_simp; try with_reducible rfl
        refine wpAny_take (i := 3) (v := ?_) rfl (by kernel_rfl) (by kernel_rfl) (by kernel_rfl) (fun _ _ _ h => h) (Or.inl ⟨by kernel_rfl, ?_⟩) ?_
        rotate_left
        · intro w'; go_simp; try with_reducible rfl
        refine wpAny_take (i := 4) (v := ?_) rfl (by kernel_rfl) (by kernel_rfl) (by kernel_rfl) (fun _ _ _ h => h) (Or.inl ⟨by kernel_rfl, ?_⟩) ?_
        rotate_left
        · intro w'; go_simp; try with_reducible rfl
        refine wpAny_ready (rs := [2, 5]) (by kernel_rfl) (by simp) ?_
        refine AllReady.cons rfl (fun K hK => ?_) (AllReady.cons rfl (fun K hK => ?_) AllReady.nil)
        · skip
          go_simp
          refine (H1.out _ ?_ ?_).mono ?_
          exact a0
          exact HGD0.out
          rintro e w5 ⟨rfl, hb5⟩
          rw [HO1.out]
          have a1 := (hb5.cell (p := ⟨gd, 0, none⟩) HGD0.out).trans a0; have HGD1 := Lib.hid (Nat.lt_of_lt_of_le HGD0.out hb5.size)
          simp only []
          refine hK _ _ ?_
          clear hK K
          refine wpAny_ready (rs := [5]) (by kernel_rfl) (by simp) ?_
          refine AllReady.cons rfl (fun K hK => ?_) AllReady.nil
          go_simp
          refine hK _ _ ?_
          clear hK K
          refine wpAny_take (i := 6) (v := ?_) rfl (by kernel_rfl) (by kernel_rfl) (by kernel_rfl) (fun _ _ _ h => h) (Or.inl ⟨by kernel_rfl, ?_⟩) ?_
          rotate_left
          · intro w'; go_simp; try with_reducible rfl
          refine wpAny_take (i := 7) (v := ?_) rfl (by kernel_rfl) (by kernel_rfl) (by kernel_rfl) (fun _ _ _ h => h) (Or.inl ⟨by kernel_rfl, ?_⟩) ?_
          rotate_left
          · intro w'; go_simp; try with_reducible rfl
          refine wpAny_take (i := 8) (v := ?_) rfl (by kernel_rfl) (by kernel_rfl) (by kernel_rfl) (fun _ _ _ h => h) (Or.inl ⟨by kernel_rfl, ?_⟩) ?_
          rotate_left
          · intro w'; go_simp; try with_reducible rfl
          refine wpAny_take (i := 9) (v := ?_) rfl (by kernel_rfl) (by kernel_rfl) (by kernel_rfl) (fun _ _ _ h => h) (Or.inl ⟨by kernel_rfl, ?_⟩) ?_
          rotate_left
          · intro w'; go_simp; try with_reducible rfl
          refine wpAny_ready (rs := [10]) (by kernel_rfl) (by simp) ?_
          refine AllReady.cons rfl (fun K hK => ?_) AllReady.nil
          go_simp
          refine (H2.out _ ?_ ?_).mono ?_
          exact a1
          exact HGD1.out
          rintro e w6 ⟨g6, c6, hg6, rfl, u6, hc6, hm6, hb6⟩
          rw [HO2.out]
          have a2 := (hb6.cell (p := ⟨gd, 0, none⟩) HGD1.out).trans a1; have HGD2 := Lib.hid (Nat.lt_of_lt_of_le HGD1.out hb6.size)
          simp only [List.length_nil]
          refine hK _ _ ?_
          clear hK K
          refine wpAny_ready (rs := [11]) (by kernel_rfl) (by simp) ?_
          refine AllReady.cons rfl (fun K hK => ?_) AllReady.nil
          go_simp
          refine hK _ _ ?_
          clear hK K
          refine wpAny_take (i := 12) (v := ?_) rfl (by kernel_rfl) (by kernel_rfl) (by kernel_rfl) (fun _ _ _ h => h) (Or.inl ⟨by kernel_rfl, ?_⟩) ?_
          rotate_left
          · intro w'; go_simp; try with_reducible rfl
          refine wpAny_take (i := 13) (v := ?_) rfl (by kernel_rfl) (by kernel_rfl) (by kernel_rfl) (fun _ _ _ h => h) (Or.inl ⟨by kernel_rfl, ?_⟩) ?_
          rotate_left
          · intro w'; go_simp; try with_reducible rfl
          refine wpAny_take (i := 14) (v := ?_) rfl (by kernel_rfl) (by kernel_rfl) (by kernel_rfl) (fun _ _ _ h => h) (Or.inl ⟨by kernel_rfl, ?_⟩) ?_
          rotate_left
          · intro w'; go_simp; try with_reducible rfl
          refine wpAny_take (i := 15) (v := ?_) rfl (by kernel_rfl) (by kernel_rfl) (by kernel_rfl) (fun _ _ _ h => h) (Or.inl ⟨by kernel_rfl, ?_⟩) ?_
          rotate_left
          · intro w'; go_simp; try with_reducible rfl
          refine wpAny_ready (rs := [16]) (by kernel_rfl) (by simp) ?_
          refine AllReady.cons rfl (fun K hK => ?_) AllReady.nil
          go_simp
          refine hK _ _ ?_
          clear hK K
          refine wpAny_take (i := 17) (v := ?_) rfl (by kernel_rfl) (by kernel_rfl) (by kernel_rfl) (fun _ _ _ h => h) (Or.inl ⟨by kernel_rfl, ?_⟩) ?_
          rotate_left
          · intro w'; go_simp; try with_reducible rfl
          refine wpAny_take (i := 18) (v := ?_) rfl (by kernel_rfl) (by kernel_rfl) (by kernel_rfl) (fun _ _ _ h => h) (Or.inl ⟨by kernel_rfl, ?_⟩) ?_
          rotate_left
          · intro w'; go_simp; try with_reducible rfl
          refine wpAny_skip (i := 19) rfl (by kernel_rfl) (by kernel_rfl) (by kernel_rfl) (fun _ _ _ h => h) (by kernel_rfl) (by kernel_rfl) ?_
          refine wpAny_skip (i := 20) rfl (by kernel_rfl) (by kernel_rfl) (by kernel_rfl) (fun _ _ _ h => h) (by kernel_rfl) (by kernel_rfl) ?_
          refine wpAny_skip (i := 21) rfl (by kernel_rfl) (by kernel_rfl) (by kernel_rfl) (fun _ _ _ h => h) (by kernel_rfl) (by kernel_rfl) ?_
          refine wpAny_skip (i := 22) rfl (by kernel_rfl) (by kernel_rfl) (by kernel_rfl) (fun _ _ _ h => h) (by kernel_rfl) (by kernel_rfl) ?_
          refine wpAny_skip (i := 23) rfl (by kernel_rfl) (by kernel_rfl) (by kernel_rfl) (fun _ _ _ h => h) (by kernel_rfl) (by kernel_rfl) ?_
          refine wpAny_skip (i := 24) rfl (by kernel_rfl) (by kernel_rfl) (by kernel_rfl) (fun _ _ _ h => h) (by kernel_rfl) (by kernel_rfl) ?_
          refine wpAny_skip (i := 25) rfl (by kernel_rfl) (by kernel_rfl) (by kernel_rfl) (fun _ _ _ h => h) (by kernel_rfl) (by kernel_rfl) ?_
          refine wpAny_skip (i := 26) rfl (by kernel_rfl) (by kernel_rfl) (by kernel_rfl) (fun _ _ _ h => h) (by kernel_rfl) (by kernel_rfl) ?_
          refine wpAny_skip (i := 27) rfl (by kernel_rfl) (by kernel_rfl) (by kernel_rfl) (fun _ _ _ h => h) (by kernel_rfl) (by kernel_rfl) ?_
          refine wpAny_take (i := 28) (v := ?_) rfl (by kernel_rfl) (by kernel_rfl) (by kernel_rfl) (fun _ _ _ h => h) (Or.inl ⟨by kernel_rfl, ?_⟩) ?_
          rotate_left
          · intro w'; go_simp; try with_reducible rfl
          refine wpAny_take (i := 29) (v := ?_) rfl (by kernel_rfl) (by kernel_rfl) (by kernel_rfl) (fun _ _ _ h => h) (Or.inl ⟨by kernel_rfl, ?_⟩) ?_
          rotate_left
          · intro w'; go_simp; try with_reducible rfl
          refine wpAny_take (i := 30) (v := ?_) rfl (by kernel_rfl) (by kernel_rfl) (by kernel_rfl) (fun _ _ _ h => h) (Or.inl ⟨by kernel_rfl, ?_⟩) ?_
          rotate_left
          · intro w'; go_simp; try with_reducible rfl
          refine wpAny_done (by kernel_rfl) ?_ _
          have hB5 : Below w.heap.size w w5 := (show Below w.heap.size w W.drew from ⟨hB.os, hB.tape, hB.output, hB.size, hB.block⟩).trans (hb5.mono hB.size)
          have hB6 : Below w.heap.size w w6 := hB5.trans (hb6.mono hB5.size)
          go_wp2_with fail
          go_ret
          refine ⟨?_, hB6⟩
          first | kernel_rfl | rfl | (simp [t5])
        · skip
          go_simp
          refine hK _ _ ?_
          clear hK K
          refine wpAny_ready (rs := [2]) (by kernel_rfl) (by simp) ?_
          refine AllReady.cons rfl (fun K hK => ?_) AllReady.nil
          go_simp
          refine (H1.out _ ?_ ?_).mono ?_
          exact a0
          exact HGD0.out
          rintro e w5 ⟨rfl, hb5⟩
          rw [HO1.out]
          have a1 := (hb5.cell (p := ⟨gd, 0, none⟩) HGD0.out).trans a0; have HGD1 := Lib.hid (Nat.lt_of_lt_of_le HGD0.out hb5.size)
          simp only []
          refine hK _ _ ?_
          clear hK K
          refine wpAny_take (i := 6) (v := ?_) rfl (by kernel_rfl) (by kernel_rfl) (by kernel_rfl) (fun _ _ _ h => h) (Or.inl ⟨by kernel_rfl, ?_⟩) ?_
          rotate_left
          · intro w'; go_simp; try with_reducible rfl
          refine wpAny_take (i := 7) (v := ?_) rfl (by kernel_rfl) (by kernel_rfl) (by kernel_rfl) (fun _ _ _ h => h) (Or.inl ⟨by kernel_rfl, ?_⟩) ?_
          rotate_left
          · intro w'; go_simp; try with_reducible rfl
          refine wpAny_take (i := 8) (v := ?_) rfl (by kernel_rfl) (by kernel_rfl) (by kernel_rfl) (fun _ _ _ h => h) (Or.inl ⟨by kernel_rfl, ?_⟩) ?_
          rotate_left
          · intro w'; go_simp; try with_reducible rfl
          refine wpAny_take (i := 9) (v := ?_) rfl (by kernel_rfl) (by kernel_rfl) (by kernel_rfl) (fun _ _ _ h => h) (Or.inl ⟨by kernel_rfl, ?_⟩) ?_
          rotate_left
          · intro w'; go_simp; try with_reducible rfl
          refine wpAny_ready (rs := [10]) (by kernel_rfl) (by simp) ?_
          refine AllReady.cons rfl (fun K hK => ?_) AllReady.nil
          go_simp
          refine (H2.out _ ?_ ?_).mono ?_
          exact a1
          exact HGD1.out
          rintro e w6 ⟨g6, c6, hg6, rfl, u6, hc6, hm6, hb6⟩
          rw [HO2.out]
          have a2 := (hb6.cell (p := ⟨gd, 0, none⟩) HGD1.out).trans a1; have HGD2 := Lib.hid (Nat.lt_of_lt_of_le HGD1.out hb6.size)
          simp only [List.length_nil]
          refine hK _ _ ?_
          clear hK K
          refine wpAny_ready (rs := [11]) (by kernel_rfl) (by simp) ?_
          refine AllReady.cons rfl (fun K hK => ?_) AllReady.nil
          go_simp
          refine hK _ _ ?_
          clear hK K
          refine wpAny_take (i := 12) (v := ?_) rfl (by kernel_rfl) (by kernel_rfl) (by kernel_rfl) (fun _ _ _ h => h) (Or.inl ⟨by kernel_rfl, ?_⟩) ?_
          rotate_left
          · intro w'; go_simp; try with_reducible rfl
          refine wpAny_take (i := 13) (v := ?_) rfl (by kernel_rfl) (by kernel_rfl) (by kernel_rfl) (fun _ _ _ h => h) (Or.inl ⟨by kernel_rfl, ?_⟩) ?_
          rotate_left
          · intro w'; go_simp; try with_reducible rfl
          refine wpAny_take (i := 14) (v := ?_) rfl (by kernel_rfl) (by kernel_rfl) (by kernel_rfl) (fun _ _ _ h => h) (Or.inl ⟨by kernel_rfl, ?_⟩) ?_
          rotate_left
          · intro w'; go_simp; try with_reducible rfl
          refine wpAny_take (i := 15) (v := ?_) rfl (by kernel_rfl) (by kernel_rfl) (by kernel_rfl) (fun _ _ _ h => h) (Or.inl ⟨by kernel_rfl, ?_⟩) ?_
          rotate_left
          · intro w'; go_simp; try with_reducible rfl
          refine wpAny_ready (rs := [16]) (by kernel_rfl) (by simp) ?_
          refine AllReady.cons rfl (fun K hK => ?_) AllReady.nil
          go_simp
          refine hK _ _ ?_
          clear hK K
          refine wpAny_take (i := 17) (v := ?_) rfl (by kernel_rfl) (by kernel_rfl) (by kernel_rfl) (fun _ _ _ h => h) (Or.inl ⟨by kernel_rfl, ?_⟩) ?_
          rotate_left
          · intro w'; go_simp; try with_reducible rfl
          refine wpAny_take (i := 18) (v := ?_) rfl (by kernel_rfl) (by kernel_rfl) (by kernel_rfl) (fun _ _ _ h => h) (Or.inl ⟨by kernel_rfl, ?_⟩) ?_
          rotate_left
          · intro w'; go_simp; try with_reducible rfl
          refine wpAny_skip (i := 19) rfl (by kernel_rfl) (by kernel_rfl) (by kernel_rfl) (fun _ _ _ h => h) (by kernel_rfl) (by kernel_rfl) ?_
          refine wpAny_skip (i := 20) rfl (by kernel_rfl) (by kernel_rfl) (by kernel_rfl) (fun _ _ _ h => h) (by kernel_rfl) (by kernel_rfl) ?_
          refine wpAny_skip (i := 21) rfl (by kernel_rfl) (by kernel_rfl) (by kernel_rfl) (fun _ _ _ h => h) (by kernel_rfl) (by kernel_rfl) ?_
          refine wpAny_skip (i := 22) rfl (by kernel_rfl) (by kernel_rfl) (by kernel_rfl) (fun _ _ _ h => h) (by kernel_rfl) (by kernel_rfl) ?_
          refine wpAny_skip (i := 23) rfl (by kernel_rfl) (by kernel_rfl) (by kernel_rfl) (fun _ _ _ h => h) (by kernel_rfl) (by kernel_rfl) ?_
          refine wpAny_skip (i := 24) rfl (by kernel_rfl) (by kernel_rfl) (by kernel_rfl) (fun _ _ _ h => h) (by kernel_rfl) (by kernel_rfl) ?_
          refine wpAny_skip (i := 25) rfl (by kernel_rfl) (by kernel_rfl) (by kernel_rfl) (fun _ _ _ h => h) (by kernel_rfl) (by kernel_rfl) ?_
          refine wpAny_skip (i := 26) rfl (by kernel_rfl) (by kernel_rfl) (by kernel_rfl) (fun _ _ _ h => h) (by kernel_rfl) (by kernel_rfl) ?_
          refine wpAny_skip (i := 27) rfl (by kernel_rfl) (by kernel_rfl) (by kernel_rfl) (fun _ _ _ h => h) (by kernel_rfl) (by kernel_rfl) ?_
          refine wpAny_take (i := 28) (v := ?_) rfl (by kernel_rfl) (by kernel_rfl) (by kernel_rfl) (fun _ _ _ h => h) (Or.inl ⟨by kernel_rfl, ?_⟩) ?_
          rotate_left
          · intro w'; go_simp; try with_reducible rfl
          refine wpAny_take (i := 29) (v := ?_) rfl (by kernel_rfl) (by kernel_rfl) (by kernel_rfl) (fun _ _ _ h => h) (Or.inl ⟨by kernel_rfl, ?_⟩) ?_
          rotate_left
          · intro w'; go_simp; try with_reducible rfl
          refine wpAny_take (i := 30) (v := ?_) rfl (by kernel_rfl) (by kernel_rfl) (by kernel_rfl) (fun _ _ _ h => h) (Or.inl ⟨by kernel_rfl, ?_⟩) ?_
          rotate_left
          · intro w'; go_simp; try with_reducible rfl
          refine wpAny_done (by kernel_rfl) ?_ _
          have hB5 : Below w.heap.size w w5 := (show Below w.heap.size w W.drew from ⟨hB.os, hB.tape, hB.output, hB.size, hB.block⟩).trans (hb5.mono hB.size)
          have hB6 : Below w.heap.size w w6 := hB5.trans (hb6.mono hB5.size)
          go_wp2_with fail
          go_ret
          refine ⟨?_, hB6⟩
          first | kernel_rfl | rfl | (simp [t5])
    · have hlv' : leavesB l = false := by simpa using hlv
      rw [hlv'] at hneg
      have t1 : decide (rootV l < 0) = true := hneg
      clear hlv hlv' hneg
      go_wp2_with fail
      go_ret
      exact ⟨by simp, hB⟩
  · have g1 : decide (1048576 < len0) = true := by simp; omega
    go_enter Try.func7, Try.ntmps7
    go_wp2_with fail
    go_ret
    exact ⟨rfl, Below.refl _ _⟩
end Go.Proofs.Ytgmbacgpaagkhaa
