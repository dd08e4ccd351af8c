/- Shards are checked by the program. Conditions: the lists are within two million elements. -/
import Derived.Test.YtfkmiflddpjllaaShF
import Derived.Test.YtfkmiflddpjllaaShV
import Derived.Deep.RegionHeld3
namespace Go.Proofs.Ytfkmiflddpjllaa
open Go.RowKit
set_option linter.unusedVariables false
set_option linter.unusedSimpArgs false

theorem below_n {B : Nat} {a w : World} (h : Below B a w) (n : Nat) : Below B a (w.drewN n) := ⟨h.os, h.tape, h.output, h.size, h.block⟩
theorem SG.step {size need : Nat} {l : List Sh} {k : Nat} (h : SG size need l k) (hk : 1 ≤ num_ l k ∧ num_ l k ≤ 8 ∧ (val_ l k).length = cols size need ∧ allIn 0 250 (val_ l k) = true ∧ ∀ i, i < k → num_ l i ≠ num_ l k) : SG size need l (k + 1) := fun j hj => by
  by_cases e : j = k
  · rw [e]; exact hk
  · exact h j (by omega)
theorem SG.zero (size need : Nat) (l : List Sh) : SG size need l 0 := fun j hj => absurd hj (by omega)
/-- The cells of the table of numbers that have been seen. -/
def seenV (l : List Sh) (k : Nat) (i : Nat) : Bool := decide (∃ j, j < k ∧ num_ l j = (i : Int))
theorem seenV_yes {l : List Sh} {k : Nat} {i : Int} (h0 : 0 ≤ i) (h : seenV l k i.toNat = true) : ¬ ∀ j, j < k → num_ l j ≠ i := by
  simp only [seenV, decide_eq_true_eq] at h
  obtain ⟨j, hj, e⟩ := h
  intro q
  exact q j hj (by omega)
theorem seenV_no {l : List Sh} {k : Nat} {i : Int} (h0 : 0 ≤ i) (h : seenV l k i.toNat = false) : ∀ j, j < k → num_ l j ≠ i := by
  simp only [seenV, decide_eq_false_iff_not] at h
  intro j hj e
  exact h ⟨j, hj, by omega⟩
theorem seenV_succ (l : List Sh) (k i : Nat) (h0 : 0 ≤ num_ l k) : seenV l (k + 1) i = if i = (num_ l k).toNat then true else seenV l k i := by
  by_cases e : i = (num_ l k).toNat
  · rw [if_pos e]; simp only [seenV, decide_eq_true_eq]; exact ⟨k, by omega, by omega⟩
  · rw [if_neg e]
    unfold seenV
    congr 1
    apply propext
    constructor
    · rintro ⟨j, hj, hn⟩
      by_cases e2 : j = k
      · subst e2; omega
      · exact ⟨j, by omega, hn⟩
    · rintro ⟨j, hj, hn⟩; exact ⟨j, by omega, hn⟩

theorem quietW {P : Program} {f : FuncId} {args : Array Value} {W : World} {n : Nat} {v : Value} (h : Calls P f args (W.drewN n) fun e w' => e = .returned v ∧ W.drewN n = w') : Calls P f args (W.drewN n) fun e w'' => e = .returned v ∧ ∃ m, w'' = W.drewN m := h.mono fun _ _ ⟨he, hm⟩ => ⟨he, n, hm.symm⟩
theorem seen_new (w : World) (l : List Sh) (t : TypeId) : (w.alloc (.cells #[.bool false, .bool false, .bool false, .bool false, .bool false, .bool false, .bool false, .bool false, .bool false] t)).rowIs w.heap.size t 9 (fun i => .bool (seenV l 0 i)) :=
  ⟨_, heap_alloc_new w _, rfl, fun i hi => by
    have e : seenV l 0 i = false := by simp [seenV]
    show _ = some (Value.bool (seenV l 0 i))
    rw [e]
    have : i = 0 ∨ i = 1 ∨ i = 2 ∨ i = 3 ∨ i = 4 ∨ i = 5 ∨ i = 6 ∨ i = 7 ∨ i = 8 := by omega
    rcases this with rfl | rfl | rfl | rfl | rfl | rfl | rfl | rfl | rfl <;> rfl⟩

set_option maxHeartbeats 4000000 in
theorem svalid_any (size need : Int) (A : Option Addr) (c : Nat) (l : List Sh) (w : World) (h : ShL w w.heap.size A l) (hl : l.length ≤ 2000000) (hvl : ∀ j, j < l.length → (val_ l j).length ≤ 2000000) :
    Calls Try.prog 47 #[.int .i64 size, .int .i64 need, .slice A l.length c] w (BoolW (shardsB size need l) w) := by
  have HVL := Lib.hid hvl
  clear hvl
  by_cases h1 : 1 ≤ size
  · have q1 : decide (size < 1) = false := by simp; omega
    by_cases h2 : size ≤ 12
    · have q2 : decide (12 < size) = false := by simp; omega
      by_cases h3 : 1 ≤ need
      · have q3 : decide (need < 1) = false := by simp; omega
        by_cases h4 : need ≤ 8
        · have q4 : decide (8 < need) = false := by simp; omega
          by_cases h5 : need ≤ l.length
          · have q5 : decide ((l.length : Int) < need) = false := by simp; omega
            by_cases h6 : l.length ≤ 8
            · have q6 : decide ((8 : Int) < l.length) = false := by simp; omega
              have q6' : decide (8 < l.length) = false := by simp; omega
              obtain ⟨sz, rfl⟩ := Int.eq_ofNat_of_zero_le (show 0 ≤ size by omega)
              obtain ⟨nd, rfl⟩ := Int.eq_ofNat_of_zero_le (show 0 ≤ need by omega)
              go_enter Try.func47, Try.ntmps47
              go_wp2_with fail
              have hr0 := seen_new w l 72
              have hb0 : Below w.heap.size w (w.alloc (.cells #[.bool false, .bool false, .bool false, .bool false, .bool false, .bool false, .bool false, .bool false, .bool false] 72)) := (Below.refl _ _).alloc (Nat.le_refl _) _
              go_loopw [9, 35] (fun _ i wr => ∃ k : Nat, k ≤ l.length ∧ i = .int .i64 k ∧ SG sz nd l k ∧ wr.rowIs w.heap.size 72 9 (fun i => .bool (seenV l k i)) ∧ Below w.heap.size w wr) (fun _ i _ => l.length - (intOf i).toNat)
              case atStart => exact ⟨0, Nat.zero_le _, rfl, SG.zero _ _ _, hr0, hb0⟩
              case round =>
                clear hr0 hb0
                obtain ⟨k, hk, rfl, hg, hrow, hb⟩ := hrel
                have HG := Lib.hid hg
                clear hg
                by_cases hlt : k < l.length
                · obtain ⟨b, off, A', c', rfl, hbl, hc1, hc2, hcc, hsl⟩ := (h.below hb).at_ (k := k) hlt
                  have hlr := hrow.lt
                  have hB1 : Below w.heap.size w (wr.alloc (.cells #[.int .i64 (num_ l k), .slice A' (val_ l k).length c'] 30)) := hb.alloc hb.size _
                  have hrow1 := hrow.of_block (Below.heap_alloc wr (.cells #[.int .i64 (num_ l k), .slice A' (val_ l k).length c'] 30) _ hlr)
                  by_cases g1 : 1 ≤ num_ l k
                  · have r1 : decide (num_ l k < 1) = false := by simp; omega
                    by_cases g2 : num_ l k ≤ 8
                    · have r2 : decide (8 < num_ l k) = false := by simp; omega
                      have n0 : (0 : Int) ≤ num_ l k := by omega
                      have n9 : num_ l k < 9 := by omega
                      have hn9 : (num_ l k).toNat < 9 := by omega
                      have hcs := hrow1.cell hn9
                      have hfs := hrow1.frozen (num_ l k).toNat
                      cases hsn : seenV l k (num_ l k).toNat with
                      | true =>
                        rw [hsn] at hcs
                        have HF := Lib.hid (shardsB_at (size := sz) (need := nd) k hlt (fun g => seenV_yes n0 hsn g.2.2.2.2))
                        clear hsn
                        go_wp2_with fail
                        go_ret
                        exact ⟨by rw [HF.out]; rfl, hB1⟩
                      | false =>
                        rw [hsn] at hcs
                        have HNS := Lib.hid (seenV_no n0 hsn)
                        clear hsn
                        have hszS : (wr.setCell ⟨w.heap.size, (num_ l k).toNat, none⟩ (.bool true)).heap.size = wr.heap.size := by simp [World.setCell]
                        have hrow2 : ((wr.setCell ⟨w.heap.size, (num_ l k).toNat, none⟩ (.bool true)).alloc (.cells #[.int .i64 (num_ l k), .slice A' (val_ l k).length c'] 30)).rowIs w.heap.size 72 9 (fun i => .bool (seenV l (k + 1) i)) := ((hrow.set (num_ l k).toNat (.bool true)).of_block (Below.heap_alloc _ _ _ (by rw [hszS]; exact hlr))).congr (fun j hj => by
                          rw [seenV_succ l k j n0]; by_cases e : j = (num_ l k).toNat
                          · rw [if_pos e, if_pos e]
                          · rw [if_neg e, if_neg e])
                        have hB2 := (hb.setCell (p := ⟨w.heap.size, (num_ l k).toNat, none⟩) (Nat.le_refl _) (.bool true)).alloc (by rw [hszS]; exact hb.size) (.cells #[.int .i64 (num_ l k), .slice A' (val_ l k).length c'] 30)
                        have hsl2 := hsl.below (((Below.refl w.heap.size wr).setCell (p := ⟨w.heap.size, (num_ l k).toNat, none⟩) (Nat.le_refl _) (.bool true)).alloc (by rw [hszS]; exact hb.size) (.cells #[.int .i64 (num_ l k), .slice A' (val_ l k).length c'] 30))
                        have hx := two_cells (wr.setCell ⟨w.heap.size, (num_ l k).toNat, none⟩ (.bool true)) (.int .i64 (num_ l k)) (.slice A' (val_ l k).length c') 30
                        rw [hszS] at hx
                        obtain ⟨x0, x1, _, _⟩ := box2 hx
                        obtain ⟨m0, m1, _, _⟩ := box2 (two_cells wr (.int .i64 (num_ l k)) (.slice A' (val_ l k).length c') 30)
                        clear hx hszS hrow hrow1 hsl
                        have hvl := HVL.out k hlt
                        by_cases g3 : (val_ l k).length = cols sz nd
                        · have r3 : (((val_ l k).length : Int) != ((cols sz nd : Nat) : Int)) = false := by simp; omega
                          have r3' : ((((val_ l k).length : Nat)) != (cols sz nd)) = false := by simp; omega
                          have G3 := Lib.hid g3
                          clear g3
                          by_cases g4 : allIn 0 250 (val_ l k) = true
                          · have HA := Lib.hid g4
                            have HQS : Hid (∀ n, Calls Try.prog 62 #[.slice A' (val_ l k).length c'] (World.drewN ((wr.setCell ⟨w.heap.size, (num_ l k).toNat, none⟩ (.bool true)).alloc (.cells #[.int .i64 (num_ l k), .slice A' (val_ l k).length c'] 30)) n) fun e w'' => e = .returned (.bool true) ∧ ∃ m, w'' = World.drewN ((wr.setCell ⟨w.heap.size, (num_ l k).toNat, none⟩ (.bool true)).alloc (.cells #[.int .i64 (num_ l k), .slice A' (val_ l k).length c'] 30)) m) := by
                              unfold Hid; intro n
                              have hh := symbols_any A' c' (val_ l k) (World.drewN ((wr.setCell ⟨w.heap.size, (num_ l k).toNat, none⟩ (.bool true)).alloc (.cells #[.int .i64 (num_ l k), .slice A' (val_ l k).length c'] 30)) n) w.heap.size (fun hne => hsl2 hne) hvl
                              rw [HA.out] at hh
                              exact quietW hh
                            have HS := Lib.hid (HG.out.step ⟨g1, g2, G3.out, g4, HNS.out⟩)
                            clear g4
                            go_wp2_with fail
                            go_quiet ((first | (go_at_call 48; exact quietW (colsOf_any sz nd _ (by omega) (by omega) (by omega) (by omega))) | (go_at_call 62; exact HQS.out _)))
                            go_wp2_with fail
                            exact ⟨⟨k + 1, by omega, by go_num, HS.out, hrow2, below_n hB2 _⟩, by simp [intOf]; omega⟩
                          · have g4' : allIn 0 250 (val_ l k) = false := by simpa using g4
                            have HA := Lib.hid g4'
                            have HQS : Hid (∀ n, Calls Try.prog 62 #[.slice A' (val_ l k).length c'] (World.drewN ((wr.setCell ⟨w.heap.size, (num_ l k).toNat, none⟩ (.bool true)).alloc (.cells #[.int .i64 (num_ l k), .slice A' (val_ l k).length c'] 30)) n) fun e w'' => e = .returned (.bool false) ∧ ∃ m, w'' = World.drewN ((wr.setCell ⟨w.heap.size, (num_ l k).toNat, none⟩ (.bool true)).alloc (.cells #[.int .i64 (num_ l k), .slice A' (val_ l k).length c'] 30)) m) := by
                              unfold Hid; intro n
                              have hh := symbols_any A' c' (val_ l k) (World.drewN ((wr.setCell ⟨w.heap.size, (num_ l k).toNat, none⟩ (.bool true)).alloc (.cells #[.int .i64 (num_ l k), .slice A' (val_ l k).length c'] 30)) n) w.heap.size (fun hne => hsl2 hne) hvl
                              rw [HA.out] at hh
                              exact quietW hh
                            have HF := Lib.hid (shardsB_at (size := sz) (need := nd) k hlt (fun g => g4 g.2.2.2.1))
                            clear g4 g4'
                            go_wp2_with fail
                            go_quiet ((first | (go_at_call 48; exact quietW (colsOf_any sz nd _ (by omega) (by omega) (by omega) (by omega))) | (go_at_call 62; exact HQS.out _)))
                            go_wp2_with fail
                            go_ret
                            exact ⟨by rw [HF.out]; rfl, below_n hB2 _⟩
                        · have r3 : (((val_ l k).length : Int) != ((cols sz nd : Nat) : Int)) = true := by simp; omega
                          have r3' : ((((val_ l k).length : Nat)) != (cols sz nd)) = true := by simp; omega
                          have HF := Lib.hid (shardsB_at (size := sz) (need := nd) k hlt (fun g => g3 g.2.2.1))
                          clear g3
                          go_wp2_with fail
                          go_quiet ((go_at_call 48; exact quietW (colsOf_any sz nd _ (by omega) (by omega) (by omega) (by omega))))
                          go_wp2_with fail
                          go_ret
                          exact ⟨by rw [HF.out]; rfl, below_n hB2 _⟩
                    · have r2 : decide (8 < num_ l k) = true := by simp; omega
                      have HF := Lib.hid (shardsB_at (size := sz) (need := nd) k hlt (fun g => g2 g.2.1))
                      go_wp2_with fail
                      go_ret
                      exact ⟨by rw [HF.out]; rfl, hB1⟩
                  · have r1 : decide (num_ l k < 1) = true := by simp; omega
                    have HF := Lib.hid (shardsB_at (size := sz) (need := nd) k hlt (fun g => g1 g.1))
                    go_wp2_with fail
                    go_ret
                    exact ⟨by rw [HF.out]; rfl, hB1⟩
                · obtain rfl : k = l.length := by omega
                  have HT := Lib.hid (shardsB_true (size := sz) (need := nd) h1 h2 h3 h4 h5 h6 (by rw [Int.toNat_natCast, Int.toNat_natCast]; exact HG.out))
                  go_wp2_with fail
                  go_ret
                  exact ⟨by rw [HT.out]; rfl, hb⟩
            · have q6 : decide ((8 : Int) < l.length) = true := by simp; omega
              have q6' : decide (8 < l.length) = true := by simp; omega
              rw [shardsB_head (l := l) (fun g => h6 g.2.2.2.2.2)]
              go_enter Try.func47, Try.ntmps47
              go_wp2_with fail
              go_ret
              exact ⟨rfl, Below.refl _ _⟩
          · have q5 : decide ((l.length : Int) < need) = true := by simp; omega
            rw [shardsB_head (l := l) (fun g => h5 g.2.2.2.2.1)]
            go_enter Try.func47, Try.ntmps47
            go_wp2_with fail
            go_ret
            exact ⟨rfl, Below.refl _ _⟩
        · have q4 : decide (8 < need) = true := by simp; omega
          rw [shardsB_head (l := l) (fun g => h4 g.2.2.2.1)]
          go_enter Try.func47, Try.ntmps47
          go_wp2_with fail
          go_ret
          exact ⟨rfl, Below.refl _ _⟩
      · have q3 : decide (need < 1) = true := by simp; omega
        rw [shardsB_head (l := l) (fun g => h3 g.2.2.1)]
        go_enter Try.func47, Try.ntmps47
        go_wp2_with fail
        go_ret
        exact ⟨rfl, Below.refl _ _⟩
    · have q2 : decide (12 < size) = true := by simp; omega
      rw [shardsB_head (l := l) (fun g => h2 g.2.1)]
      go_enter Try.func47, Try.ntmps47
      go_wp2_with fail
      go_ret
      exact ⟨rfl, Below.refl _ _⟩
  · have q1 : decide (size < 1) = true := by simp; omega
    rw [shardsB_head (l := l) (fun g => h1 g.1)]
    go_enter Try.func47, Try.ntmps47
    go_wp2_with fail
    go_ret
    exact ⟨rfl, Below.refl _ _⟩
end Go.Proofs.Ytfkmiflddpjllaa
