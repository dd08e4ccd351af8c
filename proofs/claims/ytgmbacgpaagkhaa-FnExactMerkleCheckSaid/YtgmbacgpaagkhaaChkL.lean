/- The walk of FnExactMerkleCheck. No condition. -/
import Derived.Test.YtgmbacgpaagkhaaChk2
namespace Go.Proofs.Ytgmbacgpaagkhaa
open Go.RowKit
set_option linter.unusedVariables false
set_option linter.unusedSimpArgs false

theorem bel_dn {B : Nat} {a w : World} (h : Below B a w) (n : Nat) : Below B a (w.drewN n) := ⟨h.os, h.tape, h.output, h.size, h.block⟩
theorem eqTo_same (l : List Int) : eqTo l l = true := by simp [eqTo]

set_option maxHeartbeats 4000000 in
theorem walk_FnExactMerkleCheck (root size i leaf : Int) (A : Option Addr) (n c : Nat) (l : List Int) (w : World) (f0 : (Lit.int .i64 root).wf = true) (f1 : (Lit.int .i64 size).wf = true) (f2 : (Lit.int .i64 i).wf = true) (f3 : (Lit.int .i64 leaf).wf = true) (w0 : Ints .i64 w w.heap.size A n c l) :
    Calls Try.prog 3 #[.int .i64 root, .int .i64 size, .int .i64 i, .int .i64 leaf, .slice A n c] w fun e w' => e = .returned (.bool true) ∧ Below w.heap.size w w' := by
  obtain ⟨rfl, h⟩ := Sl.of_ints w0
  have hmax : l.length ≤ 9223372036854775807 := by have h1 := w0.2.1; have h2 := w0.2.2.1; unfold maxLen at h2; omega
  clear w0
  by_cases hl : l.length ≤ 1048576
  · have hl2 : l.length ≤ 2000000 := by omega
    have q0 : decide (1048576 < l.length) = false := by simp; omega
    have q0' : decide ((1048576 : Int) < l.length) = false := by simp; omega
    have hEL := eqTo_same l
    go_enter Try.func3, Try.ntmps3
    go_wp2_with fail
    refine (toIntS_any A l c _ h hl2).mono ?_
    rintro e w1 ⟨rfl, hr1, hb1, hs1⟩
    have HS1 := Lib.hid hs1
    clear hs1
    have u1 := Wr.of_row hr1 (Nat.le_refl _)
    go_wp2_with fail
    refine (checkS_any root size i leaf _ _ l _ u1.sl' hl2 (Nat.le_refl _)).mono ?_
    rintro e w2 ⟨rfl, rfl⟩
    have hB2 : Below w.heap.size w w1 := hb1
    clear hr1 hb1 u1 HS1
    go_wp2_with fail
    refine (toIntS_any A l c _ ((h.below hB2).more hB2.size) hl2).mono ?_
    rintro e w3 ⟨rfl, hr3, hb3, hs3⟩
    have HS3 := Lib.hid hs3
    clear hs3
    have ux := Wr.of_row hr3 (Nat.le_refl _)
    have hB3 : Below w.heap.size w w3 := hB2.trans (hb3.mono hB2.size)
    obtain ⟨gx, hgxe⟩ : ∃ gx, gx = w1.heap.size := ⟨_, rfl⟩
    rw [← hgxe] at ux ⊢
    clear hgxe hr3 hb3 HS3 hB2
    go_wp2_with fail
    refine (check_any root size i leaf _ _ l _ ux.sl' hl2).mono ?_
    rintro e w4 ⟨rfl, hb4⟩
    have hB4 : Below w.heap.size w w4 := hB3.trans (hb4.mono hB3.size)
    have ux4 := ux.below hb4 ux.lt
    have t1 : (checkV root size i leaf l != checkV root size i leaf l) = false := by simp
    clear ux hb4 hB3
    go_wp2_with fail
    refine (toIntS_any A l c _ ((h.below hB4).more hB4.size) hl2).mono ?_
    rintro e w6 ⟨rfl, hr6, hb6, hs6⟩
    have HS6 := Lib.hid hs6
    clear hs6
    have u6 := Wr.of_row hr6 (Nat.le_refl _)
    have hB6 : Below w.heap.size w w6 := hB4.trans (hb6.mono hB4.size)
    have ux6 := ux4.below hb6 ux4.lt
    clear ux4 hb6 hr6
    go_wp2_with fail
    refine (eqIntS_any (some ⟨gx, 0, none⟩) (some ⟨w4.heap.size, 0, none⟩) l l l.length l.length _ _ _ ux6.sl u6.sl hl2 hl2).mono ?_
    rintro e w7 ⟨rfl, n7, rfl⟩
    rw [hEL]
    go_wp2_with fail
    go_ret
    exact ⟨rfl, bel_dn hB6 _⟩
  · have q0 : decide (1048576 < l.length) = true := by simp; omega
    have q0' : decide ((1048576 : Int) < l.length) = true := by simp; omega
    go_enter Try.func3, Try.ntmps3
    go_wp2_with fail
    go_ret
    exact ⟨rfl, Below.refl _ _⟩
end Go.Proofs.Ytgmbacgpaagkhaa
