/- The walk of FnExactMerkleProof. No condition. -/
import Derived.Test.YtgmbacgpaagkhaaPrf2
import Derived.Test.YtgmbacgpaagkhaaMark
namespace Go.Proofs.Ytgmbacgpaagkhaa
open Go.RowKit
set_option linter.unusedVariables false
set_option linter.unusedSimpArgs false

theorem proofN_len : ∀ (f : Nat) (l : List Int) (i : Nat), (Dag.proofN f l i).length ≤ f
  | 0, _, _ => by simp [Dag.proofN]
  | f + 1, l, i => by
    have := proofN_len f (Dag.up l) (i / 2)
    unfold Dag.proofN
    split
    · rw [List.length_append]
      split <;> simp <;> omega
    · simp
theorem proofV_len (l : List Int) (i : Int) : (proofV l i).length ≤ 4 := by
  unfold proofV
  split
  · exact proofN_len 4 _ _
  · simp
theorem Wr.grown {w w' : World} {g g' : Nat} {l : List Int} (h : Wr w g l) (hg : w.grownBy w' (some g')) (hne : g ≠ g') : Wr w' g l := h.block (hg.block g h.lt (fun e => hne (by injection e)))
theorem grown_bel {w w' : World} {g B : Nat} (h : w.grownBy w' (some g)) (hB : B ≤ g) (hB' : B ≤ w.heap.size) : Below B w w' :=
  ⟨h.os, h.tape, h.output, h.size, fun k hk => h.block k (by omega) (fun e => by injection e; omega)⟩
theorem bel_n {B : Nat} {a w : World} (h : Below B a w) (n : Nat) : Below B a (w.drewN n) := ⟨h.os, h.tape, h.output, h.size, h.block⟩
theorem eqTo_refl (l : List Int) : eqTo l l = true := by simp [eqTo]

set_option maxHeartbeats 16000000 in
theorem walk_FnExactMerkleProof (A : Option Addr) (n c : Nat) (l : List Int) (many : Int) (w : World) (w0 : Ints .i64 w w.heap.size A n c l) (wf : (Lit.int .i64 many).wf = true) :
    Calls Try.prog 5 #[.slice A n c, .int .i64 many] w fun e w' => e = .returned (.bool true) ∧ Below w.heap.size w w' := by
  obtain ⟨rfl, h⟩ := Sl.of_ints w0
  have hmax : l.length ≤ 9223372036854775807 := by have h1 := w0.2.1; have h2 := w0.2.2.1; unfold maxLen at h2; omega
  clear w0
  by_cases hl : l.length ≤ 1048576
  · have hl2 : l.length ≤ 2000000 := by omega
    have q0 : decide (1048576 < l.length) = false := by simp; omega
    have q0' : decide ((1048576 : Int) < l.length) = false := by simp; omega
    have hvb := Nat.le_trans (proofV_len l many) (show 4 ≤ 100 by omega)
    obtain ⟨V, hV⟩ : ∃ V, V = proofV l many := ⟨_, rfl⟩
    rw [← hV] at hvb
    have HV := Lib.hid hV
    clear hV
    go_enter Try.func5, Try.ntmps5
    go_wp2_with fail
    refine (toIntS_any A l c _ h hl2).mono ?_
    rintro e w1 ⟨rfl, hr1, hb1, hs1⟩
    have HS1 := Lib.hid hs1
    clear hs1
    have u1 := Wr.of_row hr1 (Nat.le_refl _)
    go_wp2_with fail
    refine (proofS_any (some ⟨w.heap.size, 0, none⟩) l.length l many _ u1.sl' hl2).mono ?_
    rintro e w2 ⟨gs, cs, hgs, rfl, us, hcs, hcm, hb2⟩
    rw [← HV.out] at us hcs ⊢
    have hB2 : Below w.heap.size w w2 := hb1.trans (hb2.mono hb1.size)
    clear hr1 hb1 hb2 u1 HS1
    go_wp2_with fail
    refine (toIntS_any A l c _ ((h.below hB2).more hB2.size) hl2).mono ?_
    rintro e w3 ⟨rfl, hr3, hb3, hs3⟩
    have HS3 := Lib.hid hs3
    clear hs3
    have ux := Wr.of_row hr3 (Nat.le_refl _)
    have hB3 : Below w.heap.size w w3 := hB2.trans (hb3.mono hB2.size)
    have us3 := us.below hb3 us.lt
    have hgx : w.heap.size ≤ w2.heap.size := hB2.size
    have hne1 : gs ≠ w2.heap.size := by have := us.lt; omega
    obtain ⟨gx, hgxe⟩ : ∃ gx, gx = w2.heap.size := ⟨_, rfl⟩
    rw [← hgxe] at ux hgx hne1 ⊢
    clear hgxe hr3 hb3 us HS3
    go_wp2_with fail
    refine (proof_any (some ⟨gx, 0, none⟩) l.length l many _ ux.sl' hl2).mono ?_
    rintro e w4 ⟨gg, cg, hgg, rfl, ug, hcg, hcgm, hb4⟩
    rw [← HV.out] at ug hcg ⊢
    have hB4 : Below w.heap.size w w4 := hB3.trans (hb4.mono hB3.size)
    have us4 := us3.below hb4 us3.lt
    have ux4 := ux.below hb4 ux.lt
    have hne2 : gg ≠ gs := by have := us3.lt; omega
    have hne3 : gg ≠ gx := by have := ux.lt; omega
    have hgg' : w.heap.size ≤ gg := by have := hB3.size; omega
    clear us3 ux hb4 hgg
    have hEV := eqTo_refl V
    have hEL := eqTo_refl l
    go_wp2_with fail
    refine (eqIntS_any (some ⟨gg, 0, none⟩) (some ⟨gs, 0, none⟩) V V cg cs _ _ _ ug.sl us4.sl (by omega) (by omega)).mono ?_
    rintro e w5 ⟨rfl, n5, rfl⟩
    rw [hEV]
    have hB5 := bel_n hB4 n5
    have us5 := us4.drewN n5
    have ux5 := ux4.drewN n5
    have ug5 := ug.drewN n5
    obtain ⟨W5, hW5⟩ : ∃ W, W = w4.drewN n5 := ⟨_, rfl⟩
    rw [← hW5] at hB5 us5 ux5 ug5 ⊢
    clear us4 ux4 ug hB4 hW5
    go_wp2_with fail
    refine (toIntS_any A l c _ ((h.below hB5).more hB5.size) hl2).mono ?_
    rintro e w6 ⟨rfl, hr6, hb6, hs6⟩
    have HS6 := Lib.hid hs6
    clear hs6
    have u6 := Wr.of_row hr6 (Nat.le_refl _)
    have hB6 : Below w.heap.size w w6 := hB5.trans (hb6.mono hB5.size)
    have us6 := us5.below hb6 us5.lt
    have ux6 := ux5.below hb6 ux5.lt
    have ug6 := ug5.below hb6 ug5.lt
    clear us5 ux5 ug5 hb6 hr6
    go_wp2_with fail
    refine (eqIntS_any (some ⟨gx, 0, none⟩) (some ⟨W5.heap.size, 0, none⟩) l l l.length l.length _ _ _ ux6.sl u6.sl hl2 hl2).mono ?_
    rintro e w7 ⟨rfl, n7, rfl⟩
    rw [hEL]
    have hB7 := bel_n hB6 n7
    have us7 := us6.drewN n7
    have ux7 := ux6.drewN n7
    have ug7 := ug6.drewN n7
    obtain ⟨W7, hW7⟩ : ∃ W, W = w6.drewN n7 := ⟨_, rfl⟩
    rw [← hW7] at hB7 us7 ux7 ug7 ⊢
    clear us6 ux6 ug6 hB6 hW7 u6 HS6
    go_wp2_with fail
    refine (mark_any gx l.length 1 l _ ux7 hl2 (by omega)).mono ?_
    rintro e w8 ⟨rfl, ux8, hg8, hs8⟩
    have hB8 : Below w.heap.size w w8 := hB7.trans (grown_bel hg8 hgx hB7.size)
    have us8 := us7.grown hg8 hne1
    have ug8 := ug7.grown hg8 hne3
    clear us7 ux7 ug7 hg8 hs8 ux8
    have k1 : decide (((1 + l.length : Nat) : Int) < 0) = false := by simp only [decide_eq_false_iff_not]; omega
    have k1' : ¬ ((1 + l.length : Nat) : Int) < 0 := by omega
    obtain ⟨mk, hmk⟩ : ∃ mk : Int, mk = ((1 + l.length : Nat) : Int) := ⟨_, rfl⟩
    rw [← hmk] at k1 k1' ⊢
    clear hmk
    go_wp2_with fail
    refine (eqIntS_any (some ⟨gg, 0, none⟩) (some ⟨gs, 0, none⟩) V V cg cs _ _ _ ug8.sl us8.sl (by omega) (by omega)).mono ?_
    rintro e w9 ⟨rfl, n9, rfl⟩
    rw [hEV]
    have hB9 := bel_n hB8 n9
    have us9 := us8.drewN n9
    have ug9 := ug8.drewN n9
    obtain ⟨W9, hW9⟩ : ∃ W, W = w8.drewN n9 := ⟨_, rfl⟩
    rw [← hW9] at hB9 us9 ug9 ⊢
    clear us8 ug8 hB8 hW9
    go_wp2_with fail
    refine (mark_any gg cg 1 V _ ug9 (by omega) (by omega)).mono ?_
    rintro e w10 ⟨rfl, ug10, hg10, hs10⟩
    have hB10 : Below w.heap.size w w10 := hB9.trans (grown_bel hg10 hgg' hB9.size)
    have us10 := us9.grown hg10 (fun e => hne2 e.symm)
    clear us9 ug9 hg10 hs10
    have hkm : (0 : Int) ≤ ((1 + V.length : Nat) : Int) := by omega
    obtain ⟨mv, hmv⟩ : ∃ mv : Int, mv = ((1 + V.length : Nat) : Int) := ⟨_, rfl⟩
    rw [← hmv] at hkm ⊢
    have HMV := Lib.hid hmv
    clear hmv
    go_wp2_with fail
    refine (held_any gg cg 1 V.length _ ug10 (by omega) (by omega)).mono ?_
    rintro e w11 ⟨rfl, rfl⟩
    rw [← HMV.out]
    go_wp2_with fail
    refine (toIntS_any A l c _ ((h.below hB10).more hB10.size) hl2).mono ?_
    rintro e w12 ⟨rfl, hr12, hb12, hs12⟩
    have HS12 := Lib.hid hs12
    clear hs12
    have u12 := Wr.of_row hr12 (Nat.le_refl _)
    have hB12 : Below w.heap.size w w12 := hB10.trans (hb12.mono hB10.size)
    have us12 := us10.below hb12 us10.lt
    have ug12 := ug10.below hb12 ug10.lt
    clear us10 ug10 hr12 hb12
    go_wp2_with fail
    refine (proof_any (some ⟨w10.heap.size, 0, none⟩) l.length l many _ u12.sl' hl2).mono ?_
    rintro e w13 ⟨gh, ch, hgh, rfl, uh, hch, hchm, hb13⟩
    rw [← HV.out] at uh hch ⊢
    have hB13 : Below w.heap.size w w13 := hB12.trans (hb13.mono hB12.size)
    have us13 := us12.below hb13 us12.lt
    have ug13 := ug12.below hb13 ug12.lt
    clear us12 ug12 u12 hb13 HS12
    go_wp2_with fail
    refine (eqIntS_any (some ⟨gh, 0, none⟩) (some ⟨gs, 0, none⟩) V V ch cs _ _ _ uh.sl us13.sl (by omega) (by omega)).mono ?_
    rintro e w14 ⟨rfl, n14, rfl⟩
    rw [hEV]
    have hB14 := bel_n hB13 n14
    have ug14 := ug13.drewN n14
    obtain ⟨W14, hW14⟩ : ∃ W, W = w13.drewN n14 := ⟨_, rfl⟩
    rw [← hW14] at hB14 ug14 ⊢
    clear us13 ug13 uh hB13 hW14
    go_wp2_with fail
    refine (held_any gg cg 1 V.length _ ug14 (by omega) (by omega)).mono ?_
    rintro e w15 ⟨rfl, rfl⟩
    rw [← HMV.out]
    go_wp2_with fail
    go_ret
    exact ⟨rfl, hB14⟩
  · have q0 : decide (1048576 < l.length) = true := by simp; omega
    have q0' : decide ((1048576 : Int) < l.length) = true := by simp; omega
    go_enter Try.func5, Try.ntmps5
    go_wp2_with fail
    go_ret
    exact ⟨rfl, Below.refl _ _⟩
end Go.Proofs.Ytgmbacgpaagkhaa
