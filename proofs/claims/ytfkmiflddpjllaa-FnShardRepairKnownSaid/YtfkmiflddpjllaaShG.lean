/- The walk of FnExactShardMake. No condition. -/
import Derived.Test.YtfkmiflddpjllaaShE
import Derived.Test.YtfkmiflddpjllaaShK
namespace Go.Proofs.Ytfkmiflddpjllaa
open Go.RowKit
set_option linter.unusedVariables false
set_option linter.unusedSimpArgs false

theorem eqTo_refl (l : List Int) : eqTo l l = true := by simp [eqTo]
theorem OwnS.base {w : World} {B B' g c : Nat} {l : List Sh} {H : Nat → Nat × Nat} (h : OwnS w B g c l H) (hB : B' ≤ B) : OwnS w B' g c l H := by
  obtain ⟨cur, h1, h2, h3, h4, h5, h6, h7⟩ := row_block h.1
  refine ⟨⟨h.1.1, .inr ⟨g, c, cur, rfl, by omega, h1, h4, h5, h6, h7⟩⟩, fun j hj => ?_⟩
  obtain ⟨r1, r2⟩ := h.2 j hj
  exact ⟨by omega, r2⟩
theorem makeV_small (l : List Int) (need many : Int) : (makeV l need many).length ≤ 8 ∧ ∀ j, j < (makeV l need many).length → (val_ (makeV l need many) j).length ≤ 12 := by
  by_cases h : makeB l need many = true
  · obtain ⟨p1, p2, p3, p4, p5, p6, p7⟩ := makeB_parts h
    rw [makeV_yes h, shards_len]
    refine ⟨by omega, fun j hj => ?_⟩
    rw [shards_val _ _ _ hj, shVals_len]
    exact cols_12 (by omega) p2
  · rw [makeV_no h]; exact ⟨by simp, fun j hj => by simp at hj⟩

theorem grown_bel {w w' : World} {g B : Nat} (h : w.grownBy w' (some g)) (hB : B ≤ g) (hB' : B ≤ w.heap.size) : Below B w w' :=
  ⟨h.os, h.tape, h.output, h.size, fun k hk => h.block k (by omega) (fun e => by injection e; omega)⟩
theorem bel_n {B : Nat} {a w : World} (h : Below B a w) (n : Nat) : Below B a (w.drewN n) := ⟨h.os, h.tape, h.output, h.size, h.block⟩
theorem kf_small {l : List Sh} {k M : Nat} : ∀ n, (∀ j, j < n → (val_ l j).length ≤ M) → kf l k n ≤ k + n * (M + 1)
  | 0, _ => by simp [kf]
  | n + 1, h => by
    have h1 := kf_small (l := l) (k := k) (M := M) n (fun j hj => h j (by omega))
    have h2 := h n (by omega)
    rw [kf, Nat.add_mul, Nat.one_mul]; omega

set_option maxHeartbeats 4000000 in
theorem walk_FnExactShardMake (A : Option Addr) (n c : Nat) (l : List Int) (need many : Int) (w : World) (w0 : Ints .i64 w w.heap.size A n c l) (wf : (Lit.int .i64 need).wf = true) (wf' : (Lit.int .i64 many).wf = true) :
    Calls Try.prog 9 #[.slice A n c, .int .i64 need, .int .i64 many] w fun e w' => e = .returned (.bool true) ∧ Below w.heap.size w w' := by
  obtain ⟨rfl, h⟩ := Sl.of_ints w0
  have hmax : l.length ≤ 9223372036854775807 := by have h1 := w0.2.1; have h2 := w0.2.2.1; unfold maxLen at h2; omega
  clear w0
  by_cases hl : l.length ≤ 1048576
  · have hl2 : l.length ≤ 2000000 := by omega
    have q0 : decide (1048576 < l.length) = false := by simp; omega
    have q0' : decide ((1048576 : Int) < l.length) = false := by simp; omega
    obtain ⟨hv8, hv12⟩ := makeV_small l need many
    obtain ⟨V, hV⟩ : ∃ V, V = makeV l need many := ⟨_, rfl⟩
    rw [← hV] at hv8 hv12
    have HV := Lib.hid hV
    have HV12 := Lib.hid hv12
    have hvz : ∀ j, j < V.length → (val_ V j).length ≤ 2000000 := fun j hj => by have := HV12.out j hj; omega
    have HVZ := Lib.hid hvz
    have hkb : kf V 1 V.length ≤ 2000000 := by have := kf_small (l := V) (k := 1) (M := 12) V.length HV12.out; omega
    clear hV hv12 hvz
    have hES := eqSh_same V
    have hEL := eqTo_refl l
    have hml : l.length ≤ maxLen := by simp only [maxLen]; omega
    go_enter Try.func9, Try.ntmps9
    go_wp2_with fail
    refine (toIntS_any A l c _ h hl2).mono ?_
    rintro e w1 ⟨rfl, hr1, hb1, hs1⟩
    have HS1 := Lib.hid hs1
    clear hs1
    have u1 := Wr.of_row hr1 (Nat.le_refl _)
    go_wp2_with fail
    refine (makeS_any (some ⟨w.heap.size, 0, none⟩) l.length l need many _ u1.sl' hl2).mono ?_
    rintro e w2 ⟨gs, cs, HS, rfl, os, hds, hb2⟩
    rw [← HV.out] at os ⊢
    have os2 := OwnS.base os hb1.size
    have hB2 : Below w.heap.size w w2 := hb1.trans (hb2.mono hb1.size)
    clear hr1 hb1 hb2 u1 HS1 os hds
    go_wp2_with fail
    refine (toIntS_any A l c _ ((h.below hB2).more hB2.size) hl2).mono ?_
    rintro e w3 ⟨rfl, hr3, hb3, hs3⟩
    have HS3 := Lib.hid hs3
    have hs3' : w2.heap.size < w3.heap.size := by omega
    clear hs3
    have ux := Wr.of_row hr3 (Nat.le_refl _)
    have hB3 : Below w.heap.size w w3 := hB2.trans (hb3.mono hB2.size)
    have os3 := os2.below hb3
    have hgx : w.heap.size ≤ w2.heap.size := hB2.size
    have hne1 : w2.heap.size ≠ gs := by have := os2.parts.2.1; omega
    have hne1h : ∀ j, j < V.length → w2.heap.size ≠ (HS j).1 := fun j hj => by have := (os2.at_ hj).2.2.2.2.1; omega
    obtain ⟨gx, hgxe⟩ : ∃ gx, gx = w2.heap.size := ⟨_, rfl⟩
    rw [← hgxe] at ux hgx hne1 hne1h hs3' ⊢
    have HNX := Lib.hid hne1h
    clear hgxe hr3 hb3 os2 HS3 hne1h
    go_wp2_with fail
    refine (makeF_any (some ⟨gx, 0, none⟩) l.length l need many _ ux.sl' hl2 (Nat.le_refl _) hml).mono ?_
    rintro e w4 ⟨gg, cg, HG, rfl, og, hdg, hb4⟩
    rw [← HV.out] at og hdg ⊢
    have hB4 : Below w.heap.size w w4 := hB3.trans (hb4.mono hB3.size)
    have os4 := os3.below hb4
    have ux4 := ux.below hb4 ux.lt
    have hggB : w3.heap.size ≤ gg := og.parts.1
    have HGB : Hid (∀ j, j < V.length → w3.heap.size ≤ (HG j).1) := by unfold Hid; intro j hj; exact (og.at_ hj).2.2.1
    have hgsB : gs < w3.heap.size := os3.parts.2.1
    have HSB : Hid (∀ j, j < V.length → (HS j).1 < w3.heap.size) := by unfold Hid; intro j hj; exact (os3.at_ hj).2.2.2.2.1
    have hB3s := hB3.size
    have og4 := OwnS.base og hB3.size
    obtain ⟨N3, hN3⟩ : ∃ N, N = w3.heap.size := ⟨_, rfl⟩
    rw [← hN3] at hggB HGB hgsB HSB hB3s hs3'
    have HDG := Lib.hid hdg
    clear os3 ux hb4 og hdg hN3 hB3
    go_wp2_with fail
    refine (eqShardS_any (some ⟨gg, 0, none⟩) (some ⟨gs, 0, none⟩) V V cg cs _ og4.shl os4.shl (by omega) (by omega) HVZ.out HVZ.out).mono ?_
    rintro e w5 ⟨rfl, hb5⟩
    rw [hES]
    have hB5 : Below w.heap.size w w5 := hB4.trans (hb5.mono hB4.size)
    have os5 := os4.below hb5
    have og5 := og4.below hb5
    have ux5 := ux4.below hb5 ux4.lt
    clear os4 og4 ux4 hb5 hB4
    go_wp2_with fail
    refine (toIntS_any A l c _ ((h.below hB5).more hB5.size) hl2).mono ?_
    rintro e w6 ⟨rfl, hr6, hb6, hs6⟩
    have HS6 := Lib.hid hs6
    clear hs6
    have u6 := Wr.of_row hr6 (Nat.le_refl _)
    have hB6 : Below w.heap.size w w6 := hB5.trans (hb6.mono hB5.size)
    have os6 := os5.below hb6
    have og6 := og5.below hb6
    have ux6 := ux5.below hb6 ux5.lt
    clear os5 og5 ux5 hb6 hr6
    go_wp2_with fail
    refine (eqIntS_any (some ⟨gx, 0, none⟩) (some ⟨w5.heap.size, 0, none⟩) l l l.length l.length _ _ _ ux6.sl u6.sl hl2 hl2).mono ?_
    rintro e w7 ⟨rfl, n7, rfl⟩
    rw [hEL]
    have hB7 := bel_n hB6 n7
    have os7 := os6.drewN n7
    have og7 := og6.drewN n7
    have ux7 := ux6.drewN n7
    obtain ⟨W7, hW7⟩ : ∃ W, W = w6.drewN n7 := ⟨_, rfl⟩
    rw [← hW7] at hB7 os7 og7 ux7 ⊢
    clear os6 og6 ux6 hB6 hW7 u6 HS6
    go_wp2_with fail
    refine (mark_any gx l.length 1 l _ ux7 hl2 (by omega)).mono ?_
    rintro e w8 ⟨rfl, ux8, hg8, hs8⟩
    have hB8 : Below w.heap.size w w8 := hB7.trans (grown_bel hg8 hgx hB7.size)
    have os8 := os7.kept hg8 hne1 HNX.out
    have og8 := og7.kept hg8 (by omega) (fun j hj => by have := HGB.out j hj; omega)
    clear os7 og7 ux7 hg8 hs8 ux8
    have k1 : decide (((1 + l.length : Nat) : Int) < 0) = false := by simp only [decide_eq_false_iff_not]; omega
    have k1' : ¬ ((1 + l.length : Nat) : Int) < 0 := by omega
    obtain ⟨mk, hmk⟩ : ∃ mk : Int, mk = ((1 + l.length : Nat) : Int) := ⟨_, rfl⟩
    rw [← hmk] at k1 k1' ⊢
    clear hmk
    go_wp2_with fail
    refine (eqShardS_any (some ⟨gg, 0, none⟩) (some ⟨gs, 0, none⟩) V V cg cs _ og8.shl os8.shl (by omega) (by omega) HVZ.out HVZ.out).mono ?_
    rintro e w9 ⟨rfl, hb9⟩
    rw [hES]
    have hB9 : Below w.heap.size w w9 := hB8.trans (hb9.mono hB8.size)
    have os9 := os8.below hb9
    have og9 := og8.below hb9
    clear os8 og8 hb9 hB8
    go_wp2_with fail
    refine (markS_any w.heap.size gg cg 1 V HG _ og9 HDG.out hkb (by omega)).mono ?_
    rintro e w10 ⟨lm, hlm, hlen, hmk, rfl, og10, ht10⟩
    have hB10 : Below w.heap.size w w10 := hB9.trans (ht10.below hB9.size (fun q hq => by
      rcases hq with rfl | ⟨j, hj, rfl⟩
      · omega
      · have := HGB.out j hj; omega))
    have os10 : OwnS w10 w.heap.size gs cs V HS := ht10.own os9 (fun hs => by
      rcases hs with e | ⟨j, hj, e⟩
      · omega
      · have := HGB.out j hj; omega) (fun i hi hs => by
      have hi2 := HSB.out i hi
      rcases hs with e | ⟨j, hj, e⟩
      · omega
      · have := HGB.out j hj; omega)
    have hkl : kf lm 1 lm.length = kf V 1 V.length := by rw [hlm]; exact kf_as hlen
    have HKL := Lib.hid hkl
    have HLM := Lib.hid hlm
    have hkb2 : kf lm 1 lm.length ≤ 2000000 := by omega
    have HMK : Hid (Marked lm 1 lm.length) := by unfold Hid; rw [hlm]; exact hmk
    have hlm8 : lm.length ≤ 8 := by omega
    clear os9 og9 ht10 hlen hmk hlm hkl hB9
    have hkm : (0 : Int) ≤ ((kf V 1 V.length : Nat) : Int) := by omega
    obtain ⟨mv, hmv⟩ : ∃ mv : Int, mv = ((kf V 1 V.length : Nat) : Int) := ⟨_, rfl⟩
    rw [← hmv] at hkm ⊢
    have HMV := Lib.hid hmv
    clear hmv
    have HH : Hid (∀ W, OwnS W w.heap.size gg cg lm HG → Calls Try.prog 40 #[.slice (some ⟨gg, 0, none⟩) V.length cg, .int .i64 1] W fun e w' => e = .returned (.int .i64 mv) ∧ W = w') := by
      unfold Hid; intro W hW
      have := heldS_any w.heap.size gg cg 1 lm HG W hW HMK.out hkb2 (by omega)
      rw [HKL.out, HLM.out, ← HMV.out] at this
      exact this
    have t1 : decide (mv < 0) = false := by simp only [decide_eq_false_iff_not]; omega
    have t1' : ¬ mv < 0 := by omega
    have t2 : (mv != mv) = false := by simp
    clear hkb2 hlm8
    go_wp2_with fail
    refine (HH.out _ og10).mono ?_
    rintro e w11 ⟨rfl, rfl⟩
    go_wp2_with fail
    refine (toIntS_any A l c _ ((h.below hB10).more hB10.size) hl2).mono ?_
    rintro e w12 ⟨rfl, hr12, hb12, hs12⟩
    have HS12 := Lib.hid hs12
    clear hs12
    have u12 := Wr.of_row hr12 (Nat.le_refl _)
    have hB12 : Below w.heap.size w w12 := hB10.trans (hb12.mono hB10.size)
    have os12 := os10.below hb12
    have og12 := og10.below hb12
    clear os10 og10 hr12 hb12
    go_wp2_with fail
    refine (makeF_any _ l.length l need many _ u12.sl' hl2 (Nat.le_refl _) hml).mono ?_
    rintro e w13 ⟨gh, ch, HHH, rfl, oh, hdh, hb13⟩
    rw [← HV.out] at oh ⊢
    have hB13 : Below w.heap.size w w13 := hB12.trans (hb13.mono hB12.size)
    have os13 := os12.below hb13
    have og13 := og12.below hb13
    clear os12 og12 u12 hb13 HS12 hdh
    go_wp2_with fail
    refine (eqShardS_any (some ⟨gh, 0, none⟩) (some ⟨gs, 0, none⟩) V V ch cs _ oh.shl os13.shl (by omega) (by omega) HVZ.out HVZ.out).mono ?_
    rintro e w14 ⟨rfl, hb14⟩
    rw [hES]
    have hB14 : Below w.heap.size w w14 := hB13.trans (hb14.mono hB13.size)
    have og14 := og13.below hb14
    clear os13 og13 oh hB13 hb14
    go_wp2_with fail
    refine (HH.out _ og14).mono ?_
    rintro e w15 ⟨rfl, rfl⟩
    go_wp2_with fail
    go_ret
    exact ⟨rfl, hB14⟩
  · have q0 : decide (1048576 < l.length) = true := by simp; omega
    have q0' : decide ((1048576 : Int) < l.length) = true := by simp; omega
    go_enter Try.func9, Try.ntmps9
    go_wp2_with fail
    go_ret
    exact ⟨rfl, Below.refl _ _⟩
end Go.Proofs.Ytfkmiflddpjllaa
