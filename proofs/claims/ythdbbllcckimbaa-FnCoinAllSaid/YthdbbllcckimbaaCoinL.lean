/- The walks of FnCoinFew, FnCoinAll, FnCoinJoin, FnCoinWrong. No condition. -/
import Derived.Test.YthdbbllcckimbaaCoinQ
import Derived.Test.YthdbbllcckimbaaCoinD
import Derived.Test.YthdbbllcckimbaaCoinJ2
import Derived.Test.YthdbbllcckimbaaSame
namespace Go.Proofs.Ythdbbllcckimbaa
open Go.RowKit
set_option linter.unusedVariables false
set_option linter.unusedSimpArgs false

theorem eqTo_same (l : List Int) : eqTo l l = true := by simp [eqTo]
theorem bel_dn {B : Nat} {a w : World} (h : Below B a w) (n : Nat) : Below B a (w.drewN n) := ⟨h.os, h.tape, h.output, h.size, h.block⟩
theorem dealV_le (l : List Int) (many : Int) : (dealV l many).length ≤ 7 := by
  unfold dealV
  split
  · rename_i h
    obtain ⟨p1, p2, p3, p4, p5⟩ := dealB_parts h
    rw [shares_len]; omega
  · simp
theorem dealV_yes {l : List Int} {many : Int} (h : dealB l many = true) : dealV l many = shares l many.toNat := if_pos h
theorem dealV_no {l : List Int} {many : Int} (h : ¬ dealB l many = true) : dealV l many = [] := if_neg h
theorem shares_all {l : List Int} {n : Nat} {V : List Int} (h : V = shares l n) : V.length = n := by rw [h, shares_len]


set_option maxHeartbeats 16000000 in
theorem walk_FnCoinFew (a0 : Option Addr) (len0 cap0 : Nat) (z0 : List Int) (a1 : Option Addr) (len1 cap1 : Nat) (z1 : List Int) (w : World) (w0 : Ints .u8 w w.heap.size a0 len0 cap0 z0) (w1 : Ints .u8 w w.heap.size a1 len1 cap1 z1) :
    Calls Try.prog 6 #[.slice a0 len0 cap0, .slice a1 len1 cap1] w fun e w' => e = .returned (.bool true) ∧ Below w.heap.size w w' := by
  by_cases h1 : len0 ≤ 1048576
  · by_cases h2 : len1 ≤ 1048576
    · have g1 : decide (1048576 < len0) = false := by simp; omega
      have g2 : decide (1048576 < len1) = false := by simp; omega
      have hEV := eqTo_same
      go_enter Try.func6, Try.ntmps6
      go_wp2_with fail
      refine (drawDeal_any a0 len0 cap0 z0 _ w0).mono ?_
      clear w0 w1
      rintro e w2 ⟨gd, cd, l, many, hgd, rfl, ud, hdl, hdc, hdm, hb2⟩
      go_wp2_with fail
      refine (deal_any (some ⟨gd, 0, none⟩) cd l many _ ud.sl' (by omega)).mono ?_
      rintro e w3 ⟨gg, cg, hgg, rfl, ug, hcg, hcgm, hb3⟩
      have ud3 := ud.below hb3 ud.lt
      have hB3 : Below w.heap.size w w3 := hb2.trans (hb3.mono hb2.size)
      clear ud hb2 hb3
      go_wp2_with fail
      refine (dealS_any (some ⟨gd, 0, none⟩) cd l many _ ud3.sl' (by omega)).mono ?_
      rintro e w4 ⟨gs, cs, hgs, rfl, us, hcs, hcsm, hb4⟩
      have ud4 := ud3.below hb4 ud3.lt
      have ug4 := ug.below hb4 ug.lt
      have hB4 : Below w.heap.size w w4 := hB3.trans (hb4.mono hB3.size)
      clear ud3 ug hB3 hb4
      have hvl := dealV_le l many
      obtain ⟨V, hV⟩ : ∃ V, V = dealV l many := ⟨_, rfl⟩
      rw [← hV] at hvl ug4 us hcg hcs ⊢
      have HV := Lib.hid hV
      clear hV
      by_cases hd : dealB l many = true
      · obtain ⟨p1, p2, p3, p4, p5⟩ := dealB_parts hd
        obtain ⟨n, rfl⟩ := Int.eq_ofNat_of_zero_le (show 0 ≤ many by omega)
        have hV2 : V = shares l n := by rw [HV.out, dealV_yes hd]; simp
        have hvn := shares_all hV2
        have hvr : allIn 0 250 V = true := by rw [hV2]; exact shares_in l n
        have HV2 := Lib.hid hV2
        have HVN := Lib.hid hvn
        have HVR := Lib.hid hvr
        have hv1 : 1 ≤ V.length := by omega
        have hvn' : n = V.length := hvn.symm
        have HP3 := Lib.hid p3
        have hlv : l.length ≤ V.length := by omega
        clear hd hV2 hvn hvr hvn' HV p3

        have t0 : ((V.length : Int) == 0) = false := by simp only [beq_eq_false_iff_ne]; omega
        have hkm : ((len1 : Int) % (l.length : Int)) = ((len1 % l.length : Nat) : Int) := by simp
        have hkl : len1 % l.length < l.length := Nat.mod_lt _ (by omega)
        obtain ⟨k, hk⟩ : ∃ k, k = len1 % l.length := ⟨_, rfl⟩
        rw [← hk] at hkm hkl
        clear hk
        have t9 : ((l.length : Int) == 0) = false := by simp only [beq_eq_false_iff_ne]; omega
        go_wp2_with fail
        refine (sameInts_any (some ⟨gg, 0, none⟩) (some ⟨gs, 0, none⟩) V V cg cs _ _ _ ug4.sl us.sl (by omega) (by omega)).mono ?_
        rintro e w5 ⟨rfl, n5, rfl⟩
        rw [hEV V]
        have hB5 := bel_dn hB4 n5
        have ud5 := ud4.drewN n5
        have ug5 := ug4.drewN n5
        have us5 := us.drewN n5
        obtain ⟨W5, hW5⟩ : ∃ W, W = w4.drewN n5 := ⟨_, rfl⟩
        rw [← hW5] at hB5 ud5 ug5 us5 ⊢
        clear hW5 hB4 ud4 ug4 us
        go_wp2_with fail
        refine (pOf_any (some ⟨gg, 0, none⟩) cg V 1 0 (k : Int) _ ug5.sl' HVR.out (by omega) (by omega) (by omega) (by omega) (by omega)).mono ?_
        rintro e wp1 ⟨gp1, cp1, rfl, hop1, hbp1⟩
        have hBp1 : Below w.heap.size w wp1 := hB5.trans (hbp1.mono hB5.size)
        have ugp1 := ug5.below hbp1 ug5.lt
        have udp1 := ud5.below hbp1 ud5.lt
        obtain ⟨ps1, hps1⟩ : ∃ ps, ps = partsL V (7 * 1 + 1) 0 (k : Int) V.length := ⟨_, rfl⟩
        have hpl1 : ps1.length ≤ 7 := by rw [hps1]; exact Nat.le_trans (partsL_len _ _ _ _ _) hvl
        rw [← hps1] at hop1 ⊢
        have HPS1 := Lib.hid hps1
        clear hps1 hbp1
        go_wp2_with fail
        refine (join_any _ _ _ ps1 _ hop1.parts.2.2.2.2 (by omega) hop1.parts.2.2.1).mono ?_
        rintro e wj1 ⟨v1, b1, rfl, hj1, hbj1⟩
        have hBj1 : Below w.heap.size w wj1 := hBp1.trans (hbj1.mono hBp1.size)
        have hbf : b1 = false := by
          have hj := hj1
          rw [HPS1.out] at hj
          rw [HV2.out, shares_len] at hj
          exact coin_few (k := 7 * 1 + 1) (F := 0) (M := k) (n := n) (by have := HVN.out; omega) (by have := HVN.out; omega) hkl (by have := HVN.out; omega) hj
        subst hbf
        clear hj1
        go_wp2_with fail
        go_ret
        exact ⟨rfl, hBj1⟩
      · have hV2 := HV.out
        rw [dealV_no hd] at hV2
        subst hV2
        go_wp2_with fail
        refine (sameInts_any (some ⟨gg, 0, none⟩) (some ⟨gs, 0, none⟩) [] [] cg cs _ _ w4 ug4.sl us.sl (by omega) (by omega)).mono ?_
        rintro e w5 ⟨rfl, n5, rfl⟩
        rw [hEV []]
        go_wp2_with fail
        refine (sameInts_any (some ⟨gg, 0, none⟩) (some ⟨gs, 0, none⟩) [] [] cg cs _ _ (w4.drewN n5) (ug4.drewN n5).sl (us.drewN n5).sl (by omega) (by omega)).mono ?_
        rintro e w6 ⟨rfl, n6, rfl⟩
        rw [hEV []]
        go_wp2_with fail
        go_ret
        exact ⟨rfl, bel_dn hB4 _⟩
    · have g1 : decide (1048576 < len0) = false := by simp; omega
      have g2 : decide (1048576 < len1) = true := by simp; omega
      go_enter Try.func6, Try.ntmps6
      go_wp2_with fail
      go_ret
      exact ⟨rfl, Below.refl _ _⟩
  · have g1 : decide (1048576 < len0) = true := by simp; omega
    go_enter Try.func6, Try.ntmps6
    go_wp2_with fail
    go_ret
    exact ⟨rfl, Below.refl _ _⟩

set_option maxHeartbeats 16000000 in
theorem walk_FnCoinAll (a0 : Option Addr) (len0 cap0 : Nat) (z0 : List Int) (a1 : Option Addr) (len1 cap1 : Nat) (z1 : List Int) (w : World) (w0 : Ints .u8 w w.heap.size a0 len0 cap0 z0) (w1 : Ints .u8 w w.heap.size a1 len1 cap1 z1) :
    Calls Try.prog 5 #[.slice a0 len0 cap0, .slice a1 len1 cap1] w fun e w' => e = .returned (.bool true) ∧ Below w.heap.size w w' := by
  by_cases h1 : len0 ≤ 1048576
  · by_cases h2 : len1 ≤ 1048576
    · have g1 : decide (1048576 < len0) = false := by simp; omega
      have g2 : decide (1048576 < len1) = false := by simp; omega
      have hEV := eqTo_same
      go_enter Try.func5, Try.ntmps5
      go_wp2_with fail
      refine (drawDeal_any a0 len0 cap0 z0 _ w0).mono ?_
      clear w0 w1
      rintro e w2 ⟨gd, cd, l, many, hgd, rfl, ud, hdl, hdc, hdm, hb2⟩
      go_wp2_with fail
      refine (deal_any (some ⟨gd, 0, none⟩) cd l many _ ud.sl' (by omega)).mono ?_
      rintro e w3 ⟨gg, cg, hgg, rfl, ug, hcg, hcgm, hb3⟩
      have ud3 := ud.below hb3 ud.lt
      have hB3 : Below w.heap.size w w3 := hb2.trans (hb3.mono hb2.size)
      clear ud hb2 hb3
      go_wp2_with fail
      refine (dealS_any (some ⟨gd, 0, none⟩) cd l many _ ud3.sl' (by omega)).mono ?_
      rintro e w4 ⟨gs, cs, hgs, rfl, us, hcs, hcsm, hb4⟩
      have ud4 := ud3.below hb4 ud3.lt
      have ug4 := ug.below hb4 ug.lt
      have hB4 : Below w.heap.size w w4 := hB3.trans (hb4.mono hB3.size)
      clear ud3 ug hB3 hb4
      have hvl := dealV_le l many
      obtain ⟨V, hV⟩ : ∃ V, V = dealV l many := ⟨_, rfl⟩
      rw [← hV] at hvl ug4 us hcg hcs ⊢
      have HV := Lib.hid hV
      clear hV
      by_cases hd : dealB l many = true
      · obtain ⟨p1, p2, p3, p4, p5⟩ := dealB_parts hd
        obtain ⟨n, rfl⟩ := Int.eq_ofNat_of_zero_le (show 0 ≤ many by omega)
        have hV2 : V = shares l n := by rw [HV.out, dealV_yes hd]; simp
        have hvn := shares_all hV2
        have hvr : allIn 0 250 V = true := by rw [hV2]; exact shares_in l n
        have HV2 := Lib.hid hV2
        have HVN := Lib.hid hvn
        have HVR := Lib.hid hvr
        have hv1 : 1 ≤ V.length := by omega
        have hvn' : n = V.length := hvn.symm
        have HP3 := Lib.hid p3
        have hlv : l.length ≤ V.length := by omega
        clear hd hV2 hvn hvr hvn' HV p3

        have t0 : ((V.length : Int) == 0) = false := by simp only [beq_eq_false_iff_ne]; omega
        go_wp2_with fail
        refine (sameInts_any (some ⟨gg, 0, none⟩) (some ⟨gs, 0, none⟩) V V cg cs _ _ _ ug4.sl us.sl (by omega) (by omega)).mono ?_
        rintro e w5 ⟨rfl, n5, rfl⟩
        rw [hEV V]
        have hB5 := bel_dn hB4 n5
        have ud5 := ud4.drewN n5
        have ug5 := ug4.drewN n5
        have us5 := us.drewN n5
        obtain ⟨W5, hW5⟩ : ∃ W, W = w4.drewN n5 := ⟨_, rfl⟩
        rw [← hW5] at hB5 ud5 ug5 us5 ⊢
        clear hW5 hB4 ud4 ug4 us
        go_wp2_with fail
        refine (pOf_any (some ⟨gg, 0, none⟩) cg V (1 + (len1 : Int) % 15) 0 (n : Int) _ ug5.sl' HVR.out (by omega) (by omega) (by omega) (by omega) (by omega)).mono ?_
        rintro e wp1 ⟨gp1, cp1, rfl, hop1, hbp1⟩
        have hBp1 : Below w.heap.size w wp1 := hB5.trans (hbp1.mono hB5.size)
        have ugp1 := ug5.below hbp1 ug5.lt
        have udp1 := ud5.below hbp1 ud5.lt
        obtain ⟨ps1, hps1⟩ : ∃ ps, ps = partsL V (7 * (1 + (len1 : Int) % 15) + 1) 0 (n : Int) V.length := ⟨_, rfl⟩
        have hpl1 : ps1.length ≤ 7 := by rw [hps1]; exact Nat.le_trans (partsL_len _ _ _ _ _) hvl
        rw [← hps1] at hop1 ⊢
        have HPS1 := Lib.hid hps1
        clear hps1 hbp1
        go_wp2_with fail
        refine (join_any _ _ _ ps1 _ hop1.parts.2.2.2.2 (by omega) hop1.parts.2.2.1).mono ?_
        rintro e wj1 ⟨v1, b1, rfl, hj1, hbj1⟩
        have hBj1 : Below w.heap.size w wj1 := hBp1.trans (hbj1.mono hBp1.size)
        have hcj1 : v1 = Dag.ev l 0 * (7 * (1 + (len1 : Int) % 15) + 1) % 251 ∧ b1 = true := by
          have hj := hj1
          rw [HPS1.out] at hj
          rw [HV2.out, shares_len] at hj
          exact coin_joins (F := 0) (M := n) (n := n) p1 (by have := HVN.out; omega) (by have := HVN.out; omega) (by have := HVN.out; omega) (by have := HVN.out; omega) hj
        obtain ⟨hcv1, hcb1⟩ := hcj1
        subst hcb1
        clear hj1
        have HC1 := Lib.hid hcv1
        have ugj := ugp1.below hbj1 ugp1.lt
        have udj := udp1.below hbj1 udp1.lt
        clear hcv1 hbj1 ugp1 udp1 hop1 hBp1
        go_wp2_with fail
        refine (pOf_any (some ⟨gg, 0, none⟩) cg V (1 + (len1 : Int) % 15) (len1 : Int) (l.length : Int) _ ugj.sl' HVR.out (by omega) (by omega) (by omega) (by omega) (by omega)).mono ?_
        rintro e wp2 ⟨gp2, cp2, rfl, hop2, hbp2⟩
        have hBp2 : Below w.heap.size w wp2 := hBj1.trans (hbp2.mono hBj1.size)
        have ugp2 := ugj.below hbp2 ugj.lt
        have udp2 := udj.below hbp2 udj.lt
        obtain ⟨ps2, hps2⟩ : ∃ ps, ps = partsL V (7 * (1 + (len1 : Int) % 15) + 1) (len1 : Int) (l.length : Int) V.length := ⟨_, rfl⟩
        have hpl2 : ps2.length ≤ 7 := by rw [hps2]; exact Nat.le_trans (partsL_len _ _ _ _ _) hvl
        rw [← hps2] at hop2 ⊢
        have HPS2 := Lib.hid hps2
        clear hps2 hbp2
        go_wp2_with fail
        refine (join_any _ _ _ ps2 _ hop2.parts.2.2.2.2 (by omega) hop2.parts.2.2.1).mono ?_
        rintro e wj2 ⟨v2, b2, rfl, hj2, hbj2⟩
        have hBj2 : Below w.heap.size w wj2 := hBp2.trans (hbj2.mono hBp2.size)
        have hcj2 : v2 = Dag.ev l 0 * (7 * (1 + (len1 : Int) % 15) + 1) % 251 ∧ b2 = true := by
          have hj := hj2
          rw [HPS2.out] at hj
          rw [HV2.out, shares_len] at hj
          exact coin_joins (F := len1) (M := l.length) (n := n) p1 (by have := HVN.out; omega) (by have := HVN.out; omega) (by have := HVN.out; omega) (by have := HVN.out; omega) hj
        obtain ⟨hcv2, hcb2⟩ := hcj2
        subst hcb2
        clear hj2
        have hxy : (v1 == v2) = true := by rw [HC1.out, hcv2]; simp
        clear hcv2
        go_wp2_with fail
        go_ret
        exact ⟨by simp [hxy], hBj2⟩
      · have hV2 := HV.out
        rw [dealV_no hd] at hV2
        subst hV2
        go_wp2_with fail
        refine (sameInts_any (some ⟨gg, 0, none⟩) (some ⟨gs, 0, none⟩) [] [] cg cs _ _ w4 ug4.sl us.sl (by omega) (by omega)).mono ?_
        rintro e w5 ⟨rfl, n5, rfl⟩
        rw [hEV []]
        go_wp2_with fail
        refine (sameInts_any (some ⟨gg, 0, none⟩) (some ⟨gs, 0, none⟩) [] [] cg cs _ _ (w4.drewN n5) (ug4.drewN n5).sl (us.drewN n5).sl (by omega) (by omega)).mono ?_
        rintro e w6 ⟨rfl, n6, rfl⟩
        rw [hEV []]
        go_wp2_with fail
        go_ret
        exact ⟨rfl, bel_dn hB4 _⟩
    · have g1 : decide (1048576 < len0) = false := by simp; omega
      have g2 : decide (1048576 < len1) = true := by simp; omega
      go_enter Try.func5, Try.ntmps5
      go_wp2_with fail
      go_ret
      exact ⟨rfl, Below.refl _ _⟩
  · have g1 : decide (1048576 < len0) = true := by simp; omega
    go_enter Try.func5, Try.ntmps5
    go_wp2_with fail
    go_ret
    exact ⟨rfl, Below.refl _ _⟩

set_option maxHeartbeats 16000000 in
theorem walk_FnCoinJoin (a0 : Option Addr) (len0 cap0 : Nat) (z0 : List Int) (a1 : Option Addr) (len1 cap1 : Nat) (z1 : List Int) (w : World) (w0 : Ints .u8 w w.heap.size a0 len0 cap0 z0) (w1 : Ints .u8 w w.heap.size a1 len1 cap1 z1) :
    Calls Try.prog 8 #[.slice a0 len0 cap0, .slice a1 len1 cap1] w fun e w' => e = .returned (.bool true) ∧ Below w.heap.size w w' := by
  by_cases h1 : len0 ≤ 1048576
  · by_cases h2 : len1 ≤ 1048576
    · have g1 : decide (1048576 < len0) = false := by simp; omega
      have g2 : decide (1048576 < len1) = false := by simp; omega
      have hEV := eqTo_same
      go_enter Try.func8, Try.ntmps8
      go_wp2_with fail
      refine (drawDeal_any a0 len0 cap0 z0 _ w0).mono ?_
      clear w0 w1
      rintro e w2 ⟨gd, cd, l, many, hgd, rfl, ud, hdl, hdc, hdm, hb2⟩
      go_wp2_with fail
      refine (deal_any (some ⟨gd, 0, none⟩) cd l many _ ud.sl' (by omega)).mono ?_
      rintro e w3 ⟨gg, cg, hgg, rfl, ug, hcg, hcgm, hb3⟩
      have ud3 := ud.below hb3 ud.lt
      have hB3 : Below w.heap.size w w3 := hb2.trans (hb3.mono hb2.size)
      clear ud hb2 hb3
      go_wp2_with fail
      refine (dealS_any (some ⟨gd, 0, none⟩) cd l many _ ud3.sl' (by omega)).mono ?_
      rintro e w4 ⟨gs, cs, hgs, rfl, us, hcs, hcsm, hb4⟩
      have ud4 := ud3.below hb4 ud3.lt
      have ug4 := ug.below hb4 ug.lt
      have hB4 : Below w.heap.size w w4 := hB3.trans (hb4.mono hB3.size)
      clear ud3 ug hB3 hb4
      have hvl := dealV_le l many
      obtain ⟨V, hV⟩ : ∃ V, V = dealV l many := ⟨_, rfl⟩
      rw [← hV] at hvl ug4 us hcg hcs ⊢
      have HV := Lib.hid hV
      clear hV
      by_cases hd : dealB l many = true
      · obtain ⟨p1, p2, p3, p4, p5⟩ := dealB_parts hd
        obtain ⟨n, rfl⟩ := Int.eq_ofNat_of_zero_le (show 0 ≤ many by omega)
        have hV2 : V = shares l n := by rw [HV.out, dealV_yes hd]; simp
        have hvn := shares_all hV2
        have hvr : allIn 0 250 V = true := by rw [hV2]; exact shares_in l n
        have HV2 := Lib.hid hV2
        have HVN := Lib.hid hvn
        have HVR := Lib.hid hvr
        have hv1 : 1 ≤ V.length := by omega
        have hvn' : n = V.length := hvn.symm
        have HP3 := Lib.hid p3
        have hlv : l.length ≤ V.length := by omega
        clear hd hV2 hvn hvr hvn' HV p3

        have t0 : ((V.length : Int) == 0) = false := by simp only [beq_eq_false_iff_ne]; omega
        go_wp2_with fail
        refine (sameInts_any (some ⟨gg, 0, none⟩) (some ⟨gs, 0, none⟩) V V cg cs _ _ _ ug4.sl us.sl (by omega) (by omega)).mono ?_
        rintro e w5 ⟨rfl, n5, rfl⟩
        rw [hEV V]
        have hB5 := bel_dn hB4 n5
        have ud5 := ud4.drewN n5
        have ug5 := ug4.drewN n5
        have us5 := us.drewN n5
        obtain ⟨W5, hW5⟩ : ∃ W, W = w4.drewN n5 := ⟨_, rfl⟩
        rw [← hW5] at hB5 ud5 ug5 us5 ⊢
        clear hW5 hB4 ud4 ug4 us
        go_wp2_with fail
        refine (pOf_any (some ⟨gg, 0, none⟩) cg V (1 + (len1 : Int) % 15) (len1 : Int) (l.length : Int) _ ug5.sl' HVR.out (by omega) (by omega) (by omega) (by omega) (by omega)).mono ?_
        rintro e wp1 ⟨gp1, cp1, rfl, hop1, hbp1⟩
        have hBp1 : Below w.heap.size w wp1 := hB5.trans (hbp1.mono hB5.size)
        have ugp1 := ug5.below hbp1 ug5.lt
        have udp1 := ud5.below hbp1 ud5.lt
        obtain ⟨ps1, hps1⟩ : ∃ ps, ps = partsL V (7 * (1 + (len1 : Int) % 15) + 1) (len1 : Int) (l.length : Int) V.length := ⟨_, rfl⟩
        have hpl1 : ps1.length ≤ 7 := by rw [hps1]; exact Nat.le_trans (partsL_len _ _ _ _ _) hvl
        rw [← hps1] at hop1 ⊢
        have HPS1 := Lib.hid hps1
        clear hps1 hbp1
        go_wp2_with fail
        refine (join_any _ _ _ ps1 _ hop1.parts.2.2.2.2 (by omega) hop1.parts.2.2.1).mono ?_
        rintro e wj1 ⟨v1, b1, rfl, hj1, hbj1⟩
        have hBj1 : Below w.heap.size w wj1 := hBp1.trans (hbj1.mono hBp1.size)
        have hcj1 : v1 = Dag.ev l 0 * (7 * (1 + (len1 : Int) % 15) + 1) % 251 ∧ b1 = true := by
          have hj := hj1
          rw [HPS1.out] at hj
          rw [HV2.out, shares_len] at hj
          exact coin_joins (F := len1) (M := l.length) (n := n) p1 (by have := HVN.out; omega) (by have := HVN.out; omega) (by have := HVN.out; omega) (by have := HVN.out; omega) hj
        obtain ⟨hcv1, hcb1⟩ := hcj1
        subst hcb1
        clear hj1
        have udj := udp1.below hbj1 udp1.lt
        have hpc : ps1.length = l.length := by
          rw [HPS1.out, HV2.out]
          exact partsL_count (F := len1) (M := l.length) (by rw [shares_len]; have := HVN.out; omega) (by rw [shares_len]; have := HVN.out; omega) (by rw [shares_len]; have := HVN.out; omega)
        have t1 : ((ps1.length : Int) == (l.length : Int)) = true := by simp; omega
        have HPC := Lib.hid hpc
        have hc0 := udj.cell (j := 0) (by omega)
        obtain ⟨x0, x1⟩ := allIn_get HP3.out (j := 0) (by omega)
        have t2 : (v1 == nth l 0 * (7 * (1 + (len1 : Int) % 15) + 1) % 251) = true := by
          rw [hcv1, ev_at0 p1 HP3.out]; simp
        clear hpc hcv1 hbj1 ugp1 udp1 hop1 hBp1
        have i1 : (0 : Int) < (l.length : Int) := by omega
        go_wp2_with (go_at_call 27; refine (cvalue_any (nth l 0) (1 + (len1 : Int) % 15) _ x0 x1 (by omega) (by omega)).mono ?_; rintro e w9 ⟨rfl, rfl⟩)
        go_ret
        exact ⟨by simp [t1, t2], hBj1⟩
      · have hV2 := HV.out
        rw [dealV_no hd] at hV2
        subst hV2
        go_wp2_with fail
        refine (sameInts_any (some ⟨gg, 0, none⟩) (some ⟨gs, 0, none⟩) [] [] cg cs _ _ w4 ug4.sl us.sl (by omega) (by omega)).mono ?_
        rintro e w5 ⟨rfl, n5, rfl⟩
        rw [hEV []]
        go_wp2_with fail
        refine (sameInts_any (some ⟨gg, 0, none⟩) (some ⟨gs, 0, none⟩) [] [] cg cs _ _ (w4.drewN n5) (ug4.drewN n5).sl (us.drewN n5).sl (by omega) (by omega)).mono ?_
        rintro e w6 ⟨rfl, n6, rfl⟩
        rw [hEV []]
        go_wp2_with fail
        go_ret
        exact ⟨rfl, bel_dn hB4 _⟩
    · have g1 : decide (1048576 < len0) = false := by simp; omega
      have g2 : decide (1048576 < len1) = true := by simp; omega
      go_enter Try.func8, Try.ntmps8
      go_wp2_with fail
      go_ret
      exact ⟨rfl, Below.refl _ _⟩
  · have g1 : decide (1048576 < len0) = true := by simp; omega
    go_enter Try.func8, Try.ntmps8
    go_wp2_with fail
    go_ret
    exact ⟨rfl, Below.refl _ _⟩

set_option maxHeartbeats 16000000 in
theorem walk_FnCoinWrong (a0 : Option Addr) (len0 cap0 : Nat) (z0 : List Int) (a1 : Option Addr) (len1 cap1 : Nat) (z1 : List Int) (w : World) (w0 : Ints .u8 w w.heap.size a0 len0 cap0 z0) (w1 : Ints .u8 w w.heap.size a1 len1 cap1 z1) :
    Calls Try.prog 7 #[.slice a0 len0 cap0, .slice a1 len1 cap1] w fun e w' => e = .returned (.bool true) ∧ Below w.heap.size w w' := by
  by_cases h1 : len0 ≤ 1048576
  · by_cases h2 : len1 ≤ 1048576
    · have g1 : decide (1048576 < len0) = false := by simp; omega
      have g2 : decide (1048576 < len1) = false := by simp; omega
      have hEV := eqTo_same
      go_enter Try.func7, Try.ntmps7
      go_wp2_with fail
      refine (drawDeal_any a0 len0 cap0 z0 _ w0).mono ?_
      clear w0 w1
      rintro e w2 ⟨gd, cd, l, many, hgd, rfl, ud, hdl, hdc, hdm, hb2⟩
      go_wp2_with fail
      refine (deal_any (some ⟨gd, 0, none⟩) cd l many _ ud.sl' (by omega)).mono ?_
      rintro e w3 ⟨gg, cg, hgg, rfl, ug, hcg, hcgm, hb3⟩
      have ud3 := ud.below hb3 ud.lt
      have hB3 : Below w.heap.size w w3 := hb2.trans (hb3.mono hb2.size)
      clear ud hb2 hb3
      go_wp2_with fail
      refine (dealS_any (some ⟨gd, 0, none⟩) cd l many _ ud3.sl' (by omega)).mono ?_
      rintro e w4 ⟨gs, cs, hgs, rfl, us, hcs, hcsm, hb4⟩
      have ud4 := ud3.below hb4 ud3.lt
      have ug4 := ug.below hb4 ug.lt
      have hB4 : Below w.heap.size w w4 := hB3.trans (hb4.mono hB3.size)
      clear ud3 ug hB3 hb4
      have hvl := dealV_le l many
      obtain ⟨V, hV⟩ : ∃ V, V = dealV l many := ⟨_, rfl⟩
      rw [← hV] at hvl ug4 us hcg hcs ⊢
      have HV := Lib.hid hV
      clear hV
      by_cases hd : dealB l many = true
      · obtain ⟨p1, p2, p3, p4, p5⟩ := dealB_parts hd
        obtain ⟨n, rfl⟩ := Int.eq_ofNat_of_zero_le (show 0 ≤ many by omega)
        have hV2 : V = shares l n := by rw [HV.out, dealV_yes hd]; simp
        have hvn := shares_all hV2
        have hvr : allIn 0 250 V = true := by rw [hV2]; exact shares_in l n
        have HV2 := Lib.hid hV2
        have HVN := Lib.hid hvn
        have HVR := Lib.hid hvr
        have hv1 : 1 ≤ V.length := by omega
        have hvn' : n = V.length := hvn.symm
        have HP3 := Lib.hid p3
        have hlv : l.length ≤ V.length := by omega
        clear hd hV2 hvn hvr hvn' HV p3

        by_cases hgt : V.length ≤ l.length
        · have t0 : decide ((V.length : Int) ≤ (l.length : Int)) = true := by simp; omega
          have t0' : decide (V.length ≤ l.length) = true := by simp; omega
          go_wp2_with fail
          refine (sameInts_any (some ⟨gg, 0, none⟩) (some ⟨gs, 0, none⟩) V V cg cs _ _ _ ug4.sl us.sl (by omega) (by omega)).mono ?_
          rintro e w5 ⟨rfl, n5, rfl⟩
          rw [hEV V]
          have hB5 := bel_dn hB4 n5
          have ud5 := ud4.drewN n5
          have ug5 := ug4.drewN n5
          have us5 := us.drewN n5
          obtain ⟨W5, hW5⟩ : ∃ W, W = w4.drewN n5 := ⟨_, rfl⟩
          rw [← hW5] at hB5 ud5 ug5 us5 ⊢
          clear hW5 hB4 ud4 ug4 us
          go_wp2_with fail
          refine (sameInts_any (some ⟨gg, 0, none⟩) (some ⟨gs, 0, none⟩) V V cg cs _ _ _ ug5.sl us5.sl (by omega) (by omega)).mono ?_
          rintro e w6 ⟨rfl, n6, rfl⟩
          rw [hEV V]
          go_wp2_with fail
          go_ret
          exact ⟨rfl, bel_dn hB5 _⟩
        have t0 : decide ((V.length : Int) ≤ (l.length : Int)) = false := by simp; omega
        have t0' : decide (V.length ≤ l.length) = false := by simp; omega
        go_wp2_with fail
        refine (sameInts_any (some ⟨gg, 0, none⟩) (some ⟨gs, 0, none⟩) V V cg cs _ _ _ ug4.sl us.sl (by omega) (by omega)).mono ?_
        rintro e w5 ⟨rfl, n5, rfl⟩
        rw [hEV V]
        have hB5 := bel_dn hB4 n5
        have ud5 := ud4.drewN n5
        have ug5 := ug4.drewN n5
        have us5 := us.drewN n5
        obtain ⟨W5, hW5⟩ : ∃ W, W = w4.drewN n5 := ⟨_, rfl⟩
        rw [← hW5] at hB5 ud5 ug5 us5 ⊢
        clear hW5 hB4 ud4 ug4 us
        go_wp2_with fail
        refine (pOf_any (some ⟨gg, 0, none⟩) cg V 1 0 ((l.length : Int) + 1) _ ug5.sl' HVR.out (by omega) (by omega) (by omega) (by omega) (by omega)).mono ?_
        rintro e wp1 ⟨gp1, cp1, rfl, hop1, hbp1⟩
        have hBp1 : Below w.heap.size w wp1 := hB5.trans (hbp1.mono hB5.size)
        have ugp1 := ug5.below hbp1 ug5.lt
        have udp1 := ud5.below hbp1 ud5.lt
        obtain ⟨ps1, hps1⟩ : ∃ ps, ps = partsL V (7 * 1 + 1) 0 ((l.length : Int) + 1) V.length := ⟨_, rfl⟩
        have hpl1 : ps1.length ≤ 7 := by rw [hps1]; exact Nat.le_trans (partsL_len _ _ _ _ _) hvl
        rw [← hps1] at hop1 ⊢
        have HPS1 := Lib.hid hps1
        clear hps1 hbp1
        have hpc : ps1.length = l.length + 1 := by
          rw [HPS1.out, HV2.out]
          exact partsL_count (F := 0) (M := l.length + 1) (by rw [shares_len]; have := HVN.out; omega) (by rw [shares_len]; have := HVN.out; omega) (by rw [shares_len]; have := HVN.out; omega)
        have hpl1 : 1 ≤ ps1.length := by omega
        have HPC := Lib.hid hpc
        clear hpc
        have hkm : ((len1 : Int) % (ps1.length : Int)) = ((len1 % ps1.length : Nat) : Int) := by simp
        have hkl : len1 % ps1.length < ps1.length := Nat.mod_lt _ (by omega)
        obtain ⟨k, hk⟩ : ∃ k, k = len1 % ps1.length := ⟨_, rfl⟩
        rw [← hk] at hkm hkl
        clear hk
        have t9 : ((ps1.length : Int) == 0) = false := by simp only [beq_eq_false_iff_ne]; omega
        have hpg : PG ps1 ps1.length := by rw [HPS1.out]; exact partsL_PG (F := 0) (M := l.length + 1) hvl
        have HPG := Lib.hid hpg
        obtain ⟨_, _, s0, s1, _⟩ := hpg k hkl
        clear hpg
        obtain ⟨b', off', e', hbl', hc1, hc2⟩ := hop1.parts.2.2.2.2.at_ hkl
        simp only [Option.some.injEq, Addr.mk.injEq, and_true] at e'
        obtain ⟨rfl, rfl⟩ := e'
        have hfz := hop1.frozen (k * 2 + 1)
        have q0 : 0 ≤ (len1 : Int) % 249 := by omega
        have q1 : (len1 : Int) % 249 ≤ 248 := by omega
        have hset := hop1.set k ((snd_ ps1 k + 1 + (len1 : Int) % 249) % 251) hkl
        have hsb : Below w.heap.size w (wp1.setCell ⟨gp1, k * 2 + 1, none⟩ (.int .i64 ((snd_ ps1 k + 1 + (len1 : Int) % 249) % 251))) := hBp1.setCell (p := ⟨gp1, k * 2 + 1, none⟩) (Nat.le_trans hB5.size hop1.parts.1) _
        have i1 : (k : Int) < (ps1.length : Int) := by omega
        have i2 : (0 : Int) ≤ (k : Int) := by omega
        simp only [Nat.zero_add] at hc1 hc2
        go_wp2_with fail
        obtain ⟨ps2, hps2⟩ : ∃ ps, ps = ps1.set k (fst_ ps1 k, (snd_ ps1 k + 1 + (len1 : Int) % 249) % 251) := ⟨_, rfl⟩
        have hl2 : ps2.length = ps1.length := by rw [hps2]; simp
        rw [← hps2] at hset
        have hjn := join_any (l.length : Int) (some ⟨gp1, 0, none⟩) cp1 ps2 _ hset.parts.2.2.2.2 (by omega) hset.parts.2.2.1
        rw [hl2] at hjn
        refine hjn.mono ?_
        clear hjn
        rintro e wj ⟨v, b, rfl, hj, hbj⟩
        have hbf : b = false := by
          rw [hps2] at hj
          refine coin_wrong HPG.out HPC.out (cs := scale l (7 * 1 + 1)) (scale_len _ _) (scale_in _ _) ?_ k hkl _ (by omega) hj
          rw [HPS1.out, HV2.out, shares_len]
          exact partsL_fit (F := 0) (M := l.length + 1)
        subst hbf
        have hBj : Below w.heap.size w wj := hsb.trans (hbj.mono hsb.size)
        clear hj hbj hset hsb hop1 hl2 hps2 hc1 hc2 hfz hBp1 ugp1 udp1
        go_wp2_with fail
        go_ret
        exact ⟨rfl, hBj⟩
      · have hV2 := HV.out
        rw [dealV_no hd] at hV2
        subst hV2
        go_wp2_with fail
        refine (sameInts_any (some ⟨gg, 0, none⟩) (some ⟨gs, 0, none⟩) [] [] cg cs _ _ w4 ug4.sl us.sl (by omega) (by omega)).mono ?_
        rintro e w5 ⟨rfl, n5, rfl⟩
        rw [hEV []]
        have t0 : decide ((0 : Int) ≤ (l.length : Int)) = true := by simp
        go_wp2_with fail
        refine (sameInts_any (some ⟨gg, 0, none⟩) (some ⟨gs, 0, none⟩) [] [] cg cs _ _ (w4.drewN n5) (ug4.drewN n5).sl (us.drewN n5).sl (by omega) (by omega)).mono ?_
        rintro e w6 ⟨rfl, n6, rfl⟩
        rw [hEV []]
        go_wp2_with fail
        go_ret
        exact ⟨rfl, bel_dn hB4 _⟩
    · have g1 : decide (1048576 < len0) = false := by simp; omega
      have g2 : decide (1048576 < len1) = true := by simp; omega
      go_enter Try.func7, Try.ntmps7
      go_wp2_with fail
      go_ret
      exact ⟨rfl, Below.refl _ _⟩
  · have g1 : decide (1048576 < len0) = true := by simp; omega
    go_enter Try.func7, Try.ntmps7
    go_wp2_with fail
    go_ret
    exact ⟨rfl, Below.refl _ _⟩
end Go.Proofs.Ythdbbllcckimbaa
