/- The walk of FnShardsSum. No condition. -/
import Derived.Test.YtfkmiflddpjllaaShL
import Derived.Test.YtfkmiflddpjllaaShN
import Derived.Test.YtfkmiflddpjllaaShY
import Derived.Test.YtfkmiflddpjllaaRd
namespace Go.Proofs.Ytfkmiflddpjllaa
open Go.RowKit
set_option linter.unusedVariables false
set_option linter.unusedSimpArgs false

theorem eqTo_refl (l : List Int) : eqTo l l = true := by simp [eqTo]
theorem OwnS.base {w : World} {B B' g c : Nat} {l : List Sh} {H : Nat → Nat × Nat} (h : OwnS w B g c l H) (hB : B' ≤ B) : OwnS w B' g c l H := by
  obtain ⟨cur, h1, h2, h3, h4, h5, h6, h7⟩ := row_block h.1
  refine ⟨⟨h.1.1, .inr ⟨g, c, cur, rfl, by omega, h1, h4, h5, h6, h7⟩⟩, fun j hj => ?_⟩
  obtain ⟨r1, r2⟩ := h.2 j hj
  exact ⟨by omega, r2⟩
theorem makeV_small (l : List Int) (need many : Int) : (makeV l need many).length ≤ 8 ∧ ∀ j, j < (makeV l need many).length → (val_ (makeV l need many) j).length ≤ 12 := by
  by_cases h : makeB l need many = true
  · obtain ⟨p1, p2, p3, p4, p5, p6, p7⟩ := makeB_parts h
    rw [makeV_yes h, shards_len]
    refine ⟨by omega, fun j hj => ?_⟩
    rw [shards_val _ _ _ hj, shVals_len]
    exact cols_12 (by omega) p2
  · rw [makeV_no h]; exact ⟨by simp, fun j hj => by simp at hj⟩


set_option maxHeartbeats 4000000 in
theorem walk_FnShardsSum (a0 : Option Addr) (len0 cap0 : Nat) (z0 : List Int) (w : World) (w0 : Ints .u8 w w.heap.size a0 len0 cap0 z0) :
    Calls Try.prog 8 #[.slice a0 len0 cap0] w fun e w' => e = .returned (.bool true) ∧ Below w.heap.size w w' := by
  by_cases h1 : len0 ≤ 1048576
  · have g1 : decide (1048576 < len0) = false := by simp; omega
    go_enter Try.func8, Try.ntmps8
    have hES := eqSh_same
    go_wp2_with fail
    refine (drawMake_any a0 len0 cap0 z0 _ w0).mono ?_
    clear w0
    rintro e w2 ⟨gd, cd, l, need, many, hgd, rfl, ud, hl24, hlc, hcm, hB2⟩
    go_wp2_with fail
    refine (makeF_any (some ⟨gd, 0, none⟩) cd l need many _ ud.sl' (by omega) hlc hcm).mono ?_
    rintro e w3 ⟨gg, cg, HG, rfl, og, hdg, hb3⟩
    have ud3 := ud.below hb3 ud.lt
    have hB3 : Below w.heap.size w w3 := hB2.trans (hb3.mono hB2.size)
    have og3 := OwnS.base og hB2.size
    clear ud og hb3 hB2
    go_wp2_with fail
    refine (makeS_any (some ⟨gd, 0, none⟩) cd l need many _ ud3.sl' (by omega)).mono ?_
    rintro e w4 ⟨gs, cs, HS, rfl, os, hds, hb4⟩
    have ud4 := ud3.below hb4 ud3.lt
    have og4 := og3.below hb4
    have hB4 : Below w.heap.size w w4 := hB3.trans (hb4.mono hB3.size)
    clear ud3 og3 hb4 hB3 hds
    obtain ⟨hv8, hv12⟩ := makeV_small l need many
    obtain ⟨V, hV⟩ : ∃ V, V = makeV l need many := ⟨_, rfl⟩
    rw [← hV] at og4 os hdg hv8 hv12 ⊢
    have HV := Lib.hid hV
    have HV12 := Lib.hid hv12
    have HDG := Lib.hid hdg
    clear hV hv12 hdg
    have hvz : ∀ j, j < V.length → (val_ V j).length ≤ 2000000 := fun j hj => by have := HV12.out j hj; omega
    have HVZ := Lib.hid hvz
    clear hvz
    by_cases hm : makeB l need many = true
    · obtain ⟨p1, p2, p3, p4, p5, p6, p7⟩ := makeB_parts hm
      obtain ⟨nd, rfl⟩ := Int.eq_ofNat_of_zero_le (show 0 ≤ need by omega)
      obtain ⟨mn, rfl⟩ := Int.eq_ofNat_of_zero_le (show 0 ≤ many by omega)
      have hV2 : V = shards l nd mn := by rw [HV.out, makeV_yes hm]; simp
      have hvn : V.length = mn := by rw [hV2, shards_len]
      have HDB : Hid (dataB l nd = true) := by unfold Hid; exact dataB_true p1 p2 p3 p4 p5
      have HL := Lib.hid p3
      have HV2 := Lib.hid hV2
      have HVN := Lib.hid hvn
      have hv1 : 1 ≤ V.length := by omega
      have hnv : nd ≤ V.length := by omega
      clear hm hV2 HV p3
      have t0 : ((V.length : Int) == 0) = false := by simp only [beq_eq_false_iff_ne]; omega
      have t9 : ((nd : Int) == 0) = false := by simp only [beq_eq_false_iff_ne]; omega
      have HS1 := Lib.hid os
      clear hvn
      go_wp2_with fail
      refine (sameShards_any (some ⟨gg, 0, none⟩) (some ⟨gs, 0, none⟩) V V cg cs _ og4.shl os.shl (by omega) (by omega) HVZ.out HVZ.out).mono ?_
      rintro e w5 ⟨rfl, hb5⟩
      rw [hES V]
      have ud5 := ud4.below hb5 ud4.lt
      have og5 := og4.below hb5
      have hB5 : Below w.heap.size w w5 := hB4.trans (hb5.mono hB4.size)
      clear ud4 og4 os hb5 hB4 HS1
      have ho0 := OwnI.made w5 w.heap.size hB5.size
      have hb0 : Below w.heap.size w (w5.alloc (.cells #[] 3)) := hB5.alloc hB5.size _
      have hog0 := og5.alloc (.cells #[] 3)
      have hud0 : Wr (w5.alloc (.cells #[] 3)) gd l := ud5.block (Below.heap_alloc _ _ _ ud5.lt)
      have HAT : Hid (∀ i, i < V.length → val_ V i = shVals l nd ((i : Int) + 1)) := by
        unfold Hid; intro i hi
        rw [HVN.out] at hi
        rw [HV2.out, shards_val _ _ _ hi]
      go_wp2_with fail
      go_loopw [8, 9] (fun v i wr => ∃ k g c : Nat, k ≤ l.length ∧ i = .int .i64 (k : Int) ∧ v = .slice (some ⟨g, 0, none⟩) (dbl (l.take k)).length c ∧ OwnI wr w.heap.size g c (dbl (l.take k)) ∧ OwnS wr w.heap.size gg cg V HG ∧ g ≠ gg ∧ Wr wr gd l ∧ g ≠ gd ∧ (∀ j, j < V.length → g ≠ (HG j).1) ∧ Below w.heap.size w wr) (fun _ i _ => l.length - (intOf i).toNat)
      case atStart => exact ⟨0, w5.heap.size, 0, Nat.zero_le _, rfl, rfl, ho0, hog0, by have := og5.parts.2.1; omega, hud0, by have := ud5.lt; omega, fun j hj => by have := (og5.at_ hj).2.2.2.2.1; omega, hb0⟩
      case round =>
        clear ho0 hb0 hog0 hud0 og5 ud5
        obtain ⟨k, g, c, hk, rfl, rfl, hown, hog, hng, hud, hngd, hnH, hb⟩ := hrel
        have HNH := Lib.hid hnH
        clear hnH
        by_cases hlt : k < l.length
        · have c1 := hud.cell hlt
          obtain ⟨x0, x1⟩ := allIn_get HL.out hlt
          have HSU := Lib.hid (dbl_succ hlt)
          have hl8 : (dbl (l.take k)).length ≤ 12 := by rw [dbl_len]; simp; omega
          obtain ⟨y, hy⟩ : ∃ y, y = 2 * nth l k % 251 := ⟨_, rfl⟩
          rw [← hy] at HSU
          have HY := Lib.hid hy.symm
          clear hy
          go_wp2_with (at_builtin; rw [HY.out]; refine wpList_one rfl _ _ rfl w.heap.size g c (dbl (l.take k)) (dbl (l.take (k + 1))) y HSU.out rfl _ rfl (by simp) hown (by omega) hb.size ?_)
          intro g' c' w9 ho hg hf
          have hge := hown.parts.1
          have hB9 : Below w.heap.size w w9 := hb.grown hg hb.size (fun kk e => by injection e with e; omega)
          have hog9 := hog.kept hg hng HNH.out
          have hud9 : Wr w9 gd l := hud.block (hg.block gd hud.lt (fun e => hngd (by injection e with e; exact e.symm)))
          have q1 := hog.parts.2.1
          have q2 := hud.lt
          have hng9 : g' ≠ gg := by rcases hf with e | e <;> omega
          have hngd9 : g' ≠ gd := by rcases hf with e | e <;> omega
          have HNH9 : Hid (∀ j, j < V.length → g' ≠ (HG j).1) := by
            unfold Hid; intro j hj
            have h1 := HNH.out j hj
            have h2 := (hog.at_ hj).2.2.2.2.1
            rcases hf with e | e <;> omega
          clear hown hog hud hg hf hb c1
          go_wp2_with fail
          exact ⟨⟨k + 1, g', c', by omega, by go_num, rfl, ho, hog9, hng9, hud9, hngd9, HNH9.out, hB9⟩, by simp [intOf] <;> omega⟩
        · have hkc : l.length = k := by omega
          subst hkc
          rw [List.take_length] at hown ⊢
          obtain ⟨z1, z2, z3, z4, z5⟩ := hown.parts
          have hdl := dbl_len l
          have HDL := Lib.hid hdl
          have hd12 : (dbl l).length ≤ 12 := by omega
          have HMB : Hid (makeV (dbl l) (nd : Int) (mn : Int) = shards (dbl l) nd mn) := by
            unfold Hid
            rw [makeV_yes (makeB_true (dataB_true (by omega) (by omega) (dbl_in l) p4 p5) p6 p7)]; simp
          clear hdl hown
          go_wp2_with fail
          refine (makeF_any (some ⟨g, 0, none⟩) c (dbl l) (nd : Int) (mn : Int) _ z5.sl' (by omega) z3 z4).mono ?_
          rintro e w6 ⟨gb, cb, HB, rfl, ob, hdb, hb6⟩
          rw [HMB.out] at ob hdb ⊢
          have hB6 : Below w.heap.size w w6 := hb.trans (hb6.mono hb.size)
          have og6 := hog.below hb6
          have HBL : Hid ((shards (dbl l) nd mn).length = mn) := by unfold Hid; exact shards_len _ _ _
          have HBV : Hid (∀ i, i < mn → val_ (shards (dbl l) nd mn) i = shVals (dbl l) nd ((i : Int) + 1)) := by unfold Hid; intro i hi; exact shards_val _ _ _ hi
          obtain ⟨Bo, hBo⟩ : ∃ x, x = shards (dbl l) nd mn := ⟨_, rfl⟩
          rw [← hBo] at ob HBL HBV ⊢
          clear hBo hb6 hog hud z5 hb hdb
          have hbv : Bo.length = V.length := by rw [HBL.out, HVN.out]
          have HBVL := Lib.hid hbv
          go_wp2_with fail
          go_loopw [11, 12] (fun i _ wr => ∃ k m : Nat, k ≤ V.length ∧ i = .int .i64 (k : Int) ∧ wr = w6.drewN m) (fun i _ _ => V.length - (intOf i).toNat)
          case atStart => exact ⟨0, 0, Nat.zero_le _, rfl, rfl⟩
          case round =>
            obtain ⟨k, m, hk, rfl, rfl⟩ := hrel
            by_cases hlt : k < V.length
            · obtain ⟨b1, b2, b3, b4, b5, b6, b7⟩ := ob.at_ (show k < Bo.length by omega)
              obtain ⟨v1, v2, v3, v4, v5, v6, v7⟩ := og6.at_ hlt
              have hvb := HBV.out k (by rw [← HVN.out]; exact hlt)
              have hvv := HAT.out k hlt
              have hlb : (val_ Bo k).length = cols l.length nd := by rw [hvb, shVals_len, dbl_len]
              have hlv : (val_ V k).length = cols l.length nd := by rw [hvv, shVals_len]
              have HDV : Hid (∀ q, q < (val_ V k).length → nth (val_ Bo k) q = 2 * nth (val_ V k) q % 251 ∧ 0 ≤ nth (val_ V k) q ∧ nth (val_ V k) q ≤ 250) := by
                unfold Hid; intro q hq
                rw [hlv] at hq
                rw [hvb, hvv, dbl_vals l nd _ hq]
                have := allIn_get (shVals_in l nd ((k : Int) + 1)) (by rw [shVals_len]; exact hq)
                exact ⟨rfl, this⟩
              have hll : (val_ Bo k).length = (val_ V k).length := by omega
              have HLL := Lib.hid hll
              clear hvb hvv hlb hlv hll
              have i1 : (k : Int) < (V.length : Int) := by omega
              have i2 : (k : Int) < (Bo.length : Int) := by have := HBVL.out; omega
              have hv12k := HV12.out k hlt
              go_wp2_with fail
              go_loopw [12] (fun i wx => ∃ q n : Nat, q ≤ (val_ V k).length ∧ i = .int .i64 (q : Int) ∧ wx = w6.drewN n) (fun i _ => (val_ V k).length - (intOf i).toNat)
              case atStart => exact ⟨0, m, Nat.zero_le _, rfl, rfl⟩
              case round =>
                obtain ⟨q, n, hq, rfl, rfl⟩ := hrel
                by_cases hlq : q < (val_ V k).length
                · obtain ⟨d1, d2, d3⟩ := HDV.out q hlq
                  have e1 := b6.cell (j := q) (by have := HLL.out; omega)
                  have e2 := v6.cell hlq
                  rw [d1] at e1
                  have i3 : (q : Int) < ((val_ V k).length : Int) := by omega
                  have i4 : (q : Int) < ((val_ Bo k).length : Int) := by have := HLL.out; omega
                  have t5 : (2 * nth (val_ V k) q % 251 != 2 * nth (val_ V k) q % 251) = false := by simp
                  have a1 : IntKind.i64.wrap (2 * nth (val_ V k) q) = 2 * nth (val_ V k) q := IntWalk.i64_in _ (by omega)
                  have i5 : (0 : Int) ≤ (q : Int) := by omega
                  have i6 : (0 : Int) ≤ (k : Int) := by omega
                  clear d1
                  go_wp2_with fail
                  go_quiet (fail)
                  clear a1
                  go_wp2_with fail
                  exact ⟨⟨q + 1, _, by omega, by go_num, rfl⟩, by simp [intOf] <;> omega⟩
                · have hkc : (val_ V k).length = q := by omega
                  have HKC := Lib.hid hkc
                  have i3 : decide ((q : Int) < ((val_ V k).length : Int)) = false := by simp only [decide_eq_false_iff_not]; omega
                  have i3' : decide (q < (val_ V k).length) = false := by simp only [decide_eq_false_iff_not]; omega
                  clear hkc
                  go_wp2_with fail
                  exact ⟨⟨k + 1, _, by omega, by go_num, rfl⟩, by simp [intOf] <;> omega⟩
            · have hkc : V.length = k := by omega
              have t6 : ((Bo.length : Int) == (mn : Int)) = true := by rw [HBL.out]; simp
              have t7 : ((V.length : Int) == (mn : Int)) = true := by rw [HVN.out]; simp
              subst hkc
              go_wp2_with fail
              go_ret
              exact ⟨rfl, belowN hB6 _⟩
    · have hV2 := HV.out
      rw [makeV_no hm] at hV2
      subst hV2
      go_wp2_with fail
      refine (sameShards_any (some ⟨gg, 0, none⟩) (some ⟨gs, 0, none⟩) [] [] cg cs _ og4.shl os.shl (by omega) (by omega) HVZ.out HVZ.out).mono ?_
      rintro e w5 ⟨rfl, hb5⟩
      rw [hES []]
      have og5 := og4.below hb5
      have os5 := os.below hb5
      have hB5 : Below w.heap.size w w5 := hB4.trans (hb5.mono hB4.size)
      go_wp2_with fail
      refine (sameShards_any (some ⟨gg, 0, none⟩) (some ⟨gs, 0, none⟩) [] [] cg cs _ og5.shl os5.shl (by omega) (by omega) HVZ.out HVZ.out).mono ?_
      rintro e w6 ⟨rfl, hb6⟩
      rw [hES []]
      go_wp2_with fail
      go_ret
      exact ⟨rfl, hB5.trans (hb6.mono hB5.size)⟩
  · have g1 : decide (1048576 < len0) = true := by simp; omega
    go_enter Try.func8, Try.ntmps8
    go_wp2_with fail
    go_ret
    exact ⟨rfl, Below.refl _ _⟩

end Go.Proofs.Ytfkmiflddpjllaa
