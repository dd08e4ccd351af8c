/- The walks of FnShardsFew, FnShardsLength, FnShardsAll, FnShardsJoin, FnShardsSum. No condition. -/
import Derived.Test.YtfkmiflddpjllaaShL
import Derived.Test.YtfkmiflddpjllaaShN
import Derived.Test.YtfkmiflddpjllaaShY
import Derived.Test.YtfkmiflddpjllaaRd
namespace Go.Proofs.Ytfkmiflddpjllaa
open Go.RowKit
set_option linter.unusedVariables false
set_option linter.unusedSimpArgs false

theorem eqTo_refl (l : List Int) : eqTo l l = true := by simp [eqTo]
theorem OwnS.base {w : World} {B B' g c : Nat} {l : List Sh} {H : Nat → Nat × Nat} (h : OwnS w B g c l H) (hB : B' ≤ B) : OwnS w B' g c l H := by
  obtain ⟨cur, h1, h2, h3, h4, h5, h6, h7⟩ := row_block h.1
  refine ⟨⟨h.1.1, .inr ⟨g, c, cur, rfl, by omega, h1, h4, h5, h6, h7⟩⟩, fun j hj => ?_⟩
  obtain ⟨r1, r2⟩ := h.2 j hj
  exact ⟨by omega, r2⟩
theorem makeV_small (l : List Int) (need many : Int) : (makeV l need many).length ≤ 8 ∧ ∀ j, j < (makeV l need many).length → (val_ (makeV l need many) j).length ≤ 12 := by
  by_cases h : makeB l need many = true
  · obtain ⟨p1, p2, p3, p4, p5, p6, p7⟩ := makeB_parts h
    rw [makeV_yes h, shards_len]
    refine ⟨by omega, fun j hj => ?_⟩
    rw [shards_val _ _ _ hj, shVals_len]
    exact cols_12 (by omega) p2
  · rw [makeV_no h]; exact ⟨by simp, fun j hj => by simp at hj⟩


theorem rot_ne {M n i j : Nat} (hn : 0 < n) (hij : i < j) (hj : j < n) : (i + M) % n ≠ (j + M) % n := by
  intro e
  have h1 := Nat.div_add_mod (i + M) n
  have h2 := Nat.div_add_mod (j + M) n
  rw [e] at h1
  have h3 : n * ((j + M) / n) = n * ((i + M) / n) + (j - i) := by omega
  rcases Nat.lt_or_ge ((i + M) / n) ((j + M) / n) with h | h
  · have := Nat.mul_le_mul_left n (show (i + M) / n + 1 ≤ (j + M) / n from h)
    rw [Nat.mul_add, Nat.mul_one] at this; omega
  · have := Nat.mul_le_mul_left n h; omega

set_option maxHeartbeats 4000000 in
theorem walk_FnShardsFew (a0 : Option Addr) (len0 cap0 : Nat) (z0 : List Int) (a1 : Option Addr) (len1 cap1 : Nat) (z1 : List Int) (w : World) (w0 : Ints .u8 w w.heap.size a0 len0 cap0 z0) (w1 : Ints .u8 w w.heap.size a1 len1 cap1 z1) :
    Calls Try.prog 14 #[.slice a0 len0 cap0, .slice a1 len1 cap1] w fun e w' => e = .returned (.bool true) ∧ Below w.heap.size w w' := by
  by_cases h1 : len0 ≤ 1048576
  · by_cases h2 : len1 ≤ 1048576
    · have g1 : decide (1048576 < len0) = false := by simp; omega
      have g2 : decide (1048576 < len1) = false := by simp; omega
      go_enter Try.func14, Try.ntmps14
      have hES := eqSh_same
      go_wp2_with fail
      refine (drawMake_any a0 len0 cap0 z0 _ w0).mono ?_
      clear w0
      rintro e w2 ⟨gd, cd, l, need, many, hgd, rfl, ud, hl24, hlc, hcm, hB2⟩
      go_wp2_with fail
      refine (makeF_any (some ⟨gd, 0, none⟩) cd l need many _ ud.sl' (by omega) hlc hcm).mono ?_
      rintro e w3 ⟨gg, cg, HG, rfl, og, hdg, hb3⟩
      have ud3 := ud.below hb3 ud.lt
      have hB3 : Below w.heap.size w w3 := hB2.trans (hb3.mono hB2.size)
      have og3 := OwnS.base og hB2.size
      clear ud og hb3 hB2
      go_wp2_with fail
      refine (makeS_any (some ⟨gd, 0, none⟩) cd l need many _ ud3.sl' (by omega)).mono ?_
      rintro e w4 ⟨gs, cs, HS, rfl, os, hds, hb4⟩
      have ud4 := ud3.below hb4 ud3.lt
      have og4 := og3.below hb4
      have hB4 : Below w.heap.size w w4 := hB3.trans (hb4.mono hB3.size)
      clear ud3 og3 hb4 hB3 hds
      obtain ⟨hv8, hv12⟩ := makeV_small l need many
      obtain ⟨V, hV⟩ : ∃ V, V = makeV l need many := ⟨_, rfl⟩
      rw [← hV] at og4 os hdg hv8 hv12 ⊢
      have HV := Lib.hid hV
      have HV12 := Lib.hid hv12
      have HDG := Lib.hid hdg
      clear hV hv12 hdg
      have hvz : ∀ j, j < V.length → (val_ V j).length ≤ 2000000 := fun j hj => by have := HV12.out j hj; omega
      have HVZ := Lib.hid hvz
      clear hvz
      by_cases hm : makeB l need many = true
      · obtain ⟨p1, p2, p3, p4, p5, p6, p7⟩ := makeB_parts hm
        obtain ⟨nd, rfl⟩ := Int.eq_ofNat_of_zero_le (show 0 ≤ need by omega)
        obtain ⟨mn, rfl⟩ := Int.eq_ofNat_of_zero_le (show 0 ≤ many by omega)
        have hV2 : V = shards l nd mn := by rw [HV.out, makeV_yes hm]; simp
        have hvn : V.length = mn := by rw [hV2, shards_len]
        have HDB : Hid (dataB l nd = true) := by unfold Hid; exact dataB_true p1 p2 p3 p4 p5
        have HL := Lib.hid p3
        have HV2 := Lib.hid hV2
        have HVN := Lib.hid hvn
        have hv1 : 1 ≤ V.length := by omega
        have hnv : nd ≤ V.length := by omega
        clear hm hV2 HV p3
        have t0 : ((V.length : Int) == 0) = false := by simp only [beq_eq_false_iff_ne]; omega
        have t9 : ((nd : Int) == 0) = false := by simp only [beq_eq_false_iff_ne]; omega
        have HS1 := Lib.hid os
        clear hvn
        go_wp2_with fail
        refine (sameShards_any (some ⟨gg, 0, none⟩) (some ⟨gs, 0, none⟩) V V cg cs _ og4.shl os.shl (by omega) (by omega) HVZ.out HVZ.out).mono ?_
        rintro e w5 ⟨rfl, hb5⟩
        rw [hES V]
        have ud5 := ud4.below hb5 ud4.lt
        have og5 := og4.below hb5
        have hB5 : Below w.heap.size w w5 := hB4.trans (hb5.mono hB4.size)
        clear ud4 og4 os hb5 hB4 HS1
        have hkm : ((len1 : Int) % (nd : Int)) = ((len1 % nd : Nat) : Int) := by simp
        have hkl : len1 % nd < nd := Nat.mod_lt _ (by omega)
        obtain ⟨m, hk⟩ : ∃ m, m = len1 % nd := ⟨_, rfl⟩
        rw [← hk] at hkm hkl
        clear hk
        obtain ⟨q1, q2, q3, q4⟩ := og5.parts
        have k1 : m ≤ cg := by omega
        have k2 : (m : Int) ≤ (cg : Int) := by omega
        have hVM : (V.take m).length = m := by simp; omega
        have hlk := ShL.take og5.shl m
        obtain ⟨VM, hVMe⟩ : ∃ x, x = V.take m := ⟨_, rfl⟩
        have hvm12 : ∀ j, j < VM.length → (val_ VM j).length ≤ 2000000 := by
          rw [hVMe]; intro j hj
          rw [hVM] at hj
          have e : val_ (V.take m) j = val_ V j := by simp [val_, hj]
          rw [e]; exact HVZ.out j (by omega)
        rw [← hVMe] at hVM hlk
        clear hVMe
        have hJ := joinF_any (l.length : Int) (nd : Int) (some ⟨gg, 0, none⟩) cg VM w5 hlk (by omega) hvm12
        rw [hVM] at hJ
        have HJ := Lib.hid hJ
        have hvmn : (VM.length : Int) < (nd : Int) := by omega
        clear hJ hVM hlk hvm12
        go_wp2_with fail
        rw [hkm]
        go_wp2_with fail
        refine HJ.out.mono ?_
        rintro e w6 ⟨out, ok, g6, c6, rfl, hj, hg6, u6, hoc, hcm6, hb6⟩
        obtain rfl := few_fails hvmn hj
        go_wp2_with fail
        go_ret
        exact ⟨rfl, hB5.trans (hb6.mono hB5.size)⟩
      · have hV2 := HV.out
        rw [makeV_no hm] at hV2
        subst hV2
        go_wp2_with fail
        refine (sameShards_any (some ⟨gg, 0, none⟩) (some ⟨gs, 0, none⟩) [] [] cg cs _ og4.shl os.shl (by omega) (by omega) HVZ.out HVZ.out).mono ?_
        rintro e w5 ⟨rfl, hb5⟩
        rw [hES []]
        have og5 := og4.below hb5
        have os5 := os.below hb5
        have hB5 : Below w.heap.size w w5 := hB4.trans (hb5.mono hB4.size)
        go_wp2_with fail
        refine (sameShards_any (some ⟨gg, 0, none⟩) (some ⟨gs, 0, none⟩) [] [] cg cs _ og5.shl os5.shl (by omega) (by omega) HVZ.out HVZ.out).mono ?_
        rintro e w6 ⟨rfl, hb6⟩
        rw [hES []]
        go_wp2_with fail
        go_ret
        exact ⟨rfl, hB5.trans (hb6.mono hB5.size)⟩
    · have g1 : decide (1048576 < len0) = false := by simp; omega
      have g2 : decide (1048576 < len1) = true := by simp; omega
      go_enter Try.func14, Try.ntmps14
      go_wp2_with fail
      go_ret
      exact ⟨rfl, Below.refl _ _⟩
  · have g1 : decide (1048576 < len0) = true := by simp; omega
    go_enter Try.func14, Try.ntmps14
    go_wp2_with fail
    go_ret
    exact ⟨rfl, Below.refl _ _⟩

set_option maxHeartbeats 4000000 in
theorem walk_FnShardsLength (a0 : Option Addr) (len0 cap0 : Nat) (z0 : List Int) (w : World) (w0 : Ints .u8 w w.heap.size a0 len0 cap0 z0) :
    Calls Try.prog 7 #[.slice a0 len0 cap0] w fun e w' => e = .returned (.bool true) ∧ Below w.heap.size w w' := by
  by_cases h1 : len0 ≤ 1048576
  · have g1 : decide (1048576 < len0) = false := by simp; omega
    go_enter Try.func7, Try.ntmps7
    have hES := eqSh_same
    go_wp2_with fail
    refine (drawMake_any a0 len0 cap0 z0 _ w0).mono ?_
    clear w0
    rintro e w2 ⟨gd, cd, l, need, many, hgd, rfl, ud, hl24, hlc, hcm, hB2⟩
    go_wp2_with fail
    refine (makeF_any (some ⟨gd, 0, none⟩) cd l need many _ ud.sl' (by omega) hlc hcm).mono ?_
    rintro e w3 ⟨gg, cg, HG, rfl, og, hdg, hb3⟩
    have ud3 := ud.below hb3 ud.lt
    have hB3 : Below w.heap.size w w3 := hB2.trans (hb3.mono hB2.size)
    have og3 := OwnS.base og hB2.size
    clear ud og hb3 hB2
    go_wp2_with fail
    refine (makeS_any (some ⟨gd, 0, none⟩) cd l need many _ ud3.sl' (by omega)).mono ?_
    rintro e w4 ⟨gs, cs, HS, rfl, os, hds, hb4⟩
    have ud4 := ud3.below hb4 ud3.lt
    have og4 := og3.below hb4
    have hB4 : Below w.heap.size w w4 := hB3.trans (hb4.mono hB3.size)
    clear ud3 og3 hb4 hB3 hds
    obtain ⟨hv8, hv12⟩ := makeV_small l need many
    obtain ⟨V, hV⟩ : ∃ V, V = makeV l need many := ⟨_, rfl⟩
    rw [← hV] at og4 os hdg hv8 hv12 ⊢
    have HV := Lib.hid hV
    have HV12 := Lib.hid hv12
    have HDG := Lib.hid hdg
    clear hV hv12 hdg
    have hvz : ∀ j, j < V.length → (val_ V j).length ≤ 2000000 := fun j hj => by have := HV12.out j hj; omega
    have HVZ := Lib.hid hvz
    clear hvz
    by_cases hm : makeB l need many = true
    · obtain ⟨p1, p2, p3, p4, p5, p6, p7⟩ := makeB_parts hm
      obtain ⟨nd, rfl⟩ := Int.eq_ofNat_of_zero_le (show 0 ≤ need by omega)
      obtain ⟨mn, rfl⟩ := Int.eq_ofNat_of_zero_le (show 0 ≤ many by omega)
      have hV2 : V = shards l nd mn := by rw [HV.out, makeV_yes hm]; simp
      have hvn : V.length = mn := by rw [hV2, shards_len]
      have HDB : Hid (dataB l nd = true) := by unfold Hid; exact dataB_true p1 p2 p3 p4 p5
      have HL := Lib.hid p3
      have HV2 := Lib.hid hV2
      have HVN := Lib.hid hvn
      have hv1 : 1 ≤ V.length := by omega
      have hnv : nd ≤ V.length := by omega
      clear hm hV2 HV p3
      have t0 : ((V.length : Int) == 0) = false := by simp only [beq_eq_false_iff_ne]; omega
      have t9 : ((nd : Int) == 0) = false := by simp only [beq_eq_false_iff_ne]; omega
      have HS1 := Lib.hid os
      clear hvn
      go_wp2_with fail
      refine (sameShards_any (some ⟨gg, 0, none⟩) (some ⟨gs, 0, none⟩) V V cg cs _ og4.shl os.shl (by omega) (by omega) HVZ.out HVZ.out).mono ?_
      rintro e w5 ⟨rfl, hb5⟩
      rw [hES V]
      have ud5 := ud4.below hb5 ud4.lt
      have og5 := og4.below hb5
      have hB5 : Below w.heap.size w w5 := hB4.trans (hb5.mono hB4.size)
      clear ud4 og4 os hb5 hB4 HS1
      have hcc : ((l.length : Int) + (nd : Int) - 1) / (nd : Int) = ((cols l.length nd : Nat) : Int) := by
        unfold cols
        rw [show (l.length : Int) + (nd : Int) - 1 = ((l.length + nd - 1 : Nat) : Int) by omega]
        exact (Int.natCast_ediv _ _).symm
      have HCC := Lib.hid hcc
      have HNUM : Hid (∀ i, i < V.length → num_ V i = (i : Int) + 1 ∧ (val_ V i).length = cols l.length nd) := by
        unfold Hid; intro i hi
        rw [HVN.out] at hi
        rw [HV2.out, shards_num _ _ _ hi, shards_val _ _ _ hi, shVals_len]
        exact ⟨rfl, rfl⟩
      clear hcc
      go_wp2_with fail
      go_loopw [8] (fun i wr => ∃ k m : Nat, k ≤ V.length ∧ i = .int .i64 k ∧ wr = w5.drewN m) (fun i _ => V.length - (intOf i).toNat)
      case atStart => exact ⟨0, 0, Nat.zero_le _, rfl, rfl⟩
      case round =>
        obtain ⟨k, m, hk, rfl, rfl⟩ := hrel
        by_cases hlt : k < V.length
        · obtain ⟨c1, c2, _, _, _, _, _⟩ := og5.at_ hlt
          obtain ⟨n1, n2⟩ := HNUM.out k hlt
          rw [n1] at c1
          have i1 : (k : Int) < (V.length : Int) := by omega
          have i2 : (0 : Int) ≤ (k : Int) := by omega
          have a1 : IntKind.i64.wrap ((k : Int) + 1) = (k : Int) + 1 := IntWalk.i64_in _ (by omega)
          have a2 : IntKind.i64.wrap ((l.length : Int) + (nd : Int)) = (l.length : Int) + (nd : Int) := IntWalk.i64_in _ (by omega)
          have a3 : IntKind.i64.wrap ((l.length : Int) + (nd : Int) - 1) = (l.length : Int) + (nd : Int) - 1 := IntWalk.i64_in _ (by omega)
          have hbd : 0 ≤ ((cols l.length nd : Nat) : Int) ∧ ((cols l.length nd : Nat) : Int) ≤ 12 := ⟨by omega, by have := cols_12 (size := l.length) (need := nd) (by omega) p2; omega⟩
          have a4 : IntKind.i64.wrap (((l.length : Int) + (nd : Int) - 1) / (nd : Int)) = ((l.length : Int) + (nd : Int) - 1) / (nd : Int) := IntWalk.i64_in _ (by rw [HCC.out]; omega)
          have b1 : (((val_ V k).length : Int) != ((l.length : Int) + (nd : Int) - 1) / (nd : Int)) = false := by rw [HCC.out, n2]; simp
          have b2 : (((k : Int) + 1) != (k : Int) + 1) = false := by simp
          clear n1 n2 hbd
          go_wp2_with fail
          go_quiet (fail)
          clear a1 a2 a3 a4
          go_wp2_with fail
          exact ⟨⟨k + 1, _, by omega, by go_num, rfl⟩, by simp [intOf]; omega⟩
        · obtain rfl : k = V.length := by omega
          have b3 : ((V.length : Int) == (mn : Int)) = true := by rw [HVN.out]; simp
          go_wp2_with fail
          go_ret
          exact ⟨rfl, belowN hB5 _⟩
    · have hV2 := HV.out
      rw [makeV_no hm] at hV2
      subst hV2
      go_wp2_with fail
      refine (sameShards_any (some ⟨gg, 0, none⟩) (some ⟨gs, 0, none⟩) [] [] cg cs _ og4.shl os.shl (by omega) (by omega) HVZ.out HVZ.out).mono ?_
      rintro e w5 ⟨rfl, hb5⟩
      rw [hES []]
      have og5 := og4.below hb5
      have os5 := os.below hb5
      have hB5 : Below w.heap.size w w5 := hB4.trans (hb5.mono hB4.size)
      go_wp2_with fail
      refine (sameShards_any (some ⟨gg, 0, none⟩) (some ⟨gs, 0, none⟩) [] [] cg cs _ og5.shl os5.shl (by omega) (by omega) HVZ.out HVZ.out).mono ?_
      rintro e w6 ⟨rfl, hb6⟩
      rw [hES []]
      go_wp2_with fail
      go_ret
      exact ⟨rfl, hB5.trans (hb6.mono hB5.size)⟩
  · have g1 : decide (1048576 < len0) = true := by simp; omega
    go_enter Try.func7, Try.ntmps7
    go_wp2_with fail
    go_ret
    exact ⟨rfl, Below.refl _ _⟩

set_option maxHeartbeats 4000000 in
theorem walk_FnShardsAll (a0 : Option Addr) (len0 cap0 : Nat) (z0 : List Int) (w : World) (w0 : Ints .u8 w w.heap.size a0 len0 cap0 z0) :
    Calls Try.prog 12 #[.slice a0 len0 cap0] w fun e w' => e = .returned (.bool true) ∧ Below w.heap.size w w' := by
  by_cases h1 : len0 ≤ 1048576
  · have g1 : decide (1048576 < len0) = false := by simp; omega
    go_enter Try.func12, Try.ntmps12
    have hES := eqSh_same
    go_wp2_with fail
    refine (drawMake_any a0 len0 cap0 z0 _ w0).mono ?_
    clear w0
    rintro e w2 ⟨gd, cd, l, need, many, hgd, rfl, ud, hl24, hlc, hcm, hB2⟩
    go_wp2_with fail
    refine (makeF_any (some ⟨gd, 0, none⟩) cd l need many _ ud.sl' (by omega) hlc hcm).mono ?_
    rintro e w3 ⟨gg, cg, HG, rfl, og, hdg, hb3⟩
    have ud3 := ud.below hb3 ud.lt
    have hB3 : Below w.heap.size w w3 := hB2.trans (hb3.mono hB2.size)
    have og3 := OwnS.base og hB2.size
    clear ud og hb3 hB2
    go_wp2_with fail
    refine (makeS_any (some ⟨gd, 0, none⟩) cd l need many _ ud3.sl' (by omega)).mono ?_
    rintro e w4 ⟨gs, cs, HS, rfl, os, hds, hb4⟩
    have ud4 := ud3.below hb4 ud3.lt
    have og4 := og3.below hb4
    have hB4 : Below w.heap.size w w4 := hB3.trans (hb4.mono hB3.size)
    clear ud3 og3 hb4 hB3 hds
    obtain ⟨hv8, hv12⟩ := makeV_small l need many
    obtain ⟨V, hV⟩ : ∃ V, V = makeV l need many := ⟨_, rfl⟩
    rw [← hV] at og4 os hdg hv8 hv12 ⊢
    have HV := Lib.hid hV
    have HV12 := Lib.hid hv12
    have HDG := Lib.hid hdg
    clear hV hv12 hdg
    have hvz : ∀ j, j < V.length → (val_ V j).length ≤ 2000000 := fun j hj => by have := HV12.out j hj; omega
    have HVZ := Lib.hid hvz
    clear hvz
    by_cases hm : makeB l need many = true
    · obtain ⟨p1, p2, p3, p4, p5, p6, p7⟩ := makeB_parts hm
      obtain ⟨nd, rfl⟩ := Int.eq_ofNat_of_zero_le (show 0 ≤ need by omega)
      obtain ⟨mn, rfl⟩ := Int.eq_ofNat_of_zero_le (show 0 ≤ many by omega)
      have hV2 : V = shards l nd mn := by rw [HV.out, makeV_yes hm]; simp
      have hvn : V.length = mn := by rw [hV2, shards_len]
      have HDB : Hid (dataB l nd = true) := by unfold Hid; exact dataB_true p1 p2 p3 p4 p5
      have HL := Lib.hid p3
      have HV2 := Lib.hid hV2
      have HVN := Lib.hid hvn
      have hv1 : 1 ≤ V.length := by omega
      have hnv : nd ≤ V.length := by omega
      clear hm hV2 HV p3
      have t0 : ((V.length : Int) == 0) = false := by simp only [beq_eq_false_iff_ne]; omega
      have t9 : ((nd : Int) == 0) = false := by simp only [beq_eq_false_iff_ne]; omega
      have HS1 := Lib.hid os
      clear hvn
      go_wp2_with fail
      refine (sameShards_any (some ⟨gg, 0, none⟩) (some ⟨gs, 0, none⟩) V V cg cs _ og4.shl os.shl (by omega) (by omega) HVZ.out HVZ.out).mono ?_
      rintro e w5 ⟨rfl, hb5⟩
      rw [hES V]
      have ud5 := ud4.below hb5 ud4.lt
      have og5 := og4.below hb5
      have hB5 : Below w.heap.size w w5 := hB4.trans (hb5.mono hB4.size)
      clear ud4 og4 os hb5 hB4 HS1
      have hS0 := OwnS.made w5 w.heap.size (fun _ => (0, 0)) hB5.size
      have hb0 : Below w.heap.size w (w5.alloc (.cells #[] 30)) := hB5.alloc hB5.size _
      have hog0 := og5.alloc (.cells #[] 30)
      have hud0 : Wr (w5.alloc (.cells #[] 30)) gd l := ud5.block (Below.heap_alloc _ _ _ ud5.lt)
      have HAT : Hid (∀ i, i < V.length → num_ V i = (i : Int) + 1 ∧ val_ V i = shVals l nd ((i : Int) + 1)) := by
        unfold Hid; intro i hi
        rw [HVN.out] at hi
        rw [HV2.out, shards_num _ _ _ hi, shards_val _ _ _ hi]
        exact ⟨rfl, rfl⟩
      obtain ⟨σ, hσ⟩ : ∃ σ : Nat → Nat, σ = fun k => V.length - 1 - k := ⟨_, rfl⟩
      have HSI : Hid (∀ k, k < V.length → σ k < V.length) := by
        unfold Hid; intro k hk; rw [hσ]; simp only; omega
      have HSJ : Hid (∀ i j, i < j → j < V.length → σ i ≠ σ j) := by
        unfold Hid; intro i j hij hj; rw [hσ]; simp only; omega
      have HSE := Lib.hid (congrFun hσ)
      clear hσ
      go_wp2_with fail
      go_loopw [8, 9] (fun v i wr => ∃ (k g c : Nat) (H : Nat → Nat × Nat), k ≤ V.length ∧ i = .int .i64 ((V.length : Int) - 1 - (k : Int)) ∧ v = .slice (some ⟨g, 0, none⟩) (sel l nd σ k).length c ∧ OwnS wr w.heap.size g c (sel l nd σ k) H ∧ OwnS wr w.heap.size gg cg V HG ∧ g ≠ gg ∧ Wr wr gd l ∧ g ≠ gd ∧ (∀ j, j < V.length → g ≠ (HG j).1) ∧ Below w.heap.size w wr) (fun _ i _ => ((intOf i) + 1).toNat)
      case atStart => exact ⟨0, w5.heap.size, 0, _, Nat.zero_le _, by congr 1; have := HVN.out; omega, rfl, hS0, hog0, by have := og5.parts.2.1; omega, hud0, by have := ud5.lt; omega, fun j hj => by have := (og5.at_ hj).2.2.2.2.1; omega, hb0⟩
      case round =>
        clear hS0 hb0 hog0 hud0 og5 ud5
        obtain ⟨k, g, c, H, hk, rfl, rfl, hown, hog, hng, hud, hngd, hnH, hb⟩ := hrel
        have hsl := sel_len l nd σ k
        have hs8 : (sel l nd σ k).length ≤ 8 := by omega
        have HSL := Lib.hid hsl
        have HNH := Lib.hid hnH
        clear hsl hnH
        by_cases hlt : k < V.length
        · have hsk := HSI.out k hlt
          obtain ⟨c1, c2, c3, c4, c5, c6, c7⟩ := hog.at_ hsk
          obtain ⟨n1, n2⟩ := HAT.out _ hsk
          have hse := HSE.out k
          obtain ⟨s, hs⟩ : ∃ s, s = σ k := ⟨_, rfl⟩
          rw [← hs] at hsk c1 c2 c3 c4 c5 c6 c7 n1 n2 hse
          rw [n1] at c1
          obtain ⟨SV, hSV⟩ : ∃ SV, SV = val_ V s := ⟨_, rfl⟩
          rw [← hSV] at c2 c6 c7 n2
          have HSU : Hid (sel l nd σ k ++ [((s : Int) + 1, SV)] = sel l nd σ (k + 1)) := by unfold Hid; rw [← sel_succ, ← hs, n2]
          have hnHs := HNH.out s hsk
          obtain ⟨hb_, hc_⟩ : ∃ p : Nat × Nat, p = HG s := ⟨_, rfl⟩
          have HSE2 := Lib.hid hse
          clear hs hSV n1 n2 hse
          have i1 : (V.length : Int) - 1 - (k : Int) = (s : Int) := by have := HSE2.out; omega
          have i2 : (s : Int) < (V.length : Int) := by omega
          have i3 : (0 : Int) ≤ (s : Int) := by omega
          rw [i1]
          clear i1
          go_wp2_with (at_builtin; refine wpList_shard rfl _ _ rfl w.heap.size g c (sel l nd σ k) (sel l nd σ (k + 1)) H _ SV (HG s).1 (HG s).2 _ rfl HSU.out rfl _ rfl (by simp) hown (by omega) hb.size c3 (fun e => hnHs e.symm) c6 c7 ?_)
          intro g' c' w9 ho hg hf
          have hge := hown.parts.1
          have hgl := hown.parts.2.1
          have hB9 : Below w.heap.size w w9 := hb.grown hg hb.size (fun kk e => by injection e with e; omega)
          have hog9 := hog.kept hg hng HNH.out
          have hud9 : Wr w9 gd l := hud.block (hg.block gd hud.lt (fun e => hngd (by injection e with e; exact e.symm)))
          have q1 := hog.parts.2.1
          have q2 := hud.lt
          have hng9 : g' ≠ gg := by rcases hf with e | e <;> omega
          have hngd9 : g' ≠ gd := by rcases hf with e | e <;> omega
          have HNH9 : Hid (∀ j, j < V.length → g' ≠ (HG j).1) := by
            unfold Hid; intro j hj
            have h1 := HNH.out j hj
            have h2 := (hog.at_ hj).2.2.2.2.1
            rcases hf with e | e <;> omega
          clear hown hog hud hg hf hb c1 c2 c6
          go_wp2_with fail
          exact ⟨⟨k + 1, g', c', _, by omega, by have := HSE2.out; congr 1; omega, rfl, ho, hog9, hng9, hud9, hngd9, HNH9.out, hB9⟩, by simp [intOf] <;> omega⟩
        · have hkc : V.length = k := by omega
          subst hkc
          have hsh := hown.shl
          obtain ⟨z1, z2, z3, z4⟩ := hown.parts
          have hvs : ∀ j, j < (sel l nd σ V.length).length → (val_ (sel l nd σ V.length) j).length ≤ 2000000 := by
            intro j hj
            rw [HSL.out] at hj
            rw [sel_val _ _ _ hj, shVals_len]
            have := cols_12 (size := l.length) (need := nd) (by omega) p2; omega
          have HVS := Lib.hid hvs
          clear hvs hown hog
          have t3 : decide ((0 : Int) ≤ (V.length : Int) - 1 - (V.length : Int)) = false := by simp only [decide_eq_false_iff_not]; omega
          go_wp2_with fail
          refine (joinF_any (l.length : Int) (nd : Int) (some ⟨g, 0, none⟩) c (sel l nd σ V.length) _ hsh (by omega) HVS.out).mono ?_
          rintro e w6 ⟨out, ok, g6, c6, rfl, hj, hg6, u6, hoc, hcm6, hb6⟩
          obtain ⟨rfl, rfl⟩ := sel_joins HDB.out (by omega) (by omega) (fun i hi => by have := HSI.out i hi; omega) HSJ.out hj
          have hB6 : Below w.heap.size w w6 := hb.trans (hb6.mono hb.size)
          have ud6 := hud.below hb6 hud.lt
          clear hj hb6 hud hsh
          go_wp2_with fail
          refine (sameInts_any (some ⟨g6, 0, none⟩) (some ⟨gd, 0, none⟩) out out c6 cd _ _ _ u6.sl ud6.sl (by omega) (by omega)).mono ?_
          rintro e w7 ⟨rfl, n7, rfl⟩
          rw [eqTo_refl]
          go_wp2_with fail
          go_ret
          exact ⟨rfl, belowN hB6 _⟩
    · have hV2 := HV.out
      rw [makeV_no hm] at hV2
      subst hV2
      go_wp2_with fail
      refine (sameShards_any (some ⟨gg, 0, none⟩) (some ⟨gs, 0, none⟩) [] [] cg cs _ og4.shl os.shl (by omega) (by omega) HVZ.out HVZ.out).mono ?_
      rintro e w5 ⟨rfl, hb5⟩
      rw [hES []]
      have og5 := og4.below hb5
      have os5 := os.below hb5
      have hB5 : Below w.heap.size w w5 := hB4.trans (hb5.mono hB4.size)
      go_wp2_with fail
      refine (sameShards_any (some ⟨gg, 0, none⟩) (some ⟨gs, 0, none⟩) [] [] cg cs _ og5.shl os5.shl (by omega) (by omega) HVZ.out HVZ.out).mono ?_
      rintro e w6 ⟨rfl, hb6⟩
      rw [hES []]
      go_wp2_with fail
      go_ret
      exact ⟨rfl, hB5.trans (hb6.mono hB5.size)⟩
  · have g1 : decide (1048576 < len0) = true := by simp; omega
    go_enter Try.func12, Try.ntmps12
    go_wp2_with fail
    go_ret
    exact ⟨rfl, Below.refl _ _⟩

set_option maxHeartbeats 4000000 in
theorem walk_FnShardsJoin (a0 : Option Addr) (len0 cap0 : Nat) (z0 : List Int) (a1 : Option Addr) (len1 cap1 : Nat) (z1 : List Int) (w : World) (w0 : Ints .u8 w w.heap.size a0 len0 cap0 z0) (w1 : Ints .u8 w w.heap.size a1 len1 cap1 z1) :
    Calls Try.prog 13 #[.slice a0 len0 cap0, .slice a1 len1 cap1] w fun e w' => e = .returned (.bool true) ∧ Below w.heap.size w w' := by
  by_cases h1 : len0 ≤ 1048576
  · by_cases h2 : len1 ≤ 1048576
    · have g1 : decide (1048576 < len0) = false := by simp; omega
      have g2 : decide (1048576 < len1) = false := by simp; omega
      go_enter Try.func13, Try.ntmps13
      have hES := eqSh_same
      go_wp2_with fail
      refine (drawMake_any a0 len0 cap0 z0 _ w0).mono ?_
      clear w0
      rintro e w2 ⟨gd, cd, l, need, many, hgd, rfl, ud, hl24, hlc, hcm, hB2⟩
      go_wp2_with fail
      refine (makeF_any (some ⟨gd, 0, none⟩) cd l need many _ ud.sl' (by omega) hlc hcm).mono ?_
      rintro e w3 ⟨gg, cg, HG, rfl, og, hdg, hb3⟩
      have ud3 := ud.below hb3 ud.lt
      have hB3 : Below w.heap.size w w3 := hB2.trans (hb3.mono hB2.size)
      have og3 := OwnS.base og hB2.size
      clear ud og hb3 hB2
      go_wp2_with fail
      refine (makeS_any (some ⟨gd, 0, none⟩) cd l need many _ ud3.sl' (by omega)).mono ?_
      rintro e w4 ⟨gs, cs, HS, rfl, os, hds, hb4⟩
      have ud4 := ud3.below hb4 ud3.lt
      have og4 := og3.below hb4
      have hB4 : Below w.heap.size w w4 := hB3.trans (hb4.mono hB3.size)
      clear ud3 og3 hb4 hB3 hds
      obtain ⟨hv8, hv12⟩ := makeV_small l need many
      obtain ⟨V, hV⟩ : ∃ V, V = makeV l need many := ⟨_, rfl⟩
      rw [← hV] at og4 os hdg hv8 hv12 ⊢
      have HV := Lib.hid hV
      have HV12 := Lib.hid hv12
      have HDG := Lib.hid hdg
      clear hV hv12 hdg
      have hvz : ∀ j, j < V.length → (val_ V j).length ≤ 2000000 := fun j hj => by have := HV12.out j hj; omega
      have HVZ := Lib.hid hvz
      clear hvz
      by_cases hm : makeB l need many = true
      · obtain ⟨p1, p2, p3, p4, p5, p6, p7⟩ := makeB_parts hm
        obtain ⟨nd, rfl⟩ := Int.eq_ofNat_of_zero_le (show 0 ≤ need by omega)
        obtain ⟨mn, rfl⟩ := Int.eq_ofNat_of_zero_le (show 0 ≤ many by omega)
        have hV2 : V = shards l nd mn := by rw [HV.out, makeV_yes hm]; simp
        have hvn : V.length = mn := by rw [hV2, shards_len]
        have HDB : Hid (dataB l nd = true) := by unfold Hid; exact dataB_true p1 p2 p3 p4 p5
        have HL := Lib.hid p3
        have HV2 := Lib.hid hV2
        have HVN := Lib.hid hvn
        have hv1 : 1 ≤ V.length := by omega
        have hnv : nd ≤ V.length := by omega
        clear hm hV2 HV p3
        have t0 : ((V.length : Int) == 0) = false := by simp only [beq_eq_false_iff_ne]; omega
        have t9 : ((nd : Int) == 0) = false := by simp only [beq_eq_false_iff_ne]; omega
        have HS1 := Lib.hid os
        clear hvn
        go_wp2_with fail
        refine (sameShards_any (some ⟨gg, 0, none⟩) (some ⟨gs, 0, none⟩) V V cg cs _ og4.shl os.shl (by omega) (by omega) HVZ.out HVZ.out).mono ?_
        rintro e w5 ⟨rfl, hb5⟩
        rw [hES V]
        have ud5 := ud4.below hb5 ud4.lt
        have og5 := og4.below hb5
        have hB5 : Below w.heap.size w w5 := hB4.trans (hb5.mono hB4.size)
        clear ud4 og4 os hb5 hB4 HS1
        have hS0 := OwnS.made w5 w.heap.size (fun _ => (0, 0)) hB5.size
        have hb0 : Below w.heap.size w (w5.alloc (.cells #[] 30)) := hB5.alloc hB5.size _
        have hog0 := og5.alloc (.cells #[] 30)
        have hud0 : Wr (w5.alloc (.cells #[] 30)) gd l := ud5.block (Below.heap_alloc _ _ _ ud5.lt)
        have HAT : Hid (∀ i, i < V.length → num_ V i = (i : Int) + 1 ∧ val_ V i = shVals l nd ((i : Int) + 1)) := by
          unfold Hid; intro i hi
          rw [HVN.out] at hi
          rw [HV2.out, shards_num _ _ _ hi, shards_val _ _ _ hi]
          exact ⟨rfl, rfl⟩
        obtain ⟨σ, hσ⟩ : ∃ σ : Nat → Nat, σ = fun k => (k + len1) % V.length := ⟨_, rfl⟩
        have HSI : Hid (∀ k, k < nd → σ k < V.length) := by
          unfold Hid; intro k hk; rw [hσ]; exact Nat.mod_lt _ (by omega)
        have HSJ : Hid (∀ i j, i < j → j < nd → σ i ≠ σ j) := by
          unfold Hid; intro i j hij hj; rw [hσ]; exact rot_ne (by omega) hij (by omega)
        have HSE := Lib.hid (congrFun hσ)
        clear hσ
        go_wp2_with fail
        go_loopw [10, 11] (fun v i wr => ∃ (k g c : Nat) (H : Nat → Nat × Nat), k ≤ nd ∧ i = .int .i64 ((k : Int)) ∧ v = .slice (some ⟨g, 0, none⟩) (sel l nd σ k).length c ∧ OwnS wr w.heap.size g c (sel l nd σ k) H ∧ OwnS wr w.heap.size gg cg V HG ∧ g ≠ gg ∧ Wr wr gd l ∧ g ≠ gd ∧ (∀ j, j < V.length → g ≠ (HG j).1) ∧ Below w.heap.size w wr) (fun _ i _ => nd - (intOf i).toNat)
        case atStart => exact ⟨0, w5.heap.size, 0, _, Nat.zero_le _, rfl, rfl, hS0, hog0, by have := og5.parts.2.1; omega, hud0, by have := ud5.lt; omega, fun j hj => by have := (og5.at_ hj).2.2.2.2.1; omega, hb0⟩
        case round =>
          clear hS0 hb0 hog0 hud0 og5 ud5
          obtain ⟨k, g, c, H, hk, rfl, rfl, hown, hog, hng, hud, hngd, hnH, hb⟩ := hrel
          have hsl := sel_len l nd σ k
          have hs8 : (sel l nd σ k).length ≤ 8 := by omega
          have HSL := Lib.hid hsl
          have HNH := Lib.hid hnH
          clear hsl hnH
          by_cases hlt : k < nd
          · have hsk := HSI.out k hlt
            obtain ⟨c1, c2, c3, c4, c5, c6, c7⟩ := hog.at_ hsk
            obtain ⟨n1, n2⟩ := HAT.out _ hsk
            have hse := HSE.out k
            obtain ⟨s, hs⟩ : ∃ s, s = σ k := ⟨_, rfl⟩
            rw [← hs] at hsk c1 c2 c3 c4 c5 c6 c7 n1 n2 hse
            rw [n1] at c1
            obtain ⟨SV, hSV⟩ : ∃ SV, SV = val_ V s := ⟨_, rfl⟩
            rw [← hSV] at c2 c6 c7 n2
            have HSU : Hid (sel l nd σ k ++ [((s : Int) + 1, SV)] = sel l nd σ (k + 1)) := by unfold Hid; rw [← sel_succ, ← hs, n2]
            have hnHs := HNH.out s hsk
            obtain ⟨hb_, hc_⟩ : ∃ p : Nat × Nat, p = HG s := ⟨_, rfl⟩
            have HSE2 := Lib.hid hse
            clear hs hSV n1 n2 hse
            have i1 : ((k : Int) + (len1 : Int)) % (V.length : Int) = (s : Int) := by rw [HSE2.out]; simp
            have i2 : (s : Int) < (V.length : Int) := by omega
            have i3 : (0 : Int) ≤ (s : Int) := by omega
            have i4 : IntKind.i64.wrap ((k : Int) + (len1 : Int)) = (k : Int) + (len1 : Int) := IntWalk.i64_in _ (by omega)
            have i5 : ((mn : Int) == 0) = false := by simp only [beq_eq_false_iff_ne]; omega
            have i6 : ((k : Int) + (len1 : Int)) % (mn : Int) = (s : Int) := by rw [← HVN.out]; exact i1
            go_wp2_with (at_builtin; refine wpList_shard rfl _ _ rfl w.heap.size g c (sel l nd σ k) (sel l nd σ (k + 1)) H _ SV (HG s).1 (HG s).2 _ rfl HSU.out rfl _ rfl (by simp) hown (by omega) hb.size c3 (fun e => hnHs e.symm) c6 c7 ?_)
            intro g' c' w9 ho hg hf
            have hge := hown.parts.1
            have hgl := hown.parts.2.1
            have hB9 : Below w.heap.size w w9 := hb.grown hg hb.size (fun kk e => by injection e with e; omega)
            have hog9 := hog.kept hg hng HNH.out
            have hud9 : Wr w9 gd l := hud.block (hg.block gd hud.lt (fun e => hngd (by injection e with e; exact e.symm)))
            have q1 := hog.parts.2.1
            have q2 := hud.lt
            have hng9 : g' ≠ gg := by rcases hf with e | e <;> omega
            have hngd9 : g' ≠ gd := by rcases hf with e | e <;> omega
            have HNH9 : Hid (∀ j, j < V.length → g' ≠ (HG j).1) := by
              unfold Hid; intro j hj
              have h1 := HNH.out j hj
              have h2 := (hog.at_ hj).2.2.2.2.1
              rcases hf with e | e <;> omega
            clear hown hog hud hg hf hb c1 c2 c6
            go_wp2_with fail
            exact ⟨⟨k + 1, g', c', _, by omega, by go_num, rfl, ho, hog9, hng9, hud9, hngd9, HNH9.out, hB9⟩, by simp [intOf] <;> omega⟩
          · have hkc : nd = k := by omega
            subst hkc
            have hsh := hown.shl
            obtain ⟨z1, z2, z3, z4⟩ := hown.parts
            have hvs : ∀ j, j < (sel l nd σ nd).length → (val_ (sel l nd σ nd) j).length ≤ 2000000 := by
              intro j hj
              rw [HSL.out] at hj
              rw [sel_val _ _ _ hj, shVals_len]
              have := cols_12 (size := l.length) (need := nd) (by omega) p2; omega
            have HVS := Lib.hid hvs
            clear hvs hown hog
      
            go_wp2_with fail
            refine (joinF_any (l.length : Int) (nd : Int) (some ⟨g, 0, none⟩) c (sel l nd σ nd) _ hsh (by omega) HVS.out).mono ?_
            rintro e w6 ⟨out, ok, g6, c6, rfl, hj, hg6, u6, hoc, hcm6, hb6⟩
            obtain ⟨rfl, rfl⟩ := sel_joins HDB.out (by omega) (by omega) (fun i hi => by have := HSI.out i hi; omega) HSJ.out hj
            have hB6 : Below w.heap.size w w6 := hb.trans (hb6.mono hb.size)
            have ud6 := hud.below hb6 hud.lt
            clear hj hb6 hud hsh
            go_wp2_with fail
            refine (sameInts_any (some ⟨g6, 0, none⟩) (some ⟨gd, 0, none⟩) out out c6 cd _ _ _ u6.sl ud6.sl (by omega) (by omega)).mono ?_
            rintro e w7 ⟨rfl, n7, rfl⟩
            rw [eqTo_refl]
            go_wp2_with fail
            go_ret
            exact ⟨rfl, belowN hB6 _⟩
      · have hV2 := HV.out
        rw [makeV_no hm] at hV2
        subst hV2
        go_wp2_with fail
        refine (sameShards_any (some ⟨gg, 0, none⟩) (some ⟨gs, 0, none⟩) [] [] cg cs _ og4.shl os.shl (by omega) (by omega) HVZ.out HVZ.out).mono ?_
        rintro e w5 ⟨rfl, hb5⟩
        rw [hES []]
        have og5 := og4.below hb5
        have os5 := os.below hb5
        have hB5 : Below w.heap.size w w5 := hB4.trans (hb5.mono hB4.size)
        go_wp2_with fail
        refine (sameShards_any (some ⟨gg, 0, none⟩) (some ⟨gs, 0, none⟩) [] [] cg cs _ og5.shl os5.shl (by omega) (by omega) HVZ.out HVZ.out).mono ?_
        rintro e w6 ⟨rfl, hb6⟩
        rw [hES []]
        go_wp2_with fail
        go_ret
        exact ⟨rfl, hB5.trans (hb6.mono hB5.size)⟩
    · have g1 : decide (1048576 < len0) = false := by simp; omega
      have g2 : decide (1048576 < len1) = true := by simp; omega
      go_enter Try.func13, Try.ntmps13
      go_wp2_with fail
      go_ret
      exact ⟨rfl, Below.refl _ _⟩
  · have g1 : decide (1048576 < len0) = true := by simp; omega
    go_enter Try.func13, Try.ntmps13
    go_wp2_with fail
    go_ret
    exact ⟨rfl, Below.refl _ _⟩

end Go.Proofs.Ytfkmiflddpjllaa
