/- Shards are made, by program and reference. Conditions: at most two million symbols. -/
import Derived.Test.YtfkmiflddpjllaaShF
import Derived.Test.YtfkmiflddpjllaaShV
namespace Go.Proofs.Ytfkmiflddpjllaa
open Go.RowKit
set_option linter.unusedVariables false
set_option linter.unusedSimpArgs false

theorem makeB_false {data : List Int} {need many : Int} (h : dataB data need = false ∨ ¬ (need ≤ many ∧ many ≤ 8)) : ¬ makeB data need many = true := by
  intro e
  simp only [makeB, Bool.and_eq_true, decide_eq_true_eq] at e
  rcases h with h | h
  · rw [e.1] at h; cases h
  · exact h e.2
theorem makeB_true {data : List Int} {need many : Int} (h : dataB data need = true) (h1 : need ≤ many) (h2 : many ≤ 8) : makeB data need many = true := by
  simp only [makeB, Bool.and_eq_true, decide_eq_true_eq]; exact ⟨h, h1, h2⟩

set_option maxHeartbeats 4000000 in
theorem makeF_any (A : Option Addr) (c : Nat) (data : List Int) (need many : Int) (w : World) (h : Sl w w.heap.size A data) (hl : data.length ≤ 2000000) (hlc : data.length ≤ c) (hcm : c ≤ maxLen) :
    Calls Try.prog 36 #[.slice A data.length c, .int .i64 need, .int .i64 many] w (FreshS (makeV data need many) w) := by
  have hB0 : Below w.heap.size w (w.alloc (.cells #[] 30)) := (Below.refl _ _).alloc (Nat.le_refl _) _
  have hS0 := OwnS.made w w.heap.size (fun _ => (0, 0)) (Nat.le_refl _)
  have hA := h.below hB0
  by_cases g0 : dataB data need = true
  · obtain ⟨d1, d2, d3, d4, d5⟩ := dataB_parts g0
    by_cases g1 : need ≤ many ∧ many ≤ 8
    · have HM := Lib.hid (makeV_yes (makeB_true g0 g1.1 g1.2))
      rw [HM.out]
      clear HM
      obtain ⟨g1, g2⟩ := g1
      have HD := Lib.hid g0
      have HD3 := Lib.hid d3
      clear g0 d3
      obtain ⟨nd, rfl⟩ := Int.eq_ofNat_of_zero_le (show 0 ≤ need by omega)
      obtain ⟨mn, rfl⟩ := Int.eq_ofNat_of_zero_le (show 0 ≤ many by omega)
      simp only [Int.toNat_natCast]
      have t1 : decide ((mn : Int) < (nd : Int)) = false := by simp only [decide_eq_false_iff_not]; omega
      have t2 : decide ((8 : Int) < (mn : Int)) = false := by simp only [decide_eq_false_iff_not]; omega
      have t1' : decide (mn < nd) = false := by simp only [decide_eq_false_iff_not]; omega
      have t2' : decide (8 < mn) = false := by simp only [decide_eq_false_iff_not]; omega
      go_enter Try.func36, Try.ntmps36
      go_wp2_with (go_at_call 55; refine (dataF_any _ _ data _ _ _ hA hl).mono ?_; rintro e w1 ⟨rfl, rfl⟩; rw [HD.out])
      go_loopw [7, 8] (fun v i wr => ∃ (k g cg : Nat) (H : Nat → Nat × Nat), k ≤ mn ∧ i = .int .i64 ((k : Int) + 1) ∧ v = .slice (some ⟨g, 0, none⟩) (shards data nd k).length cg ∧ OwnS wr w.heap.size g cg (shards data nd k) H ∧ Dst H k ∧ Below w.heap.size w wr) (fun _ i _ => mn + 1 - (intOf i).toNat)
      case atStart => exact ⟨0, w.heap.size, 0, _, Nat.zero_le _, rfl, rfl, hS0, fun i j _ hj => absurd hj (by omega), hB0⟩
      case round =>
        clear hS0 hB0 hA
        obtain ⟨k, g, cg, H, hk, rfl, rfl, hown, hdst, hb⟩ := hrel
        have hsl := shards_len data nd k
        have HDST := Lib.hid hdst
        clear hdst
        by_cases hlt : k < mn
        · have t3 : decide ((k : Int) + 1 ≤ (mn : Int)) = true := by simp only [decide_eq_true_eq]; omega
          have HSU := Lib.hid (shards_succ data nd k).symm
          obtain ⟨SV, hSV⟩ : ∃ SV, SV = shVals data nd ((k : Int) + 1) := ⟨_, rfl⟩
          have HSV := Lib.hid hSV
          rw [← hSV] at HSU
          have hsvl : SV.length ≤ 12 := by rw [hSV, shVals_len]; exact cols_12 (by omega) (by omega)
          have hs8 : (shards data nd k).length ≤ 8 := by omega
          have HSL := Lib.hid hsl
          clear hSV hsl
          go_wp2_with fail
          refine (shardF_any A c data nd ((k : Int) + 1) _ ((h.below hb).more hb.size) HD3.out d1 d2 hlc hcm (by omega) (by omega) (by omega) (by omega)).mono ?_
          rintro e w8 ⟨g8, c8, hg8, rfl, u8, hc8, hm8, hb8⟩
          rw [← HSV.out] at u8 hc8 ⊢
          have hown8 := hown.below hb8
          have hB8 : Below w.heap.size w w8 := hb.trans (hb8.mono hb.size)
          have hgl := hown.parts.2.1
          have hgw : w.heap.size ≤ g8 := Nat.le_trans hb.size hg8
          have HDS : Hid (Dst (putH H (shards data nd k).length (g8, c8)) (k + 1)) := by
            unfold Hid; rw [HSL.out]
            exact HDST.out.put _ fun i hi => by have := (hown.at_ (j := i) (by rw [HSL.out]; exact hi)).2.2.2.2.1; simp only; omega
          clear hown hb8
          go_wp2_with (at_builtin; refine wpList_shard rfl _ _ rfl w.heap.size g cg (shards data nd k) (shards data nd (k + 1)) H _ SV g8 c8 _ rfl HSU.out rfl _ rfl (by simp) hown8 (by omega) hB8.size hgw (by omega) u8 hc8 ?_)
          intro g' cg' w9 ho hg hf
          have hge := hown8.parts.1
          have hB9 : Below w.heap.size w w9 := hB8.grown hg hB8.size (fun kk e => by injection e with e; omega)
          clear hown8 hg hf hB8 u8
          go_wp2_with fail
          exact ⟨⟨k + 1, g', cg', _, by omega, by go_num, rfl, ho, HDS.out, hB9⟩, by simp [intOf]; omega⟩
        · obtain rfl : k = mn := by omega
          have t3 : decide ((k : Int) + 1 ≤ (k : Int)) = false := by simp only [decide_eq_false_iff_not]; omega
          have HSL := Lib.hid hsl
          clear hsl
          go_wp2_with fail
          go_ret
          exact ⟨g, cg, H, rfl, hown, by rw [HSL.out]; exact HDST.out, hb⟩
    · have HM := Lib.hid (makeV_no (makeB_false (data := data) (need := need) (many := many) (.inr g1)))
      rw [HM.out]
      have HD := Lib.hid g0
      clear g0 d3 HM
      by_cases g2 : many < need
      · have t1 : decide (many < need) = true := by simpa using g2
        clear g1
        go_enter Try.func36, Try.ntmps36
        go_wp2_with (go_at_call 55; refine (dataF_any _ _ data _ _ _ hA hl).mono ?_; rintro e w1 ⟨rfl, rfl⟩; rw [HD.out])
        go_ret
        exact ⟨w.heap.size, 0, _, rfl, hS0, fun i j _ hj => absurd hj (by simp), hB0⟩
      · have t1 : decide (many < need) = false := by simpa using g2
        have t2 : decide (8 < many) = true := by simp only [decide_eq_true_eq]; omega
        clear g1
        go_enter Try.func36, Try.ntmps36
        go_wp2_with (go_at_call 55; refine (dataF_any _ _ data _ _ _ hA hl).mono ?_; rintro e w1 ⟨rfl, rfl⟩; rw [HD.out])
        go_ret
        exact ⟨w.heap.size, 0, _, rfl, hS0, fun i j _ hj => absurd hj (by simp), hB0⟩
  · have g0' : dataB data need = false := by simpa using g0
    have HM := Lib.hid (makeV_no (makeB_false (data := data) (need := need) (many := many) (.inl g0')))
    rw [HM.out]
    have HD := Lib.hid g0'
    clear g0 g0' HM
    go_enter Try.func36, Try.ntmps36
    go_wp2_with (go_at_call 55; refine (dataF_any _ _ data _ _ _ hA hl).mono ?_; rintro e w1 ⟨rfl, rfl⟩; rw [HD.out])
    go_ret
    exact ⟨w.heap.size, 0, _, rfl, hS0, fun i j _ hj => absurd hj (by simp), hB0⟩

set_option maxHeartbeats 4000000 in
theorem makeS_any (A : Option Addr) (c : Nat) (data : List Int) (need many : Int) (w : World) (h : Sl w w.heap.size A data) (hl : data.length ≤ 2000000) :
    Calls Try.prog 37 #[.slice A data.length c, .int .i64 need, .int .i64 many] w (FreshS (makeV data need many) w) := by
  have hB0 : Below w.heap.size w (w.alloc (.cells #[] 30)) := (Below.refl _ _).alloc (Nat.le_refl _) _
  have hS0 := OwnS.made w w.heap.size (fun _ => (0, 0)) (Nat.le_refl _)
  have hA := h.below hB0
  by_cases g0 : dataB data need = true
  · obtain ⟨d1, d2, d3, d4, d5⟩ := dataB_parts g0
    by_cases g1 : need ≤ many ∧ many ≤ 8
    · have HM := Lib.hid (makeV_yes (makeB_true g0 g1.1 g1.2))
      rw [HM.out]
      clear HM
      obtain ⟨g1, g2⟩ := g1
      have HD := Lib.hid g0
      have HD3 := Lib.hid d3
      clear g0 d3
      obtain ⟨nd, rfl⟩ := Int.eq_ofNat_of_zero_le (show 0 ≤ need by omega)
      obtain ⟨mn, rfl⟩ := Int.eq_ofNat_of_zero_le (show 0 ≤ many by omega)
      simp only [Int.toNat_natCast]
      go_enter Try.func37, Try.ntmps37
      go_wp2_with (first | (go_at_call 58; refine (dataS_any _ _ data _ _ _ hA hl).mono ?_; rintro e w1 ⟨rfl, rfl⟩; rw [HD.out]) | (go_at_call 53; refine (in_yes (mn : Int) nd 8 _ g1 g2).mono ?_; rintro e w1 ⟨rfl, rfl⟩))
      go_loopw [7, 8] (fun v i wr => ∃ (k g cg : Nat) (H : Nat → Nat × Nat), k ≤ mn ∧ i = .int .i64 ((k : Int) + 1) ∧ v = .slice (some ⟨g, 0, none⟩) (shards data nd k).length cg ∧ OwnS wr w.heap.size g cg (shards data nd k) H ∧ Dst H k ∧ Below w.heap.size w wr) (fun _ i _ => mn + 1 - (intOf i).toNat)
      case atStart => exact ⟨0, w.heap.size, 0, _, Nat.zero_le _, rfl, rfl, hS0, fun i j _ hj => absurd hj (by omega), hB0⟩
      case round =>
        clear hS0 hB0 hA
        obtain ⟨k, g, cg, H, hk, rfl, rfl, hown, hdst, hb⟩ := hrel
        have hsl := shards_len data nd k
        have HDST := Lib.hid hdst
        clear hdst
        by_cases hlt : k < mn
        · have t3 : decide ((k : Int) + 1 ≤ (mn : Int)) = true := by simp only [decide_eq_true_eq]; omega
          have HSU := Lib.hid (shards_succ data nd k).symm
          obtain ⟨SV, hSV⟩ : ∃ SV, SV = shVals data nd ((k : Int) + 1) := ⟨_, rfl⟩
          have HSV := Lib.hid hSV
          rw [← hSV] at HSU
          have hsvl : SV.length ≤ 12 := by rw [hSV, shVals_len]; exact cols_12 (by omega) (by omega)
          have hs8 : (shards data nd k).length ≤ 8 := by omega
          have HSL := Lib.hid hsl
          clear hSV hsl
          go_wp2_with fail
          refine (shardS_any A c data nd ((k : Int) + 1) _ ((h.below hb).more hb.size) HD3.out d2 (by omega) (by omega) (by omega) (by omega)).mono ?_
          rintro e w8 ⟨g8, c8, hg8, rfl, u8, hc8, hm8, hb8⟩
          rw [← HSV.out] at u8 hc8 ⊢
          have hown8 := hown.below hb8
          have hB8 : Below w.heap.size w w8 := hb.trans (hb8.mono hb.size)
          have hgl := hown.parts.2.1
          have hgw : w.heap.size ≤ g8 := Nat.le_trans hb.size hg8
          have HDS : Hid (Dst (putH H (shards data nd k).length (g8, c8)) (k + 1)) := by
            unfold Hid; rw [HSL.out]
            exact HDST.out.put _ fun i hi => by have := (hown.at_ (j := i) (by rw [HSL.out]; exact hi)).2.2.2.2.1; simp only; omega
          clear hown hb8
          go_wp2_with (at_builtin; refine wpList_shard rfl _ _ rfl w.heap.size g cg (shards data nd k) (shards data nd (k + 1)) H _ SV g8 c8 _ rfl HSU.out rfl _ rfl (by simp) hown8 (by omega) hB8.size hgw (by omega) u8 hc8 ?_)
          intro g' cg' w9 ho hg hf
          have hge := hown8.parts.1
          have hB9 : Below w.heap.size w w9 := hB8.grown hg hB8.size (fun kk e => by injection e with e; omega)
          clear hown8 hg hf hB8 u8
          go_wp2_with fail
          exact ⟨⟨k + 1, g', cg', _, by omega, by go_num, rfl, ho, HDS.out, hB9⟩, by simp [intOf]; omega⟩
        · obtain rfl : k = mn := by omega
          have t3 : decide ((k : Int) + 1 ≤ (k : Int)) = false := by simp only [decide_eq_false_iff_not]; omega
          have HSL := Lib.hid hsl
          clear hsl
          go_wp2_with fail
          go_ret
          exact ⟨g, cg, H, rfl, hown, by rw [HSL.out]; exact HDST.out, hb⟩
    · have HM := Lib.hid (makeV_no (makeB_false (data := data) (need := need) (many := many) (.inr g1)))
      rw [HM.out]
      have HD := Lib.hid g0
      clear g0 d3 HM
      have g2 : many < need ∨ 8 < many := by omega
      have G2 := Lib.hid g2
      clear g1 g2
      go_enter Try.func37, Try.ntmps37
      go_wp2_with (first | (go_at_call 58; refine (dataS_any _ _ data _ _ _ hA hl).mono ?_; rintro e w1 ⟨rfl, rfl⟩; rw [HD.out]) | (go_at_call 53; refine (in_no many need 8 _ G2.out).mono ?_; rintro e w1 ⟨rfl, rfl⟩))
      go_ret
      exact ⟨w.heap.size, 0, _, rfl, hS0, fun i j _ hj => absurd hj (by simp), hB0⟩
  · have g0' : dataB data need = false := by simpa using g0
    have HM := Lib.hid (makeV_no (makeB_false (data := data) (need := need) (many := many) (.inl g0')))
    rw [HM.out]
    have HD := Lib.hid g0'
    clear g0 g0' HM
    go_enter Try.func37, Try.ntmps37
    go_wp2_with (go_at_call 58; refine (dataS_any _ _ data _ _ _ hA hl).mono ?_; rintro e w1 ⟨rfl, rfl⟩; rw [HD.out])
    go_ret
    exact ⟨w.heap.size, 0, _, rfl, hS0, fun i j _ hj => absurd hj (by simp), hB0⟩
end Go.Proofs.Ytfkmiflddpjllaa
