/- The reference's check of shards; its joining and repair; the program's repair. Conditions: the lists are within two million elements. -/
import Derived.Test.YtfkmiflddpjllaaShR
namespace Go.Proofs.Ytfkmiflddpjllaa
open Go.RowKit
set_option linter.unusedVariables false
set_option linter.unusedSimpArgs false
set_option maxRecDepth 4000

theorem quietYes (n lo hi : Int) {w : World} {a m : Nat} (h1 : lo ≤ n) (h2 : n ≤ hi) : Calls Try.prog 53 #[.int .i64 n, .int .i64 lo, .int .i64 hi] (w.drewN (a + m)) fun e w'' => e = .returned (.bool true) ∧ ∃ k, w'' = w.drewN (a + k) :=
  (in_yes n lo hi _ h1 h2).mono fun _ _ ⟨he, hw⟩ => ⟨he, m, hw.symm⟩
theorem quietNo (n lo hi : Int) {w : World} {a m : Nat} (h : n < lo ∨ hi < n) : Calls Try.prog 53 #[.int .i64 n, .int .i64 lo, .int .i64 hi] (w.drewN (a + m)) fun e w'' => e = .returned (.bool false) ∧ ∃ k, w'' = w.drewN (a + k) :=
  (in_no n lo hi _ h).mono fun _ _ ⟨he, hw⟩ => ⟨he, m, hw.symm⟩

set_option maxHeartbeats 4000000 in
theorem listS_any (size need : Int) (A : Option Addr) (c : Nat) (l : List Sh) (w : World) (B : Nat) (h : ShL w B A l) (hl : l.length ≤ 2000000) (hvl : ∀ j, j < l.length → (val_ l j).length ≤ 2000000) :
    Calls Try.prog 45 #[.int .i64 size, .int .i64 need, .slice A l.length c] w (Still w (.bool (shardsB size need l))) := by
  have HVL := Lib.hid hvl
  clear hvl
  by_cases h1 : 1 ≤ size ∧ size ≤ 12
  · obtain ⟨h1, h2⟩ := h1
    by_cases h3 : 1 ≤ need ∧ need ≤ 8
    · obtain ⟨h3, h4⟩ := h3
      by_cases h5 : need ≤ l.length
      · have q5 : decide ((l.length : Int) < need) = false := by simp only [decide_eq_false_iff_not]; omega
        by_cases h6 : l.length ≤ 8
        · have q6 : decide ((8 : Int) < l.length) = false := by simp only [decide_eq_false_iff_not]; omega
          have q6' : decide (8 < l.length) = false := by simp only [decide_eq_false_iff_not]; omega
          obtain ⟨sz, rfl⟩ := Int.eq_ofNat_of_zero_le (show 0 ≤ size by omega)
          obtain ⟨nd, rfl⟩ := Int.eq_ofNat_of_zero_le (show 0 ≤ need by omega)
          have q5' : decide (l.length < nd) = false := by simp only [decide_eq_false_iff_not]; omega
          have hcc : ((sz : Int) + (nd : Int) - 1) / (nd : Int) = ((cols sz nd : Nat) : Int) := by
            unfold cols
            rw [show (sz : Int) + (nd : Int) - 1 = ((sz + nd - 1 : Nat) : Int) by omega]
            exact (Int.natCast_ediv _ _).symm
          have HCC := Lib.hid hcc
          clear hcc
          have hc12 := cols_12 (size := sz) (need := nd) (by omega) (by omega)
          have t9 : ((nd : Int) == 0) = false := by simp only [beq_eq_false_iff_ne]; omega
          have a2 : IntKind.i64.wrap ((sz : Int) + (nd : Int)) = (sz : Int) + (nd : Int) := IntWalk.i64_in _ (by omega)
          have a3 : IntKind.i64.wrap ((sz : Int) + (nd : Int) - 1) = (sz : Int) + (nd : Int) - 1 := IntWalk.i64_in _ (by omega)
          have a4 : IntKind.i64.wrap (((sz : Int) + (nd : Int) - 1) / (nd : Int)) = ((sz : Int) + (nd : Int) - 1) / (nd : Int) := IntWalk.i64_in _ (by rw [HCC.out]; omega)
          go_enter Try.func45, Try.ntmps45
          go_wp2_with (go_at_call 53; first | (with_reducible refine (in_yes (sz : Int) 1 12 _ h1 h2).mono ?_; rintro e w1 ⟨rfl, rfl⟩) | (with_reducible refine (in_yes (nd : Int) 1 8 _ h3 h4).mono ?_; rintro e w1 ⟨rfl, rfl⟩))
          go_loopw [7, 8, 9] (fun i _ _ wr => ∃ k m : Nat, k ≤ l.length ∧ i = .int .i64 k ∧ wr = w.drewN m ∧ SG sz nd l k) (fun i _ _ _ => l.length - (intOf i).toNat)
          case atStart => exact ⟨0, 0, Nat.zero_le _, rfl, rfl, SG.zero _ _ _⟩
          case round =>
            obtain ⟨k, m, hk, rfl, rfl, hg⟩ := hrel
            have HG := Lib.hid hg
            clear hg
            by_cases hlt : k < l.length
            · obtain ⟨b, off, A', c', rfl, hbl, hc1, hc2, hcc, hsl⟩ := h.at_ hlt
              have d1 : (k : Int) < (l.length : Int) := by omega
              have d3 : (0 : Int) ≤ (k : Int) := by omega
              have hvk := HVL.out k hlt
              by_cases g1 : 1 ≤ num_ l k ∧ num_ l k ≤ 8
              · obtain ⟨g1, g2⟩ := g1
                by_cases g3 : (val_ l k).length = cols sz nd
                · have r3 : (((val_ l k).length : Int) != ((sz : Int) + (nd : Int) - 1) / (nd : Int)) = false := by rw [HCC.out, g3]; simp
                  have G3 := Lib.hid g3
                  have hv12 : (val_ l k).length ≤ 12 := by omega
                  clear g3
                  go_wp2_with fail
                  go_quiet ((go_at_call 53; exact quietYes (num_ l k) 1 8 g1 g2))
                  go_wp2_with fail
                  go_loopw [8] (fun i wx => ∃ q n : Nat, q ≤ k ∧ i = .int .i64 q ∧ wx = w.drewN n ∧ ∀ j, j < q → num_ l j ≠ num_ l k) (fun i _ => k - (intOf i).toNat)
                  case atStart => exact ⟨0, _, Nat.zero_le _, rfl, World.drewN_drewN _ _ _, fun j hj => absurd hj (by omega)⟩
                  case round =>
                    obtain ⟨q, n, hq, rfl, rfl, hne⟩ := hrel
                    have HN := Lib.hid hne
                    clear hne
                    by_cases hlq : q < k
                    · obtain ⟨b', off', A2, c2, e', _, hq1, _, _, _⟩ := h.at_ (k := q) (by omega)
                      simp only [Option.some.injEq, Addr.mk.injEq, and_true] at e'
                      obtain ⟨rfl, rfl⟩ := e'
                      have e1 : (q : Int) < (l.length : Int) := by omega
                      have e2 : (0 : Int) ≤ (q : Int) := by omega
                      by_cases he : num_ l q = num_ l k
                      · have t1 : (num_ l q == num_ l k) = true := by simpa using he
                        have HF := Lib.hid (shardsB_at (size := sz) (need := nd) k hlt (fun g => g.2.2.2.2 q hlq he))
                        clear he
                        go_wp2_with fail
                        go_quiet (fail)
                        go_wp2_with fail
                        go_ret
                        exact ⟨by rw [HF.out]; rfl, _, World.drewN_drewN _ _ _⟩
                      · have t1 : (num_ l q == num_ l k) = false := by simpa using he
                        have HE := Lib.hid he
                        clear he
                        go_wp2_with fail
                        go_quiet (fail)
                        go_wp2_with fail
                        exact ⟨⟨q + 1, _, by omega, by go_num, rfl, fun j hj => by
                          by_cases e : j = q
                          · rw [e]; exact HE.out
                          · exact HN.out j (by omega)⟩, by simp [intOf] <;> omega⟩
                    · have hkq : k = q := by omega
                      subst hkq
                      go_wp2_with fail
                      go_loopw [9] (fun i wx => ∃ q n : Nat, q ≤ (val_ l k).length ∧ i = .int .i64 q ∧ wx = w.drewN n ∧ ∀ j, j < q → 0 ≤ nth (val_ l k) j ∧ nth (val_ l k) j ≤ 250) (fun i _ => (val_ l k).length - (intOf i).toNat)
                      case atStart => exact ⟨0, _, Nat.zero_le _, rfl, rfl, fun j hj => absurd hj (by omega)⟩
                      case round =>
                        obtain ⟨q, n, hq, rfl, rfl, hne⟩ := hrel
                        have HQ := Lib.hid hne
                        clear hne
                        by_cases hlq : q < (val_ l k).length
                        · obtain ⟨b2, off2, rfl, _, hcv⟩ := hsl.at_ hlq
                          have e1 : (q : Int) < ((val_ l k).length : Int) := by omega
                          have e2 : (0 : Int) ≤ (q : Int) := by omega
                          by_cases g5 : 0 ≤ nth (val_ l k) q ∧ nth (val_ l k) q ≤ 250
                          · obtain ⟨g5, g6⟩ := g5
                            go_wp2_with (go_at_call 53; refine (in_yes (nth (val_ l k) q) 0 250 _ g5 g6).mono ?_; rintro e w1 ⟨rfl, rfl⟩)
                            exact ⟨⟨q + 1, _, by omega, by go_num, rfl, fun j hj => by
                              by_cases e : j = q
                              · rw [e]; exact ⟨g5, g6⟩
                              · exact HQ.out j (by omega)⟩, by simp [intOf] <;> omega⟩
                          · have HF := Lib.hid (shardsB_at (size := sz) (need := nd) k hlt (fun g => g5 (allIn_get g.2.2.2.1 hlq)))
                            have g : nth (val_ l k) q < 0 ∨ 250 < nth (val_ l k) q := by omega
                            have G := Lib.hid g
                            clear g g5
                            go_wp2_with (go_at_call 53; refine (in_no (nth (val_ l k) q) 0 250 _ G.out).mono ?_; rintro e w1 ⟨rfl, rfl⟩)
                            go_ret
                            exact ⟨by rw [HF.out]; rfl, _, rfl⟩
                        · have hvq : (val_ l k).length = q := by omega
                          have HS := Lib.hid (HG.out.step ⟨g1, g2, G3.out, allIn_true (fun j hj => HQ.out j (by omega)), HN.out⟩)
                          have e1 : decide ((q : Int) < ((val_ l k).length : Int)) = false := by simp only [decide_eq_false_iff_not]; omega
                          have e1' : decide (q < (val_ l k).length) = false := by simp only [decide_eq_false_iff_not]; omega
                          clear hvq
                          go_wp2_with fail
                          exact ⟨⟨k + 1, _, by omega, by go_num, rfl, HS.out⟩, by simp [intOf] <;> omega⟩
                · have r3 : (((val_ l k).length : Int) != ((sz : Int) + (nd : Int) - 1) / (nd : Int)) = true := by rw [HCC.out]; simp; omega
                  have HF := Lib.hid (shardsB_at (size := sz) (need := nd) k hlt (fun g => g3 g.2.2.1))
                  clear g3
                  go_wp2_with fail
                  go_quiet ((go_at_call 53; exact quietYes (num_ l k) 1 8 g1 g2))
                  go_wp2_with fail
                  go_ret
                  exact ⟨by rw [HF.out]; rfl, _, World.drewN_drewN _ _ _⟩
              · have HF := Lib.hid (shardsB_at (size := sz) (need := nd) k hlt (fun g => g1 ⟨g.1, g.2.1⟩))
                have g : num_ l k < 1 ∨ 8 < num_ l k := by omega
                have G := Lib.hid g
                clear g g1
                go_wp2_with fail
                go_quiet ((go_at_call 53; exact quietNo (num_ l k) 1 8 G.out))
                go_wp2_with fail
                go_ret
                exact ⟨by rw [HF.out]; rfl, _, World.drewN_drewN _ _ _⟩
            · have hkl : l.length = k := by omega
              have HT := Lib.hid (shardsB_true (size := sz) (need := nd) h1 h2 h3 h4 h5 h6 (by rw [Int.toNat_natCast, Int.toNat_natCast, hkl]; exact HG.out))
              subst hkl
              go_wp2_with fail
              go_ret
              exact ⟨by rw [HT.out]; rfl, _, rfl⟩
        · have q6 : decide ((8 : Int) < l.length) = true := by simp only [decide_eq_true_eq]; omega
          have q6' : decide (8 < l.length) = true := by simp only [decide_eq_true_eq]; omega
          rw [shardsB_head (l := l) (fun g => h6 g.2.2.2.2.2)]
          go_enter Try.func45, Try.ntmps45
          go_wp2_with (go_at_call 53; first | (with_reducible refine (in_yes size 1 12 _ h1 h2).mono ?_; rintro e w1 ⟨rfl, rfl⟩) | (with_reducible refine (in_yes need 1 8 _ h3 h4).mono ?_; rintro e w1 ⟨rfl, rfl⟩))
          go_ret
          exact ⟨rfl, 0, rfl⟩
      · have q5 : decide ((l.length : Int) < need) = true := by simp only [decide_eq_true_eq]; omega
        rw [shardsB_head (l := l) (fun g => h5 g.2.2.2.2.1)]
        go_enter Try.func45, Try.ntmps45
        go_wp2_with (go_at_call 53; first | (with_reducible refine (in_yes size 1 12 _ h1 h2).mono ?_; rintro e w1 ⟨rfl, rfl⟩) | (with_reducible refine (in_yes need 1 8 _ h3 h4).mono ?_; rintro e w1 ⟨rfl, rfl⟩))
        go_ret
        exact ⟨rfl, 0, rfl⟩
    · rw [shardsB_head (l := l) (fun g => h3 ⟨g.2.2.1, g.2.2.2.1⟩)]
      have g : need < 1 ∨ 8 < need := by omega
      have G := Lib.hid g
      clear g h3
      go_enter Try.func45, Try.ntmps45
      go_wp2_with (go_at_call 53; first | (with_reducible refine (in_yes size 1 12 _ h1 h2).mono ?_; rintro e w1 ⟨rfl, rfl⟩) | (with_reducible refine (in_no need 1 8 _ G.out).mono ?_; rintro e w1 ⟨rfl, rfl⟩))
      go_ret
      exact ⟨rfl, 0, rfl⟩
  · rw [shardsB_head (l := l) (fun g => h1 ⟨g.1, g.2.1⟩)]
    have g : size < 1 ∨ 12 < size := by omega
    have G := Lib.hid g
    clear g h1
    go_enter Try.func45, Try.ntmps45
    go_wp2_with (go_at_call 53; refine (in_no size 1 12 _ G.out).mono ?_; rintro e w1 ⟨rfl, rfl⟩)
    go_ret
    exact ⟨rfl, 0, rfl⟩

set_option maxHeartbeats 2000000 in
theorem joinR_any (size need : Int) (A : Option Addr) (c : Nat) (l : List Sh) (w : World) (h : ShL w w.heap.size A l) (hl : l.length ≤ 2000000) (hvl : ∀ j, j < l.length → (val_ l j).length ≤ 2000000) :
    Calls Try.prog 16 #[.int .i64 size, .int .i64 need, .slice A l.length c] w (JoinPostS size need l w) := by
  by_cases hv : shardsB size need l = true
  · obtain ⟨p1, p2, p3, p4, p5, p6, p7⟩ := shardsB_parts hv
    obtain ⟨sz, rfl⟩ := Int.eq_ofNat_of_zero_le (show 0 ≤ size by omega)
    obtain ⟨nd, rfl⟩ := Int.eq_ofNat_of_zero_le (show 0 ≤ need by omega)
    have HV := Lib.hid hv
    clear hv p7
    go_enter Try.func16, Try.ntmps16
    go_wp2_with (go_at_call 45; refine (listS_any _ _ _ _ l _ _ h hl hvl).mono ?_; rintro e w1 ⟨rfl, n1, rfl⟩; rw [HV.out])
    refine (joinS_any sz nd A c l _ (show ShL (w.drewN n1) (w.drewN n1).heap.size A l from h) HV.out).mono ?_
    rintro e w2 ⟨out, ok, g, cg, rfl, hj, hg, u, hoc, hcm, hb⟩
    have HJ := Lib.hid hj
    clear hj
    go_wp2_with fail
    go_ret2
    exact ⟨out, ok, g, cg, rfl, HJ.out, hg, u, hoc, hcm, (below_n (Below.refl _ _) n1).trans (hb.mono (Nat.le_refl _))⟩
  · have hv' : shardsB size need l = false := by simpa using hv
    have HV := Lib.hid hv'
    clear hv hv'
    go_enter Try.func16, Try.ntmps16
    go_wp2_with (go_at_call 45; refine (listS_any _ _ _ _ l _ _ h hl hvl).mono ?_; rintro e w1 ⟨rfl, n1, rfl⟩; rw [HV.out])
    go_ret2
    exact ⟨[], false, w.heap.size, 0, rfl, .inl ⟨HV.out, rfl, rfl⟩, Nat.le_refl _, wr_empty _ _, Nat.le_refl _, by simp [maxLen], (below_n (Below.refl _ _) n1).alloc (Nat.le_refl _) _⟩
end Go.Proofs.Ytfkmiflddpjllaa
