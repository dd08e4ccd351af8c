/- The reference's joining of parts. Conditions: at most two million parts. -/
import Derived.Test.YthdbbllcckimbaaSpJ
import Derived.Test.YthdbbllcckimbaaCoinS
import Derived.Test.YthdbbllcckimbaaCoinJ2
namespace Go.Proofs.Ythdbbllcckimbaa
open Go.RowKit
set_option linter.unusedVariables false
set_option linter.unusedSimpArgs false
set_option maxRecDepth 4000

theorem quietYes (n lo hi : Int) {w : World} {a m : Nat} (h1 : lo ≤ n) (h2 : n ≤ hi) : Calls Try.prog 40 #[.int .i64 n, .int .i64 lo, .int .i64 hi] (w.drewN (a + m)) fun e w'' => e = .returned (.bool true) ∧ ∃ k, w'' = w.drewN (a + k) :=
  (in_yes n lo hi _ h1 h2).mono fun _ _ ⟨he, hw⟩ => ⟨he, m, hw.symm⟩
theorem quietNo (n lo hi : Int) {w : World} {a m : Nat} (h : n < lo ∨ hi < n) : Calls Try.prog 40 #[.int .i64 n, .int .i64 lo, .int .i64 hi] (w.drewN (a + m)) fun e w'' => e = .returned (.bool false) ∧ ∃ k, w'' = w.drewN (a + k) :=
  (in_no n lo hi _ h).mono fun _ _ ⟨he, hw⟩ => ⟨he, m, hw.symm⟩

set_option maxHeartbeats 2000000 in
theorem partsS_any (need : Int) (A : Option Addr) (c : Nat) (ps : List (Int × Int)) (w : World) (B : Nat) (h : Pl w B A ps) (hl : ps.length ≤ 2000000) :
    Calls Try.prog 53 #[.int .i64 need, .slice A ps.length c] w (Still w (.bool (partsB need ps))) := by
  go_enter Try.func53, Try.ntmps53
  go_wp2_with fail
  go_loopw [5] (fun i wr => ∃ k m : Nat, k ≤ ps.length ∧ i = .int .i64 k ∧ wr = w.drewN m ∧ PG ps k) (fun i _ => ps.length - (intOf i).toNat)
  case atStart => exact ⟨0, 0, Nat.zero_le _, rfl, rfl, PG.zero ps⟩
  case round =>
    obtain ⟨k, m, hk, rfl, rfl, hg⟩ := hrel
    have HG := Lib.hid hg
    clear hg
    by_cases hlt : k < ps.length
    · obtain ⟨b, off, rfl, hbl, hc1, hc2⟩ := h.at_ hlt
      have d1 : (k : Int) < (ps.length : Int) := by omega
      have d3 : (0 : Int) ≤ (k : Int) := by omega
      by_cases g1 : 0 ≤ fst_ ps k ∧ fst_ ps k ≤ 6
      · obtain ⟨g1, g2⟩ := g1
        by_cases g3 : 0 ≤ snd_ ps k ∧ snd_ ps k ≤ 250
        · obtain ⟨g3, g4⟩ := g3
          by_cases g5 : 0 < k
          · have r5 : decide (0 < (k : Int)) = true := by simp; omega
            obtain ⟨b', off', e', hbl', hd1, hd2⟩ := h.at_ (k := k - 1) (by omega)
            simp only [Option.some.injEq, Addr.mk.injEq, and_true] at e'
            obtain ⟨rfl, rfl⟩ := e'
            have x1 : ((k : Int) - 1).toNat = k - 1 := by omega
            have x2 : (0 : Int) ≤ (k : Int) - 1 := by omega
            have x3 : (k : Int) - 1 < ps.length := by omega
            have x4 : IntKind.i64.wrap ((k : Int) - 1) = (k : Int) - 1 := IntWalk.i64_in _ (by omega)
            by_cases g6 : fst_ ps (k - 1) < fst_ ps k
            · have r6 : decide (fst_ ps k ≤ fst_ ps (k - 1)) = false := by simp; omega
              have HS := Lib.hid (HG.out.step ⟨g1, g2, g3, g4, fun _ => g6⟩)
              go_wp2_with fail
              go_quiet ((go_at_call 40; first | with_reducible exact quietYes (fst_ ps k) 0 6 g1 g2 | with_reducible exact quietYes (snd_ ps k) 0 250 g3 g4))
              go_wp2_with fail
              exact ⟨⟨k + 1, _, by omega, by go_num, rfl, HS.out⟩, by simp [intOf]; omega⟩
            · have r6 : decide (fst_ ps k ≤ fst_ ps (k - 1)) = true := by simp; omega
              have HF := Lib.hid (partsB_at (need := need) k hlt (fun g => g6 (g.2.2.2.2 g5)))
              go_wp2_with fail
              go_quiet ((go_at_call 40; first | with_reducible exact quietYes (fst_ ps k) 0 6 g1 g2 | with_reducible exact quietYes (snd_ ps k) 0 250 g3 g4))
              go_wp2_with fail
              go_ret
              exact ⟨by rw [HF.out]; rfl, _, World.drewN_drewN _ _ _⟩
          · have r5 : decide (0 < (k : Int)) = false := by simp; omega
            have HS := Lib.hid (HG.out.step ⟨g1, g2, g3, g4, fun h => absurd h g5⟩)
            go_wp2_with fail
            go_quiet ((go_at_call 40; first | with_reducible exact quietYes (fst_ ps k) 0 6 g1 g2 | with_reducible exact quietYes (snd_ ps k) 0 250 g3 g4))
            go_wp2_with fail
            exact ⟨⟨k + 1, _, by omega, by go_num, rfl, HS.out⟩, by simp [intOf]; omega⟩
        · have HF := Lib.hid (partsB_at (need := need) k hlt (fun g => g3 ⟨g.2.2.1, g.2.2.2.1⟩))
          have g3' : snd_ ps k < 0 ∨ 250 < snd_ ps k := by omega
          have G3 := Lib.hid g3'
          clear g3 g3'
          go_wp2_with fail
          go_quiet ((go_at_call 40; first | with_reducible exact quietYes (fst_ ps k) 0 6 g1 g2 | with_reducible exact quietNo (snd_ ps k) 0 250 G3.out))
          go_wp2_with fail
          go_ret
          exact ⟨by rw [HF.out]; rfl, _, World.drewN_drewN _ _ _⟩
      · have HF := Lib.hid (partsB_at (need := need) k hlt (fun g => g1 ⟨g.1, g.2.1⟩))
        have g1' : fst_ ps k < 0 ∨ 6 < fst_ ps k := by omega
        have G1 := Lib.hid g1'
        clear g1 g1'
        go_wp2_with fail
        go_quiet ((go_at_call 40; exact quietNo (fst_ ps k) 0 6 G1.out))
        go_wp2_with fail
        go_ret
        exact ⟨by rw [HF.out]; rfl, _, World.drewN_drewN _ _ _⟩
    · obtain rfl : k = ps.length := by omega
      by_cases h1 : 1 ≤ need
      · by_cases h2 : need ≤ 7
        · by_cases h3 : need ≤ (ps.length : Int)
          · have HT := Lib.hid (partsB_true h1 h2 h3 HG.out)
            have q3 : decide (need ≤ (ps.length : Int)) = true := by simpa using h3
            go_wp2_with (go_at_call 40; refine (in_yes need 1 7 _ h1 h2).mono ?_; rintro e w1 ⟨rfl, rfl⟩)
            go_ret
            exact ⟨by rw [HT.out]; rfl, _, rfl⟩
          · have q3 : decide (need ≤ (ps.length : Int)) = false := by simp; omega
            have HF := Lib.hid (partsB_need (ps := ps) (need := need) (fun h => h3 h.2.2))
            go_wp2_with (go_at_call 40; refine (in_yes need 1 7 _ h1 h2).mono ?_; rintro e w1 ⟨rfl, rfl⟩)
            go_ret
            exact ⟨by rw [HF.out]; rfl, _, rfl⟩
        · have q2 : decide (need ≤ 7) = false := by simp; omega
          have HF := Lib.hid (partsB_need (ps := ps) (need := need) (fun h => h2 h.2.1))
          go_wp2_with (go_at_call 40; refine (in_no need 1 7 _ (.inr (by omega))).mono ?_; rintro e w1 ⟨rfl, rfl⟩)
          go_ret
          exact ⟨by rw [HF.out]; rfl, _, rfl⟩
      · have q1 : decide (1 ≤ need) = false := by simp; omega
        have HF := Lib.hid (partsB_need (ps := ps) (need := need) (fun h => h1 h.1))
        go_wp2_with (go_at_call 40; refine (in_no need 1 7 _ (.inl (by omega))).mono ?_; rintro e w1 ⟨rfl, rfl⟩)
        go_ret
        exact ⟨by rw [HF.out]; rfl, _, rfl⟩

set_option maxHeartbeats 4000000 in
theorem coinJoinS_any (need : Int) (A : Option Addr) (c : Nat) (ps : List (Int × Int)) (w : World) (h : Pl w w.heap.size A ps) (hl : ps.length ≤ 2000000) :
    Calls Try.prog 29 #[.int .i64 need, .slice A ps.length c] w (JoinPost need ps w) := by
  by_cases hv : partsB need ps = true
  · obtain ⟨p1, p2, p3, p4⟩ := partsB_parts hv
    obtain ⟨n, rfl⟩ := Int.eq_ofNat_of_zero_le (show 0 ≤ need by omega)
    have hps := p4.le
    have HV := Lib.hid hv
    have HP := Lib.hid p4
    clear hv p4
    go_enter Try.func29, Try.ntmps29
    go_wp2_with (go_at_call 53; refine (partsS_any _ _ _ ps _ _ h hl).mono ?_; rintro e w1 ⟨rfl, m1, rfl⟩; rw [HV.out])
    have hB0 : Below w.heap.size w ((w.drewN m1).alloc (.cells #[] 30)) := (below_n (Below.refl _ _) m1).alloc (Nat.le_refl _) _
    have ho0 : OwnS ((w.drewN m1).alloc (.cells #[] 30)) w.heap.size w.heap.size 0 [] (fun _ => (0, 0)) := OwnS.made (w.drewN m1) w.heap.size _ (Nat.le_refl _)
    go_loopw [6, 7] (fun v i wr => ∃ (k g cg : Nat) (H : Nat → Nat × Nat), k ≤ ps.length ∧ i = .int .i64 k ∧ v = .slice (some ⟨g, 0, none⟩) (shOf ps k).length cg ∧ OwnS wr w.heap.size g cg (shOf ps k) H ∧ Below w.heap.size w wr) (fun _ i _ => ps.length - (intOf i).toNat)
    case atStart => exact ⟨0, w.heap.size, 0, _, Nat.zero_le _, rfl, rfl, ho0, hB0⟩
    case round =>
      clear ho0 hB0
      obtain ⟨k, g, cg, H, hk, rfl, rfl, hown, hb⟩ := hrel
      have hsl := shOf_len ps k
      by_cases hlt : k < ps.length
      · obtain ⟨b, off, rfl, hbl, hc1, hc2⟩ := (h.below hb).at_ (k := k) hlt
        obtain ⟨x0, x1, _⟩ := HP.out k hlt
        have hgl := hown.parts.2.1
        have hsz := hb.size
        have hbr : b < wr.heap.size := by omega
        have sA : ∀ (o : Obj), (wr.drew.alloc o).cell? ⟨b, off + k * 2, none⟩ = some (.int .i64 (fst_ ps k)) := fun o => (World.cell?_alloc_lt wr.drew o ⟨b, off + k * 2, none⟩ hbr).trans hc1
        have HM : Hid (((wr.drew.alloc (.cells #[.int .i64 (snd_ ps k)] 3)).alloc (.cells #[.int .i64 (fst_ ps k + 1), .slice (some ⟨wr.heap.size, 0, none⟩) 1 1] 30)).heap[wr.heap.size + 1]? = some (.cells #[.int .i64 (fst_ ps k + 1), .slice (some ⟨wr.heap.size, 0, none⟩) 1 1] 30 (0, 0))) := by
          unfold Hid
          have := heap_alloc_new (wr.drew.alloc (.cells #[.int .i64 (snd_ ps k)] 3)) (.cells #[.int .i64 (fst_ ps k + 1), .slice (some ⟨wr.heap.size, 0, none⟩) 1 1] 30)
          simpa using this
        have HW : Hid (Wr ((wr.drew.alloc (.cells #[.int .i64 (snd_ ps k)] 3)).alloc (.cells #[.int .i64 (fst_ ps k + 1), .slice (some ⟨wr.heap.size, 0, none⟩) 1 1] 30)) wr.heap.size [snd_ ps k]) := by
          unfold Hid
          refine Wr.block (w := wr.drew.alloc (.cells #[.int .i64 (snd_ ps k)] 3)) ⟨#[.int .i64 (snd_ ps k)], _, heap_alloc_new wr.drew _, by simp, fun j hj => ?_⟩ (Below.heap_alloc _ _ _ (by simp))
          obtain rfl : j = 0 := by simpa using hj
          simp [nth]
        have HO : Hid (OwnS ((wr.drew.alloc (.cells #[.int .i64 (snd_ ps k)] 3)).alloc (.cells #[.int .i64 (fst_ ps k + 1), .slice (some ⟨wr.heap.size, 0, none⟩) 1 1] 30)) w.heap.size g cg (shOf ps k) H) := (hown.drew.alloc _).alloc _
        have HSU := Lib.hid (shOf_succ ps k)
        have HSL := Lib.hid hsl
        have hs8 : (shOf ps k).length ≤ 8 := by omega
        have a1 : IntKind.i64.wrap (fst_ ps k + 1) = fst_ ps k + 1 := IntWalk.i64_in _ (by omega)
        clear hsl
        go_wp2_with fail
        go_region_law (first
          | (refine step_shard rfl (.tmp 21) (.tmp 35) rfl w.heap.size g cg _ _ H (fst_ ps k + 1) [snd_ ps k] wr.heap.size 1 1 rfl HSU.out (by simp [Act.eval, Act.put]) (wr.heap.size + 1) (by simp [Act.eval, Act.put]) HM.out HO.out (by omega) (by simp; omega) hsz (by omega) HW.out (Nat.le_refl _) ?_; intro g' c' w5 ho hg hf))
        all_goals
          have hge := hown.parts.1
          have hB5 : Below w.heap.size w w5 := ((((below_n hb 1).alloc hb.size _).alloc (by simp; omega) _)).grown hg (by simp; omega) (fun kk e => by injection e with e; omega)
          clear hg hf hown hb sA hc1 hc2
          go_wp2_with fail
          exact ⟨⟨k + 1, g', c', _, by omega, by go_num, rfl, ho, hB5⟩, by simp [intOf]; omega⟩
      · obtain rfl : k = ps.length := by omega
        have hgs := hown.shl
        have HSB : Hid (shardsB (n : Int) (n : Int) (shOf ps ps.length) = true) := by
          unfold Hid
          refine shardsB_true (by omega) (by omega) (by omega) (by omega) (by rw [shOf_len]; omega) (by rw [shOf_len]; omega) ?_
          rw [shOf_len]; simpa using shOf_SG HP.out (by omega)
        clear hown
        have HSL := Lib.hid hsl
        clear hsl
        go_wp2_with fail
        refine (joinS_any n n _ cg (shOf ps ps.length) _ hgs HSB.out).mono ?_
        rintro e w2 ⟨out, ok, g2, c2, rfl, hj, hg2, u2, hoc, hcm, hb2⟩
        have hB2 : Below w.heap.size w w2 := hb.trans (hb2.mono hb.size)
        obtain ⟨hji, hol⟩ := JoinIs.shards HV.out hj
        have HJ := Lib.hid hji
        clear hj hji hb2
        cases ok with
        | true =>
          have hol1 : 0 < out.length := by have := hol rfl; omega
          have hc0 := u2.cell hol1
          clear hol
          go_wp2_with fail
          go_ret2
          exact ⟨nth out 0, true, rfl, by have := HJ.out; simpa using this, hB2⟩
        | false =>
          clear hol
          go_wp2_with fail
          go_ret2
          exact ⟨0, false, rfl, by have := HJ.out; simpa using this, hB2⟩
  · have hv' : partsB need ps = false := by simpa using hv
    have HV := Lib.hid hv'
    clear hv hv'
    go_enter Try.func29, Try.ntmps29
    go_wp2_with (go_at_call 53; refine (partsS_any _ _ _ ps _ _ h hl).mono ?_; rintro e w1 ⟨rfl, m1, rfl⟩; rw [HV.out])
    go_ret2
    exact ⟨0, false, rfl, .inl ⟨HV.out, rfl, rfl⟩, below_n (Below.refl _ _) m1⟩
end Go.Proofs.Ythdbbllcckimbaa
