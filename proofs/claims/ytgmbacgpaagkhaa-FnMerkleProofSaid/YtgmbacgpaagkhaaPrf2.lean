/- The proof of a leaf, of program and reference, for all arguments. Conditions: at most two million leaves. -/
import Derived.Test.YtgmbacgpaagkhaaPrf
import Derived.Test.YtgmbacgpaagkhaaIn
namespace Go.Proofs.Ytgmbacgpaagkhaa
open Go.RowKit
set_option linter.unusedVariables false
set_option linter.unusedSimpArgs false

set_option maxHeartbeats 2000000 in
theorem proof_any (A : Option Addr) (c : Nat) (zs : List Int) (i : Int) (w : World) (h : Sl w w.heap.size A zs) (hl : zs.length ≤ 2000000) :
    Calls Try.prog 19 #[.slice A zs.length c, .int .i64 i] w (FreshI (proofV zs i) w) := by
  by_cases hp : proofB zs i = true
  · obtain ⟨hv, h0, h1⟩ := proofB_parts hp
    rw [proofV_yes hp]
    obtain ⟨k, rfl⟩ := Int.eq_ofNat_of_zero_le h0
    exact callsIn_wide.1 (proof_in A c zs k hv (by omega) w h)
  · rw [proofV_no hp]
    have hB0 : Below w.heap.size w (((w.alloc (.cells #[.int .i64 i] 3)).alloc (.cells #[] 3)).alloc (.cells #[.slice (some ⟨w.heap.size + 1, 0, none⟩) 0 0] 22)) := (((Below.refl _ w).alloc (Nat.le_refl _) _).alloc (by simp) _).alloc (by simp; omega) _
    have hF : FreshI [] w (.returned (.slice (some ⟨w.heap.size + 1, 0, none⟩) 0 0)) (((w.alloc (.cells #[.int .i64 i] 3)).alloc (.cells #[] 3)).alloc (.cells #[.slice (some ⟨w.heap.size + 1, 0, none⟩) 0 0] 22)) := by
      have hO : OwnI (((w.alloc (.cells #[.int .i64 i] 3)).alloc (.cells #[] 3)).alloc (.cells #[.slice (some ⟨w.heap.size + 1, 0, none⟩) 0 0] 22)) w.heap.size (w.heap.size + 1) 0 [] := by
        have := (OwnI.made (w.alloc (.cells #[.int .i64 i] 3)) w.heap.size (by simp)).alloc (.cells #[.slice (some ⟨w.heap.size + 1, 0, none⟩) 0 0] 22)
        simpa using this
      exact hO.fresh hB0
    have hs := h.below hB0
    by_cases hv : leavesB zs = true
    · have HV := Lib.hid hv
      have hi : i < 0 ∨ (zs.length : Int) ≤ i := by
        simp only [proofB, hv, Bool.true_and, decide_eq_true_eq] at hp; omega
      clear hv hp
      by_cases h0 : i < 0
      · have q1 : decide (i < 0) = true := by simp; omega
        go_enter Try.func19, Try.ntmps19
        go_wp2_with (go_at_call 34; refine (leaves_any _ _ zs _ _ hs hl).mono ?_; rintro e w1 ⟨rfl, rfl⟩; rw [HV.out])
        go_ret
        exact hF
      · have q1 : decide (i < 0) = false := by simp; omega
        have q2 : decide ((zs.length : Int) ≤ i) = true := by simp; omega
        go_enter Try.func19, Try.ntmps19
        go_wp2_with (go_at_call 34; refine (leaves_any _ _ zs _ _ hs hl).mono ?_; rintro e w1 ⟨rfl, rfl⟩; rw [HV.out])
        go_ret
        exact hF
    · have hv' : leavesB zs = false := by simpa using hv
      have HV := Lib.hid hv'
      clear hv hv' hp
      go_enter Try.func19, Try.ntmps19
      go_wp2_with (go_at_call 34; refine (leaves_any _ _ zs _ _ hs hl).mono ?_; rintro e w1 ⟨rfl, rfl⟩; rw [HV.out])
      go_ret
      exact hF

theorem sib_int (iv : Nat) : (iv : Int) + 1 - (iv : Int) % 2 * 2 = ((Dag.sib iv : Nat) : Int) := by unfold Dag.sib; split <;> omega

set_option maxHeartbeats 4000000 in
theorem proofS_any (A : Option Addr) (c : Nat) (zs : List Int) (i : Int) (w : World) (h : Sl w w.heap.size A zs) (hl : zs.length ≤ 2000000) :
    Calls Try.prog 18 #[.slice A zs.length c, .int .i64 i] w (FreshI (proofV zs i) w) := by
  have hB0 : Below w.heap.size w (w.alloc (.cells #[] 3)) := (Below.refl _ w).alloc (Nat.le_refl _) _
  have hown0 := OwnI.made w w.heap.size (Nat.le_refl _)
  have hs := h.below hB0
  by_cases hp : proofB zs i = true
  · obtain ⟨hv, h0, h1⟩ := proofB_parts hp
    rw [proofV_yes hp]
    clear hp
    obtain ⟨i, rfl⟩ := Int.eq_ofNat_of_zero_le h0
    simp only [Int.toNat_natCast]
    have hi : i < zs.length := by omega
    obtain ⟨g1, g16, hz⟩ := leavesB_parts hv
    have HV := Lib.hid hv
    have HZ := Lib.hid hz
    clear hv hz h0 h1
    obtain ⟨b, off, rfl, hbl, hc⟩ := hs (by intro e; rw [e] at g1; simp at g1)
    go_enter Try.func18, Try.ntmps18
    go_wp2_with (first
      | (go_at_call 32; refine (leavesS_any _ _ zs _ _ hs hl).mono ?_; rintro e w1 ⟨rfl, rfl⟩; rw [HV.out])
      | (go_at_call 27; refine (inY _ _ _ _ (by omega) (by omega)).mono ?_; rintro e w1 ⟨rfl, rfl⟩))
    go_loopw [1, 5, 6, 7] (fun vi vo vl _ wr => ∃ k g cp b off c' : Nat, vi = .int .i64 ((i / 2 ^ k : Nat) : Int) ∧ vo = .slice (some ⟨g, 0, none⟩) (pfx zs i k).length cp ∧ vl = .slice (some ⟨b, off, none⟩) (lev zs k).length c' ∧ OwnI wr w.heap.size g cp (pfx zs i k) ∧ b ≠ g ∧ b < wr.heap.size ∧ (∀ j, j < (lev zs k).length → wr.cell? ⟨b, off + j, none⟩ = some (.int .i64 (nth (lev zs k) j))) ∧ Below w.heap.size w wr ∧ ∀ j, j < k → 1 < (lev zs j).length) (fun _ _ vl _ _ => sLen vl)
    case atStart => exact ⟨0, w.heap.size, 0, b, off, c, by simp, rfl, rfl, hown0, by omega, by simp; omega, hc, hB0, fun j hj => absurd hj (by omega)⟩
    case round =>
      clear hc hbl hs
      obtain ⟨k, g, cp, b', off', c', rfl, rfl, rfl, ho, hne, hlt, hc, hb, hall⟩ := hrel
      have hix := lev_idx hi k
      obtain ⟨l1, l2⟩ := lev_len g1 g16 k
      have hk4 := lev_stop g1 g16 hall
      have hpl := pfx_len zs i k
      have HIN := Lib.hid (lev_in HZ.out k)
      have HST := Lib.hid (show pfx zs i (k + 1) = pfx zs i k ++ pstep zs i k from rfl)
      have HDV := Lib.hid (show i / 2 ^ (k + 1) = i / 2 ^ k / 2 by simp [Nat.pow_succ, Nat.div_div_eq_div_mul])
      have hps : pstep zs i k = if Dag.sib (i / 2 ^ k) < (lev zs k).length then [nth (lev zs k) (Dag.sib (i / 2 ^ k))] else [] := rfl
      have HUP := Lib.hid (show lev zs (k + 1) = Dag.up (lev zs k) from rfl)
      have HA := Lib.hid hall
      clear hall
      obtain ⟨L, hL⟩ : ∃ L, L = lev zs k := ⟨_, rfl⟩
      obtain ⟨iv, hiv⟩ : ∃ iv, iv = i / 2 ^ k := ⟨_, rfl⟩
      obtain ⟨P0, hP0⟩ : ∃ P, P = pfx zs i k := ⟨_, rfl⟩
      rw [← hiv] at hix hps HDV ⊢
      rw [← hL] at hix l1 l2 HIN hps HUP hc ⊢
      rw [← hP0] at hpl HST ho ⊢
      have HL := Lib.hid hL
      have HP0 := Lib.hid hP0
      clear hL hiv hP0
      have hsv := sib_int iv
      have hge := ho.parts.1
      have hgl := ho.parts.2.1
      by_cases hlen : 1 < L.length
      · have t1 : decide ((1 : Int) < (L.length : Int)) = true := by simp; omega
        by_cases hsb : Dag.sib iv < L.length
        · rw [if_pos hsb] at hps
          have HPS := Lib.hid hps
          clear hps
          have hc1 := hc _ hsb
          obtain ⟨sb, hsbe⟩ : ∃ sb, sb = Dag.sib iv := ⟨_, rfl⟩
          rw [← hsbe] at hsv hsb hc1 HPS
          clear hsbe
          have j1 : (sb : Int) < (L.length : Int) := by omega
          go_wp2_with (at_builtin; refine wpList_one rfl _ _ rfl w.heap.size g cp P0 (P0 ++ [nth L sb]) (nth L sb) rfl rfl _ rfl (by simp) ho (by omega) hb.size ?_)
          intro g5 c5 w5 ho5 hg5 hf5
          have hb5 : Below w.heap.size w w5 := hb.grown hg5 hb.size (fun kk e => by injection e with e; omega)
          have hc5 : ∀ j, j < L.length → w5.cell? ⟨b', off' + j, none⟩ = some (.int .i64 (nth L j)) := fun j hj => hg5.cell (hc j hj) (by simp; omega)
          have hlt5 : b' < w5.heap.size := Nat.lt_of_lt_of_le hlt hg5.size
          have hS5 : Sl w5 w5.heap.size (some ⟨b', off', none⟩) L := fun _ => ⟨b', off', rfl, hlt5, hc5⟩
          have hgl5 := ho5.parts.2.1
          have HN := Lib.hid (show (P0 ++ [nth L sb]).length = P0.length + 1 by simp)
          clear ho hc hc1 hb hg5 hf5
          go_wp2_with (go_at_call 33; refine (up_any _ _ L _ hS5 HIN.out (by omega)).mono ?_; rintro e w6 ⟨g6, c6, hg6, rfl, u6, hc6, hm6, hb6⟩)
          have hB6 : Below w.heap.size w w6 := hb5.trans (hb6.mono hb5.size)
          have ho6 := ho5.below hb6 hgl5
          refine ⟨⟨k + 1, g5, c5, g6, 0, c6, ?_, ?_, ?_, ?_, by omega, u6.lt, ?_, hB6, fun j hj => ?_⟩, ?_⟩
          · rw [HDV.out]; go_num
          · rw [HST.out, HPS.out, HN.out]
          · rw [HUP.out]
          · rw [HST.out, HPS.out]; exact ho6
          · rw [HUP.out]; intro j hj; rw [Nat.zero_add]; exact u6.cell hj
          · by_cases e : j = k
            · rw [e, ← HL.out]; exact hlen
            · exact HA.out j (by omega)
          · simp only [sLen]; rw [Dag.up_len]; omega
        · rw [if_neg hsb] at hps
          have HPS := Lib.hid hps
          clear hps
          obtain ⟨sb, hsbe⟩ : ∃ sb, sb = Dag.sib iv := ⟨_, rfl⟩
          rw [← hsbe] at hsv hsb
          clear hsbe
          have j1 : decide ((sb : Int) < (L.length : Int)) = false := by simp; omega
          have j1' : decide (sb < L.length) = false := by simp; omega
          have hS5 : Sl wr wr.heap.size (some ⟨b', off', none⟩) L := fun _ => ⟨b', off', rfl, hlt, hc⟩
          go_wp2_with (go_at_call 33; refine (up_any _ _ L _ hS5 HIN.out (by omega)).mono ?_; rintro e w6 ⟨g6, c6, hg6, rfl, u6, hc6, hm6, hb6⟩)
          have hB6 : Below w.heap.size w w6 := hb.trans (hb6.mono hb.size)
          have ho6 := ho.below hb6 hgl
          refine ⟨⟨k + 1, g, cp, g6, 0, c6, ?_, ?_, ?_, ?_, by omega, u6.lt, ?_, hB6, fun j hj => ?_⟩, ?_⟩
          · rw [HDV.out]; go_num
          · rw [HST.out, HPS.out, List.append_nil]
          · rw [HUP.out]
          · rw [HST.out, HPS.out, List.append_nil]; exact ho6
          · rw [HUP.out]; intro j hj; rw [Nat.zero_add]; exact u6.cell hj
          · by_cases e : j = k
            · rw [e, ← HL.out]; exact hlen
            · exact HA.out j (by omega)
          · simp only [sLen]; rw [Dag.up_len]; omega
      · have t1 : decide ((1 : Int) < (L.length : Int)) = false := by simp; omega
        have t1' : decide (1 < L.length) = false := by simp; omega
        have HR := Lib.hid (proof_pfx 4 k zs i hk4 HA.out (by rw [← HL.out]; omega) hi)
        go_wp2_with fail
        go_ret
        rw [HR.out, ← HP0.out]
        exact ho.fresh hb
  · rw [proofV_no hp]
    have hF : FreshI [] w (.returned (.slice (some ⟨w.heap.size, 0, none⟩) 0 0)) (w.alloc (.cells #[] 3)) := hown0.fresh hB0
    by_cases hv : leavesB zs = true
    · have HV := Lib.hid hv
      have hi : i < 0 ∨ (zs.length : Int) - 1 < i := by
        simp only [proofB, hv, Bool.true_and, decide_eq_true_eq] at hp; omega
      clear hv hp
      go_enter Try.func18, Try.ntmps18
      go_wp2_with (first
        | (go_at_call 32; refine (leavesS_any _ _ zs _ _ hs hl).mono ?_; rintro e w1 ⟨rfl, rfl⟩; rw [HV.out])
        | (go_at_call 27; refine (inN _ _ _ _ hi).mono ?_; rintro e w1 ⟨rfl, rfl⟩))
      go_ret
      exact hF
    · have hv' : leavesB zs = false := by simpa using hv
      have HV := Lib.hid hv'
      clear hv hv' hp
      go_enter Try.func18, Try.ntmps18
      go_wp2_with (go_at_call 32; refine (leavesS_any _ _ zs _ _ hs hl).mono ?_; rintro e w1 ⟨rfl, rfl⟩; rw [HV.out])
      go_ret
      exact hF
end Go.Proofs.Ytgmbacgpaagkhaa
