/- The walk of FnSlotsPrefix. No condition. -/
import Derived.Test.YtgfjaoajjcolcaaSlotsD
namespace Go.Proofs.Ytgfjaoajjcolcaa
open Go.RowKit
set_option linter.unusedVariables false
set_option linter.unusedSimpArgs false

theorem prefP_nil (b : List (Int × Int)) : prefP [] b = true := by simp [prefP]
theorem prefP_cut (b : List (Int × Int)) (k : Nat) : prefP (b.take k) b = true := by simp [prefP, List.take_prefix]
theorem prefP_both (a b : List (Int × Int)) : (prefP a b && prefP b a) = eqP a b := by
  simp only [prefP, eqP]
  by_cases h : a = b
  · subst h; simp
  · have : ¬ (a <+: b ∧ b <+: a) := fun ⟨h1, h2⟩ => h (h1.eq_of_length (Nat.le_antisymm h1.length_le h2.length_le))
    by_cases h1 : a <+: b <;> by_cases h2 : b <+: a <;> simp_all

set_option maxHeartbeats 4000000 in
theorem same_any (A A' : Option Addr) (l l' : List (Int × Int)) (c c' : Nat) (B B' : Nat) (w : World) (h : Pl w B A l) (h' : Pl w B' A' l') (hl : l.length ≤ 2000000) (hl' : l'.length ≤ 2000000) :
    Calls Try.prog 40 #[.slice A l.length c, .slice A' l'.length c'] w (Still w (.bool (eqP l l'))) := by
  by_cases hn : l.length = l'.length
  · have hn' : ((l.length : Int) != l'.length) = false := by simp; omega
    have HN := Lib.hid hn
    clear hn
    go_enter Try.func40, Try.ntmps40
    go_wp2_with fail
    go_loopw [5] (fun i wr => ∃ k m : Nat, k ≤ l.length ∧ i = .int .i64 k ∧ wr = w.drewN m ∧ ∀ j, j < k → fst_ l j = fst_ l' j ∧ snd_ l j = snd_ l' j) (fun i _ => l.length - (intOf i).toNat)
    case atStart => exact ⟨0, 0, Nat.zero_le _, rfl, rfl, fun j hj => absurd hj (by omega)⟩
    case round =>
      obtain ⟨k, m, hk, rfl, rfl, heq⟩ := hrel
      have HQ := Lib.hid heq
      clear heq
      by_cases hlt : k < l.length
      · have c1 : (k : Int) < (l.length : Int) := by omega
        have c3 : (0 : Int) ≤ (k : Int) := by omega
        have hlt' : k < l'.length := by have := HN.out; omega
        obtain ⟨b, off, rfl, hbl, hc1, hc2⟩ := h.at_ hlt
        obtain ⟨b', off', rfl, hbl', hc1', hc2'⟩ := h'.at_ hlt'
        have c2 : (k : Int) < (l'.length : Int) := by omega
        have hne := fun W => neq_el (fst_ l k) (snd_ l k) (fst_ l' k) (snd_ l' k) W
        by_cases hv1 : fst_ l k = fst_ l' k
        · have e1 : (fst_ l k == fst_ l' k) = true := by simpa using hv1
          by_cases hv2 : snd_ l k = snd_ l' k
          · have e2 : (snd_ l k == snd_ l' k) = true := by simpa using hv2
            have HV := Lib.hid (And.intro hv1 hv2)
            clear hv1 hv2
            go_wp2_with fail
            go_quiet (fail)
            go_wp2_with fail
            exact ⟨⟨k + 1, _, by omega, by go_num, rfl, fun j hj => by
              by_cases e : j = k
              · rw [e]; exact HV.out
              · exact HQ.out j (by omega)⟩, by simp [intOf]; omega⟩
          · have e2 : (snd_ l k == snd_ l' k) = false := by simpa using hv2
            have HF := Lib.hid (eqP_false (a := l) (b := l') k (fun h => hv2 h.2))
            clear hv1 hv2
            go_wp2_with fail
            go_quiet (fail)
            go_wp2_with fail
            go_ret
            exact ⟨by rw [HF.out]; rfl, _, World.drewN_drewN _ _ _⟩
        · have e1 : (fst_ l k == fst_ l' k) = false := by simpa using hv1
          have HF := Lib.hid (eqP_false (a := l) (b := l') k (fun h => hv1 h.1))
          clear hv1
          go_wp2_with fail
          go_quiet (fail)
          go_wp2_with fail
          go_ret
          exact ⟨by rw [HF.out]; rfl, _, World.drewN_drewN _ _ _⟩
      · have HT := Lib.hid (eqP_true HN.out (fun j hj => HQ.out j (by omega)))
        go_wp2_with fail
        go_ret
        exact ⟨by rw [HT.out]; rfl, _, rfl⟩
  · have hn' : ((l.length : Int) != l'.length) = true := by simp; omega
    have hf : eqP l l' = false := by simp [eqP]; intro e; exact hn (by rw [e])
    rw [hf]
    clear hf
    go_enter Try.func40, Try.ntmps40
    go_wp2_with fail
    go_ret
    exact ⟨rfl, 0, rfl⟩

set_option maxHeartbeats 4000000 in
theorem walk_FnSlotsPrefix (a0 : Option Addr) (len0 cap0 : Nat) (z0 : List Int) (a1 : Option Addr) (len1 cap1 : Nat) (z1 : List Int) (w : World) (w0 : Ints .u8 w w.heap.size a0 len0 cap0 z0) (w1 : Ints .u8 w w.heap.size a1 len1 cap1 z1) :
    Calls Try.prog 13 #[.slice a0 len0 cap0, .slice a1 len1 cap1] w fun e w' => e = .returned (.bool true) ∧ Below w.heap.size w w' := by
  by_cases h1 : len0 ≤ 1048576
  · by_cases h2 : len1 ≤ 1048576
    · have g1 : decide (1048576 < len0) = false := by simp; omega
      have g2 : decide (1048576 < len1) = false := by simp; omega
      go_enter Try.func13, Try.ntmps13
      go_wp2_with fail
      refine (drawSlots_any a0 len0 cap0 z0 _ w0).mono ?_
      rintro e w2 ⟨ga, ca, gb, cb, l, l', rfl, hA, hB, hla, hlb, hca, hca', hcb, hcb', hbel⟩
      unfold maxLen at hca' hcb'
      go_wp2_with fail
      refine (pref_any (some ⟨ga, 0, none⟩) (some ⟨gb, 0, none⟩) l l' ca cb _ _ _ hA hB (by omega) (by omega) hcb (by omega)).mono ?_
      rintro e w3 ⟨rfl, n3, rfl⟩
      go_wp2_with fail
      refine (prefS_any (some ⟨ga, 0, none⟩) (some ⟨gb, 0, none⟩) l l' ca cb _ _ _ (hA.drewN n3) (hB.drewN n3) (by omega) (by omega)).mono ?_
      rintro e w3 ⟨rfl, n4, rfl⟩
      have hkm : ((len1 : Int) % (l'.length + 1)) = ((len1 % (l'.length + 1) : Nat) : Int) := by simp
      have hkl : len1 % (l'.length + 1) < l'.length + 1 := Nat.mod_lt _ (by omega)
      obtain ⟨k, hk⟩ : ∃ k, k = len1 % (l'.length + 1) := ⟨_, rfl⟩
      rw [← hk] at hkm hkl
      have HK := Lib.hid hk
      clear hk
      have hW : Below w.heap.size w ((w2.drewN n3).drewN n4) := below_n (below_n hbel n3) n4
      obtain ⟨W, hWe⟩ : ∃ W, W = (w2.drewN n3).drewN n4 := ⟨_, rfl⟩
      have hAW : Pl W W.heap.size (some ⟨ga, 0, none⟩) l := by rw [hWe]; exact (hA.drewN n3).drewN n4
      have hBW : Pl W W.heap.size (some ⟨gb, 0, none⟩) l' := by rw [hWe]; exact (hB.drewN n3).drewN n4
      rw [← hWe] at hW ⊢
      clear hWe hA hB hbel
      have hAW0 := hAW.below ((Below.refl _ W).alloc (Nat.le_refl _) (.cells #[] 61))
      have hBW0 := hBW.below ((Below.refl _ W).alloc (Nat.le_refl _) (.cells #[] 61))
      have hW0 : Below w.heap.size w (W.alloc (.cells #[] 61)) := hW.alloc hW.size _
      have hcut : (l'.take k).length = k := by simp; omega
      have hpk := fun W' => pref_any (some ⟨gb, 0, none⟩) (some ⟨gb, 0, none⟩) (l'.take k) l' cb cb W.heap.size W.heap.size W'
      rw [hcut, prefP_cut] at hpk
      have HPK := Lib.hid hpk
      clear hpk hcut
      have hb12 := prefP_both l l'
      have HB12 := Lib.hid hb12
      clear hb12
      by_cases ho : prefP l l' = true
      · rw [ho]
        rw [ho] at HB12
        clear ho
        go_wp2_with fail
        refine (pref_any (some ⟨W.heap.size, 0, none⟩) (some ⟨gb, 0, none⟩) [] l' 0 cb W.heap.size W.heap.size _ (Pl.nil _ _ _) hBW0 (by simp) (by omega) hcb (by omega)).mono ?_
        rintro e w3 ⟨rfl, n5, rfl⟩
        rw [prefP_nil]
        go_wp2_with fail
        refine (HPK.out _ ((hBW0.drewN n5).take k) (hBW0.drewN n5) (by omega) (by omega) hcb (by omega)).mono ?_
        rintro e w3 ⟨rfl, n6, rfl⟩
        go_wp2_with fail
        refine (pref_any (some ⟨gb, 0, none⟩) (some ⟨ga, 0, none⟩) l' l cb ca _ _ _ (hBW0.drewN _) (hAW0.drewN _) (by omega) (by omega) hca (by omega)).mono ?_
        rintro e w3 ⟨rfl, n7, rfl⟩
        go_wp2_with fail
        refine (same_any (some ⟨ga, 0, none⟩) (some ⟨gb, 0, none⟩) l l' ca cb _ _ _ (hAW0.drewN _) (hBW0.drewN _) (by omega) (by omega)).mono ?_
        rintro e w3 ⟨rfl, n8, rfl⟩
        rw [← HB12.out]
        go_wp2_with fail
        go_ret
        exact ⟨by simp, by repeat (first | exact hW0 | refine below_n ?_ _)⟩
      · have ho' : prefP l l' = false := by simpa using ho
        rw [ho']
        rw [ho'] at HB12
        clear ho ho'
        go_wp2_with fail
        refine (pref_any (some ⟨W.heap.size, 0, none⟩) (some ⟨gb, 0, none⟩) [] l' 0 cb W.heap.size W.heap.size _ (Pl.nil _ _ _) hBW0 (by simp) (by omega) hcb (by omega)).mono ?_
        rintro e w3 ⟨rfl, n5, rfl⟩
        rw [prefP_nil]
        go_wp2_with fail
        refine (HPK.out _ ((hBW0.drewN n5).take k) (hBW0.drewN n5) (by omega) (by omega) hcb (by omega)).mono ?_
        rintro e w3 ⟨rfl, n6, rfl⟩
        go_wp2_with fail
        refine (same_any (some ⟨ga, 0, none⟩) (some ⟨gb, 0, none⟩) l l' ca cb _ _ _ (hAW0.drewN _) (hBW0.drewN _) (by omega) (by omega)).mono ?_
        rintro e w3 ⟨rfl, n8, rfl⟩
        rw [← HB12.out]
        go_wp2_with fail
        go_ret
        exact ⟨by simp, by repeat (first | exact hW0 | refine below_n ?_ _)⟩
    · have g1 : decide (1048576 < len0) = false := by simp; omega
      have g2 : decide (1048576 < len1) = true := by simp; omega
      go_enter Try.func13, Try.ntmps13
      go_wp2_with fail
      go_ret
      exact ⟨rfl, Below.refl _ _⟩
  · have g1 : decide (1048576 < len0) = true := by simp; omega
    go_enter Try.func13, Try.ntmps13
    go_wp2_with fail
    go_ret
    exact ⟨rfl, Below.refl _ _⟩

end Go.Proofs.Ytgfjaoajjcolcaa
