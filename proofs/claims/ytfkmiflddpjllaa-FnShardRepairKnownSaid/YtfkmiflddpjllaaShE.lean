/- Shards are compared, marked and held by the laws. Conditions: the lists are within two million elements. -/
import Derived.Test.YtfkmiflddpjllaaShL
import Derived.Test.YtfkmiflddpjllaaMark
namespace Go.Proofs.Ytfkmiflddpjllaa
open Go.RowKit
set_option linter.unusedVariables false
set_option linter.unusedSimpArgs false

set_option maxHeartbeats 2000000 in
theorem eqShard_any (a a' : Int) (A A' : Option Addr) (l l' : List Int) (c c' : Nat) (w : World) (h : Sl w w.heap.size A l) (h' : Sl w w.heap.size A' l') (hl : l.length ≤ 2000000) (hl' : l'.length ≤ 2000000) :
    Calls Try.prog 25 #[.agg #[.int .i64 a, .slice A l.length c], .agg #[.int .i64 a', .slice A' l'.length c']] w (BoolW (sameB a l a' l') w) := by
  obtain ⟨W, hW⟩ : ∃ W, W = (w.alloc (.cells #[.int .i64 a, .slice A l.length c] 30)).alloc (.cells #[.int .i64 a', .slice A' l'.length c'] 30) := ⟨_, rfl⟩
  have hB : Below w.heap.size w W := by rw [hW]; exact ((Below.refl _ _).alloc (Nat.le_refl _) _).alloc (by simp) _
  rw [sameB_iff]
  by_cases ha : a = a'
  · have g1 : (a != a') = false := by simpa using ha
    have HA : Hid ((decide (a = a') && eqTo l l') = eqTo l l') := by unfold Hid; rw [decide_eq_true ha]; rfl
    rw [HA.out]
    clear ha HA
    go_enter Try.func25, Try.ntmps25
    go_wp2_with fail
    refine (eqIntS_any A A' l l' c c' w.heap.size w.heap.size _ ?_ ?_ hl hl').mono ?_
    · rw [← hW]; exact h.below hB
    · rw [← hW]; exact h'.below hB
    rw [← hW]
    clear hW
    rintro e w5 ⟨rfl, n5, rfl⟩
    cases hE : eqTo l l' with
    | true =>
      have HE := Lib.hid hE
      clear hE
      go_wp2_with fail
      go_ret
      exact ⟨by rw [HE.out]; rfl, belowN hB _⟩
    | false =>
      have HE := Lib.hid hE
      clear hE
      go_wp2_with fail
      go_ret
      exact ⟨by rw [HE.out]; rfl, belowN hB _⟩
  · have g1 : (a != a') = true := by simpa using ha
    have HA : Hid ((decide (a = a') && eqTo l l') = false) := by unfold Hid; rw [decide_eq_false ha]; rfl
    rw [HA.out]
    rw [hW] at hB
    clear ha hW
    go_enter Try.func25, Try.ntmps25
    go_wp2_with fail
    go_ret
    exact ⟨rfl, hB⟩

set_option maxHeartbeats 4000000 in
theorem eqShardS_any (A A' : Option Addr) (l l' : List Sh) (c c' : Nat) (w : World) (h : ShL w w.heap.size A l) (h' : ShL w w.heap.size A' l') (hl : l.length ≤ 2000000) (hl' : l'.length ≤ 2000000)
    (hv : ∀ j, j < l.length → (val_ l j).length ≤ 2000000) (hv' : ∀ j, j < l'.length → (val_ l' j).length ≤ 2000000) :
    Calls Try.prog 26 #[.slice A l.length c, .slice A' l'.length c'] w (BoolW (eqSh l l') w) := by
  have HVL := Lib.hid hv
  have HVL' := Lib.hid hv'
  clear hv hv'
  by_cases hn : l.length = l'.length
  · have hn' : ((l.length : Int) != l'.length) = false := by simp; omega
    have HN := Lib.hid hn
    clear hn
    go_enter Try.func26, Try.ntmps26
    go_wp2_with fail
    go_loopw [5] (fun i wr => ∃ k : Nat, k ≤ l.length ∧ i = .int .i64 k ∧ Below w.heap.size w wr ∧ ∀ j, j < k → num_ l j = num_ l' j ∧ val_ l j = val_ l' j) (fun i _ => l.length - (intOf i).toNat)
    case atStart => exact ⟨0, Nat.zero_le _, rfl, Below.refl _ _, fun j hj => absurd hj (by omega)⟩
    case round =>
      obtain ⟨k, hk, rfl, hb, heq⟩ := hrel
      have HQ := Lib.hid heq
      clear heq
      by_cases hlt : k < l.length
      · obtain ⟨b, off, B1, d1, rfl, hbl, hc1, hc2, _, hs1⟩ := (h.below hb).at_ hlt
        have hlt' : k < l'.length := by have := HN.out; omega
        obtain ⟨b', off', B2, d2, rfl, hbl', hc1', hc2', _, hs2⟩ := (h'.below hb).at_ hlt'
        have e1 : (k : Int) < (l.length : Int) := by omega
        have e2 : (k : Int) < (l'.length : Int) := by omega
        have e3 : (0 : Int) ≤ (k : Int) := by omega
        have hv1 := HVL.out k hlt
        have hv2 := HVL'.out k hlt'
        have hs1' : Sl wr.drew wr.drew.heap.size B1 (val_ l k) := hs1.more hb.size
        have hs2' : Sl wr.drew wr.drew.heap.size B2 (val_ l' k) := hs2.more hb.size
        by_cases hq : num_ l k = num_ l' k ∧ val_ l k = val_ l' k
        · have HV := Lib.hid hq
          have HS : Hid (sameB (num_ l k) (val_ l k) (num_ l' k) (val_ l' k) = true) := by unfold Hid; simp only [sameB, decide_eq_true_eq]; exact hq
          clear hq
          go_wp2_with fail
          go_region_with (go_at_call 25; refine (eqShard_any (num_ l k) (num_ l' k) B1 B2 (val_ l k) (val_ l' k) d1 d2 _ hs1' hs2' hv1 hv2).mono ?_; rintro e w1 ⟨rfl, hb1⟩; rw [HS.out])
          all_goals
            have hB1 : Below w.heap.size w w1 := (belowN hb 1).trans (hb1.mono hb.size)
            clear hb1
            go_wp2_with fail
            exact ⟨⟨k + 1, by omega, by go_num, hB1, fun j hj => by
              by_cases e : j = k
              · rw [e]; exact HV.out
              · exact HQ.out j (by omega)⟩, by simp [intOf]; omega⟩
        · have HF := Lib.hid (eqSh_false (a := l) (b := l') k hq)
          have HS : Hid (sameB (num_ l k) (val_ l k) (num_ l' k) (val_ l' k) = false) := by unfold Hid; simp only [sameB, decide_eq_false_iff_not]; exact hq
          clear hq
          go_wp2_with fail
          go_region_with (go_at_call 25; refine (eqShard_any (num_ l k) (num_ l' k) B1 B2 (val_ l k) (val_ l' k) d1 d2 _ hs1' hs2' hv1 hv2).mono ?_; rintro e w1 ⟨rfl, hb1⟩; rw [HS.out])
          all_goals
            have hB1 : Below w.heap.size w w1 := (belowN hb 1).trans (hb1.mono hb.size)
            clear hb1
            go_wp2_with fail
            go_ret
            exact ⟨by rw [HF.out]; rfl, hB1⟩
      · have HT := Lib.hid (eqSh_true HN.out (fun j hj => HQ.out j (by omega)))
        go_wp2_with fail
        go_ret
        exact ⟨by rw [HT.out]; rfl, hb⟩
  · have hn' : ((l.length : Int) != l'.length) = true := by simp; omega
    have hf : eqSh l l' = false := by simp [eqSh]; intro e; exact hn (by rw [e])
    rw [hf]
    clear hf
    go_enter Try.func26, Try.ntmps26
    go_wp2_with fail
    go_ret
    exact ⟨rfl, Below.refl _ _⟩


/-- Only the blocks of S have been written. -/
def Tch (S : Nat → Prop) (w w' : World) : Prop := Below 0 w w' ∧ ∀ q, q < w.heap.size → ¬ S q → w'.heap[q]? = w.heap[q]?
theorem Tch.refl (S : Nat → Prop) (w : World) : Tch S w w := ⟨Below.refl _ _, fun _ _ _ => rfl⟩
theorem Tch.trans {S : Nat → Prop} {a b c : World} (h : Tch S a b) (k : Tch S b c) : Tch S a c := ⟨h.1.trans (k.1.mono (Nat.zero_le _)), fun q hq hs => (k.2 q (Nat.lt_of_lt_of_le hq h.1.size) hs).trans (h.2 q hq hs)⟩
theorem Tch.set {S : Nat → Prop} {a b : World} (h : Tch S a b) (p : Addr) (v : Value) (hp : S p.block) : Tch S a (b.setCell p v) := ⟨h.1.setCell (Nat.zero_le _) v, fun q hq hs => (Below.heap_setCell _ _ _ _ (fun e => hs (by rw [e]; exact hp))).trans (h.2 q hq hs)⟩
theorem Tch.grown {S : Nat → Prop} {a b c : World} {r : Nat} (h : Tch S a b) (hg : b.grownBy c (some r)) (hr : S r) : Tch S a c :=
  ⟨h.1.grown hg (Nat.zero_le _) (fun _ _ => Nat.zero_le _), fun q hq hs => (hg.block q (Nat.lt_of_lt_of_le hq h.1.size) (fun e => hs (by injection e with e; rw [e]; exact hr))).trans (h.2 q hq hs)⟩
theorem Tch.below {S : Nat → Prop} {a b : World} (h : Tch S a b) {B : Nat} (hB : B ≤ a.heap.size) (hS : ∀ q, S q → B ≤ q) : Below B a b :=
  ⟨h.1.os, h.1.tape, h.1.output, h.1.size, fun q hq => h.2 q (by omega) (fun hs => by have := hS q hs; omega)⟩
theorem Tch.wr {S : Nat → Prop} {a b : World} (h : Tch S a b) {g : Nat} {l : List Int} (hw : Wr a g l) (hS : ¬ S g) : Wr b g l := hw.block (h.2 g hw.lt hS)
theorem Tch.own {S : Nat → Prop} {a b : World} (h : Tch S a b) {B g c : Nat} {l : List Sh} {H : Nat → Nat × Nat} (ho : OwnS a B g c l H) (hS : ¬ S g) (hH : ∀ j, j < l.length → ¬ S (H j).1) : OwnS b B g c l H :=
  ho.same (h.2 g ho.parts.2.1 hS) fun j hj => h.2 _ (ho.at_ hj).2.2.2.2.1 (hH j hj)

/-- The mark of shard j. -/
def kf (l : List Sh) (k : Nat) : Nat → Nat
  | 0 => k
  | j + 1 => kf l k j + 1 + (val_ l j).length
theorem kf_as {l l' : List Sh} {k n : Nat} (h : ∀ j, j < n → (val_ l j).length = (val_ l' j).length) : kf l k n = kf l' k n := by
  induction n with
  | zero => rfl
  | succ n ih => rw [kf, kf, ih (fun j hj => h j (by omega)), h n (by omega)]
theorem kf_mono (l : List Sh) (k : Nat) : ∀ {m n : Nat}, m ≤ n → kf l k m ≤ kf l k n
  | m, 0, h => by rw [Nat.le_zero.1 h]; exact Nat.le_refl _
  | m, n + 1, h => by
    by_cases e : m = n + 1
    · rw [e]; exact Nat.le_refl _
    · exact Nat.le_trans (kf_mono l k (show m ≤ n by omega)) (by rw [kf]; omega)
def Marked (l : List Sh) (k n : Nat) : Prop := ∀ j, j < n → num_ l j = ((kf l k j : Nat) : Int) ∧ val_ l j = marks (kf l k j + 1) (val_ l j).length

def MarkS (l : List Sh) (B g c k : Nat) (H : Nat → Nat × Nat) (w : World) (e : Ending) (w' : World) : Prop :=
  ∃ l' : List Sh, l'.length = l.length ∧ (∀ j, j < l.length → (val_ l' j).length = (val_ l j).length) ∧ Marked l' k l.length ∧ e = .returned (.int .i64 ((kf l k l.length : Nat) : Int)) ∧ OwnS w' B g c l' H ∧ Tch (fun q => q = g ∨ ∃ j, j < l.length ∧ q = (H j).1) w w'

set_option maxHeartbeats 2000000 in
theorem markS_any (B g c k : Nat) (l : List Sh) (H : Nat → Nat × Nat) (w : World) (h : OwnS w B g c l H) (hd : Dst H l.length) (hk : kf l k l.length ≤ 2000000) (hl : l.length ≤ 2000000) :
    Calls Try.prog 27 #[.slice (some ⟨g, 0, none⟩) l.length c, .int .i64 (k : Int)] w (MarkS l B g c k H w) := by
  have HD := Lib.hid hd
  clear hd
  go_enter Try.func27, Try.ntmps27
  go_wp2_with fail
  go_loopw [1, 5] (fun q i wr => ∃ (m : Nat) (lm : List Sh), m ≤ l.length ∧ i = .int .i64 m ∧ q = .int .i64 ((kf l k m : Nat) : Int) ∧ lm.length = l.length ∧ (∀ j, j < l.length → (val_ lm j).length = (val_ l j).length) ∧ Marked lm k m ∧ OwnS wr B g c lm H ∧ Tch (fun q => q = g ∨ ∃ j, j < l.length ∧ q = (H j).1) w wr) (fun _ i _ => l.length - (intOf i).toNat)
  case atStart => exact ⟨0, l, Nat.zero_le _, rfl, rfl, rfl, fun _ _ => rfl, fun j hj => absurd hj (by omega), h, Tch.refl _ _⟩
  case round =>
    obtain ⟨m, lm, hm, rfl, rfl, hlm, hlen, hmk, ho, ht⟩ := hrel
    have HLM := Lib.hid hlm
    have HLEN := Lib.hid hlen
    have HMK := Lib.hid hmk
    clear hlm hlen hmk
    by_cases hlt : m < l.length
    · have hml : m < lm.length := by have := HLM.out; omega
      have hkb := kf_mono l k (show m + 1 ≤ l.length from hlt)
      have hkm : kf l k (m + 1) = kf l k m + 1 + (val_ l m).length := rfl
      have hlm2 := HLEN.out m hlt
      obtain ⟨c1, c2, c3, c4, c5, c6, c7⟩ := ho.at_ hml
      have f1 := ho.frozen (m * 2)
      obtain ⟨K, hK⟩ : ∃ K, K = kf l k m := ⟨_, rfl⟩
      rw [← hK] at hkm ⊢
      have HK := Lib.hid hK
      have HKM := Lib.hid hkm
      have hK2 : K + 1 + (val_ l m).length ≤ 2000000 := by omega
      clear hK hkb hkm
      have ho1 := ho.num m (K : Int) hml
      have ht1 := ht.set ⟨g, m * 2, none⟩ (.int .i64 (K : Int)) (.inl rfl)
      have hml1 : m < (lm.set m ((K : Int), val_ lm m)).length := by simpa using hml
      obtain ⟨e1, e2, e3, e4, e5, e6, e7⟩ := ho1.at_ hml1
      have hv1 : val_ (lm.set m ((K : Int), val_ lm m)) m = val_ lm m := by rw [val_set _ _ _ _ hml, if_pos rfl]
      rw [hv1] at e2 e6
      have hM := mark_any (H m).1 (H m).2 (K + 1) (val_ lm m) _ e6 (by omega) (by omega)
      rw [show ((K + 1 : Nat) : Int) = (K : Int) + 1 by omega] at hM
      have HM := Lib.hid hM
      have HLM2 := Lib.hid hlm2
      have i1 : (m : Int) < (l.length : Int) := by omega
      clear hM hv1 hlm2 e6
      go_wp2_with fail
      refine HM.out.mono ?_
      rintro e w2 ⟨rfl, u2, hg2, hs2⟩
      have hvm : (val_ (lm.set m ((K : Int), val_ lm m)) m) = val_ lm m := by rw [val_set _ _ _ _ hml, if_pos rfl]
      have ho2 := ho1.vals m (marks (K + 1) (val_ lm m).length) hml1 (by rw [hvm, marks_len]) (by rw [List.length_set, HLM.out]; exact HD.out) hg2 u2
      have ht2 := ht1.grown hg2 (.inr ⟨m, hlt, rfl⟩)
      rw [num_set _ _ _ _ hml, if_pos rfl, List.set_set] at ho2
      obtain ⟨lm', hlm'⟩ : ∃ x, x = lm.set m ((K : Int), marks (K + 1) (val_ lm m).length) := ⟨_, rfl⟩
      rw [← hlm'] at ho2
      have hnn : ∀ j, num_ lm' j = if j = m then (K : Int) else num_ lm j := fun j => by rw [hlm', num_set _ _ _ _ hml]
      have hvv : ∀ j, val_ lm' j = if j = m then marks (K + 1) (val_ lm m).length else val_ lm j := fun j => by rw [hlm', val_set _ _ _ _ hml]
      have q1 : lm'.length = l.length := by rw [hlm', List.length_set]; exact HLM.out
      have q2 : ∀ j, j < l.length → (val_ lm' j).length = (val_ l j).length := fun j hj => by
        rw [hvv j]; by_cases e : j = m
        · rw [if_pos e, marks_len, HLM2.out, e]
        · rw [if_neg e]; exact HLEN.out j hj
      have q3 : Marked lm' k (m + 1) := fun j hj => by
        have hkj : kf lm' k j = kf l k j := kf_as (fun i hi => q2 i (by omega))
        rw [hkj, hnn j, hvv j]
        by_cases e : j = m
        · rw [if_pos e, if_pos e, e, ← HK.out, marks_len]; exact ⟨rfl, rfl⟩
        · rw [if_neg e, if_neg e]
          have := HMK.out j (by omega)
          rwa [kf_as (l := lm) (l' := l) (fun i hi => HLEN.out i (by omega))] at this
      have hv : ((K + 1 + (val_ lm m).length : Nat) : Int) = ((kf l k (m + 1) : Nat) : Int) := by rw [HKM.out, HLM2.out]
      rw [hv]
      have Q1 := Lib.hid q1
      have Q2 := Lib.hid q2
      have Q3 := Lib.hid q3
      clear hv hvm hnn hvv hlm' q1 q2 q3 ho1 ht1 ho ht u2 hg2 hs2 c1 c2 e1 e2
      go_wp2_with fail
      exact ⟨⟨m + 1, lm', by omega, by go_num, rfl, Q1.out, Q2.out, Q3.out, ho2, ht2⟩, by simp [intOf] <;> omega⟩
    · have hml : l.length = m := by omega
      subst hml
      go_wp2_with fail
      go_ret
      exact ⟨lm, HLM.out, HLEN.out, HMK.out, rfl, ho, ht⟩

set_option maxHeartbeats 2000000 in
theorem heldS_any (B g c k : Nat) (l : List Sh) (H : Nat → Nat × Nat) (w : World) (h : OwnS w B g c l H) (hm : Marked l k l.length) (hk : kf l k l.length ≤ 2000000) (hl : l.length ≤ 2000000) :
    Calls Try.prog 40 #[.slice (some ⟨g, 0, none⟩) l.length c, .int .i64 (k : Int)] w fun e w' => e = .returned (.int .i64 ((kf l k l.length : Nat) : Int)) ∧ w = w' := by
  have HMK := Lib.hid hm
  clear hm
  go_enter Try.func40, Try.ntmps40
  go_wp2_with fail
  go_loop [1, 5] (fun q i => ∃ m : Nat, m ≤ l.length ∧ i = .int .i64 m ∧ q = .int .i64 ((kf l k m : Nat) : Int)) (fun _ i => l.length - (intOf i).toNat)
  case atStart => exact ⟨0, Nat.zero_le _, rfl, rfl⟩
  case round =>
    obtain ⟨m, hm, rfl, rfl⟩ := hrel
    by_cases hlt : m < l.length
    · have hkb := kf_mono l k (show m + 1 ≤ l.length from hlt)
      have hkm : kf l k (m + 1) = kf l k m + 1 + (val_ l m).length := rfl
      obtain ⟨c1, c2, c3, c4, c5, c6, c7⟩ := h.at_ hlt
      obtain ⟨n1, n2⟩ := HMK.out m hlt
      rw [n1] at c1
      obtain ⟨K, hK⟩ : ∃ K, K = kf l k m := ⟨_, rfl⟩
      rw [← hK] at hkm c1 n2 ⊢
      have hK2 : K + 1 + (val_ l m).length ≤ 2000000 := by omega
      rw [n2] at c6
      have hM := held_any (H m).1 (H m).2 (K + 1) (val_ l m).length w c6 (by omega) (by omega)
      rw [show ((K + 1 : Nat) : Int) = (K : Int) + 1 by omega] at hM
      have HM := Lib.hid hM
      have HKM := Lib.hid hkm
      have i1 : (m : Int) < (l.length : Int) := by omega
      have t1 : ((K : Int) != (K : Int)) = false := by simp
      have t2 : decide (((K + 1 + (val_ l m).length : Nat) : Int) < 0) = false := by simp only [decide_eq_false_iff_not]; omega
      have t2' : ¬ (((K + 1 + (val_ l m).length : Nat) : Int) < 0) := by omega
      obtain ⟨Z, hZ⟩ : ∃ Z : Int, Z = ((K + 1 + (val_ l m).length : Nat) : Int) := ⟨_, rfl⟩
      rw [← hZ] at t2 t2' HM
      have HZ := Lib.hid hZ
      clear hM hkm hK hkb n1 n2 c6 hZ
      go_wp2_with (go_at_call 41; refine HM.out.mono ?_; rintro e w2 ⟨rfl, rfl⟩)
      exact ⟨⟨m + 1, by omega, by go_num, by rw [HZ.out, HKM.out]⟩, by simp [intOf] <;> omega⟩
    · have hml : l.length = m := by omega
      subst hml
      go_wp2_with fail
      go_ret
      exact ⟨rfl, rfl⟩
end Go.Proofs.Ytfkmiflddpjllaa
