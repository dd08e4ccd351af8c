/- Shards are compared by the laws; what is drawn to make shards. Conditions: the lists are within two million elements. -/
import Derived.Test.YtfkmiflddpjllaaData
import Derived.Test.YtfkmiflddpjllaaShK
import Derived.Test.YtfkmiflddpjllaaSame
import Derived.Deep.RegionWith
namespace Go.Proofs.Ytfkmiflddpjllaa
open Go.RowKit
set_option linter.unusedVariables false
set_option linter.unusedSimpArgs false

def eqSh (a b : List Sh) : Bool := decide (a = b)
theorem eqSh_same (l : List Sh) : eqSh l l = true := by simp [eqSh]
theorem eqSh_true {a b : List Sh} (hn : a.length = b.length) (h : ∀ j, j < a.length → num_ a j = num_ b j ∧ val_ a j = val_ b j) : eqSh a b = true := by
  simp only [eqSh, decide_eq_true_eq]; exact sh_ext hn h
theorem eqSh_false {a b : List Sh} (k : Nat) (h : ¬ (num_ a k = num_ b k ∧ val_ a k = val_ b k)) : eqSh a b = false := by
  simp only [eqSh, decide_eq_false_iff_not]; rintro rfl; exact h ⟨rfl, rfl⟩
theorem sameB_iff (a a' : Int) (l l' : List Int) : sameB a l a' l' = (decide (a = a') && eqTo l l') := by
  unfold sameB eqTo; by_cases h1 : a = a' <;> by_cases h2 : l = l' <;> simp [h1, h2]

set_option maxHeartbeats 2000000 in
theorem sameShard_any (a a' : Int) (A A' : Option Addr) (l l' : List Int) (c c' : Nat) (w : World) (h : Sl w w.heap.size A l) (h' : Sl w w.heap.size A' l') (hl : l.length ≤ 2000000) (hl' : l'.length ≤ 2000000) :
    Calls Try.prog 19 #[.agg #[.int .i64 a, .slice A l.length c], .agg #[.int .i64 a', .slice A' l'.length c']] w (BoolW (sameB a l a' l') w) := by
  obtain ⟨W, hW⟩ : ∃ W, W = (w.alloc (.cells #[.int .i64 a, .slice A l.length c] 30)).alloc (.cells #[.int .i64 a', .slice A' l'.length c'] 30) := ⟨_, rfl⟩
  have hB : Below w.heap.size w W := by rw [hW]; exact ((Below.refl _ _).alloc (Nat.le_refl _) _).alloc (by simp) _
  have b1 : W.heap[w.heap.size]? = some (.cells #[.int .i64 a, .slice A l.length c] 30 (0, 0)) := by
    rw [hW]; exact (Below.heap_alloc _ _ _ (by simp)).trans (two_cells w _ _ _)
  have b2 : W.heap[w.heap.size + 1]? = some (.cells #[.int .i64 a', .slice A' l'.length c'] 30 (0, 0)) := by
    rw [hW]; have := two_cells (w.alloc (.cells #[.int .i64 a, .slice A l.length c] 30)) (.int .i64 a') (.slice A' l'.length c') 30; simpa using this
  obtain ⟨c0, c1, _, _⟩ := box2 b1
  obtain ⟨c2, c3, _, _⟩ := box2 b2
  have hA := (h.below hB).more hB.size
  have hA' := (h'.below hB).more hB.size
  rw [sameB_iff]
  by_cases ha : a = a'
  · have g1 : (a == a') = true := by simpa using ha
    have HA : Hid ((decide (a = a') && eqTo l l') = eqTo l l') := by unfold Hid; rw [decide_eq_true ha]; rfl
    rw [HA.out]
    clear ha b1 b2 HA
    go_enter Try.func19, Try.ntmps19
    go_wp2_with fail
    refine (sameInts_any A A' l l' c c' w.heap.size w.heap.size _ ?_ ?_ hl hl').mono ?_
    · rw [← hW]; exact h.below hB
    · rw [← hW]; exact h'.below hB
    rw [← hW]
    clear hW c0 c1 c2 c3
    rintro e w5 ⟨rfl, n5, rfl⟩
    go_wp2_with fail
    go_ret
    exact ⟨rfl, belowN hB _⟩
  · have g1 : (a == a') = false := by simpa using ha
    have HA : Hid ((decide (a = a') && eqTo l l') = false) := by unfold Hid; rw [decide_eq_false ha]; rfl
    rw [HA.out]
    rw [hW] at hB
    clear ha b1 b2 c0 c1 c2 c3 hA hA' hW
    go_enter Try.func19, Try.ntmps19
    go_wp2_with fail
    go_ret
    exact ⟨rfl, hB⟩

set_option maxHeartbeats 4000000 in
theorem sameShards_any (A A' : Option Addr) (l l' : List Sh) (c c' : Nat) (w : World) (h : ShL w w.heap.size A l) (h' : ShL w w.heap.size A' l') (hl : l.length ≤ 2000000) (hl' : l'.length ≤ 2000000)
    (hv : ∀ j, j < l.length → (val_ l j).length ≤ 2000000) (hv' : ∀ j, j < l'.length → (val_ l' j).length ≤ 2000000) :
    Calls Try.prog 38 #[.slice A l.length c, .slice A' l'.length c'] w (BoolW (eqSh l l') w) := by
  have HVL := Lib.hid hv
  have HVL' := Lib.hid hv'
  clear hv hv'
  by_cases hn : l.length = l'.length
  · have hn' : ((l.length : Int) != l'.length) = false := by simp; omega
    have HN := Lib.hid hn
    clear hn
    go_enter Try.func38, Try.ntmps38
    go_wp2_with fail
    go_loopw [5] (fun i wr => ∃ k : Nat, k ≤ l.length ∧ i = .int .i64 k ∧ Below w.heap.size w wr ∧ ∀ j, j < k → num_ l j = num_ l' j ∧ val_ l j = val_ l' j) (fun i _ => l.length - (intOf i).toNat)
    case atStart => exact ⟨0, Nat.zero_le _, rfl, Below.refl _ _, fun j hj => absurd hj (by omega)⟩
    case round =>
      obtain ⟨k, hk, rfl, hb, heq⟩ := hrel
      have HQ := Lib.hid heq
      clear heq
      by_cases hlt : k < l.length
      · obtain ⟨b, off, B1, d1, rfl, hbl, hc1, hc2, _, hs1⟩ := (h.below hb).at_ hlt
        have hlt' : k < l'.length := by have := HN.out; omega
        obtain ⟨b', off', B2, d2, rfl, hbl', hc1', hc2', _, hs2⟩ := (h'.below hb).at_ hlt'
        have e1 : (k : Int) < (l.length : Int) := by omega
        have e2 : (k : Int) < (l'.length : Int) := by omega
        have e3 : (0 : Int) ≤ (k : Int) := by omega
        have hv1 := HVL.out k hlt
        have hv2 := HVL'.out k hlt'
        have hs1' : Sl wr.drew wr.drew.heap.size B1 (val_ l k) := hs1.more hb.size
        have hs2' : Sl wr.drew wr.drew.heap.size B2 (val_ l' k) := hs2.more hb.size
        by_cases hq : num_ l k = num_ l' k ∧ val_ l k = val_ l' k
        · have HV := Lib.hid hq
          have HS : Hid (sameB (num_ l k) (val_ l k) (num_ l' k) (val_ l' k) = true) := by unfold Hid; simp only [sameB, decide_eq_true_eq]; exact hq
          clear hq
          go_wp2_with fail
          go_region_with (go_at_call 19; refine (sameShard_any (num_ l k) (num_ l' k) B1 B2 (val_ l k) (val_ l' k) d1 d2 _ hs1' hs2' hv1 hv2).mono ?_; rintro e w1 ⟨rfl, hb1⟩; rw [HS.out])
          all_goals
            have hB1 : Below w.heap.size w w1 := (belowN hb 1).trans (hb1.mono hb.size)
            clear hb1
            go_wp2_with fail
            exact ⟨⟨k + 1, by omega, by go_num, hB1, fun j hj => by
              by_cases e : j = k
              · rw [e]; exact HV.out
              · exact HQ.out j (by omega)⟩, by simp [intOf]; omega⟩
        · have HF := Lib.hid (eqSh_false (a := l) (b := l') k hq)
          have HS : Hid (sameB (num_ l k) (val_ l k) (num_ l' k) (val_ l' k) = false) := by unfold Hid; simp only [sameB, decide_eq_false_iff_not]; exact hq
          clear hq
          go_wp2_with fail
          go_region_with (go_at_call 19; refine (sameShard_any (num_ l k) (num_ l' k) B1 B2 (val_ l k) (val_ l' k) d1 d2 _ hs1' hs2' hv1 hv2).mono ?_; rintro e w1 ⟨rfl, hb1⟩; rw [HS.out])
          all_goals
            have hB1 : Below w.heap.size w w1 := (belowN hb 1).trans (hb1.mono hb.size)
            clear hb1
            go_wp2_with fail
            go_ret
            exact ⟨by rw [HF.out]; rfl, hB1⟩
      · have HT := Lib.hid (eqSh_true HN.out (fun j hj => HQ.out j (by omega)))
        go_wp2_with fail
        go_ret
        exact ⟨by rw [HT.out]; rfl, hb⟩
  · have hn' : ((l.length : Int) != l'.length) = true := by simp; omega
    have hf : eqSh l l' = false := by simp [eqSh]; intro e; exact hn (by rw [e])
    rw [hf]
    clear hf
    go_enter Try.func38, Try.ntmps38
    go_wp2_with fail
    go_ret
    exact ⟨rfl, Below.refl _ _⟩

def MakeDraw (w : World) (e : Ending) (w' : World) : Prop :=
  ∃ (g c : Nat) (l : List Int) (need many : Int), w.heap.size ≤ g ∧ e = .returned (.tuple #[.slice (some ⟨g, 0, none⟩) l.length c, .int .i64 need, .int .i64 many]) ∧ Wr w' g l ∧ l.length ≤ 24 ∧ l.length ≤ c ∧ c ≤ maxLen ∧ Below w.heap.size w w'

set_option maxHeartbeats 4000000 in
theorem drawMake_any (A : Option Addr) (n c : Nat) (zs : List Int) (w : World) (h : Ints .u8 w w.heap.size A n c zs) :
    Calls Try.prog 35 #[.slice A n c] w (MakeDraw w) := by
  go_enter Try.func35, Try.ntmps35
  go_wp2_with fail
  refine (open_any A n c zs _ h).mono ?_
  rintro e w1 ⟨rfl, hr1, hb1, hs1⟩
  go_wp2_with fail
  refine (drawRow_any w w.heap.size 0 _ hr1 hb1 (by omega)).mono ?_
  rintro e w2 ⟨g, c, p, l, rfl, hd, hl24, hp⟩
  clear hr1 hb1 hs1
  go_wp2_with fail
  refine (hd.pick 5 (by omega) (by omega)).mono ?_
  clear hd
  rintro e w3 ⟨a1, rfl, _, _, hd⟩
  go_wp2_with fail
  refine (hd.pick 16 (by omega) (by omega)).mono ?_
  clear hd
  rintro e w4 ⟨a2, rfl, _, _, hd⟩
  go_wp2_with fail
  refine (hd.pick 6 (by omega) (by omega)).mono ?_
  clear hd
  rintro e w5 ⟨a3, rfl, _, _, hd⟩
  go_wp2_with fail
  refine (hd.pick 16 (by omega) (by omega)).mono ?_
  clear hd
  rintro e w6 ⟨a4, rfl, _, _, hd⟩
  go_wp2_with fail
  obtain ⟨_, ho, _, hB⟩ := hd
  obtain ⟨q1, q2, q3, q4, q5⟩ := ho.parts
  go_ret3
  exact ⟨g, c, l, _, _, q1, rfl, q5, hl24, q3, q4, hB⟩
end Go.Proofs.Ytfkmiflddpjllaa
