/- Shards are copied and counted by the laws. Conditions: the lists are within a million elements. -/
import Derived.Test.YtfkmiflddpjllaaShE
import Derived.Test.YtfkmiflddpjllaaShT
namespace Go.Proofs.Ytfkmiflddpjllaa
open Go.RowKit
set_option linter.unusedVariables false
set_option linter.unusedSimpArgs false

set_option maxHeartbeats 1000000 in
theorem szInt_any (A : Option Addr) (l : List Int) (c : Nat) (left : Int) (w : World) (h0 : 0 ≤ left) (h1 : left ≤ 1048576) (hl : l.length ≤ 9223372036854775807) :
    Calls Try.prog 57 #[.slice A l.length c, .int .i64 left] w fun e w' => e = .returned (.int .i64 (szV l.length left)) ∧ w = w' := by
  by_cases h : (l.length : Int) ≤ left
  · rw [szV_pos h]
    go_enter Try.func57, Try.ntmps57
    go_wp2
    go_ret
    exact ⟨rfl, rfl⟩
  · rw [szV_neg h]
    go_enter Try.func57, Try.ntmps57
    go_wp2
    go_ret
    exact ⟨rfl, rfl⟩

set_option maxHeartbeats 1000000 in
theorem szSh_any (a : Int) (A : Option Addr) (l : List Int) (c : Nat) (left : Int) (w : World) (h0 : 0 ≤ left) (h1 : left ≤ 1048576) (hl : l.length ≤ 9223372036854775807) :
    Calls Try.prog 30 #[.agg #[.int .i64 a, .slice A l.length c], .int .i64 left] w fun e w' => e = .returned (.int .i64 (szV l.length left)) ∧ Below w.heap.size w w' := by
  have hB : Below w.heap.size w (w.alloc (.cells #[.int .i64 a, .slice A l.length c] 46)) := (Below.refl _ _).alloc (Nat.le_refl _) _
  by_cases h : (l.length : Int) ≤ left
  · have HZ := Lib.hid (szV_pos h)
    have t1 : decide (left - (l.length : Int) < 0) = false := by simp only [decide_eq_false_iff_not]; omega
    rw [HZ.out]
    go_enter Try.func30, Try.ntmps30
    go_wp2_with (go_at_call 57; refine (szInt_any A l c left _ h0 h1 hl).mono ?_; rintro e w1 ⟨rfl, rfl⟩; rw [HZ.out])
    go_ret
    exact ⟨rfl, hB⟩
  · have HZ := Lib.hid (szV_neg h)
    rw [HZ.out]
    go_enter Try.func30, Try.ntmps30
    go_wp2_with (go_at_call 57; refine (szInt_any A l c left _ h0 h1 hl).mono ?_; rintro e w1 ⟨rfl, rfl⟩; rw [HZ.out])
    go_ret
    exact ⟨rfl, hB⟩

theorem kf_ge (l : List Sh) (k : Nat) : ∀ n, k + n ≤ kf l k n
  | 0 => Nat.le_refl _
  | n + 1 => by have := kf_ge l k n; rw [kf]; omega
theorem kf_val (l : List Sh) (k : Nat) {j n : Nat} (h : j < n) : (val_ l j).length ≤ kf l k n := by
  have := kf_mono l k (show j + 1 ≤ n from h)
  rw [kf] at this; omega
/-- All have been counted, and they were not too many; or they were. -/
def SzPost (l : List Sh) (w : World) (e : Ending) (w' : World) : Prop :=
  ∃ r : Int, e = .returned (.int .i64 r) ∧ (r = -1 ∨ (0 ≤ r ∧ kf l 1 l.length ≤ 1048577)) ∧ Below w.heap.size w w'

set_option maxHeartbeats 2000000 in
theorem szS_any (A : Option Addr) (l : List Sh) (c : Nat) (w : World) (h : ShL w w.heap.size A l) (hl : l.length ≤ 9223372036854775807) (hv : ∀ j, j < l.length → (val_ l j).length ≤ 9223372036854775807) :
    Calls Try.prog 23 #[.slice A l.length c, .int .i64 1048576] w (SzPost l w) := by
  have HVL := Lib.hid hv
  clear hv
  by_cases h0 : (l.length : Int) ≤ 1048576
  · have t0 : decide ((1048576 : Int) - (l.length : Int) < 0) = false := by simp only [decide_eq_false_iff_not]; omega
    have t0' : ¬ (1048576 : Int) - (l.length : Int) < 0 := by omega
    go_enter Try.func23, Try.ntmps23
    go_wp2_with fail
    go_loopw [1, 5] (fun q i wr => ∃ (k : Nat) (r : Int), k ≤ l.length ∧ i = .int .i64 k ∧ q = .int .i64 r ∧ 0 ≤ r ∧ r + kf l 1 k = 1048577 - l.length + k ∧ Below w.heap.size w wr) (fun _ i _ => l.length - (intOf i).toNat)
    case atStart => exact ⟨0, 1048576 - l.length, Nat.zero_le _, rfl, rfl, by omega, by simp only [kf]; omega, Below.refl _ _⟩
    case round =>
      obtain ⟨k, r, hk, rfl, rfl, hr0, hr, hb⟩ := hrel
      have hge := kf_ge l 1 k
      by_cases hlt : k < l.length
      · obtain ⟨b, off, A', c', rfl, hbl, hc1, hc2, hcc, hsl⟩ := (h.below hb).at_ hlt
        have hvk := HVL.out k hlt
        have hks : kf l 1 (k + 1) = kf l 1 k + 1 + (val_ l k).length := rfl
        have HR := Lib.hid hr
        have HKS := Lib.hid hks
        have i1 : (k : Int) < (l.length : Int) := by omega
        have hr1 : r ≤ 1048576 := by omega
        by_cases hz : ((val_ l k).length : Int) ≤ r
        · have HZ := Lib.hid (szV_pos hz)
          have t1 : decide (r - ((val_ l k).length : Int) < 0) = false := by simp only [decide_eq_false_iff_not]; omega
          have t1' : ¬ r - ((val_ l k).length : Int) < 0 := by omega
          clear hr hks
          go_wp2_with fail
          refine (szSh_any (num_ l k) A' (val_ l k) c' r _ hr0 hr1 hvk).mono ?_
          rintro e w1 ⟨rfl, hb1⟩
          rw [HZ.out]
          have hB1 : Below w.heap.size w w1 := hb.trans (hb1.mono hb.size)
          clear hb1 hc1 hc2
          go_wp2_with fail
          exact ⟨⟨k + 1, r - (val_ l k).length, by omega, by go_num, rfl, by omega, by have := HR.out; have := HKS.out; omega, hB1⟩, by simp [intOf] <;> omega⟩
        · have HZ := Lib.hid (szV_neg hz)
          clear hr hks
          go_wp2_with fail
          refine (szSh_any (num_ l k) A' (val_ l k) c' r _ hr0 hr1 hvk).mono ?_
          rintro e w1 ⟨rfl, hb1⟩
          rw [HZ.out]
          have hB1 : Below w.heap.size w w1 := hb.trans (hb1.mono hb.size)
          clear hb1 hc1 hc2
          go_wp2_with fail
          go_ret
          exact ⟨-1, rfl, .inl rfl, hB1⟩
      · have hkl : l.length = k := by omega
        subst hkl
        have HR := Lib.hid hr
        clear hr
        go_wp2_with fail
        go_ret
        exact ⟨r, rfl, .inr ⟨hr0, by have := HR.out; omega⟩, hb⟩
  · have t0 : decide ((1048576 : Int) - (l.length : Int) < 0) = true := by simp only [decide_eq_true_eq]; omega
    have t0' : (1048576 : Int) - (l.length : Int) < 0 := by omega
    go_enter Try.func23, Try.ntmps23
    go_wp2_with fail
    go_ret
    exact ⟨-1, rfl, .inl rfl, Below.refl _ _⟩

/-- A shard copied. -/
def ToPost (a : Int) (l : List Int) (w : World) (e : Ending) (w' : World) : Prop :=
  ∃ g, w.heap.size ≤ g ∧ e = .returned (.agg #[.int .i64 a, .slice (some ⟨g, 0, none⟩) l.length l.length]) ∧ Wr w' g l ∧ Below w.heap.size w w'

set_option maxHeartbeats 2000000 in
theorem toSh_any (a : Int) (A : Option Addr) (l : List Int) (c : Nat) (w : World) (h : Sl w w.heap.size A l) (hl : l.length ≤ 2000000) :
    Calls Try.prog 33 #[.agg #[.int .i64 a, .slice A l.length c]] w (ToPost a l w) := by
  obtain ⟨W, hW⟩ : ∃ W, W = ((w.alloc (.cells #[.int .i64 a, .slice A l.length c] 46)).alloc (.cells #[.int .i64 0, .slice none 0 0] 30)).alloc (.cells #[.int .i64 a, .slice none 0 0] 30) := ⟨_, rfl⟩
  have hB0 : Below w.heap.size w W := by rw [hW]; exact (((Below.refl _ _).alloc (Nat.le_refl _) _).alloc (by simp) _).alloc (by simp; omega) _
  have bR : W.heap[w.heap.size + 1]? = some (.cells #[.int .i64 0, .slice none 0 0] 30 (0, 0)) := by
    rw [hW, Below.heap_alloc _ _ _ (by simp)]
    have := two_cells (w.alloc (.cells #[.int .i64 a, .slice A l.length c] 46)) (.int .i64 0) (.slice none 0 0) 30; simpa using this
  have bO : W.heap[w.heap.size + 2]? = some (.cells #[.int .i64 a, .slice none 0 0] 30 (0, 0)) := by
    rw [hW]
    have := two_cells ((w.alloc (.cells #[.int .i64 a, .slice A l.length c] 46)).alloc (.cells #[.int .i64 0, .slice none 0 0] 30)) (.int .i64 a) (.slice none 0 0) 30; simpa using this
  have hs0 : W.heap.size = w.heap.size + 3 := by rw [hW]; simp
  have hA := (h.below hB0).more hB0.size
  go_enter Try.func33, Try.ntmps33
  go_wp2_with fail
  rw [← hW]
  clear hW
  refine (toIntS_any A l c W hA hl).mono ?_
  rintro e w1 ⟨rfl, hr1, hb1, hs1⟩
  have bR1 := (hb1.block (w.heap.size + 1) (by omega)).trans bR
  have bO1 := (hb1.block (w.heap.size + 2) (by omega)).trans bO
  have hB1 : Below w.heap.size w w1 := hB0.trans (hb1.mono hB0.size)
  have u1 := Wr.of_row hr1 (Nat.le_refl _)
  obtain ⟨G, hG⟩ : ∃ G, G = W.heap.size := ⟨_, rfl⟩
  rw [← hG] at u1 hs0 ⊢
  have HS0 := Lib.hid hs0
  clear hG hs0 bR bO hb1 hr1 hs1 hA hB0
  obtain ⟨r0, r1, r2, r3⟩ := box2 bR1
  obtain ⟨o0, o1, o2, o3⟩ := box2 bO1
  go_wp2_with fail
  have n1 : G ≠ w.heap.size + 1 := by have := HS0.out; omega
  have n2 : G ≠ w.heap.size + 2 := by have := HS0.out; omega
  have n3 : w.heap.size + 1 ≠ w.heap.size + 2 := by omega
  obtain ⟨V, hV⟩ : ∃ V, V = ((w1.setCell ⟨w.heap.size + 2, 1, none⟩ (.slice (some ⟨G, 0, none⟩) l.length l.length)).setCell ⟨w.heap.size + 1, 0, none⟩ (.int .i64 a)).setCell ⟨w.heap.size + 1, 1, none⟩ (.slice (some ⟨G, 0, none⟩) l.length l.length) := ⟨_, rfl⟩
  have bV : V.heap[w.heap.size + 1]? = some (.cells #[.int .i64 a, .slice (some ⟨G, 0, none⟩) l.length l.length] 30 (0, 0)) := by
    rw [hV]; exact box2_set (box2_set0 ((Below.heap_setCell w1 ⟨w.heap.size + 2, 1, none⟩ _ _ n3).trans bR1) _) _
  have hVb : Below w.heap.size w V := by
    rw [hV]; exact ((hB1.setCell (p := ⟨w.heap.size + 2, 1, none⟩) (by simp) _).setCell (p := ⟨w.heap.size + 1, 0, none⟩) (by simp) _).setCell (p := ⟨w.heap.size + 1, 1, none⟩) (by simp) _
  have hVw : Wr V G l := by
    rw [hV]; exact ((u1.block (Below.heap_setCell _ _ _ _ n2)).block (Below.heap_setCell _ _ _ _ n1)).block (Below.heap_setCell _ _ _ _ n1)
  obtain ⟨v0, v1, _, _⟩ := box2 bV
  have hV' : ((w1.setCell ⟨w.heap.size + 1 + 1, 1, none⟩ (.slice (some ⟨G, 0, none⟩) l.length l.length)).setCell ⟨w.heap.size + 1, 0, none⟩ (.int .i64 a)).setCell ⟨w.heap.size + 1, 1, none⟩ (.slice (some ⟨G, 0, none⟩) l.length l.length) = V := hV.symm
  rw [hV']
  clear hV hV' bV
  refine bodyPost_ret (v := .agg #[.int .i64 a, .slice (some ⟨G, 0, none⟩) l.length l.length]) (by simp [results, Try.results33, go_sem, v0, v1]) rfl ?_
  exact ⟨G, by have := HS0.out; omega, rfl, hVw, hVb⟩

theorem make_sh (n : Nat) (hn : n ≤ 2000000) (w : World) : (Instr.makeSlice 23 (.int .i64 (n : Int)) (.int .i64 (n : Int))).run Try.prog w = .ok (.slice (some ⟨w.heap.size, 0, none⟩) n n) (w.alloc (.cells (madeCells #[.int .i64 0, .slice none 0 0] (n * 2)) 30)) := by
  obtain ⟨i0, hi, hz0, hz1, hz2⟩ := info_parts info_sh
  have hr := run_make (P := Try.prog) w 23 30 i0 _ Try.underlying23 hi hz0 .i64 .i64 n n (by omega) (Int.le_refl _) (by rw [hz2]; omega) (by omega)
  simp only [Int.toNat_natCast, hz1] at hr
  exact hr
theorem OwnS.make (w : World) (n : Nat) (H : Nat → Nat × Nat) (hn : n ≤ 2000000) : OwnS (w.alloc (.cells (madeCells #[.int .i64 0, .slice none 0 0] (n * 2)) 30)) w.heap.size w.heap.size n [] H :=
  ⟨World.ownsRow_made w _ n (Nat.le_refl _) (by simp only [maxLen]; omega) (by rw [size_madeCells]), fun j hj => by simp at hj⟩
theorem two_take (L : List Value) (k : Nat) (a b : Value) (h : k * 2 + 2 ≤ L.length) : ((L.set (k * 2) a).set (k * 2 + 1) b).take ((k + 1) * 2) = L.take (k * 2) ++ [a, b] := by
  apply List.ext_getElem?
  intro j
  rw [List.getElem?_take]
  by_cases h1 : j < k * 2
  · rw [if_pos (by omega), List.getElem?_set_ne (by omega), List.getElem?_set_ne (by omega), List.getElem?_append_left (by simp; omega), List.getElem?_take_of_lt h1]
  · by_cases h2 : j = k * 2
    · subst h2
      rw [if_pos (by omega), List.getElem?_set_ne (by omega), List.getElem?_set_self (by omega), List.getElem?_append_right (by rw [List.length_take]; omega)]
      simp [Nat.min_eq_left (show k * 2 ≤ L.length by omega)]
    · by_cases h3 : j = k * 2 + 1
      · subst h3
        rw [if_pos (by omega), List.getElem?_set_self (by simp; omega), List.getElem?_append_right (by simp; omega)]
        simp [Nat.min_eq_left (show k * 2 ≤ L.length by omega)]
      · rw [if_neg (by omega), List.getElem?_append_right (by simp; omega)]
        have : j - (L.take (k * 2)).length = (j - k * 2 - 2) + 2 := by simp; omega
        rw [this]; simp
/-- One shard more behind the first, within the row. -/
theorem OwnS.ext {w : World} {B g c : Nat} {l : List Sh} {H : Nat → Nat × Nat} (h : OwnS w B g c l H) (hk : l.length < c) (y : Int) (vs : List Int) (x : Nat × Nat) (hb : B ≤ x.1) (hne : x.1 ≠ g) (hw : Wr w x.1 vs) (hc : vs.length ≤ x.2) :
    OwnS ((w.setCell ⟨g, l.length * 2, none⟩ (.int .i64 y)).setCell ⟨g, l.length * 2 + 1, none⟩ (.slice (some ⟨x.1, 0, none⟩) vs.length x.2)) B g c (l ++ [(y, vs)]) (putH H l.length x) := by
  obtain ⟨cur, h1, h2, h3, h4, h5, h6, h7⟩ := row_block h.1
  refine ⟨⟨by rw [cellsS_len], .inr ⟨g, c, (cur.setIfInBounds (l.length * 2) (.int .i64 y)).setIfInBounds (l.length * 2 + 1) (.slice (some ⟨x.1, 0, none⟩) vs.length x.2), rfl, h2, by simp [World.setCell, Array.getElem?_modify, h1], by simp; omega, h5, by simpa using h6, ?_⟩⟩, fun j hj => ?_⟩
  · have hcl : cur.toList.length = c * 2 := by simpa using h6
    have has : cellsS l (putH H l.length x) = cellsS l H := cellsS_as l _ _ fun j hj => by simp [putH, show j ≠ l.length by omega]
    rw [Array.toList_setIfInBounds, Array.toList_setIfInBounds, List.length_append, List.length_singleton, two_take _ _ _ _ (by omega), h7, cellsS_snoc, has]
    simp [putH]
  · have hj' : j < l.length + 1 := by simpa using hj
    rw [val_snoc _ _ _ hj']
    by_cases e : j = l.length
    · rw [if_pos e]; simp only [putH, if_pos e]
      exact ⟨hb, hne, (hw.block (Below.heap_setCell _ _ _ _ hne)).block (Below.heap_setCell _ _ _ _ hne), hc⟩
    · rw [if_neg e]; simp only [putH, if_neg e]
      obtain ⟨r1, r2, r3, r4⟩ := h.2 j (by omega)
      exact ⟨r1, r2, (r3.block (Below.heap_setCell _ _ _ _ r2)).block (Below.heap_setCell _ _ _ _ r2), r4⟩
theorem OwnS.room {w : World} {B g c : Nat} {l : List Sh} {H : Nat → Nat × Nat} (h : OwnS w B g c l H) {j : Nat} (hj : j < c * 2) : ∃ v, w.cell? ⟨g, j, none⟩ = some v := by
  obtain ⟨cur, h1, h2, h3, h4, h5, h6, h7⟩ := row_block h.1
  exact ⟨cur[j], by simp [World.cell?, h1, show j < cur.size by omega]⟩
theorem take_snoc_sh {l : List Sh} {k : Nat} (h : k < l.length) : l.take k ++ [(num_ l k, val_ l k)] = l.take (k + 1) := by
  rw [num_lt h, val_lt h, List.take_succ_eq_append_getElem h]
/-- The copies lie in blocks of their own. -/
def ToS (l : List Sh) (w : World) (e : Ending) (w' : World) : Prop :=
  ∃ H, e = .returned (.slice (some ⟨w.heap.size, 0, none⟩) l.length l.length) ∧ OwnS w' w.heap.size w.heap.size l.length l H ∧ Dst H l.length ∧ Below w.heap.size w w'

set_option maxHeartbeats 2000000 in
theorem toS_any (A : Option Addr) (l : List Sh) (c : Nat) (w : World) (h : ShL w w.heap.size A l) (hl : l.length ≤ 2000000) (hv : ∀ j, j < l.length → (val_ l j).length ≤ 2000000) :
    Calls Try.prog 24 #[.slice A l.length c] w (ToS l w) := by
  have HVL := Lib.hid hv
  clear hv
  have hmk := make_sh l.length hl
  have hS0 := OwnS.make w l.length (fun _ => (0, 0)) hl
  have hB0 : Below w.heap.size w (w.alloc (.cells (madeCells #[.int .i64 0, .slice none 0 0] (l.length * 2)) 30)) := (Below.refl _ _).alloc (Nat.le_refl _) _
  go_enter Try.func24, Try.ntmps24
  go_wp2_with fail
  go_loopw [4] (fun i wr => ∃ (k : Nat) (H : Nat → Nat × Nat), k ≤ l.length ∧ i = .int .i64 k ∧ OwnS wr w.heap.size w.heap.size l.length (l.take k) H ∧ Dst H k ∧ Below w.heap.size w wr) (fun i _ => l.length - (intOf i).toNat)
  case atStart => exact ⟨0, _, Nat.zero_le _, rfl, hS0, fun i j _ hj => absurd hj (by omega), hB0⟩
  case round =>
    clear hS0 hB0
    obtain ⟨k, H, hk, rfl, ho, hd, hb⟩ := hrel
    have HD := Lib.hid hd
    clear hd
    by_cases hlt : k < l.length
    · obtain ⟨b, off, A', c', rfl, hbl, hc1, hc2, hcc, hsl⟩ := (h.below hb).at_ hlt
      have hvk := HVL.out k hlt
      have hsz := hb.size
      have htl : (l.take k).length = k := by simp; omega
      have HTL := Lib.hid htl
      have HTS := Lib.hid (take_snoc_sh hlt)
      have HHB : Hid (∀ j, j < k → (H j).1 < wr.heap.size) := by unfold Hid; intro j hj; exact (ho.at_ (j := j) (by omega)).2.2.2.2.1
      have hgl := ho.parts.2.1
      have i1 : (k : Int) < (l.length : Int) := by omega
      clear htl
      go_wp2_with fail
      refine (toSh_any (num_ l k) A' (val_ l k) c' _ (hsl.more hb.size) hvk).mono ?_
      rintro e w1 ⟨g1, hg1, rfl, u1, hb1⟩
      have ho1 := ho.below hb1
      have hB1 : Below w.heap.size w w1 := hb.trans (hb1.mono hb.size)
      obtain ⟨v0, f0⟩ := ho1.room (j := k * 2) (by omega)
      obtain ⟨v1, f1⟩ := ho1.room (j := k * 2 + 1) (by omega)
      have f2 := ho1.frozen (k * 2)
      have f3 := ho1.frozen (k * 2 + 1)
      have ho2 := ho1.ext (by rw [HTL.out]; exact hlt) (num_ l k) (val_ l k) (g1, (val_ l k).length) (by simp only; omega) (by simp only; omega) u1 (Nat.le_refl _)
      rw [HTS.out, HTL.out] at ho2
      have hB2 := (hB1.setCell (p := ⟨w.heap.size, k * 2, none⟩) (Nat.le_refl _) (.int .i64 (num_ l k))).setCell (p := ⟨w.heap.size, k * 2 + 1, none⟩) (Nat.le_refl _) (.slice (some ⟨g1, 0, none⟩) (val_ l k).length (val_ l k).length)
      have HD2 : Hid (Dst (putH H k (g1, (val_ l k).length)) (k + 1)) := by
        unfold Hid
        exact HD.out.put _ fun i hi => by have := HHB.out i hi; simp only; omega
      clear ho ho1 hb hb1 hB1 u1 hc1 hc2 hsl
      go_wp2_with fail
      exact ⟨⟨k + 1, _, by omega, by go_num, ho2, HD2.out, hB2⟩, by simp [intOf] <;> omega⟩
    · have hkl : l.length = k := by omega
      subst hkl
      rw [List.take_length] at ho
      go_wp2_with fail
      go_ret
      exact ⟨H, rfl, ho, HD.out, hb⟩
end Go.Proofs.Ytfkmiflddpjllaa
