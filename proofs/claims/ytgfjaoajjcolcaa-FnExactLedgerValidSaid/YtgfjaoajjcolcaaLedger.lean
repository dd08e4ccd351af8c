/- Ledgers of program and reference. Conditions: at most two million balances. -/
import Derived.Test.YtgfjaoajjcolcaaInts
import Derived.Lib.SmallJoins
import Derived.Deep.RegionHeld3
import Derived.Deep.RegionWith
namespace Go.Proofs.Ytgfjaoajjcolcaa
open Go.RowKit Go.ChangeShapes Go.WideShapes Go.Joins
set_option linter.unusedVariables false
set_option linter.unusedSimpArgs false

def ldB (l : List Int) (f : Int) : Bool := decide (l.length = 6) && allIn 0 999 l && decide (0 ≤ f ∧ f ≤ 5994)
def BoolPost (b : Bool) (w : World) (e : Ending) (w' : World) : Prop := e = .returned (.bool b) ∧ Below w.heap.size w w'

set_option maxHeartbeats 2000000 in
theorem ldS_any (A : Option Addr) (l : List Int) (c : Nat) (f : Int) (w : World) (h : Sl w w.heap.size A l) (hl : l.length ≤ 2000000) :
    Calls Try.prog 28 #[.agg #[.slice A l.length c, .int .i64 f]] w (BoolPost (ldB l f) w) := by
  have hB : Below w.heap.size w (w.alloc (.cells #[.slice A l.length c, .int .i64 f] 39)) := (Below.refl _ _).alloc (Nat.le_refl _) _
  go_enter Try.func28, Try.ntmps28
  go_wp2
  go_loop [3] (fun i => ∃ k : Nat, k ≤ l.length ∧ i = .int .i64 k ∧ ∀ j, j < k → 0 ≤ nth l j ∧ nth l j ≤ 999) (fun i => l.length - (intOf i).toNat)
  case atStart => exact ⟨0, Nat.zero_le _, rfl, fun j hj => absurd hj (by omega)⟩
  case round =>
    obtain ⟨k, hk, rfl, hq⟩ := hrel
    have HQ := Lib.hid hq
    clear hq
    by_cases hlt : k < l.length
    · obtain ⟨b, off, rfl, hb, hc⟩ := h.at_ hlt
      have hc1 := (hB.cell (p := ⟨b, off + k, none⟩) hb).trans hc
      by_cases h0 : 0 ≤ nth l k
      · by_cases h1 : nth l k ≤ 999
        · go_wp2
          exact ⟨⟨k + 1, by omega, by go_num, fun j hj => by
            by_cases e : j = k
            · rw [e]; exact ⟨h0, h1⟩
            · exact HQ.out j (by omega)⟩, by simp [intOf]; omega⟩
        · have g : decide (nth l k ≤ 999) = false := by simp; omega
          have HF : Hid (ldB l f = false) := by unfold Hid ldB; rw [allIn_false hlt (.inr (by omega))]; simp
          go_wp2
          go_ret
          exact ⟨by rw [HF.out]; rfl, hB⟩
      · have g : decide (0 ≤ nth l k) = false := by simp; omega
        have HF : Hid (ldB l f = false) := by unfold Hid ldB; rw [allIn_false hlt (.inl (by omega))]; simp
        go_wp2
        go_ret
        exact ⟨by rw [HF.out]; rfl, hB⟩
    · have HA := Lib.hid (allIn_true (lo := 0) (hi := 999) (l := l) (fun j hj => HQ.out j (by omega)))
      by_cases h6 : l.length = 6
      · have g6 : ((l.length : Int) == 6) = true := by simp; omega
        have H6 := Lib.hid h6
        clear h6
        by_cases h0 : 0 ≤ f
        · by_cases h1 : f ≤ 5994
          · have HT : Hid (ldB l f = true) := by unfold Hid ldB; rw [HA.out]; simp [H6.out]; omega
            go_wp2
            go_ret
            exact ⟨by rw [HT.out]; rfl, hB⟩
          · have g : decide (f ≤ 5994) = false := by simp; omega
            have HT : Hid (ldB l f = false) := by unfold Hid ldB; simp; omega
            go_wp2
            go_ret
            exact ⟨by rw [HT.out]; rfl, hB⟩
        · have g : decide (0 ≤ f) = false := by simp; omega
          have HT : Hid (ldB l f = false) := by unfold Hid ldB; simp; omega
          go_wp2
          go_ret
          exact ⟨by rw [HT.out]; rfl, hB⟩
      · have g6 : ((l.length : Int) == 6) = false := by simp; omega
        have HT : Hid (ldB l f = false) := by unfold Hid ldB; simp [h6]
        go_wp2
        go_ret
        exact ⟨by rw [HT.out]; rfl, hB⟩

set_option maxHeartbeats 2000000 in
theorem ld_any (A : Option Addr) (l : List Int) (c : Nat) (f : Int) (w : World) (h : Sl w w.heap.size A l) (hl : l.length ≤ 2000000) :
    Calls Try.prog 30 #[.agg #[.slice A l.length c, .int .i64 f]] w (BoolPost (ldB l f) w) := by
  have hB : Below w.heap.size w (w.alloc (.cells #[.slice A l.length c, .int .i64 f] 39)) := (Below.refl _ _).alloc (Nat.le_refl _) _
  by_cases h6 : l.length = 6
  · have g6 : ((l.length : Int) != 6) = false := by simp; omega
    have H6 := Lib.hid h6
    clear h6
    by_cases h0 : 0 ≤ f
    · by_cases h1 : f ≤ 5994
      · go_enter Try.func30, Try.ntmps30
        go_wp2
        go_loop [4, 22] (fun _ i => ∃ k : Nat, k ≤ l.length ∧ i = .int .i64 k ∧ ∀ j, j < k → 0 ≤ nth l j ∧ nth l j ≤ 999) (fun _ i => l.length - (intOf i).toNat)
        case atStart => exact ⟨0, Nat.zero_le _, rfl, fun j hj => absurd hj (by omega)⟩
        case round =>
          obtain ⟨k, hk, rfl, hq⟩ := hrel
          have HQ := Lib.hid hq
          clear hq
          by_cases hlt : k < l.length
          · obtain ⟨b, off, rfl, hb, hc⟩ := h.at_ hlt
            have hc1 := (hB.cell (p := ⟨b, off + k, none⟩) hb).trans hc
            by_cases e0 : 0 ≤ nth l k
            · by_cases e1 : nth l k ≤ 999
              · go_wp2
                exact ⟨⟨k + 1, by omega, by go_num, fun j hj => by
                  by_cases e : j = k
                  · rw [e]; exact ⟨e0, e1⟩
                  · exact HQ.out j (by omega)⟩, by simp [intOf]; omega⟩
              · have HF : Hid (ldB l f = false) := by unfold Hid ldB; rw [allIn_false hlt (.inr (by omega))]; simp
                go_wp2
                go_ret
                exact ⟨by rw [HF.out]; rfl, hB⟩
            · have HF : Hid (ldB l f = false) := by unfold Hid ldB; rw [allIn_false hlt (.inl (by omega))]; simp
              go_wp2
              go_ret
              exact ⟨by rw [HF.out]; rfl, hB⟩
          · have HA := Lib.hid (allIn_true (lo := 0) (hi := 999) (l := l) (fun j hj => HQ.out j (by omega)))
            have HT : Hid (ldB l f = true) := by unfold Hid ldB; rw [HA.out]; simp [H6.out]; omega
            go_wp2
            go_ret
            exact ⟨by rw [HT.out]; rfl, hB⟩
      · have g : decide (5994 < f) = true := by simp; omega
        have HT : Hid (ldB l f = false) := by unfold Hid ldB; simp; omega
        go_enter Try.func30, Try.ntmps30
        go_wp2
        go_ret
        exact ⟨by rw [HT.out]; rfl, hB⟩
    · have g : decide (f < 0) = true := by simp; omega
      have HT : Hid (ldB l f = false) := by unfold Hid ldB; simp; omega
      go_enter Try.func30, Try.ntmps30
      go_wp2
      go_ret
      exact ⟨by rw [HT.out]; rfl, hB⟩
  · have g6 : ((l.length : Int) != 6) = true := by simp; omega
    have HT : Hid (ldB l f = false) := by unfold Hid ldB; simp [h6]
    go_enter Try.func30, Try.ntmps30
    go_wp2
    go_ret
    exact ⟨by rw [HT.out]; rfl, hB⟩

def sumTo (l : List Int) : Nat → Int
  | 0 => 0
  | k + 1 => sumTo l k + nth l k
theorem sumTo_bd (l : List Int) (h : allIn 0 999 l = true) : ∀ k, k ≤ l.length → 0 ≤ sumTo l k ∧ sumTo l k ≤ 999 * k
  | 0, _ => by simp [sumTo]
  | k + 1, hk => by
    have h1 := sumTo_bd l h k (by omega)
    have h2 := allIn_get h (j := k) (by omega)
    simp only [sumTo]
    omega
def totV (l : List Int) (f : Int) : Int := if ldB l f = true then f + sumTo l l.length else -1
def IntPost (v : Int) (w : World) (e : Ending) (w' : World) : Prop := e = .returned (.int .i64 v) ∧ Below w.heap.size w w'
theorem ldB_parts {l : List Int} {f : Int} (h : ldB l f = true) : l.length = 6 ∧ allIn 0 999 l = true ∧ 0 ≤ f ∧ f ≤ 5994 := by
  simp only [ldB, Bool.and_eq_true, decide_eq_true_eq] at h
  exact ⟨h.1.1, h.1.2, h.2⟩

set_option maxHeartbeats 2000000 in
theorem tot_any (A : Option Addr) (l : List Int) (c : Nat) (f : Int) (w : World) (h : Sl w w.heap.size A l) (hl : l.length ≤ 2000000) :
    Calls Try.prog 33 #[.agg #[.slice A l.length c, .int .i64 f]] w (IntPost (totV l f) w) := by
  have hB : Below w.heap.size w (w.alloc (.cells #[.slice A l.length c, .int .i64 f] 39)) := (Below.refl _ _).alloc (Nat.le_refl _) _
  go_enter Try.func33, Try.ntmps33
  go_wp2_with fail
  refine (ld_any A l c f _ ((h.below hB).more (by simp)) hl).mono ?_
  rintro e w1 ⟨rfl, hb1⟩
  have hB1 : Below w.heap.size w w1 := hB.trans (hb1.mono (by simp))
  have hc0 := hb1.cell (p := ⟨w.heap.size, 0, none⟩) (by simp)
  have hc1 := hb1.cell (p := ⟨w.heap.size, 1, none⟩) (by simp)
  by_cases hv : ldB l f = true
  · rw [hv]
    obtain ⟨h6, ha, hf0, hf1⟩ := ldB_parts hv
    have HT : Hid (totV l f = f + sumTo l l.length) := by unfold Hid totV; rw [if_pos hv]
    have H6 := Lib.hid h6
    have HA := Lib.hid ha
    have hl6 : l.length ≤ 6 := by omega
    clear h6 ha hv hb1
    go_wp2_with fail
    go_loop [3, 5, 14] (fun s _ i => ∃ k : Nat, k ≤ l.length ∧ i = .int .i64 k ∧ s = .int .i64 (f + sumTo l k)) (fun _ _ i => l.length - (intOf i).toNat)
    case atStart => exact ⟨0, Nat.zero_le _, rfl, by simp [sumTo]⟩
    case round =>
      obtain ⟨k, hk, rfl, rfl⟩ := hrel
      obtain ⟨s0, s1⟩ := sumTo_bd l HA.out k hk
      by_cases hlt : k < l.length
      · obtain ⟨b, off, rfl, hb, hc⟩ := h.at_ hlt
        have hd := (hB1.cell (p := ⟨b, off + k, none⟩) hb).trans hc
        obtain ⟨n0, n1⟩ := allIn_get HA.out hlt
        go_wp2_with fail
        exact ⟨⟨k + 1, by omega, by go_num, by rw [sumTo, Int.add_assoc]⟩, by simp [intOf]; omega⟩
      · obtain rfl : k = l.length := by omega
        go_wp2_with fail
        go_ret
        exact ⟨by rw [HT.out]; rfl, hB1⟩
  · have hv' : ldB l f = false := by simpa using hv
    rw [hv']
    have HT : Hid (totV l f = -1) := by unfold Hid totV; rw [if_neg hv]
    clear hv hv'
    go_wp2_with fail
    go_ret
    exact ⟨by rw [HT.out]; rfl, hB1⟩

set_option maxHeartbeats 2000000 in
theorem l31Total_any (A : Option Addr) (l : List Int) (c : Nat) (f : Int) (w : World) (h : Sl w w.heap.size A l) (hv : ldB l f = true) :
    Calls Try.prog 59 #[.agg #[.slice A l.length c, .int .i64 f]] w (IntPost (f + sumTo l l.length) w) := by
  have hB : Below w.heap.size w (w.alloc (.cells #[.slice A l.length c, .int .i64 f] 39)) := (Below.refl _ _).alloc (Nat.le_refl _) _
  obtain ⟨h6, ha, hf0, hf1⟩ := ldB_parts hv
  have H6 := Lib.hid h6
  have HA := Lib.hid ha
  have hl6 : l.length ≤ 6 := by omega
  clear h6 ha hv
  go_enter Try.func59, Try.ntmps59
  go_wp2_with fail
  go_loop [3, 4] (fun s i => ∃ k : Nat, k ≤ l.length ∧ i = .int .i64 k ∧ s = .int .i64 (f + sumTo l k)) (fun _ i => l.length - (intOf i).toNat)
  case atStart => exact ⟨0, Nat.zero_le _, rfl, by simp [sumTo]⟩
  case round =>
    obtain ⟨k, hk, rfl, rfl⟩ := hrel
    obtain ⟨s0, s1⟩ := sumTo_bd l HA.out k hk
    by_cases hlt : k < l.length
    · obtain ⟨b, off, rfl, hb, hc⟩ := h.at_ hlt
      have hd := (hB.cell (p := ⟨b, off + k, none⟩) hb).trans hc
      obtain ⟨n0, n1⟩ := allIn_get HA.out hlt
      go_wp2_with fail
      exact ⟨⟨k + 1, by omega, by go_num, by rw [sumTo, Int.add_assoc]⟩, by simp [intOf]; omega⟩
    · obtain rfl : k = l.length := by omega
      go_wp2_with fail
      go_ret
      exact ⟨rfl, hB⟩

set_option maxHeartbeats 2000000 in
theorem totS_any (A : Option Addr) (l : List Int) (c : Nat) (f : Int) (w : World) (h : Sl w w.heap.size A l) (hl : l.length ≤ 2000000) :
    Calls Try.prog 32 #[.agg #[.slice A l.length c, .int .i64 f]] w (IntPost (totV l f) w) := by
  have hB : Below w.heap.size w (w.alloc (.cells #[.slice A l.length c, .int .i64 f] 39)) := (Below.refl _ _).alloc (Nat.le_refl _) _
  go_enter Try.func32, Try.ntmps32
  go_wp2_with fail
  refine (ldS_any A l c f _ ((h.below hB).more (by simp)) hl).mono ?_
  rintro e w1 ⟨rfl, hb1⟩
  have hB1 : Below w.heap.size w w1 := hB.trans (hb1.mono (by simp))
  have hc0 := hb1.cell (p := ⟨w.heap.size, 0, none⟩) (by simp)
  have hc1 := hb1.cell (p := ⟨w.heap.size, 1, none⟩) (by simp)
  by_cases hv : ldB l f = true
  · rw [hv]
    have HT : Hid (totV l f = f + sumTo l l.length) := by unfold Hid totV; rw [if_pos hv]
    have HV := Lib.hid hv
    clear hv hb1
    go_wp2_with fail
    refine (l31Total_any A l c f _ ((h.below hB1).more hB1.size) HV.out).mono ?_
    rintro e w2 ⟨rfl, hb2⟩
    go_wp2_with fail
    go_ret
    exact ⟨by rw [HT.out]; rfl, hB1.trans (hb2.mono hB1.size)⟩
  · have hv' : ldB l f = false := by simpa using hv
    rw [hv']
    have HT : Hid (totV l f = -1) := by unfold Hid totV; rw [if_neg hv]
    clear hv hv'
    go_wp2_with fail
    go_ret
    exact ⟨by rw [HT.out]; rfl, hB1⟩

def LPost (l : List Int) (f : Int) (w : World) (e : Ending) (w' : World) : Prop :=
  ∃ g, w.heap.size ≤ g ∧ e = .returned (.agg #[.slice (some ⟨g, 0, none⟩) l.length l.length, .int .i64 f]) ∧ w'.rowIs g 3 l.length (fun j => .int .i64 (nth l j)) ∧ Below w.heap.size w w'

set_option maxHeartbeats 2000000 in
theorem toLedger_any (A : Option Addr) (l : List Int) (c : Nat) (f : Int) (w : World) (h : Sl w w.heap.size A l) (hl : l.length ≤ 2000000) :
    Calls Try.prog 29 #[.agg #[.slice A l.length c, .int .i64 f]] w (LPost l f w) := by
  go_enter Try.func29, Try.ntmps29
  go_wp2_with fail
  refine (toIntS_any A l c _ ?_ hl).mono ?_
  · refine (h.below ?_).more (by simp; omega)
    exact (((Below.refl _ w).alloc (Nat.le_refl _) _).alloc (by simp) _).alloc (by simp; omega) _
  rintro e w1 ⟨rfl, hrow, hb, hs⟩
  simp only [World.size_alloc] at hrow hb hs
  have hc := fun b o hlt => hb.cell (p := ⟨b, o, none⟩) hlt
  have hz := fun b o hlt => hb.frozen (p := ⟨b, o, none⟩) hlt
  have a0 := hc w.heap.size 0 (by simp; omega)
  have a1 := hc w.heap.size 1 (by simp; omega)
  have b0 := hc (w.heap.size + 1) 0 (by simp)
  have b1 := hc (w.heap.size + 1) 1 (by simp)
  have c0 := hc (w.heap.size + 1 + 1) 0 (by simp)
  have c1 := hc (w.heap.size + 1 + 1) 1 (by simp)
  have d0 := hz (w.heap.size + 1) 0 (by simp)
  have d1 := hz (w.heap.size + 1) 1 (by simp)
  have e0 := hz (w.heap.size + 1 + 1) 0 (by simp)
  have e1 := hz (w.heap.size + 1 + 1) 1 (by simp)
  clear hc hz
  have HS := Lib.hid hs
  clear hs
  go_wp2_with fail
  refine bodyPost_ret (v := .agg #[.slice (some ⟨w.heap.size + 1 + 1 + 1, 0, none⟩) l.length l.length, .int .i64 f]) (by simp [results, Try.results29, go_sem, b0, b1]) rfl ⟨w.heap.size + 1 + 1 + 1, by omega, rfl, ?_, ?_⟩
  · exact (((hrow.setOther (by simp) _).setOther (by simp) _).setOther (by simp; omega) _).setOther (by simp; omega) _
  · have hB : Below w.heap.size w w1 := ((((Below.refl _ w).alloc (Nat.le_refl _) _).alloc (by simp) _).alloc (by simp; omega) _).trans (hb.mono (by omega))
    exact (((hB.setCell (by simp; omega) _).setCell (by simp; omega) _).setCell (by simp) _).setCell (by simp) _

theorem below_dn' {B : Nat} {a w : World} (h : Below B a w) (n : Nat) : Below B a (w.drewN n) := ⟨h.os, h.tape, h.output, h.size, h.block⟩

set_option maxHeartbeats 2000000 in
theorem eqLedger_any (A A' : Option Addr) (l l' : List Int) (c c' : Nat) (f f' : Int) (w : World) (h : Sl w w.heap.size A l) (h' : Sl w w.heap.size A' l') (hl : l.length ≤ 2000000) (hl' : l'.length ≤ 2000000) :
    Calls Try.prog 31 #[.agg #[.slice A l.length c, .int .i64 f], .agg #[.slice A' l'.length c', .int .i64 f']] w (BoolPost (eqTo l l' && f == f') w) := by
  have hB : Below w.heap.size w ((w.alloc (.cells #[.slice A l.length c, .int .i64 f] 39)).alloc (.cells #[.slice A' l'.length c', .int .i64 f'] 39)) := ((Below.refl _ _).alloc (Nat.le_refl _) _).alloc (by simp) _
  go_enter Try.func31, Try.ntmps31
  go_wp2_with fail
  refine (eqIntS_any A A' l l' c c' w.heap.size w.heap.size _ (h.below hB) (h'.below hB) hl hl').mono ?_
  rintro e w1 ⟨rfl, n, rfl⟩
  have HB := below_dn' hB n
  have hb : eqTo l l' = true ∨ eqTo l l' = false := by cases eqTo l l' <;> simp
  have hf : (f != f') = true ∨ (f != f') = false := by cases (f != f') <;> simp
  rcases hb with hb | hb
  · rw [hb]
    have HE := Lib.hid hb
    clear hb
    rcases hf with hf | hf
    · have hf2 : (f == f') = false := by simpa using hf
      go_wp2_with fail
      go_ret
      exact ⟨by rw [HE.out, hf2]; rfl, HB⟩
    · have hf2 : (f == f') = true := by simpa using hf
      go_wp2_with fail
      go_ret
      exact ⟨by rw [HE.out, hf2]; rfl, HB⟩
  · rw [hb]
    have HE := Lib.hid hb
    clear hb hf
    go_wp2_with fail
    go_ret
    exact ⟨by rw [HE.out]; rfl, HB⟩

set_option maxHeartbeats 2000000 in
theorem szLedger_any (A : Option Addr) (l : List Int) (c : Nat) (f : Int) (w : World) (hl : l.length ≤ 9223372036854775807) :
    Calls Try.prog 27 #[.agg #[.slice A l.length c, .int .i64 f], .int .i64 1048576] w (IntPost (szV l.length 1048576) w) := by
  have hB : Below w.heap.size w (w.alloc (.cells #[.slice A l.length c, .int .i64 f] 36)) := (Below.refl _ _).alloc (Nat.le_refl _) _
  by_cases h : (l.length : Int) ≤ 1048576
  · rw [szV_pos h]
    go_enter Try.func27, Try.ntmps27
    go_wp2_with fail
    refine (szIntS_any A l c 1048576 _ (by omega) (by omega) hl).mono ?_
    rintro e w1 ⟨rfl, rfl⟩
    rw [szV_pos h]
    go_wp2_with fail
    go_ret
    exact ⟨rfl, hB⟩
  · rw [szV_neg h]
    go_enter Try.func27, Try.ntmps27
    go_wp2_with fail
    refine (szIntS_any A l c 1048576 _ (by omega) (by omega) hl).mono ?_
    rintro e w1 ⟨rfl, rfl⟩
    rw [szV_neg (by omega)]
    go_wp2_with fail
    go_ret
    exact ⟨rfl, hB⟩
end Go.Proofs.Ytgfjaoajjcolcaa
