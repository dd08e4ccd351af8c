/- The shares of a secret, of program and reference. Conditions: at most two million coefficients. -/
import Derived.Test.YthdbbllcckimbaaVal
import Derived.Test.YthdbbllcckimbaaEval
import Derived.Test.YthdbbllcckimbaaOwn
namespace Go.Proofs.Ythdbbllcckimbaa
open Go.RowKit
set_option linter.unusedVariables false
set_option linter.unusedSimpArgs false

def dealB (l : List Int) (many : Int) : Bool := decide (1 ≤ l.length ∧ l.length ≤ 7) && allIn 0 250 l && decide ((l.length : Int) ≤ many ∧ many ≤ 7)
/-- The shares. -/
def shares (l : List Int) (n : Nat) : List Int := (List.range n).map fun (i : Nat) => Dag.ev l ((i : Int) + 1)
def dealV (l : List Int) (many : Int) : List Int := if dealB l many = true then shares l many.toNat else []
theorem shares_succ (l : List Int) (n : Nat) : shares l (n + 1) = shares l n ++ [Dag.ev l ((n : Int) + 1)] := by simp [shares, List.range_succ]
theorem shares_len (l : List Int) (n : Nat) : (shares l n).length = n := by simp [shares]
theorem dealB_parts {l : List Int} {many : Int} (h : dealB l many = true) : 1 ≤ l.length ∧ l.length ≤ 7 ∧ allIn 0 250 l = true ∧ (l.length : Int) ≤ many ∧ many ≤ 7 := by
  simp only [dealB, Bool.and_eq_true, decide_eq_true_eq] at h
  exact ⟨h.1.1.1, h.1.1.2, h.1.2, h.2.1, h.2.2⟩

def l13B (l : List Int) : Bool := allIn 0 250 l && decide (1 ≤ l.length ∧ l.length ≤ 7)
theorem l13B_false {l : List Int} (h : ¬ (1 ≤ l.length ∧ l.length ≤ 7) ∨ allIn 0 250 l = false) : l13B l = false := by
  unfold l13B
  rcases h with h | h
  · rw [show decide (1 ≤ l.length ∧ l.length ≤ 7) = false by simp only [decide_eq_false_iff_not]; omega]; simp
  · rw [h]; rfl
theorem l13B_true {l : List Int} (h : allIn 0 250 l = true) (h1 : 1 ≤ l.length) (h2 : l.length ≤ 7) : l13B l = true := by
  unfold l13B; rw [h]; simp; omega
theorem dealB_eq (l : List Int) (many : Int) : dealB l many = (l13B l && decide ((l.length : Int) ≤ many ∧ many ≤ 7)) := by
  unfold dealB l13B; rw [Bool.and_comm (decide _) (allIn _ _ _)]

set_option maxHeartbeats 2000000 in
theorem list13_any (A : Option Addr) (c : Nat) (l : List Int) (w : World) (B : Nat) (h : Sl w B A l) (hl : l.length ≤ 2000000) :
    Calls Try.prog 47 #[.slice A l.length c] w fun e w' => e = .returned (.bool (l13B l)) ∧ w = w' := by
  go_enter Try.func47, Try.ntmps47
  go_wp2_with fail
  go_loop [3] (fun i => ∃ k : Nat, k ≤ l.length ∧ i = .int .i64 k ∧ ∀ j, j < k → 0 ≤ nth l j ∧ nth l j ≤ 250) (fun i => l.length - (intOf i).toNat)
  case atStart => exact ⟨0, Nat.zero_le _, rfl, fun j hj => absurd hj (by omega)⟩
  case round =>
    obtain ⟨k, hk, rfl, hq⟩ := hrel
    have HQ := Lib.hid hq
    clear hq
    by_cases hlt : k < l.length
    · obtain ⟨b, off, rfl, hb, hc⟩ := h.at_ hlt
      by_cases e0 : 0 ≤ nth l k
      · by_cases e1 : nth l k ≤ 250
        · go_wp2
          exact ⟨⟨k + 1, by omega, by go_num, fun j hj => by
            by_cases e : j = k
            · rw [e]; exact ⟨e0, by omega⟩
            · exact HQ.out j (by omega)⟩, by simp [intOf]; omega⟩
        · have g : decide (nth l k ≤ 250) = false := by simp; omega
          have HF := Lib.hid (l13B_false (.inr (allIn_false (lo := 0) (hi := 250) hlt (.inr (by omega)))))
          go_wp2
          go_ret
          exact ⟨by rw [HF.out]; rfl, rfl⟩
      · have g : decide (0 ≤ nth l k) = false := by simp; omega
        have HF := Lib.hid (l13B_false (.inr (allIn_false (lo := 0) (hi := 250) hlt (.inl (by omega)))))
        go_wp2
        go_ret
        exact ⟨by rw [HF.out]; rfl, rfl⟩
    · have HA := Lib.hid (allIn_true (lo := 0) (hi := 250) (l := l) (fun j hj => HQ.out j (by omega)))
      by_cases n0 : 1 ≤ l.length
      · by_cases n1 : l.length ≤ 7
        · have g' : decide ((l.length : Int) ≤ 7) = true := by simp; omega
          have HT := Lib.hid (l13B_true HA.out n0 n1)
          go_wp2
          go_ret
          exact ⟨by rw [HT.out]; rfl, rfl⟩
        · have g : decide (l.length ≤ 7) = false := by simp; omega
          have g' : decide ((l.length : Int) ≤ 7) = false := by simp; omega
          have HT := Lib.hid (l13B_false (l := l) (.inl (by omega)))
          go_wp2
          go_ret
          exact ⟨by rw [HT.out]; rfl, rfl⟩
      · have g : decide (1 ≤ l.length) = false := by simp only [decide_eq_false_iff_not]; omega
        have g' : decide ((1 : Int) ≤ l.length) = false := by simp only [decide_eq_false_iff_not]; omega
        have HT := Lib.hid (l13B_false (l := l) (.inl (by omega)))
        go_wp2
        go_ret
        exact ⟨by rw [HT.out]; rfl, rfl⟩

set_option maxHeartbeats 2000000 in
theorem at_any (A : Option Addr) (c : Nat) (zs : List Int) (x : Int) (hz : allIn 0 250 zs = true) (hreach : zs.length ≤ 1000) (hx0 : 0 ≤ x) (hx1 : x ≤ 250) (w : World) (hI : Sl w w.heap.size A zs) :
    Calls Try.prog 50 #[.slice A zs.length c, .int .i64 x] w fun e W' => e = .returned (.int .i64 (Dag.ev zs x)) ∧ Below w.heap.size w W' := by
  go_enter Try.func50, Try.ntmps50
  go_wp2_with fail
  refine (evaluate_any A c zs x hz hreach hx0 hx1 _ hI).mono ?_
  rintro e w1 ⟨rfl, hb⟩
  go_wp2_with fail
  go_ret
  exact ⟨rfl, hb⟩

theorem OwnI.fresh {w w' : World} {g c : Nat} {l : List Int} (h : OwnI w' w.heap.size g c l) (hb : Below w.heap.size w w') : FreshI l w (.returned (.slice (some ⟨g, 0, none⟩) l.length c)) w' := by
  obtain ⟨h1, h2, h3, h4, h5⟩ := h.parts
  exact ⟨g, c, h1, rfl, h5, h3, h4, hb⟩

set_option maxHeartbeats 4000000 in
theorem dealS_any (A : Option Addr) (c : Nat) (l : List Int) (many : Int) (w : World) (h : Sl w w.heap.size A l) (hl : l.length ≤ 2000000) :
    Calls Try.prog 17 #[.slice A l.length c, .int .i64 many] w (FreshI (dealV l many) w) := by
  obtain ⟨i0, hi, hz0, hz1, hz2⟩ := info_parts info_int
  have hB0 : Below w.heap.size w (w.alloc (.cells #[] 3)) := (Below.refl _ _).alloc (Nat.le_refl _) _
  have hown0 := OwnI.made w w.heap.size (Nat.le_refl _)
  by_cases hv : dealB l many = true
  · obtain ⟨p1, p2, p3, p4, p5⟩ := dealB_parts hv
    have HV : Hid (dealV l many = shares l many.toNat) := by unfold Hid dealV; rw [if_pos hv]
    obtain ⟨n, rfl⟩ := Int.eq_ofNat_of_zero_le (show 0 ≤ many by omega)
    have hdl := l13B_true p3 p1 p2
    have hcol : col l l.length 0 = l := by simp [col]
    have HC := Lib.hid hcol
    clear hcol hv
    have q1 : decide ((l.length : Int) ≤ n) = true := by simp; omega
    have q2 : decide ((n : Int) ≤ 7) = true := by simp; omega
    go_enter Try.func17, Try.ntmps17
    go_wp2_with (first
      | (go_at_call 47; refine (list13_any A c l _ w.heap.size (h.below hB0) hl).mono ?_; rintro e w1 ⟨rfl, rfl⟩; rw [hdl])
      | (go_at_call 40; refine (in_yes _ _ _ _ (by omega) (by omega)).mono ?_; rintro e w1 ⟨rfl, rfl⟩))
    go_loopw [5, 6] (fun v i wr => ∃ k g cp : Nat, k ≤ n ∧ i = .int .i64 ((k : Int) + 1) ∧ v = .slice (some ⟨g, 0, none⟩) (shares l k).length cp ∧ OwnI wr w.heap.size g cp (shares l k) ∧ Below w.heap.size w wr) (fun _ i _ => n + 1 - (intOf i).toNat)
    case atStart => exact ⟨0, w.heap.size, 0, Nat.zero_le _, rfl, rfl, hown0, hB0⟩
    case round =>
      obtain ⟨k, g, cp, hk, rfl, rfl, hown, hb⟩ := hrel
      have hsl := shares_len l k
      by_cases hlt : k < n
      · have hsl7 : (shares l k).length ≤ 7 := by omega
        have HSL := Lib.hid hsl
        clear hsl
        go_wp2_with fail
        refine (value_any A c l l.length 0 ((k : Int) + 1) _ w.heap.size (h.below hb) p3 (by omega) (by omega) (by omega) (by omega) (by omega)).mono ?_
        rintro e w1 ⟨rfl, m, rfl⟩
        rw [HC.out]
        have hownm : OwnI (wr.drewN m) w.heap.size g cp (shares l k) := hown
        have hbm : Below w.heap.size w (wr.drewN m) := ⟨hb.os, hb.tape, hb.output, hb.size, hb.block⟩
        obtain ⟨W, hW⟩ : ∃ W, W = wr.drewN m := ⟨_, rfl⟩
        rw [← hW] at hownm hbm ⊢
        clear hown hb hW
        go_wp2_with (at_builtin; refine wpList_append_own _ rfl _ _ 23 rfl w.heap.size 3 i0 (.int .i64 0) 1 8 Try.underlying23 hi hz0 hz1 hz2 rfl (by decide) _ _ _ rfl (World.ownsRow.alloc hownm _) ⟨W.heap.size, 0, none⟩ 1 1 [.int .i64 (Dag.ev l ((k : Int) + 1))] rfl rfl ?c1 ?c2 ?c3 ?c4 ?c5 ?_)
        case c1 => exact one_new W _ _ _ rfl
        case c2 => simp [Value.oneCell']
        case c3 => simp only [maxLen]; omega
        case c4 => omega
        case c5 => have := hbm.size; simp; omega
        intro v' w5 hown5 hg5 _
        obtain ⟨g5, c5, rfl, hown6⟩ := own_snoc hown5
        rw [← shares_succ] at hown6
        have hB5 : Below w.heap.size w w5 := (hbm.alloc hbm.size _).grown hg5 (by have := hbm.size; simp; omega) (fun kk e => (World.ownsRow.lt hownm kk e).1)
        clear hown5 hg5 hownm hbm
        have e1 : (shares l k).length + 1 = (shares l (k + 1)).length := by rw [shares_len, shares_len]
        rw [e1]
        clear e1
        go_wp2_with fail
        exact ⟨⟨k + 1, g5, c5, by omega, by go_num, rfl, hown6, hB5⟩, by simp [intOf]; omega⟩
      · obtain rfl : k = n := by omega
        have HSL := Lib.hid hsl
        clear hsl
        go_wp2_with fail
        go_ret
        rw [show dealV l (k : Int) = shares l k by rw [HV.out]; simp]
        exact hown.fresh hb
  · have HV : Hid (dealV l many = []) := by unfold Hid dealV; rw [if_neg hv]
    have hF : FreshI [] w (.returned (.slice (some ⟨w.heap.size, 0, none⟩) 0 0)) (w.alloc (.cells #[] 3)) := hown0.fresh hB0
    by_cases h13 : l13B l = true
    · have hm : many < l.length ∨ 7 < many := by
        rw [dealB_eq, h13] at hv; simp at hv; omega
      have H13 := Lib.hid h13
      clear hv
      go_enter Try.func17, Try.ntmps17
      go_wp2_with (first
        | (go_at_call 47; refine (list13_any A c l _ w.heap.size (h.below hB0) hl).mono ?_; rintro e w1 ⟨rfl, rfl⟩; rw [H13.out])
        | (go_at_call 40; refine (in_no _ _ _ _ hm).mono ?_; rintro e w1 ⟨rfl, rfl⟩))
      go_ret
      rw [HV.out]
      exact hF
    · have h13' : l13B l = false := by simpa using h13
      have H13 := Lib.hid h13'
      clear hv h13 h13'
      go_enter Try.func17, Try.ntmps17
      go_wp2_with (go_at_call 47; refine (list13_any A c l _ w.heap.size (h.below hB0) hl).mono ?_; rintro e w1 ⟨rfl, rfl⟩; rw [H13.out])
      go_ret
      rw [HV.out]
      exact hF

set_option maxHeartbeats 4000000 in
theorem deal_any (A : Option Addr) (c : Nat) (l : List Int) (many : Int) (w : World) (h : Sl w w.heap.size A l) (hl : l.length ≤ 2000000) :
    Calls Try.prog 19 #[.slice A l.length c, .int .i64 many] w (FreshI (dealV l many) w) := by
  obtain ⟨i0, hi, hz0, hz1, hz2⟩ := info_parts info_int
  have hB0 : Below w.heap.size w (w.alloc (.cells #[] 3)) := (Below.refl _ _).alloc (Nat.le_refl _) _
  have hown0 := OwnI.made w w.heap.size (Nat.le_refl _)
  by_cases hv : dealB l many = true
  · obtain ⟨p1, p2, p3, p4, p5⟩ := dealB_parts hv
    have HV : Hid (dealV l many = shares l many.toNat) := by unfold Hid dealV; rw [if_pos hv]
    obtain ⟨n, rfl⟩ := Int.eq_ofNat_of_zero_le (show 0 ≤ many by omega)
    have HA := Lib.hid p3
    clear hv p3
    have q1 : decide ((l.length : Int) < 1) = false := by simp only [decide_eq_false_iff_not]; omega
    have q2 : decide ((7 : Int) < l.length) = false := by simp; omega
    have q3 : decide ((n : Int) < l.length) = false := by simp; omega
    have q3' : decide (n < l.length) = false := by simp; omega
    have q4 : decide ((7 : Int) < n) = false := by simp; omega
    go_enter Try.func19, Try.ntmps19
    go_wp2_with (go_at_call 49; refine (symbols_any A c l _ w.heap.size (h.below hB0) hl).mono ?_; rintro e w1 ⟨rfl, rfl⟩; rw [HA.out])
    go_loopw [5, 7, 35] (fun v _ i wr => ∃ k g cp : Nat, k ≤ n ∧ i = .int .i64 (k : Int) ∧ v = .slice (some ⟨g, 0, none⟩) (shares l k).length cp ∧ OwnI wr w.heap.size g cp (shares l k) ∧ Below w.heap.size w wr) (fun _ _ i _ => n - (intOf i).toNat)
    case atStart => exact ⟨0, w.heap.size, 0, Nat.zero_le _, rfl, rfl, hown0, hB0⟩
    case round =>
      obtain ⟨k, g, cp, hk, rfl, rfl, hown, hb⟩ := hrel
      have hsl := shares_len l k
      by_cases hlt : k < n
      · have hsl7 : (shares l k).length ≤ 7 := by omega
        have HSL := Lib.hid hsl
        clear hsl
        go_wp2_with fail
        refine (at_any A c l ((k : Int) + 1) HA.out (by omega) (by omega) (by omega) _ ((h.below hb).more hb.size)).mono ?_
        rintro e w1 ⟨rfl, hb1⟩
        have hownm : OwnI w1 w.heap.size g cp (shares l k) := hown.below hb1 hown.parts.2.1
        have hbm : Below w.heap.size w w1 := hb.trans (hb1.mono hb.size)
        clear hown hb hb1
        go_wp2_with (at_builtin; refine wpList_append_own _ rfl _ _ 23 rfl w.heap.size 3 i0 (.int .i64 0) 1 8 Try.underlying23 hi hz0 hz1 hz2 rfl (by decide) _ _ _ rfl (World.ownsRow.alloc hownm _) ⟨w1.heap.size, 0, none⟩ 1 1 [.int .i64 (Dag.ev l ((k : Int) + 1))] rfl rfl ?c1 ?c2 ?c3 ?c4 ?c5 ?_)
        case c1 => exact one_new w1 _ _ _ rfl
        case c2 => simp [Value.oneCell']
        case c3 => simp only [maxLen]; omega
        case c4 => omega
        case c5 => have := hbm.size; simp; omega
        intro v' w5 hown5 hg5 _
        obtain ⟨g5, c5, rfl, hown6⟩ := own_snoc hown5
        rw [← shares_succ] at hown6
        have hB5 : Below w.heap.size w w5 := (hbm.alloc hbm.size _).grown hg5 (by have := hbm.size; simp; omega) (fun kk e => (World.ownsRow.lt hownm kk e).1)
        clear hown5 hg5 hownm hbm
        have e1 : (shares l k).length + 1 = (shares l (k + 1)).length := by rw [shares_len, shares_len]
        rw [e1]
        clear e1
        go_wp2_with fail
        exact ⟨⟨k + 1, g5, c5, by omega, by go_num, rfl, hown6, hB5⟩, by simp [intOf]; omega⟩
      · obtain rfl : k = n := by omega
        have HSL := Lib.hid hsl
        clear hsl
        go_wp2_with fail
        go_ret
        rw [show dealV l (k : Int) = shares l k by rw [HV.out]; simp]
        exact hown.fresh hb
  · have HV : Hid (dealV l many = []) := by unfold Hid dealV; rw [if_neg hv]
    have hF : FreshI [] w (.returned (.slice (some ⟨w.heap.size, 0, none⟩) 0 0)) (w.alloc (.cells #[] 3)) := hown0.fresh hB0
    by_cases g1 : 1 ≤ l.length
    · have q1 : decide ((l.length : Int) < 1) = false := by simp only [decide_eq_false_iff_not]; omega
      by_cases g2 : l.length ≤ 7
      · have q2 : decide ((7 : Int) < l.length) = false := by simp; omega
        by_cases h13 : allIn 0 250 l = true
        · have hm : many < l.length ∨ 7 < many := by
            rw [dealB_eq, l13B_true h13 g1 g2] at hv; simp at hv; omega
          have H13 := Lib.hid h13
          clear hv h13
          by_cases g3 : many < l.length
          · have q3 : decide (many < l.length) = true := by simp; omega
            go_enter Try.func19, Try.ntmps19
            go_wp2_with (go_at_call 49; refine (symbols_any A c l _ w.heap.size (h.below hB0) hl).mono ?_; rintro e w1 ⟨rfl, rfl⟩; rw [H13.out])
            go_ret
            rw [HV.out]
            exact hF
          · have q3 : decide (many < l.length) = false := by simp; omega
            have q4 : decide (7 < many) = true := by simp; omega
            go_enter Try.func19, Try.ntmps19
            go_wp2_with (go_at_call 49; refine (symbols_any A c l _ w.heap.size (h.below hB0) hl).mono ?_; rintro e w1 ⟨rfl, rfl⟩; rw [H13.out])
            go_ret
            rw [HV.out]
            exact hF
        · have h13' : allIn 0 250 l = false := by simpa using h13
          have H13 := Lib.hid h13'
          clear hv h13 h13'
          go_enter Try.func19, Try.ntmps19
          go_wp2_with (go_at_call 49; refine (symbols_any A c l _ w.heap.size (h.below hB0) hl).mono ?_; rintro e w1 ⟨rfl, rfl⟩; rw [H13.out])
          go_ret
          rw [HV.out]
          exact hF
      · have q2 : decide ((7 : Int) < l.length) = true := by simp; omega
        go_enter Try.func19, Try.ntmps19
        go_wp2_with fail
        go_ret
        rw [HV.out]
        exact hF
    · have q1 : decide ((l.length : Int) < 1) = true := by simp only [decide_eq_true_eq]; omega
      go_enter Try.func19, Try.ntmps19
      go_wp2_with fail
      go_ret
      rw [HV.out]
      exact hF
end Go.Proofs.Ythdbbllcckimbaa
