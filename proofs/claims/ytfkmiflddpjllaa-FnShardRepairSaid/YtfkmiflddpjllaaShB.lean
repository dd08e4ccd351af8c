/- Shards are repaired, by program and reference. Conditions: the lists are within two million elements. -/
import Derived.Test.YtfkmiflddpjllaaShS
namespace Go.Proofs.Ytfkmiflddpjllaa
open Go.RowKit
set_option linter.unusedVariables false
set_option linter.unusedSimpArgs false

/-- What a repair returns. -/
def RepIs (size need : Int) (l : List Sh) (number x : Int) (vs : List Int) (ok : Bool) : Prop :=
  (ok = false ∧ x = 0 ∧ vs = [] ∧ (¬ (1 ≤ number ∧ number ≤ 8) ∨ ∃ out, JoinSh size need l out false)) ∨
  (ok = true ∧ 1 ≤ number ∧ number ≤ 8 ∧ ∃ out, JoinSh size need l out true ∧ x = number ∧ vs = shVals out need.toNat number)
theorem RepIs.one {size need : Int} {l : List Sh} {number x x' : Int} {vs vs' : List Int} {ok ok' : Bool} (h : RepIs size need l number x vs ok) (h' : RepIs size need l number x' vs' ok') : x = x' ∧ vs = vs' ∧ ok = ok' := by
  rcases h with ⟨h1, h2, h3, h4⟩ | ⟨h1, h2, h3, o, h4, h5, h6⟩ <;> rcases h' with ⟨k1, k2, k3, k4⟩ | ⟨k1, k2, k3, o', k4, k5, k6⟩
  · exact ⟨h2.trans k2.symm, h3.trans k3.symm, h1.trans k1.symm⟩
  · exfalso
    rcases h4 with h4 | ⟨o, h4⟩
    · exact h4 ⟨k2, k3⟩
    · have := (h4.one k4).2; cases this
  · exfalso
    rcases k4 with k4 | ⟨o', k4⟩
    · exact k4 ⟨h2, h3⟩
    · have := (h4.one k4).2; cases this
  · obtain ⟨e, _⟩ := h4.one k4
    subst e
    exact ⟨h5.trans k5.symm, h6.trans k6.symm, h1.trans k1.symm⟩
def RepPost (size need : Int) (l : List Sh) (number : Int) (w : World) (e : Ending) (w' : World) : Prop :=
  ∃ (x : Int) (vs : List Int) (ok : Bool) (A : Option Addr) (c : Nat), e = .returned (.tuple #[.agg #[.int .i64 x, .slice A vs.length c], .bool ok]) ∧ RepIs size need l number x vs ok ∧
    ((A = none ∧ vs = [] ∧ c = 0) ∨ ∃ g, A = some ⟨g, 0, none⟩ ∧ w.heap.size ≤ g ∧ Wr w' g vs ∧ vs.length ≤ c ∧ c ≤ maxLen) ∧ vs.length ≤ 12 ∧ Below w.heap.size w w'
theorem data_of {size need : Int} {l : List Sh} {out : List Int} (h : JoinSh size need l out true) : 1 ≤ out.length ∧ out.length ≤ 12 ∧ allIn 0 250 out = true ∧ 1 ≤ need ∧ need ≤ 8 := by
  obtain ⟨hb, h1, h2, _⟩ := h.said
  obtain ⟨p1, p2, p3, p4, _⟩ := shardsB_parts hb
  exact ⟨by omega, by omega, h2, p3, p4⟩

set_option maxHeartbeats 2000000 in
theorem repairF_any (size need number : Int) (A : Option Addr) (c : Nat) (l : List Sh) (w : World) (h : ShL w w.heap.size A l) (hl : l.length ≤ 2000000) (hvl : ∀ j, j < l.length → (val_ l j).length ≤ 2000000) :
    Calls Try.prog 18 #[.int .i64 size, .int .i64 need, .slice A l.length c, .int .i64 number] w (RepPost size need l number w) := by
  obtain ⟨W, hW⟩ : ∃ W, W = w.alloc (.cells #[.int .i64 0, .slice none 0 0] 30) := ⟨_, rfl⟩
  have hB0 : Below w.heap.size w W := by rw [hW]; exact (Below.refl _ _).alloc (Nat.le_refl _) _
  have hx : W.heap[w.heap.size]? = some (.cells #[.int .i64 0, .slice none 0 0] 30 (0, 0)) := by rw [hW]; exact two_cells w _ _ _
  have hnW : w.heap.size < W.heap.size := by rw [hW]; simp
  have hA := (h.below hB0).more hB0.size
  by_cases g1 : 1 ≤ number
  · have t1 : decide (number < 1) = false := by simp; omega
    by_cases g2 : number ≤ 8
    · have t2 : decide (8 < number) = false := by simp; omega
      go_enter Try.func18, Try.ntmps18
      go_wp2_with fail
      rw [← hW]
      clear hW
      refine (joinF_any size need A c l W hA hl hvl).mono ?_
      rintro e w2 ⟨out, ok, g, cg, rfl, hj, hg, u, hoc, hcm, hb⟩
      have hx2 := (hb.block w.heap.size hnW).trans hx
      have hB2 : Below w.heap.size w w2 := hB0.trans (hb.mono hB0.size)
      obtain ⟨x0, x1, x2, x3⟩ := box2 hx2
      have HJ := Lib.hid hj
      have hn2 : w.heap.size < w2.heap.size := Nat.lt_of_lt_of_le hnW hb.size
      clear hj hx hb
      cases ok with
      | false =>
        go_wp2_with fail
        have hy := box2_set (box2_set0 hx2 (.int .i64 0)) (.slice none 0 0)
        obtain ⟨y0, y1, _, _⟩ := box2 hy
        have hB3 := (hB2.setCell (p := ⟨w.heap.size, 0, none⟩) (Nat.le_refl _) (.int .i64 0)).setCell (p := ⟨w.heap.size, 1, none⟩) (Nat.le_refl _) (.slice none 0 0)
        refine bodyPost_ret (v := .tuple #[.agg #[.int .i64 0, .slice none 0 0], .bool false]) (by simp [results, Try.results18, go_sem, y0, y1]) rfl ?_
        exact ⟨0, [], false, none, 0, rfl, .inl ⟨rfl, rfl, rfl, .inr ⟨_, HJ.out⟩⟩, .inl ⟨rfl, rfl, rfl⟩, by simp, hB3⟩
      | true =>
        obtain ⟨d1, d2, d3, d4, d5⟩ := data_of HJ.out
        obtain ⟨nd, rfl⟩ := Int.eq_ofNat_of_zero_le (show 0 ≤ need by omega)
        have HD3 := Lib.hid d3
        clear d3
        go_wp2_with fail
        refine (shardF_any (some ⟨g, 0, none⟩) cg out nd number _ u.sl' HD3.out d1 d2 hoc hcm (by omega) (by omega) (by omega) (by omega)).mono ?_
        rintro e w3 ⟨g8, c8, hg8, rfl, u8, hc8, hm8, hb8⟩
        have hsv : (shVals out nd number).length ≤ 12 := by rw [shVals_len]; exact cols_12 (by omega) d2
        obtain ⟨SV, hSV⟩ : ∃ SV, SV = shVals out nd number := ⟨_, rfl⟩
        rw [← hSV] at u8 hc8 hsv ⊢
        have HSV := Lib.hid hSV
        have hx3 := (hb8.block w.heap.size hn2).trans hx2
        have hB3 : Below w.heap.size w w3 := hB2.trans (hb8.mono hB2.size)
        obtain ⟨z0, z1, z2, z3⟩ := box2 hx3
        have hgn : g8 ≠ w.heap.size := by omega
        clear hSV x0 x1 x2 x3 hx2 hb8
        go_wp2_with fail
        have hy := box2_set (box2_set0 hx3 (.int .i64 number)) (.slice (some ⟨g8, 0, none⟩) SV.length c8)
        obtain ⟨y0, y1, _, _⟩ := box2 hy
        have hB4 := (hB3.setCell (p := ⟨w.heap.size, 0, none⟩) (Nat.le_refl _) (.int .i64 number)).setCell (p := ⟨w.heap.size, 1, none⟩) (Nat.le_refl _) (.slice (some ⟨g8, 0, none⟩) SV.length c8)
        have u9 := (u8.block (Below.heap_setCell w3 ⟨w.heap.size, 0, none⟩ (.int .i64 number) _ hgn)).block (Below.heap_setCell _ ⟨w.heap.size, 1, none⟩ (.slice (some ⟨g8, 0, none⟩) SV.length c8) _ hgn)
        refine bodyPost_ret (v := .tuple #[.agg #[.int .i64 number, .slice (some ⟨g8, 0, none⟩) SV.length c8], .bool true]) (by simp [results, Try.results18, go_sem, y0, y1]) rfl ?_
        exact ⟨number, SV, true, _, c8, rfl, .inr ⟨rfl, g1, g2, out, HJ.out, rfl, by rw [Int.toNat_natCast]; exact HSV.out⟩, .inr ⟨g8, rfl, by omega, u9, hc8, hm8⟩, hsv, hB4⟩
    · have t2 : decide (8 < number) = true := by simp; omega
      go_enter Try.func18, Try.ntmps18
      go_wp2_with fail
      refine bodyPost_ret (v := .tuple #[.agg #[.int .i64 0, .slice none 0 0], .bool false]) (by simp [results, Try.results18, go_sem]) rfl ?_
      rw [← hW]
      exact ⟨0, [], false, none, 0, rfl, .inl ⟨rfl, rfl, rfl, .inl (fun g => by omega)⟩, .inl ⟨rfl, rfl, rfl⟩, by simp, hB0⟩
  · have t1 : decide (number < 1) = true := by simp; omega
    go_enter Try.func18, Try.ntmps18
    go_wp2_with fail
    refine bodyPost_ret (v := .tuple #[.agg #[.int .i64 0, .slice none 0 0], .bool false]) (by simp [results, Try.results18, go_sem]) rfl ?_
    rw [← hW]
    exact ⟨0, [], false, none, 0, rfl, .inl ⟨rfl, rfl, rfl, .inl (fun g => by omega)⟩, .inl ⟨rfl, rfl, rfl⟩, by simp, hB0⟩

set_option maxHeartbeats 2000000 in
theorem repairS_any (size need number : Int) (A : Option Addr) (c : Nat) (l : List Sh) (w : World) (h : ShL w w.heap.size A l) (hl : l.length ≤ 2000000) (hvl : ∀ j, j < l.length → (val_ l j).length ≤ 2000000) :
    Calls Try.prog 21 #[.int .i64 size, .int .i64 need, .slice A l.length c, .int .i64 number] w (RepPost size need l number w) := by
  obtain ⟨W, hW⟩ : ∃ W, W = w.alloc (.cells #[.int .i64 0, .slice none 0 0] 30) := ⟨_, rfl⟩
  have hB0 : Below w.heap.size w W := by rw [hW]; exact (Below.refl _ _).alloc (Nat.le_refl _) _
  have hx : W.heap[w.heap.size]? = some (.cells #[.int .i64 0, .slice none 0 0] 30 (0, 0)) := by rw [hW]; exact two_cells w _ _ _
  have hnW : w.heap.size < W.heap.size := by rw [hW]; simp
  have hA := (h.below hB0).more hB0.size
  go_enter Try.func21, Try.ntmps21
  go_wp2_with fail
  rw [← hW]
  clear hW
  refine (joinR_any size need A c l W hA hl hvl).mono ?_
  rintro e w2 ⟨out, ok, g, cg, rfl, hj, hg, u, hoc, hcm, hb⟩
  have hx2 := (hb.block w.heap.size hnW).trans hx
  have hB2 : Below w.heap.size w w2 := hB0.trans (hb.mono hB0.size)
  obtain ⟨x0, x1, x2, x3⟩ := box2 hx2
  have HJ := Lib.hid hj
  have hn2 : w.heap.size < w2.heap.size := Nat.lt_of_lt_of_le hnW hb.size
  clear hj hx hb
  cases ok with
  | false =>
    go_wp2_with fail
    have hy := box2_set (box2_set0 hx2 (.int .i64 0)) (.slice none 0 0)
    obtain ⟨y0, y1, _, _⟩ := box2 hy
    have hB3 := (hB2.setCell (p := ⟨w.heap.size, 0, none⟩) (Nat.le_refl _) (.int .i64 0)).setCell (p := ⟨w.heap.size, 1, none⟩) (Nat.le_refl _) (.slice none 0 0)
    refine bodyPost_ret (v := .tuple #[.agg #[.int .i64 0, .slice none 0 0], .bool false]) (by simp [results, Try.results21, go_sem, y0, y1]) rfl ?_
    exact ⟨0, [], false, none, 0, rfl, .inl ⟨rfl, rfl, rfl, .inr ⟨_, HJ.out⟩⟩, .inl ⟨rfl, rfl, rfl⟩, by simp, hB3⟩
  | true =>
    by_cases g1 : 1 ≤ number ∧ number ≤ 8
    · obtain ⟨g1, g2⟩ := g1
      obtain ⟨d1, d2, d3, d4, d5⟩ := data_of HJ.out
      obtain ⟨nd, rfl⟩ := Int.eq_ofNat_of_zero_le (show 0 ≤ need by omega)
      have HD3 := Lib.hid d3
      clear d3
      go_wp2_with (go_at_call 53; refine (in_yes number 1 8 _ g1 g2).mono ?_; rintro e w1 ⟨rfl, rfl⟩)
      refine (shardS_any (some ⟨g, 0, none⟩) cg out nd number _ u.sl' HD3.out d2 (by omega) (by omega) (by omega) (by omega)).mono ?_
      rintro e w3 ⟨g8, c8, hg8, rfl, u8, hc8, hm8, hb8⟩
      have hsv : (shVals out nd number).length ≤ 12 := by rw [shVals_len]; exact cols_12 (by omega) d2
      obtain ⟨SV, hSV⟩ : ∃ SV, SV = shVals out nd number := ⟨_, rfl⟩
      rw [← hSV] at u8 hc8 hsv ⊢
      have HSV := Lib.hid hSV
      have hx3 := (hb8.block w.heap.size hn2).trans hx2
      have hB3 : Below w.heap.size w w3 := hB2.trans (hb8.mono hB2.size)
      obtain ⟨z0, z1, z2, z3⟩ := box2 hx3
      have hgn : g8 ≠ w.heap.size := by omega
      clear hSV x0 x1 x2 x3 hx2 hb8
      go_wp2_with fail
      have hy := box2_set (box2_set0 hx3 (.int .i64 number)) (.slice (some ⟨g8, 0, none⟩) SV.length c8)
      obtain ⟨y0, y1, _, _⟩ := box2 hy
      have hB4 := (hB3.setCell (p := ⟨w.heap.size, 0, none⟩) (Nat.le_refl _) (.int .i64 number)).setCell (p := ⟨w.heap.size, 1, none⟩) (Nat.le_refl _) (.slice (some ⟨g8, 0, none⟩) SV.length c8)
      have u9 := (u8.block (Below.heap_setCell w3 ⟨w.heap.size, 0, none⟩ (.int .i64 number) _ hgn)).block (Below.heap_setCell _ ⟨w.heap.size, 1, none⟩ (.slice (some ⟨g8, 0, none⟩) SV.length c8) _ hgn)
      refine bodyPost_ret (v := .tuple #[.agg #[.int .i64 number, .slice (some ⟨g8, 0, none⟩) SV.length c8], .bool true]) (by simp [results, Try.results21, go_sem, y0, y1]) rfl ?_
      exact ⟨number, SV, true, _, c8, rfl, .inr ⟨rfl, g1, g2, out, HJ.out, rfl, by rw [Int.toNat_natCast]; exact HSV.out⟩, .inr ⟨g8, rfl, by omega, u9, hc8, hm8⟩, hsv, hB4⟩
    · have g : number < 1 ∨ 8 < number := by omega
      have G := Lib.hid g
      have G1 := Lib.hid g1
      clear g g1
      go_wp2_with (go_at_call 53; refine (in_no number 1 8 _ G.out).mono ?_; rintro e w1 ⟨rfl, rfl⟩)
      have hy := box2_set (box2_set0 hx2 (.int .i64 0)) (.slice none 0 0)
      obtain ⟨y0, y1, _, _⟩ := box2 hy
      have hB3 := (hB2.setCell (p := ⟨w.heap.size, 0, none⟩) (Nat.le_refl _) (.int .i64 0)).setCell (p := ⟨w.heap.size, 1, none⟩) (Nat.le_refl _) (.slice none 0 0)
      refine bodyPost_ret (v := .tuple #[.agg #[.int .i64 0, .slice none 0 0], .bool false]) (by simp [results, Try.results21, go_sem, y0, y1]) rfl ?_
      exact ⟨0, [], false, none, 0, rfl, .inl ⟨rfl, rfl, rfl, .inl G1.out⟩, .inl ⟨rfl, rfl, rfl⟩, by simp, hB3⟩
end Go.Proofs.Ytfkmiflddpjllaa
