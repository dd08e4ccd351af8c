/- The walk of FnShardRepair. No condition. -/
import Derived.Test.YtfkmiflddpjllaaSre
import Derived.Test.YtfkmiflddpjllaaShD
namespace Go.Proofs.Ytfkmiflddpjllaa
open Go.RowKit
set_option linter.unusedVariables false
set_option linter.unusedSimpArgs false

theorem rep_data {size need : Int} {L : List Sh} {number x : Int} {vs : List Int} (h : RepIs size need L number x vs true) : x = number ∧ ∃ out, JoinSh size need L out true ∧ matchB out need x vs = true := by
  rcases h with ⟨h1, _⟩ | ⟨_, h2, h3, out, hj, h4, h5⟩
  · cases h1
  · obtain ⟨d1, d2, d3, d4, d5⟩ := data_of hj
    refine ⟨h4, out, hj, ?_⟩
    rw [h4, h5, matchB_eq (dataB_true d1 d2 d3 d4 d5) h2 h3]
    exact eqTo_refl _

set_option maxHeartbeats 4000000 in
theorem walk_FnShardRepair (a0 : Option Addr) (len0 cap0 : Nat) (z0 : List Int) (w : World) (w0 : Ints .u8 w w.heap.size a0 len0 cap0 z0) :
    Calls Try.prog 4 #[.slice a0 len0 cap0] w fun e w' => e = .returned (.bool true) ∧ Below w.heap.size w w' := by
  by_cases h1 : len0 ≤ 1048576
  · have g1 : decide (1048576 < len0) = false := by simp; omega
    go_enter Try.func4, Try.ntmps4
    go_wp2_with fail
    refine (drawRep_any a0 len0 cap0 z0 _ w0).mono ?_
    clear w0
    rintro e w1 ⟨size, need, A, c, L, number, rfl, hL, hl8, hv13, hB1⟩
    have HVZ : Hid (∀ j, j < L.length → (val_ L j).length ≤ 2000000) := by unfold Hid; intro j hj; have := hv13 j hj; omega
    clear hv13
    go_wp2_with fail
    refine (repairF_any size need number A c L _ hL (by omega) HVZ.out).mono ?_
    rintro e w2 ⟨x, vs, ok, Ag, cg, rfl, hj, hgg, hv12, hb2⟩
    obtain ⟨ug, hcg⟩ := RepPost.own hgg
    have HJ := Lib.hid hj
    have HEL := Lib.hid (sameB_rf x vs)
    obtain ⟨V2, hV2⟩ : ∃ V, V = w2.alloc (.cells #[.int .i64 x, .slice Ag vs.length cg] 30) := ⟨_, rfl⟩
    have g2 : Bx V2 w2.heap.size x Ag vs.length cg := by rw [hV2]; exact Bx.mk _ _ _ _ _
    have hA2 : Below w2.heap.size w2 V2 := by rw [hV2]; exact (Below.refl _ _).alloc (Nat.le_refl _) _
    have hbb : Below w1.heap.size w1 V2 := hb2.trans (hA2.mono hb2.size)
    have hB2 : Below w.heap.size w V2 := hB1.trans (hbb.mono hB1.size)
    have hL2 := (hL.below hbb).more hbb.size
    have ug2 := ug.below hA2
    go_wp2_with fail
    rw [← hV2]
    obtain ⟨G, hG⟩ : ∃ G, G = w2.heap.size := ⟨_, rfl⟩
    rw [← hG] at g2 ⊢
    clear hV2 hG hA2 hbb hL ug hb2 hB1 hj hgg hcg
    refine (repairS_any size need number A c L _ hL2 (by omega) HVZ.out).mono ?_
    rintro e w3 ⟨x', vs', ok', Aw, cw, rfl, hj', hgw, hv12', hb3⟩
    obtain ⟨uw, hcw⟩ := RepPost.own hgw
    obtain ⟨e0, e1, e2⟩ := RepIs.one hj' HJ.out
    rw [e1] at uw ⊢
    rw [e0, e2]
    clear hj' e0 e1 e2 ok' vs' hgw hcw hv12'
    obtain ⟨V3, hV3⟩ : ∃ V, V = w3.alloc (.cells #[.int .i64 x, .slice Aw vs.length cw] 30) := ⟨_, rfl⟩
    have p3 : Bx V3 w3.heap.size x Aw vs.length cw := by rw [hV3]; exact Bx.mk _ _ _ _ _
    have hA3 : Below w3.heap.size w3 V3 := by rw [hV3]; exact (Below.refl _ _).alloc (Nat.le_refl _) _
    have hbb : Below V2.heap.size V2 V3 := hb3.trans (hA3.mono hb3.size)
    have hB3 : Below w.heap.size w V3 := hB2.trans (hbb.mono hB2.size)
    have hL3 := (hL2.below hbb).more hbb.size
    have ug3 := ug2.below hbb
    have uw3 := uw.below hA3
    have g3 := g2.below hbb
    have HWV := Lib.hid hV3
    obtain ⟨P, hP⟩ : ∃ P, P = w3.heap.size := ⟨_, rfl⟩
    rw [← hP] at p3
    have HPP := Lib.hid hP
    obtain ⟨m0, m1, _, _⟩ := box2 p3
    obtain ⟨n0, n1, _, _⟩ := box2 g3
    rw [HWV.out] at m0 m1 n0 n1
    rw [HPP.out] at m0 m1
    clear hV3 hP hA3 hbb hL2 ug2 uw g2 hB2 hb3
    cases ok with
    | false =>
      go_wp2_with fail
      rw [← HPP.out, ← HWV.out]
      clear m0 m1 n0 n1 HWV HPP
      refine (sameShard_any x x Ag Aw vs vs cg cw _ ug3.sl uw3.sl (by omega) (by omega)).mono ?_
      rintro e w4 ⟨rfl, hb4⟩
      rw [HEL.out]
      have hB4 : Below w.heap.size w w4 := hB3.trans (hb4.mono hB3.size)
      have ug4 := ug3.below hb4
      have uw4 := uw3.below hb4
      obtain ⟨m0, m1, _, _⟩ := box2 (p3.below hb4)
      obtain ⟨n0, n1, _, _⟩ := box2 (g3.below hb4)
      clear ug3 uw3 p3 g3 hb4 hB3 hL3
      go_wp2_with fail
      refine (sameShard_any x x Ag Aw vs vs cg cw _ ug4.sl uw4.sl (by omega) (by omega)).mono ?_
      rintro e w5 ⟨rfl, hb5⟩
      rw [HEL.out]
      have hB5 : Below w.heap.size w w5 := hB4.trans (hb5.mono hB4.size)
      clear m0 m1 n0 n1
      go_wp2_with fail
      go_ret
      exact ⟨rfl, hB5⟩
    | true =>
      obtain ⟨hxn, out, ho, hma⟩ := rep_data HJ.out
      have ho12 := ho.small
      have HO := Lib.hid ho
      have HMA := Lib.hid hma
      clear ho hma
      have tx : (x == number) = true := by rw [hxn]; simp
      clear hxn
      go_wp2_with fail
      rw [← HPP.out, ← HWV.out]
      clear m0 m1 n0 n1 HWV HPP
      refine (sameShard_any x x Ag Aw vs vs cg cw _ ug3.sl uw3.sl (by omega) (by omega)).mono ?_
      rintro e w4 ⟨rfl, hb4⟩
      rw [HEL.out]
      have hB4 : Below w.heap.size w w4 := hB3.trans (hb4.mono hB3.size)
      have hL4 := (hL3.below hb4).more hb4.size
      have ug4 := ug3.below hb4
      have g4 := g3.below hb4
      clear ug3 uw3 p3 g3 hb4 hB3 hL3
      go_wp2_with fail
      refine (joinF_any size need A c L _ hL4 (by omega) HVZ.out).mono ?_
      rintro e w5 ⟨out', ok', g0, c0, rfl, hj', hg0, u0, hc0, hc0m, hb5⟩
      obtain ⟨e1, e2⟩ := JoinSh.one hj' HO.out
      rw [e1] at u0 hc0 ⊢
      rw [e2]
      clear hj' e1 e2 out' ok'
      have hB5 : Below w.heap.size w w5 := hB4.trans (hb5.mono hB4.size)
      have ug5 := ug4.below hb5
      obtain ⟨n0, n1, _, _⟩ := box2 (g4.below hb5)
      clear ug4 g4 hb5 hB4 hL4
      go_wp2_with fail
      refine (matchF_any _ Ag c0 cg out vs need x _ u0.sl' ug5.sl (by omega) (by omega) hc0 hc0m).mono ?_
      rintro e w6 ⟨rfl, hb6⟩
      rw [HMA.out]
      have hB6 : Below w.heap.size w w6 := hB5.trans (hb6.mono hB5.size)
      go_wp2_with fail
      go_ret
      exact ⟨rfl, hB6⟩
  · have g1 : decide (1048576 < len0) = true := by simp; omega
    go_enter Try.func4, Try.ntmps4
    go_wp2_with fail
    go_ret
    exact ⟨rfl, Below.refl _ _⟩
end Go.Proofs.Ytfkmiflddpjllaa
