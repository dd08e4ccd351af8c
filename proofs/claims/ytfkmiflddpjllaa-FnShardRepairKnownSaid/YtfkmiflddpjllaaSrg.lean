/- The walk of FnShardRepairKnown. No condition. -/
import Derived.Test.YtfkmiflddpjllaaSre
import Derived.Test.YtfkmiflddpjllaaShD
import Derived.Deep.RegionHeld3
namespace Go.Proofs.Ytfkmiflddpjllaa
open Go.RowKit
set_option linter.unusedVariables false
set_option linter.unusedSimpArgs false

theorem known_rep {size need : Int} {L : List Sh} {out : List Int} (h : JoinSh size need L out true) {s : Nat} (hs : s < L.length) : RepIs size need L (num_ L s) (num_ L s) (val_ L s) true := by
  obtain ⟨hb, h1, h2, h3⟩ := h.said
  obtain ⟨p1, p2, p3, p4, p5, p6, p7⟩ := shardsB_parts hb
  exact .inr ⟨rfl, (p7 s hs).1, (p7 s hs).2.1, out, h, rfl, (h3 s hs).symm⟩
theorem known_pos {size need : Int} {L : List Sh} {out : List Int} (h : JoinSh size need L out true) : 1 ≤ L.length := by
  obtain ⟨hb, h1, h2, h3⟩ := h.said
  obtain ⟨p1, p2, p3, p4, p5, p6, p7⟩ := shardsB_parts hb
  omega
theorem tmod_nat1 (a n : Nat) : ((a : Int).tmod (n : Int)) = ((a % n : Nat) : Int) := by
  rw [Int.tmod_eq_emod_of_nonneg (by omega)]; simp

set_option maxHeartbeats 4000000 in
theorem walk_FnShardRepairKnown (a0 : Option Addr) (len0 cap0 : Nat) (z0 : List Int) (a1 : Option Addr) (len1 cap1 : Nat) (z1 : List Int) (w : World) (w0 : Ints .u8 w w.heap.size a0 len0 cap0 z0) (w1 : Ints .u8 w w.heap.size a1 len1 cap1 z1) :
    Calls Try.prog 3 #[.slice a0 len0 cap0, .slice a1 len1 cap1] w fun e w' => e = .returned (.bool true) ∧ Below w.heap.size w w' := by
  by_cases h1 : len0 ≤ 1048576
  · by_cases h2 : len1 ≤ 1048576
    · have g1 : decide (1048576 < len0) = false := by simp; omega
      have g2 : decide (1048576 < len1) = false := by simp; omega
      go_enter Try.func3, Try.ntmps3
      go_wp2_with fail
      refine (drawJoin_any a0 len0 cap0 z0 _ w0).mono ?_
      clear w0 w1
      rintro e w1 ⟨size, need, A, c, L, rfl, hL, hl8, hv13, hB1⟩
      have HVZ : Hid (∀ j, j < L.length → (val_ L j).length ≤ 2000000) := by unfold Hid; intro j hj; have := hv13 j hj; omega
      clear hv13
      go_wp2_with fail
      refine (joinR_any size need A c L _ hL (by omega) HVZ.out).mono ?_
      rintro e w2 ⟨out, ok, gw, cw, rfl, hj, hgw, uw, hcw, hcwm, hb2⟩
      have HJ := Lib.hid hj
      have hB2 : Below w.heap.size w w2 := hB1.trans (hb2.mono hB1.size)
      have hL2 := (hL.below hb2).more hb2.size
      clear hj hb2 hL hB1 hgw uw hcw hcwm
      go_wp2_with fail
      refine (joinF_any size need A c L _ hL2 (by omega) HVZ.out).mono ?_
      rintro e w3 ⟨out', ok', g0, c0, rfl, hj', hg0, u0, hc0, hc0m, hb3⟩
      obtain ⟨e1, e2⟩ := JoinSh.one hj' HJ.out
      rw [e1, e2]
      have hB3 : Below w.heap.size w w3 := hB2.trans (hb3.mono hB2.size)
      have hL3 := (hL2.below hb3).more hb3.size
      clear hL2 hB2 hb3 u0 hj' e1 e2 ok' hg0 hc0 hc0m out'
      cases ok with
      | false =>
        go_wp2_with fail
        go_ret
        exact ⟨rfl, hB3⟩
      | true =>
        have hpos := known_pos HJ.out
        have hmod := tmod_nat1 len1 L.length
        have hemod : ((len1 : Int) % (L.length : Int)) = ((len1 % L.length : Nat) : Int) := by simp
        obtain ⟨s, hs⟩ : ∃ s, s = len1 % L.length := ⟨_, rfl⟩
        have hsL : s < L.length := by rw [hs]; exact Nat.mod_lt _ (by omega)
        rw [← hs] at hmod hemod
        clear hs
        have hz : ¬ (L.length : Int) = 0 := by omega
        have hz' : ((L.length : Int) == 0) = false := by simp only [beq_eq_false_iff_ne]; omega
        have HR := Lib.hid (known_rep HJ.out hsL)
        have HEL := Lib.hid (sameB_rf (num_ L s) (val_ L s))
        have HL3 := Lib.hid hL3
        obtain ⟨b, off, A', c', rfl, hbl, q1, q2, hcc, hsl⟩ := hL3.at_ hsL
        have hvs := HVZ.out s hsL
        clear hL3
        go_wp2_with fail
        refine (repairF_any size need (num_ L s) _ c L _ HL3.out (by omega) HVZ.out).mono ?_
        rintro e w4 ⟨x, vs, ok', Ag, cg, rfl, hj', hgg, hv12, hb4⟩
        obtain ⟨ug, hcg⟩ := RepPost.own hgg
        obtain ⟨e0, e1, e2⟩ := RepIs.one hj' HR.out
        rw [e1] at ug ⊢
        rw [e0, e2]
        clear hj' e0 e1 e2 ok' hgg hcg hv12 vs x
        obtain ⟨V, hV⟩ : ∃ V, V = w4.alloc (.cells #[.int .i64 (num_ L s), .slice Ag (val_ L s).length cg] 30) := ⟨_, rfl⟩
        have g4 : Bx V w4.heap.size (num_ L s) Ag (val_ L s).length cg := by rw [hV]; exact Bx.mk _ _ _ _ _
        have hA4 : Below w4.heap.size w4 V := by rw [hV]; exact (Below.refl _ _).alloc (Nat.le_refl _) _
        have hbb : Below w3.heap.size w3 V := hb4.trans (hA4.mono hb4.size)
        have hB4 : Below w.heap.size w V := hB3.trans (hbb.mono hB3.size)
        have ugv := ug.below hA4
        have r1 := (hbb.cell (p := ⟨b, off + s * 2, none⟩) hbl).trans q1
        have r2 := (hbb.cell (p := ⟨b, off + s * 2 + 1, none⟩) hbl).trans q2
        have hbl4 : b < V.heap.size := Nat.lt_of_lt_of_le hbl hbb.size
        have hsl4 := (hsl.below hbb).more hbb.size
        have hglt := g4.lt
        go_wp2_with fail
        rw [← hV]
        obtain ⟨G, hG⟩ : ∃ G, G = w4.heap.size := ⟨_, rfl⟩
        rw [← hG] at g4 hglt ⊢
        obtain ⟨n0, n1, _, _⟩ := box2 g4
        clear hV hG hA4 hbb ug hb4 q1 q2 hsl hB3 g4
        go_region_held3 (fun w' => w'.cell? ⟨G, 0, none⟩ = some (.int .i64 (num_ L s)) ∧ w'.cell? ⟨G, 1, none⟩ = some (.slice Ag (val_ L s).length cg) ∧ w'.cell? ⟨b, off + s * 2, none⟩ = some (.int .i64 (num_ L s)) ∧ w'.cell? ⟨b, off + s * 2 + 1, none⟩ = some (.slice A' (val_ L s).length c')) (first | exact ⟨n0, n1, r1, r2⟩ | exact ⟨h8a, h8b, h8c, h8d⟩)
          (first
            | (go_at_call 19; refine (sameShard_any (num_ L s) (num_ L s) Ag A' (val_ L s) (val_ L s) cg c' _ ?_ ?_ (by omega) (by omega)).mono ?_; exact ugv.sl; exact hsl4; rintro e w5 ⟨rfl, hb5⟩; rw [HEL.out]; have h8a := (hb5.cell (p := ⟨G, 0, none⟩) hglt).trans n0; have h8b := (hb5.cell (p := ⟨G, 1, none⟩) hglt).trans n1; have h8c := (hb5.cell (p := ⟨b, off + s * 2, none⟩) hbl4).trans r1; have h8d := (hb5.cell (p := ⟨b, off + s * 2 + 1, none⟩) hbl4).trans r2))
        all_goals
          have hB5 : Below w.heap.size w w5 := (below_drew' hB4).trans (hb5.mono hB4.size)
          go_wp2_with fail
          go_ret
          exact ⟨rfl, hB5⟩
    · have g1 : decide (1048576 < len0) = false := by simp; omega
      have g2 : decide (1048576 < len1) = true := by simp; omega
      go_enter Try.func3, Try.ntmps3
      go_wp2_with fail
      go_ret
      exact ⟨rfl, Below.refl _ _⟩
  · have g1 : decide (1048576 < len0) = true := by simp; omega
    go_enter Try.func3, Try.ntmps3
    go_wp2_with fail
    go_ret
    exact ⟨rfl, Below.refl _ _⟩
end Go.Proofs.Ytfkmiflddpjllaa
