/- The walk of FnExactShardMatches. No condition. -/
import Derived.Test.YtfkmiflddpjllaaShG
import Derived.Test.YtfkmiflddpjllaaShH
import Derived.Test.YtfkmiflddpjllaaShQ
import Derived.Test.YtfkmiflddpjllaaShR
import Derived.Lib.SmallJoins
namespace Go.Proofs.Ytfkmiflddpjllaa
open Go.RowKit Go.ChangeShapes Go.WideShapes Go.Deep Go.Joins
set_option linter.unusedVariables false
set_option linter.unusedSimpArgs false

theorem shard_of_trod {H : Type} {enc : TypeId × Value → H} {W : World} {base : Nat} {v : Value} {d : DataW H} {p : List MemPlace}
    (hv : Value.okWide Try.prog W .any base 46 v) (h : DataW.Trod enc Try.prog W 0 (fun _ => true) true 46 v d p) :
    ∃ (x : Int) (A0 : Option Addr) (n0 c0 : Nat), v = .agg #[.int .i64 x, .slice A0 n0 c0] ∧ ∃ z0, Ints .i64 W W.heap.size A0 n0 c0 z0 := by
  obtain ⟨v0, v1, y0, y1, m, rfl, rfl, rfl, hy0, hy1⟩ := open_agg2 Try.underlying46 (by kernel_rfl) (by kernel_rfl) hv h
  obtain ⟨f, e0, rfl, wf⟩ := DataW.trod_int Try.underlying3 hy0
  simp at e0
  subst e0
  have hs : ∃ A n c, v1 = .slice A n c := by
    rcases open_ints Try.underlying26 Try.underlying3 (by kernel_rfl) hy1 with ⟨hcs, _⟩ | ⟨x, l, c', zs, hcs, _⟩
    · simp at hcs; exact ⟨_, _, _, hcs⟩
    · simp at hcs; exact ⟨_, _, _, hcs⟩
  obtain ⟨A, n, c, rfl⟩ := hs
  obtain ⟨zs, hz⟩ := ints_of_trod (d := y1.1) (p := y1.2) Try.underlying26 Try.underlying3 (by kernel_rfl) ⟨m, by simpa [Value.cells] using hy1⟩
  exact ⟨f, A, n, c, rfl, zs, hz⟩
theorem sameB_refl (x : Int) (vs : List Int) : sameB x vs x vs = true := by simp [sameB]

set_option maxHeartbeats 4000000 in
theorem walk_FnExactShardMatches (A : Option Addr) (n c : Nat) (l : List Int) (need x : Int) (A' : Option Addr) (n' c' : Nat) (vs : List Int) (w : World) (w0 : Ints .i64 w w.heap.size A n c l) (wf : (Lit.int .i64 need).wf = true) (w1 : Ints .i64 w w.heap.size A' n' c' vs) :
    Calls Try.prog 6 #[.slice A n c, .int .i64 need, .agg #[.int .i64 x, .slice A' n' c']] w fun e w' => e = .returned (.bool true) ∧ Below w.heap.size w w' := by
  obtain ⟨rfl, h⟩ := Sl.of_ints w0
  obtain ⟨rfl, h'⟩ := Sl.of_ints w1
  have hmax : l.length ≤ 9223372036854775807 := by have h1 := w0.2.1; have h2 := w0.2.2.1; unfold maxLen at h2; omega
  have hmax' : vs.length ≤ 9223372036854775807 := by have h1 := w1.2.1; have h2 := w1.2.2.1; unfold maxLen at h2; omega
  clear w0 w1 wf
  obtain ⟨W, hW⟩ : ∃ W, W = w.alloc (.cells #[.int .i64 x, .slice A' vs.length c'] 46) := ⟨_, rfl⟩
  have hP : Below w.heap.size w W := by rw [hW]; exact (Below.refl _ _).alloc (Nat.le_refl _) _
  have bP : W.heap[w.heap.size]? = some (.cells #[.int .i64 x, .slice A' vs.length c'] 46 (0, 0)) := by rw [hW]; exact two_cells w _ _ _
  have hPn : w.heap.size < W.heap.size := by rw [hW]; simp
  have hQ := (h.below hP).more hP.size
  have hQ' := (h'.below hP).more hP.size
  have BP : Hid (∀ V, Below W.heap.size W V → V.heap[w.heap.size]? = some (.cells #[.int .i64 x, .slice A' vs.length c'] 46 (0, 0))) := by
    unfold Hid; intro V hV; exact (hV.block w.heap.size hPn).trans bP
  clear h h'
  by_cases hl : l.length ≤ 1048576
  · have hl2 : l.length ≤ 2000000 := by omega
    have q0 : decide (1048576 < l.length) = false := by simp; omega
    have q0' : decide ((1048576 : Int) < l.length) = false := by simp; omega
    by_cases hz : (vs.length : Int) ≤ 1048576
    · have HZ := Lib.hid (szV_pos (n := vs.length) (left := 1048576) hz)
      have q1 : decide ((1048576 : Int) - (vs.length : Int) < 0) = false := by simp only [decide_eq_false_iff_not]; omega
      have q2 : ¬ ((1048576 : Int) - (vs.length : Int) < 0) := by omega
      have hv2 : vs.length ≤ 2000000 := by omega
      have HEL := Lib.hid (eqTo_refl l)
      have HEV := Lib.hid (sameB_refl x vs)
      have hml : l.length ≤ maxLen := by simp only [maxLen]; omega
      go_enter Try.func6, Try.ntmps6
      go_wp2_with fail
      rw [← hW]
      clear hW
      refine (szSh_any x A' vs c' 1048576 _ (by omega) (by omega) hmax').mono ?_
      rintro e w1 ⟨rfl, hb1⟩
      rw [HZ.out]
      go_wp2_with fail
      obtain ⟨p0, p1, p2, p3⟩ := box2 (BP.out _ hb1)
      have hlt1 : w.heap.size < w1.heap.size := by have := hb1.size; omega
      have hA1 : Sl w1.drew w1.drew.heap.size A l := (hQ.below hb1).more hb1.size
      go_region_held3 (fun w' => w'.cell? ⟨w.heap.size, 0, none⟩ = some (.int .i64 x) ∧ w'.cell? ⟨w.heap.size, 1, none⟩ = some (.slice A' vs.length c')) (first | exact ⟨p0, p1⟩ | exact ⟨h8a, h8b⟩ | exact ⟨h9a, h9b⟩ | exact ⟨h7a, h7b⟩)
        (first
          | (go_at_call 32; refine (toIntS_any A l c _ hA1 hl2).mono ?_; rintro e w2 ⟨rfl, hr2, hb2, hs2⟩; have u2 := Wr.of_row hr2 (Nat.le_refl _); have hB2 : Below W.heap.size W w2 := (below_drew' hb1).trans (hb2.mono hb1.size); have h8a := (hb2.cell (p := ⟨w.heap.size, 0, none⟩) hlt1).trans p0; have h8b := (hb2.cell (p := ⟨w.heap.size, 1, none⟩) hlt1).trans p1)
          | (go_at_call 33; refine (toSh_any x A' vs c' w2 ((hQ'.below hB2).more hB2.size) hv2).mono ?_; rintro e w3 ⟨g3, hg3, rfl, u3, hb3⟩; have hl2' := Nat.lt_of_lt_of_le hlt1 hb2.size; have h9a := (hb3.cell (p := ⟨w.heap.size, 0, none⟩) hl2').trans h8a; have h9b := (hb3.cell (p := ⟨w.heap.size, 1, none⟩) hl2').trans h8b)
          | (go_at_call 31; refine (matchS_any _ _ l.length vs.length l vs need x w3 (u2.below hb3 u2.lt).sl' u3.sl' hl2 hv2).mono ?_; rintro e w4 ⟨rfl, hb4⟩; have hl3' := Nat.lt_of_lt_of_le hl2' hb3.size; have h7a := (hb4.cell (p := ⟨w.heap.size, 0, none⟩) hl3').trans h9a; have h7b := (hb4.cell (p := ⟨w.heap.size, 1, none⟩) hl3').trans h9b))
      have hB3 : Below W.heap.size W w3 := hB2.trans (hb3.mono hB2.size)
      have hB4 : Below W.heap.size W w4 := hB3.trans (hb4.mono hB3.size)
      obtain ⟨b, hb⟩ : ∃ b, b = matchB l need x vs := ⟨_, rfl⟩
      rw [← hb]
      have HB := Lib.hid hb
      clear hB3 hb4 u3 hb u2 hB2 hb2 hb3 hr2 hs2 h8a h8b h9a h9b h7a h7b hl2' hl3' p0 p1 p2 p3 hb1 hA1 hlt1
      go_wp2_with fail
      refine (toIntS_any A l c _ ((hQ.below hB4).more hB4.size) hl2).mono ?_
      rintro e w5 ⟨rfl, hr5, hb5, hs5⟩
      have HS5 := Lib.hid hs5
      clear hs5
      have u5 := Wr.of_row hr5 (Nat.le_refl _)
      have hB5 : Below W.heap.size W w5 := hB4.trans (hb5.mono hB4.size)
      obtain ⟨p0, p1, p2, p3⟩ := box2 (BP.out _ hB5)
      clear hr5 hb5 hB4
      go_wp2_with fail
      refine (toSh_any x A' vs c' _ ((hQ'.below hB5).more hB5.size) hv2).mono ?_
      rintro e w6 ⟨g6, hg6, rfl, u6, hb6⟩
      have hB6 : Below W.heap.size W w6 := hB5.trans (hb6.mono hB5.size)
      have u56 := u5.below hb6 u5.lt
      clear hB5 hb6 u5 hg6 p0 p1 p2 p3
      obtain ⟨X, hX⟩ : ∃ X, X = w6.alloc (.cells #[.int .i64 x, .slice (some ⟨g6, 0, none⟩) vs.length vs.length] 30) := ⟨_, rfl⟩
      have hBX : Below W.heap.size W X := by rw [hX]; exact hB6.alloc hB6.size _
      have bX : X.heap[w6.heap.size]? = some (.cells #[.int .i64 x, .slice (some ⟨g6, 0, none⟩) vs.length vs.length] 30 (0, 0)) := by rw [hX]; exact two_cells w6 _ _ _
      have hXn : w6.heap.size < X.heap.size := by rw [hX]; simp
      have ux := u56.block (Below.heap_alloc w6 (.cells #[.int .i64 x, .slice (some ⟨g6, 0, none⟩) vs.length vs.length] 30) w4.heap.size u56.lt)
      have uv := u6.block (Below.heap_alloc w6 (.cells #[.int .i64 x, .slice (some ⟨g6, 0, none⟩) vs.length vs.length] 30) g6 u6.lt)
      rw [← hX] at ux uv
      have BX : Hid (∀ V, Below X.heap.size X V → V.heap[w6.heap.size]? = some (.cells #[.int .i64 x, .slice (some ⟨g6, 0, none⟩) vs.length vs.length] 30 (0, 0))) := by
        unfold Hid; intro V hV; exact (hV.block w6.heap.size hXn).trans bX
      clear u56 u6 bX hB6
      go_wp2_with fail
      rw [← hX]
      obtain ⟨G6, hG6⟩ : ∃ G, G = w6.heap.size := ⟨_, rfl⟩
      rw [← hG6] at hXn BX ⊢
      obtain ⟨G4, hG4⟩ : ∃ G, G = w4.heap.size := ⟨_, rfl⟩
      rw [← hG4] at ux ⊢
      clear hX hG6 hG4
      refine (matchF_any _ _ l.length vs.length l vs need x _ ux.sl' uv.sl' hl2 hv2 (Nat.le_refl _) hml).mono ?_
      rintro e w7 ⟨rfl, hb7⟩
      rw [← HB.out]
      have ux7 := ux.below hb7 ux.lt
      have uv7 := uv.below hb7 uv.lt
      have hB7 : Below W.heap.size W w7 := hBX.trans (hb7.mono hBX.size)
      have tb : (b != b) = false := by simp
      clear ux uv
      go_wp2_with fail
      refine (toIntS_any A l c _ ((hQ.below hB7).more hB7.size) hl2).mono ?_
      rintro e w8 ⟨rfl, hr8, hb8, hs8⟩
      have HS8 := Lib.hid hs8
      clear hs8
      have u8 := Wr.of_row hr8 (Nat.le_refl _)
      have hB8 : Below W.heap.size W w8 := hB7.trans (hb8.mono hB7.size)
      have hX8 : Below X.heap.size X w8 := hb7.trans (hb8.mono hb7.size)
      have ux8 := ux7.below hb8 ux7.lt
      have uv8 := uv7.below hb8 uv7.lt
      clear hr8 hb8 hb7 hB7 ux7 uv7
      go_wp2_with fail
      refine (eqIntS_any _ _ l l l.length l.length _ _ _ ux8.sl u8.sl hl2 hl2).mono ?_
      rintro e w9 ⟨rfl, n9, rfl⟩
      rw [HEL.out]
      have hB9 := bel_n hB8 n9
      have hX9 := bel_n hX8 n9
      have uv9 := uv8.drewN n9
      obtain ⟨W9, hW9⟩ : ∃ W, W = w8.drewN n9 := ⟨_, rfl⟩
      rw [← hW9] at hB9 hX9 uv9 ⊢
      clear hB8 hX8 ux8 uv8 u8 hW9 HS8
      obtain ⟨p0, p1, p2, p3⟩ := box2 (BP.out _ hB9)
      obtain ⟨x0, x1, x2, x3⟩ := box2 (BX.out _ hX9)
      have hlt9 : w.heap.size < W9.heap.size := by have := hB9.size; omega
      have hlx9 : G6 < W9.heap.size := by have := hX9.size; omega
      go_wp2_with fail
      go_region_held3 (fun w' => w'.cell? ⟨w.heap.size, 0, none⟩ = some (.int .i64 x) ∧ w'.cell? ⟨w.heap.size, 1, none⟩ = some (.slice A' vs.length c') ∧ w'.cell? ⟨G6, 0, none⟩ = some (.int .i64 x) ∧ w'.cell? ⟨G6, 1, none⟩ = some (.slice (some ⟨g6, 0, none⟩) vs.length vs.length)) (first | exact ⟨p0, p1, x0, x1⟩ | exact ⟨h8a, h8b, h8c, h8d⟩ | exact ⟨h9a, h9b, h9c, h9d⟩)
        (first
          | (go_at_call 33; refine (toSh_any x A' vs c' _ ?_ hv2).mono ?_; exact (hQ'.below hB9).more hB9.size; rintro e w10 ⟨g10, hg10, rfl, u10, hb10⟩; have h8a := (hb10.cell (p := ⟨w.heap.size, 0, none⟩) hlt9).trans p0; have h8b := (hb10.cell (p := ⟨w.heap.size, 1, none⟩) hlt9).trans p1; have h8c := (hb10.cell (p := ⟨G6, 0, none⟩) hlx9).trans x0; have h8d := (hb10.cell (p := ⟨G6, 1, none⟩) hlx9).trans x1)
          | (go_at_call 25; refine (eqShard_any x x _ _ vs vs vs.length vs.length w10 (uv9.drew.below hb10 uv9.drew.lt).sl' u10.sl' hv2 hv2).mono ?_; rintro e w11 ⟨rfl, hb11⟩; rw [HEV.out]; have hl10 := Nat.lt_of_lt_of_le hlt9 hb10.size; have hlx10 := Nat.lt_of_lt_of_le hlx9 hb10.size; have h9a := (hb11.cell (p := ⟨w.heap.size, 0, none⟩) hl10).trans h8a; have h9b := (hb11.cell (p := ⟨w.heap.size, 1, none⟩) hl10).trans h8b; have h9c := (hb11.cell (p := ⟨G6, 0, none⟩) hlx10).trans h8c; have h9d := (hb11.cell (p := ⟨G6, 1, none⟩) hlx10).trans h8d))
      all_goals
        have hB10 : Below W.heap.size W w10 := (below_drew' hB9).trans (hb10.mono hB9.size)
        have hB11 : Below W.heap.size W w11 := hB10.trans (hb11.mono hB10.size)
        go_wp2_with fail
        go_ret
        exact ⟨rfl, hP.trans (hB11.mono hP.size)⟩
    · have HZ := Lib.hid (szV_neg (n := vs.length) (left := 1048576) hz)
      go_enter Try.func6, Try.ntmps6
      go_wp2_with fail
      rw [← hW]
      clear hW
      refine (szSh_any x A' vs c' 1048576 _ (by omega) (by omega) hmax').mono ?_
      rintro e w1 ⟨rfl, hb1⟩
      rw [HZ.out]
      go_wp2_with fail
      go_ret
      exact ⟨rfl, hP.trans (hb1.mono hP.size)⟩
  · have q0 : decide (1048576 < l.length) = true := by simp; omega
    have q0' : decide ((1048576 : Int) < l.length) = true := by simp; omega
    go_enter Try.func6, Try.ntmps6
    go_wp2_with fail
    go_ret
    rw [← hW]
    exact ⟨rfl, hP⟩
end Go.Proofs.Ytfkmiflddpjllaa
