/- The walks of FnMerkleChange. No condition. -/
import Derived.Test.YtgmbacgpaagkhaaMrkL
import Derived.Deep.RegionHeld3
import Derived.Deep.RegionWith
namespace Go.Proofs.Ytgmbacgpaagkhaa
open Go.RowKit
set_option linter.unusedVariables false
set_option linter.unusedSimpArgs false

theorem sl_one {V : World} {g : Nat} {x : Int} (h1 : V.cell? ⟨g, 0, none⟩ = some (.int .i64 x)) (h2 : g < V.heap.size) : Sl V V.heap.size (some ⟨g, 0, none⟩) [x] := fun _ => ⟨g, 0, rfl, h2, fun j hj => by
  have : j = 0 := by simpa using hj
  subst this
  exact h1⟩


set_option maxHeartbeats 16000000 in
theorem walk_FnMerkleChange (a0 : Option Addr) (len0 cap0 : Nat) (z0 : List Int) (a1 : Option Addr) (len1 cap1 : Nat) (z1 : List Int) (w : World) (w0 : Ints .u8 w w.heap.size a0 len0 cap0 z0) (w1 : Ints .u8 w w.heap.size a1 len1 cap1 z1) :
    Calls Try.prog 6 #[.slice a0 len0 cap0, .slice a1 len1 cap1] w fun e w' => e = .returned (.bool true) ∧ Below w.heap.size w w' := by
  by_cases h1 : len0 ≤ 1048576
  · by_cases h2 : len1 ≤ 1048576
    · have g1 : decide (1048576 < len0) = false := by simp; omega
      have g2 : decide (1048576 < len1) = false := by simp; omega
      have hEV := eqTo_same
      go_enter Try.func6, Try.ntmps6
      go_wp2_with fail
      obtain ⟨i0, hi, hz0, hz1, hz2⟩ := info_parts info_int
      refine (drawRoot_any a0 len0 cap0 z0 _ w0).mono ?_
      clear w0
      rintro e w2 ⟨gd, cd, l, hgd, rfl, ud, hdl, hdc, hdm, hb2⟩
      go_wp2_with fail
      refine (root_any _ _ l _ ud.sl' (by omega)).mono ?_
      rintro e w3 ⟨rfl, hb3⟩
      replace ud := ud.below hb3 ud.lt
      have hB3 : Below w.heap.size w w3 := hb2.trans (hb3.mono hb2.size)
      clear hb2 hb3
      go_wp2_with fail
      refine (rootS_any _ _ l _ ud.sl' (by omega)).mono ?_
      rintro e w4 ⟨rfl, hb4⟩
      replace ud := ud.below hb4 ud.lt
      have hB : Below w.heap.size w w4 := hB3.trans (hb4.mono hB3.size)
      clear hB3 hb4
      have hneg := rootV_neg l
      by_cases hlv : leavesB l = true
      · rw [hlv] at hneg
        have t1 : decide (rootV l < 0) = false := hneg
        have HL := Lib.hid hlv
        obtain ⟨k1, k16, _⟩ := leavesB_parts hlv
        obtain ⟨R, hR⟩ : ∃ R, R = rootV l := ⟨_, rfl⟩
        rw [← hR] at t1 ⊢
        have HR := Lib.hid hR
        clear hlv hneg hR
        have hkm : ((len1 : Int) % (l.length : Int)) = ((len1 % l.length : Nat) : Int) := by simp
        have hkl : len1 % l.length < l.length := Nat.mod_lt _ (by omega)
        obtain ⟨k, hk⟩ : ∃ k, k = len1 % l.length := ⟨_, rfl⟩
        rw [← hk] at hkm hkl
        clear hk
        have t9 : ((l.length : Int) == 0) = false := by simp only [beq_eq_false_iff_ne]; omega
        have hown0 := OwnI.made w4 w.heap.size hB.size
        have hgdl := ud.lt
        go_wp2_with (at_builtin; refine wpList_app rfl _ _ 22 rfl w.heap.size 3 i0 (.int .i64 0) 1 8 Try.underlying22 hi hz0 hz1 hz2 rfl (by decide) w4.heap.size 0 0 [] rfl hown0 ⟨gd, 0, none⟩ l.length cd (l.map (Value.int .i64)) rfl (by simp) ?c1 ?c2 ?c3 ?c4 ?c5 ?_)
        case c1 => exact (ud.block (Below.heap_alloc _ _ _ hgdl)).rows
        case c2 => intro u hu; simp only [List.mem_map] at hu; obtain ⟨v, _, rfl⟩ := hu; rfl
        case c3 => simp only [maxLen]; omega
        case c4 => omega
        case c5 => have := hB.size; simp; omega
        intro g' c' w7 h3 h4 h5
        have ho7 : OwnI w7 w.heap.size g' c' l := by unfold OwnI; simpa using h3
        have hB7 : Below w.heap.size w w7 := (hB.alloc hB.size _).grown h4 (by have := hB.size; simp; omega) (fun kk e => by have := hB.size; injection e with e; omega)
        have ud7 : Wr w7 gd l := (ud.block (Below.heap_alloc _ _ _ hgdl)).far h4 (by omega)
        have hne7 : g' ≠ gd := by
          rcases h5 with e | e
          · omega
          · try simp at e
            omega
        clear h3 h4 h5 hown0 ud hB
        try simp only [Nat.zero_add]
        obtain ⟨d0, d1⟩ := allIn_get (leavesB_parts HL.out).2.2 hkl
        have q0 : 0 ≤ (len0 : Int) % 990 := by omega
        have q1 : (len0 : Int) % 990 ≤ 989 := by omega
        have hne : (nth l k + 1 + (len0 : Int) % 990) % 991 ≠ nth l k := by omega
        have HO := Lib.hid (root_change HL.out hkl (x := (nth l k + 1 + (len0 : Int) % 990) % 991) (by omega) hne)
        have t4 : ((nth l k + 1 + (len0 : Int) % 990) % 991 == nth l k) = false := by simpa using hne
        clear hne
        have hc7 := ho7.parts.2.2.2.2.cell hkl
        have hf7 := ho7.parts.2.2.2.2.frozen k
        have ux := ho7.parts.2.2.2.2.set k ((nth l k + 1 + (len0 : Int) % 990) % 991) hkl
        have ud8 := ud7.block (w' := w7.setCell ⟨g', k, none⟩ (.int .i64 ((nth l k + 1 + (len0 : Int) % 990) % 991))) (Below.heap_setCell _ _ _ _ (fun e => hne7 e.symm))
        have hB8 := hB7.setCell (p := ⟨g', k, none⟩) ho7.parts.1 (.int .i64 ((nth l k + 1 + (len0 : Int) % 990) % 991))
        have j1 : (k : Int) < (l.length : Int) := by omega
        have j2 : (0 : Int) ≤ (k : Int) := by omega
        go_wp2_with fail
        obtain ⟨x, hx⟩ : ∃ x, x = (nth l k + 1 + (len0 : Int) % 990) % 991 := ⟨_, rfl⟩
        rw [← hx] at t4 ux ud8 hB8 HO ⊢
        obtain ⟨W, hW⟩ : ∃ W, W = w7.setCell ⟨g', k, none⟩ (.int .i64 x) := ⟨_, rfl⟩
        rw [← hW] at ux ud8 hB8 ⊢
        clear hW hc7 hf7 ho7 ud7 hB7 hx
        have hxl : (l.set k x).length = l.length := by simp
        have cx := ux.cell (j := k) (by rw [hxl]; exact hkl)
        rw [nth_set l k k x hkl, if_pos rfl] at cx
        have cl := ud8.cell hkl
        have hcall := fun (V : World) (hV : Sl V V.heap.size (some ⟨g', 0, none⟩) (l.set k x)) => root_any (some ⟨g', 0, none⟩) c' (l.set k x) V hV (by rw [hxl]; omega)
        rw [hxl] at hcall
        have HC := Lib.hid hcall
        have t5 : (rootV (l.set k x) != R) = true := by rw [HR.out]; simpa using HO.out
        have HX := Lib.hid hxl
        clear hcall hxl
        go_region_held3 (fun w' => w'.cell? ⟨g', k, none⟩ = some (.int .i64 x) ∧ w'.cell? ⟨gd, k, none⟩ = some (.int .i64 (nth l k))) (first | exact ⟨cx, cl⟩ | exact ⟨cx9, cl9⟩)
          (first | (go_at_call 17; refine (HC.out _ ?_).mono ?_; exact ux.sl'; rintro e w9 ⟨rfl, hb9⟩; have cx9 := (hb9.cell (p := ⟨g', k, none⟩) ux.lt).trans cx; have cl9 := (hb9.cell (p := ⟨gd, k, none⟩) ud8.lt).trans cl))
        all_goals
          have hB9 : Below w.heap.size w w9 := (show Below w.heap.size w W.drew from ⟨hB8.os, hB8.tape, hB8.output, hB8.size, hB8.block⟩).trans (hb9.mono hB8.size)
          go_wp2_with fail
          go_ret
          exact ⟨by simp [t5], hB9⟩
      · have hlv' : leavesB l = false := by simpa using hlv
        rw [hlv'] at hneg
        have t1 : decide (rootV l < 0) = true := hneg
        clear hlv hlv' hneg
        go_wp2_with fail
        go_ret
        exact ⟨by simp, hB⟩
    · have g1 : decide (1048576 < len0) = false := by simp; omega
      have g2 : decide (1048576 < len1) = true := by simp; omega
      go_enter Try.func6, Try.ntmps6
      go_wp2_with fail
      go_ret
      exact ⟨rfl, Below.refl _ _⟩
  · have g1 : decide (1048576 < len0) = true := by simp; omega
    go_enter Try.func6, Try.ntmps6
    go_wp2_with fail
    go_ret
    exact ⟨rfl, Below.refl _ _⟩
end Go.Proofs.Ytgmbacgpaagkhaa
