/- A shard is compared with symbols, by program and reference. Conditions: at most two million symbols. -/
import Derived.Test.YtfkmiflddpjllaaShW
namespace Go.Proofs.Ytfkmiflddpjllaa
open Go.RowKit
set_option linter.unusedVariables false
set_option linter.unusedSimpArgs false

def matchB (data : List Int) (need x : Int) (vs : List Int) : Bool := dataB data need && decide (1 ≤ x ∧ x ≤ 8) && eqTo vs (shVals data need.toNat x)
theorem matchB_data {data : List Int} {need x : Int} {vs : List Int} (h : dataB data need = false) : matchB data need x vs = false := by simp [matchB, h]
theorem matchB_num {data : List Int} {need x : Int} {vs : List Int} (h : ¬ (1 ≤ x ∧ x ≤ 8)) : matchB data need x vs = false := by unfold matchB; rw [decide_eq_false h]; simp
theorem matchB_eq {data : List Int} {need x : Int} {vs : List Int} (h : dataB data need = true) (h1 : 1 ≤ x) (h2 : x ≤ 8) : matchB data need x vs = eqTo vs (shVals data need.toNat x) := by
  unfold matchB; rw [h, decide_eq_true (And.intro h1 h2)]; simp
theorem sameB_eqTo (x : Int) (a b : List Int) : sameB x a x b = eqTo b a := by
  unfold sameB eqTo
  congr 1
  apply propext
  exact ⟨fun h => h.2.symm, fun h => ⟨rfl, h.symm⟩⟩

theorem field_val (a b : Value) (w : World) : (Instr.field 30 (.agg #[a, b]) 1).run Try.prog w = .ok b w := by kernel_rfl

set_option maxHeartbeats 4000000 in
theorem matchF_any (A A' : Option Addr) (c c' : Nat) (data vs : List Int) (need x : Int) (w : World) (h : Sl w w.heap.size A data) (h' : Sl w w.heap.size A' vs) (hl : data.length ≤ 2000000) (hl' : vs.length ≤ 2000000) (hlc : data.length ≤ c) (hcm : c ≤ maxLen) :
    Calls Try.prog 22 #[.slice A data.length c, .int .i64 need, .agg #[.int .i64 x, .slice A' vs.length c']] w (BoolW (matchB data need x vs) w) := by
  obtain ⟨W, hW⟩ : ∃ W, W = w.alloc (.cells #[.int .i64 x, .slice A' vs.length c'] 30) := ⟨_, rfl⟩
  have hB0 : Below w.heap.size w W := by rw [hW]; exact (Below.refl _ _).alloc (Nat.le_refl _) _
  have hx : W.heap[w.heap.size]? = some (.cells #[.int .i64 x, .slice A' vs.length c'] 30 (0, 0)) := by rw [hW]; exact two_cells w _ _ _
  obtain ⟨x0, x1, _, _⟩ := box2 hx
  have hnW : w.heap.size < W.heap.size := by rw [hW]; simp
  have hA := h.below hB0
  have hA' := h'.below hB0
  clear hx
  have hfld := field_val
  by_cases g0 : dataB data need = true
  · obtain ⟨d1, d2, d3, d4, d5⟩ := dataB_parts g0
    have HD := Lib.hid g0
    by_cases g1 : 1 ≤ x
    · have t1 : decide (x < 1) = false := by simp; omega
      by_cases g2 : x ≤ 8
      · have t2 : decide (8 < x) = false := by simp; omega
        have HE := Lib.hid (matchB_eq (vs := vs) g0 g1 g2)
        rw [HE.out]
        clear HE g0
        obtain ⟨nd, rfl⟩ := Int.eq_ofNat_of_zero_le (show 0 ≤ need by omega)
        simp only [Int.toNat_natCast]
        obtain ⟨SV, hSV⟩ : ∃ SV, SV = shVals data nd x := ⟨_, rfl⟩
        have HSV := Lib.hid hSV
        have hsvl : SV.length ≤ 12 := by rw [hSV, shVals_len]; exact cols_12 (by omega) (by omega)
        rw [← hSV]
        have HD3 := Lib.hid d3
        clear hSV d3
        have hdW : W.heap.size = W.drew.heap.size := rfl
        have hAd : Sl W.drew W.drew.heap.size A data := hA.more hB0.size
        have hAd' : Sl W.drew W.drew.heap.size A' vs := hA'.more hB0.size
        go_enter Try.func22, Try.ntmps22
        go_wp2_with fail
        rw [← hW]
        clear hW
        refine (dataF_any _ _ data _ _ _ hA hl).mono ?_
        rintro e w1 ⟨rfl, rfl⟩
        rw [HD.out]
        go_wp2_with fail
        go_region_held3 (fun w' => w'.cell? ⟨w.heap.size, 0, none⟩ = some (.int .i64 x) ∧ w'.cell? ⟨w.heap.size, 1, none⟩ = some (.slice A' vs.length c')) (first | exact ⟨x0, x1⟩ | exact ⟨h8a, h8b⟩)
          (first
            | (go_at_call 51; refine (shardF_any A c data nd x _ hAd HD3.out (by omega) (by omega) hlc hcm (by omega) (by omega) (by omega) (by omega)).mono ?_; rintro e w8 ⟨g8, c8, hg8, rfl, u8, hc8, hm8, hb8⟩; rw [← HSV.out] at u8 hc8 ⊢; have h8a := (hb8.cell (p := ⟨w.heap.size, 0, none⟩) hnW).trans x0; have h8b := (hb8.cell (p := ⟨w.heap.size, 1, none⟩) hnW).trans x1)
            | (go_at_call 56; refine (equal_any A' (some ⟨g8, 0, none⟩) vs SV c' c8 _ _ _ (hAd'.below hb8) u8.sl (by omega) (by omega)).mono ?_; rintro e w9 ⟨rfl, n9, rfl⟩))
        have hB8 : Below w.heap.size w w8 := (below_n hB0 1).trans (hb8.mono hB0.size)
        clear hb8 u8
        go_wp2_with fail
        go_ret
        exact ⟨rfl, below_n hB8 _⟩
      · have t2 : decide (8 < x) = true := by simp; omega
        have HF := Lib.hid (matchB_num (data := data) (need := need) (vs := vs) (fun g => g2 g.2))
        rw [HF.out]
        go_enter Try.func22, Try.ntmps22
        go_wp2_with fail
        rw [← hW]
        clear hW
        refine (dataF_any _ _ data _ _ _ hA hl).mono ?_
        rintro e w1 ⟨rfl, rfl⟩
        rw [HD.out]
        go_wp2_with fail
        go_ret
        exact ⟨rfl, hB0⟩
    · have t1 : decide (x < 1) = true := by simp; omega
      have HF := Lib.hid (matchB_num (data := data) (need := need) (vs := vs) (fun g => g1 g.1))
      rw [HF.out]
      go_enter Try.func22, Try.ntmps22
      go_wp2_with fail
      rw [← hW]
      clear hW
      refine (dataF_any _ _ data _ _ _ hA hl).mono ?_
      rintro e w1 ⟨rfl, rfl⟩
      rw [HD.out]
      go_wp2_with fail
      go_ret
      exact ⟨rfl, hB0⟩
  · have g0' : dataB data need = false := by simpa using g0
    have HD := Lib.hid g0'
    rw [matchB_data g0']
    clear g0 g0'
    go_enter Try.func22, Try.ntmps22
    go_wp2_with fail
    rw [← hW]
    clear hW
    refine (dataF_any _ _ data _ _ _ hA hl).mono ?_
    rintro e w1 ⟨rfl, rfl⟩
    rw [HD.out]
    go_wp2_with fail
    go_ret
    exact ⟨rfl, hB0⟩
end Go.Proofs.Ytfkmiflddpjllaa
