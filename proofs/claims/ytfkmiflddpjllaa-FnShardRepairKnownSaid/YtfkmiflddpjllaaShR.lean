/- The reference's check of shards, its comparison, joining and repair; the program's repair. Conditions: the lists are within two million elements. -/
import Derived.Test.YtfkmiflddpjllaaShN
namespace Go.Proofs.Ytfkmiflddpjllaa
open Go.RowKit
set_option linter.unusedVariables false
set_option linter.unusedSimpArgs false
set_option maxRecDepth 4000

theorem quietInY (n lo hi : Int) {W : World} {m : Nat} (h1 : lo ≤ n) (h2 : n ≤ hi) : Calls Try.prog 53 #[.int .i64 n, .int .i64 lo, .int .i64 hi] (W.drewN m) fun e w'' => e = .returned (.bool true) ∧ ∃ k, w'' = W.drewN k :=
  (in_yes n lo hi _ h1 h2).mono fun _ _ ⟨he, hw⟩ => ⟨he, m, hw.symm⟩
theorem quietInN (n lo hi : Int) {W : World} {m : Nat} (h : n < lo ∨ hi < n) : Calls Try.prog 53 #[.int .i64 n, .int .i64 lo, .int .i64 hi] (W.drewN m) fun e w'' => e = .returned (.bool false) ∧ ∃ k, w'' = W.drewN k :=
  (in_no n lo hi _ h).mono fun _ _ ⟨he, hw⟩ => ⟨he, m, hw.symm⟩

set_option maxHeartbeats 2000000 in
theorem matchS_any (A A' : Option Addr) (c c' : Nat) (data vs : List Int) (need x : Int) (w : World) (h : Sl w w.heap.size A data) (h' : Sl w w.heap.size A' vs) (hl : data.length ≤ 2000000) (hl' : vs.length ≤ 2000000) :
    Calls Try.prog 31 #[.slice A data.length c, .int .i64 need, .agg #[.int .i64 x, .slice A' vs.length c']] w (BoolW (matchB data need x vs) w) := by
  obtain ⟨W, hW⟩ : ∃ W, W = w.alloc (.cells #[.int .i64 x, .slice A' vs.length c'] 30) := ⟨_, rfl⟩
  have hB0 : Below w.heap.size w W := by rw [hW]; exact (Below.refl _ _).alloc (Nat.le_refl _) _
  have hx : W.heap[w.heap.size]? = some (.cells #[.int .i64 x, .slice A' vs.length c'] 30 (0, 0)) := by rw [hW]; exact two_cells w _ _ _
  obtain ⟨x0, x1, _, _⟩ := box2 hx
  have hnW : w.heap.size < W.heap.size := by rw [hW]; simp
  have hA := h.below hB0
  have hA' := h'.below hB0
  clear hx
  have HDQ : ∀ b : Bool, dataB data need = b → ∀ m, Calls Try.prog 58 #[.slice A data.length c, .int .i64 need] (W.drewN m) fun e w'' => e = .returned (.bool b) ∧ ∃ k, w'' = W.drewN k := fun b hb m => by
    have hh := dataS_any A c data need (W.drewN m) w.heap.size (fun hne => hA hne) hl
    rw [hb] at hh
    exact quietW hh
  by_cases g0 : dataB data need = true
  · obtain ⟨d1, d2, d3, d4, d5⟩ := dataB_parts g0
    have HD := Lib.hid g0
    have HDQ1 := Lib.hid (HDQ true g0)
    clear HDQ
    by_cases g1 : 1 ≤ x ∧ x ≤ 8
    · obtain ⟨g1, g2⟩ := g1
      have HE := Lib.hid (matchB_eq (vs := vs) g0 g1 g2)
      rw [HE.out]
      clear HE g0
      obtain ⟨nd, rfl⟩ := Int.eq_ofNat_of_zero_le (show 0 ≤ need by omega)
      simp only [Int.toNat_natCast]
      obtain ⟨SV, hSV⟩ : ∃ SV, SV = shVals data nd x := ⟨_, rfl⟩
      have HSV := Lib.hid hSV
      have hsvl : SV.length ≤ 12 := by rw [hSV, shVals_len]; exact cols_12 (by omega) (by omega)
      rw [← hSV]
      have HD3 := Lib.hid d3
      have HSB := Lib.hid (sameB_eqTo x SV vs)
      clear hSV d3
      have hAd : Sl W.drew W.drew.heap.size A data := hA.more hB0.size
      have hAd' : Sl W.drew W.drew.heap.size A' vs := hA'.more hB0.size
      have HQ3 : Hid (Calls Try.prog 58 #[.slice A data.length c, .int .i64 nd] W.drew fun e w'' => e = .returned (.bool true) ∧ W.drew = w'') := by
        unfold Hid
        have hh := dataS_any A c data nd W.drew w.heap.size (fun hne => hA hne) hl
        rwa [HD.out] at hh
      go_enter Try.func31, Try.ntmps31
      go_wp2_with fail
      rw [← hW]
      clear hW
      go_region_held3 (fun w' => w'.cell? ⟨w.heap.size, 0, none⟩ = some (.int .i64 x) ∧ w'.cell? ⟨w.heap.size, 1, none⟩ = some (.slice A' vs.length c')) (first | exact ⟨x0, x1⟩ | exact ⟨h8a, h8b⟩ | exact ⟨h9a, h9b⟩)
        (first
          | (go_at_call 58; refine HQ3.out.mono ?_; rintro e w1 ⟨rfl, rfl⟩)
          | (go_at_call 53; refine (in_yes x 1 8 _ g1 g2).mono ?_; rintro e w1 ⟨rfl, rfl⟩)
          | (go_at_call 54; refine (shardS_any A c data nd x _ hAd HD3.out (by omega) (by omega) (by omega) (by omega) (by omega)).mono ?_; rintro e w8 ⟨g8, c8, hg8, rfl, u8, hc8, hm8, hb8⟩; rw [← HSV.out] at u8 hc8 ⊢; have h8a := (hb8.cell (p := ⟨w.heap.size, 0, none⟩) hnW).trans x0; have h8b := (hb8.cell (p := ⟨w.heap.size, 1, none⟩) hnW).trans x1)
          | (go_at_call 59; refine (same3_any x x _ A' SV vs _ _ _ u8.sl' ((hAd'.below hb8).more hb8.size) (by omega) (by omega)).mono ?_; rintro e w9 ⟨rfl, hb9⟩; rw [HSB.out]; have h9a := (hb9.cell (p := ⟨w.heap.size, 0, none⟩) (Nat.lt_of_lt_of_le hnW hb8.size)).trans h8a; have h9b := (hb9.cell (p := ⟨w.heap.size, 1, none⟩) (Nat.lt_of_lt_of_le hnW hb8.size)).trans h8b))
      have hB8 : Below w.heap.size w w8 := (below_n hB0 1).trans (hb8.mono hB0.size)
      have hB9 : Below w.heap.size w w9 := hB8.trans (hb9.mono hB8.size)
      clear hb8 hb9 u8
      go_wp2_with fail
      go_ret
      exact ⟨rfl, hB9⟩
    · have HF := Lib.hid (matchB_num (data := data) (need := need) (vs := vs) g1)
      rw [HF.out]
      have g : x < 1 ∨ 8 < x := by omega
      have G := Lib.hid g
      clear g g1 HF
      go_enter Try.func31, Try.ntmps31
      go_wp2_with fail
      rw [← hW]
      clear hW
      go_quiet ((first | (go_at_call 58; exact HDQ1.out _) | (go_at_call 53; exact quietInN x 1 8 G.out)))
      go_wp2_with fail
      go_ret
      exact ⟨rfl, below_n hB0 _⟩
  · have g0' : dataB data need = false := by simpa using g0
    have HDQ1 := Lib.hid (HDQ false g0')
    rw [matchB_data g0']
    clear g0 g0' HDQ
    go_enter Try.func31, Try.ntmps31
    go_wp2_with fail
    rw [← hW]
    clear hW
    go_quiet ((go_at_call 58; exact HDQ1.out _))
    go_wp2_with fail
    go_ret
    exact ⟨rfl, below_n hB0 _⟩
end Go.Proofs.Ytfkmiflddpjllaa
