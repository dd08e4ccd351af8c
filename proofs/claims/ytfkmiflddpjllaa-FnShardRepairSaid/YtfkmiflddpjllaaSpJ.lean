/- The reference's joining of shards. Conditions: the shards are valid. -/
import Derived.Test.YtfkmiflddpjllaaSpS
import Derived.Test.YtfkmiflddpjllaaShJ
import Derived.Test.YtfkmiflddpjllaaSol
import Derived.Deep.RegionHeld3
namespace Go.Proofs.Ytfkmiflddpjllaa
open Go.RowKit
set_option linter.unusedVariables false
set_option linter.unusedSimpArgs false
set_option maxRecDepth 4000

theorem Wr.take {w : World} {g : Nat} {l : List Int} (h : Wr w g l) (n : Nat) : Wr w g (l.take n) := by
  obtain ⟨cs, t, hh, hs, hc⟩ := h
  refine ⟨cs, t, hh, by simp; omega, fun j hj => ?_⟩
  have hj' : j < n ∧ j < l.length := by simp at hj; omega
  rw [hc j hj'.2]
  simp [nth, hj'.1]
/-- A list of numbers and a bool, the list in a block of its own. -/
def JoinPostS (size need : Int) (l : List Sh) (w : World) (e : Ending) (w' : World) : Prop :=
  ∃ out ok g c, e = .returned (.tuple #[.slice (some ⟨g, 0, none⟩) out.length c, .bool ok]) ∧ JoinSh size need l out ok ∧ w.heap.size ≤ g ∧ Wr w' g out ∧ out.length ≤ c ∧ c ≤ maxLen ∧ Below w.heap.size w w'
theorem wr_empty (w : World) (t : TypeId) : Wr (w.alloc (.cells #[] t)) w.heap.size [] := ⟨#[], t, heap_alloc_new w _, Nat.le_refl _, fun j hj => by simp at hj⟩
theorem sameB_yes (a : Int) {l l' : List Int} (h : l = l') : sameB a l a l' = true := by simp [sameB, h]
theorem sameB_no (a : Int) {l l' : List Int} (h : l ≠ l') : sameB a l a l' = false := by simp [sameB, h]

set_option maxHeartbeats 8000000 in
theorem joinS_any (size need : Nat) (A : Option Addr) (c : Nat) (l : List Sh) (w : World) (h : ShL w w.heap.size A l) (hv : shardsB size need l = true) :
    Calls Try.prog 46 #[.int .i64 size, .int .i64 need, .slice A l.length c] w (JoinPostS size need l w) := by
  obtain ⟨p1, p2, p3, p4, p5, p6, p7⟩ := shardsB_parts hv
  simp only [Int.toNat_natCast] at p7
  have HV := Lib.hid hv
  have HG := Lib.hid p7
  clear hv p7
  have hC : cols size need ≤ 12 := cols_12 (by omega) (by omega)
  obtain ⟨C, hCe⟩ : ∃ C, C = cols size need := ⟨_, rfl⟩
  have HCL : Hid (∀ k, k < C ↔ k * need < size) := by unfold Hid; intro k; rw [hCe]; exact cols_le (by omega)
  have HCG : Hid (size ≤ C * need) := by unfold Hid; rw [hCe]; exact cols_ge (by omega)
  have HCE := Lib.hid hCe
  rw [← hCe] at hC
  clear hCe
  have HNUM : Hid (∀ i, i < l.length → 1 ≤ num_ l i ∧ num_ l i ≤ 8) := by unfold Hid; intro i hi; exact ⟨(HG.out i hi).1, (HG.out i hi).2.1⟩
  have HVAL : Hid (∀ i, i < l.length → (val_ l i).length = C ∧ allIn 0 250 (val_ l i) = true) := by unfold Hid; intro i hi; rw [HCE.out]; exact ⟨(HG.out i hi).2.2.1, (HG.out i hi).2.2.2.1⟩
  have HAP : Hid (Dag.Apart need (num_ l)) := by unfold Hid; intro i j hij hj; exact HG.out.apart i j hij (by omega)
  have hB0 : Below w.heap.size w (w.alloc (.cells #[] 3)) := (Below.refl _ _).alloc (Nat.le_refl _) _
  have ho0 := OwnI.made w w.heap.size (Nat.le_refl _)
  have ha0 := AllI.zero need l
  go_enter Try.func46, Try.ntmps46
  go_wp2_with fail
  go_loopw [8, 9] (fun v i wr => ∃ (k g cg : Nat) (all : List Int), k ≤ C ∧ i = .int .i64 k ∧ v = .slice (some ⟨g, 0, none⟩) all.length cg ∧ AllI need l k all ∧ OwnI wr w.heap.size g cg all ∧ Below w.heap.size w wr) (fun _ i _ => C - (intOf i).toNat)
  case atStart => exact ⟨0, w.heap.size, 0, [], Nat.zero_le _, rfl, rfl, ha0, ho0, hB0⟩
  case round =>
    clear ha0 ho0 hB0
    obtain ⟨k, g, cg, all, hk, rfl, rfl, hall, hown, hb⟩ := hrel
    obtain ⟨p, hp⟩ : ∃ p, p = k * need := ⟨_, rfl⟩
    have hpi : (k : Int) * (need : Int) = (p : Int) := by rw [hp]; simp
    have hkn : k * need ≤ 12 * 8 := Nat.mul_le_mul (by omega) (by omega)
    have hkl := HCL.out k
    have hal : all.length = k * need := hall.1
    rw [← hp] at hkn hkl hal
    have HP := Lib.hid hp
    have HAL := Lib.hid hall
    have hal2 : all.length ≤ 96 := by omega
    clear hp hall
    have a1 : IntKind.i64.wrap (p : Int) = (p : Int) := IntWalk.i64_in _ (by omega)
    by_cases hlt : k < C
    · have hin : p < size := hkl.1 hlt
      have t1 : decide ((p : Int) < (size : Int)) = true := by simp; omega
      have HKL := Lib.hid hkl
      have HL := Lib.hid hal
      have HVC : Hid (∀ i, i < l.length → k < (val_ l i).length ∧ allIn 0 250 (val_ l i) = true) := by
        unfold Hid; intro i hi
        have := HVAL.out i hi
        exact ⟨by omega, this.2⟩
      clear hkl hal
      go_wp2_with fail
      refine (solve_any need k A c l _ ((h.below hb).more hb.size) (by omega) (by omega) (by omega) (by omega) (by omega) HNUM.out HVC.out HAP.out).mono ?_
      rintro e w1 ⟨cs, hcl, hcr, hce, gs, cc, hgs, rfl, us, hcc, hcm, hb1⟩
      have HS := Lib.hid (HAL.out.step hcl hcr hce)
      have HCN := Lib.hid hcl
      have hown1 := hown.below hb1 hown.parts.2.1
      have hB1 := hb.trans (hb1.mono hb.size)
      obtain ⟨all', hall'⟩ : ∃ x, x = all ++ cs := ⟨_, rfl⟩
      have HAA := Lib.hid hall'
      have hcs8 : cs.length ≤ 8 := by omega
      clear hcl hcr hce hall' hown hb1 hb
      go_wp2_with (at_builtin; refine wpList_many rfl _ _ rfl w.heap.size g cg all all' cs HAA.out.symm rfl gs cc _ rfl rfl us hown1 (by omega) (by omega) hB1.size ?_)
      intro g' cg' w5 ho5 hg5 hf5
      have hge := hown1.parts.1
      have hB5 : Below w.heap.size w w5 := hB1.grown hg5 hB1.size (fun kk e => by injection e with e; omega)
      clear hown1 hg5 hf5 hB1 us
      go_wp2_with fail
      exact ⟨⟨k + 1, g', cg', all', by omega, by go_num, rfl, by rw [HAA.out]; exact HS.out, ho5, hB5⟩, by simp [intOf]; omega⟩
    · obtain rfl : k = C := by omega
      have hin : ¬ p < size := fun hh => hlt (hkl.2 hh)
      have t1 : decide ((p : Int) < (size : Int)) = false := by simp; omega
      have hsp : size ≤ p := by omega
      obtain ⟨q1, q2, q3, q4, q5⟩ := hown.parts
      have hcap : (size : Int) ≤ (cg : Int) := by omega
      have hcap' : size ≤ cg := by omega
      obtain ⟨D, hD⟩ : ∃ D, D = all.take size := ⟨_, rfl⟩
      have hDl : D.length = size := by rw [hD]; simp; omega
      have uD : Wr (wr.alloc (.cells #[] 3)) g D := by rw [hD]; exact (q5.take size).block (Below.heap_alloc _ _ _ q2)
      have ho2 : OwnI (wr.alloc (.cells #[] 3)) w.heap.size wr.heap.size 0 [] := OwnI.made wr w.heap.size hb.size
      have hB2 : Below w.heap.size w (wr.alloc (.cells #[] 3)) := hb.alloc hb.size _
      have HDE := Lib.hid hD
      have HDL := Lib.hid hDl
      have HKL := Lib.hid hkl
      have HL := Lib.hid hal
      have HND := Lib.hid (List.nil_append D)
      have hD12 : D.length ≤ 12 := by omega
      clear hD hDl hkl hal hown
      go_wp2_with (at_builtin; refine wpList_many rfl _ _ rfl w.heap.size wr.heap.size 0 [] D D HND.out rfl g cg _ rfl HDL.out uD ho2 (by simp) (by omega) hB2.size ?_)
      intro gd cd w6 hod hg6 hf6
      have hneg : gd ≠ g := by rcases hf6 with e | e <;> (try simp at e) <;> omega
      have hqd := hod.parts.2.2.2.2
      obtain ⟨d1, d2, d3, d4, d5⟩ := hod.parts
      have HGD := Lib.hid (And.intro d1 (And.intro d3 d4))
      have hB6 : Below w.heap.size w w6 := hB2.grown hg6 hB2.size (fun kk e => by injection e with e; have := hb.size; omega)
      have ua : Wr w6 g all := (q5.block (Below.heap_alloc _ _ _ q2)).block (hg6.block g (by simp; omega) (fun e => by injection e with e; omega))
      clear hod hg6 hf6 hB2 ho2 uD q5 hb
      go_wp2_with fail
      go_loop [11] (fun i => ∃ m : Nat, size ≤ m ∧ m ≤ all.length ∧ i = .int .i64 m ∧ ∀ j, size ≤ j → j < m → nth all j = 0) (fun i => all.length - (intOf i).toNat)
      case atStart => exact ⟨size, Nat.le_refl _, by have := HL.out; omega, rfl, fun j h1 h2 => absurd h2 (by omega)⟩
      case round =>
        obtain ⟨m, hm1, hm2, rfl, hz⟩ := hrel
        have HZ := Lib.hid hz
        clear hz
        by_cases hlm : m < all.length
        · have hcm := ua.cell hlm
          by_cases h0 : nth all m = 0
          · have t2 : (nth all m != 0) = false := by simpa using h0
            have H0 := Lib.hid h0
            clear h0
            go_wp2_with fail
            exact ⟨⟨m + 1, by omega, by omega, by go_num, fun j h1 h2 => by
              by_cases e : j = m
              · rw [e]; exact H0.out
              · exact HZ.out j h1 (by omega)⟩, by simp [intOf]; omega⟩
          · have t2 : (nth all m != 0) = true := by simpa using h0
            have HF := Lib.hid (padB_at m hm1 hlm h0)
            clear h0
            go_wp2_with fail
            go_ret2
            refine ⟨[], false, w6.heap.size, 0, rfl, .inr ⟨HV.out, all, ?_, HAL.out.2.1, ?_, .inr ⟨?_, rfl, rfl⟩⟩, hB6.size, wr_empty _ _, Nat.le_refl _, by simp [maxLen], hB6.alloc hB6.size _⟩
            · simp only [Int.toNat_natCast]; rw [← HCE.out]; exact HAL.out.1
            · simp only [Int.toNat_natCast]; rw [← HCE.out]; exact HAL.out.2.2
            · simp only [Int.toNat_natCast]; rw [HF.out]; rfl
        · obtain rfl : m = all.length := by omega
          have HPT := Lib.hid (padB_true (size := size) HZ.out)
          go_wp2_with fail
          go_loopw [12] (fun i wx => ∃ j : Nat, j ≤ l.length ∧ i = .int .i64 j ∧ (∀ m, m < j → shVals D need (num_ l m) = val_ l m) ∧ Wr wx gd D ∧ Below w.heap.size w wx) (fun i _ => l.length - (intOf i).toNat)
          case atStart => exact ⟨0, Nat.zero_le _, rfl, fun m hm => absurd hm (by omega), hqd, hB6⟩
          case round =>
            clear hqd hB6 ua d1 d2 d3 d4 d5
            obtain ⟨j, hj, rfl, hq, ud, hb⟩ := hrel
            have HQ := Lib.hid hq
            clear hq
            by_cases hlj : j < l.length
            · obtain ⟨b, off, A', c', rfl, hbl, hc1, hc2, hcc, hsl⟩ := (h.below hb).at_ (k := j) hlj
              obtain ⟨x0, x1⟩ := HNUM.out j hlj
              obtain ⟨v0, v1⟩ := HVAL.out j hlj
              have HDR : Hid (allIn 0 250 D = true) := by
                unfold Hid; rw [HDE.out]; have := HAL.out.2.1
                simp only [allIn, List.all_eq_true, decide_eq_true_eq] at this ⊢
                exact fun x hx => this x (List.mem_of_mem_take hx)
              obtain ⟨SV, hSV⟩ : ∃ SV, SV = shVals D need (num_ l j) := ⟨_, rfl⟩
              have HSV := Lib.hid hSV
              have hSl : SV.length ≤ 12 := by rw [hSV, shVals_len, HDL.out, ← HCE.out]; exact hC
              have hvl : (val_ l j).length ≤ 12 := by omega
              have hsl' : Sl wr.drew wr.drew.heap.size A' (val_ l j) := hsl.more hb.size
              have hbd : b < wr.drew.heap.size := by have := hb.size; simp; omega
              have hbdn : Below w.heap.size w wr.drew := ⟨hb.os, hb.tape, hb.output, hb.size, hb.block⟩
              have hc1' : wr.drew.cell? ⟨b, off + j * 2, none⟩ = some (.int .i64 (num_ l j)) := hc1
              have hc2' : wr.drew.cell? ⟨b, off + j * 2 + 1, none⟩ = some (.slice A' (val_ l j).length c') := hc2
              have HV0 := Lib.hid v0
              have HV1 := Lib.hid v1
              clear v0 v1 hSV hsl
              by_cases hsv : SV = val_ l j
              · have HSB := Lib.hid (sameB_yes (num_ l j) hsv)
                have HQJ : Hid (shVals D need (num_ l j) = val_ l j) := by unfold Hid; rw [← HSV.out, hsv]
                clear hsv
                go_wp2_with fail
                go_region_held3 (fun w' => w'.cell? ⟨b, off + j * 2, none⟩ = some (.int .i64 (num_ l j)) ∧ w'.cell? ⟨b, off + j * 2 + 1, none⟩ = some (.slice A' (val_ l j).length c')) (first | exact ⟨hc1, hc2⟩ | exact ⟨h8a, h8b⟩ | exact ⟨h9a, h9b⟩)
                  (first
                    | (go_at_call 54; refine (shardS_any _ _ D need (num_ l j) _ ud.drew.sl' HDR.out (by omega) (by omega) (by omega) (by omega) (by omega)).mono ?_; rintro e w8 ⟨g8, c8, hg8, rfl, u8, hc8, hm8, hb8⟩; rw [← HSV.out] at u8 hc8 ⊢; have h8a := (hb8.cell (p := ⟨b, off + j * 2, none⟩) hbd).trans hc1'; have h8b := (hb8.cell (p := ⟨b, off + j * 2 + 1, none⟩) hbd).trans hc2'; have hbd8 : b < w8.heap.size := Nat.lt_of_lt_of_le hbd hb8.size)
                    | (go_at_call 59; refine (same3_any (num_ l j) (num_ l j) _ A' SV (val_ l j) _ _ _ u8.sl' ((hsl'.below hb8).more hb8.size) (by omega) (by omega)).mono ?_; rintro e w9 ⟨rfl, hb9⟩; rw [HSB.out]; have h9a := (hb9.cell (p := ⟨b, off + j * 2, none⟩) hbd8).trans h8a; have h9b := (hb9.cell (p := ⟨b, off + j * 2 + 1, none⟩) hbd8).trans h8b))
                have hB8 : Below w.heap.size w w8 := hbdn.trans (hb8.mono hbdn.size)
                have hB9 : Below w.heap.size w w9 := hB8.trans (hb9.mono hB8.size)
                have ud9 : Wr w9 gd D := (ud.drew.below hb8 ud.drew.lt).below hb9 (Nat.lt_of_lt_of_le ud.drew.lt hb8.size)
                clear hb8 hb9 u8 ud hb hc1 hc2 hc1' hc2'
                go_wp2_with fail
                exact ⟨⟨j + 1, by omega, by go_num, fun m hm => by
                  by_cases e : m = j
                  · rw [e]; exact HQJ.out
                  · exact HQ.out m (by omega), ud9, hB9⟩, by simp [intOf]; omega⟩
              · have HSB := Lib.hid (sameB_no (num_ l j) hsv)
                have HQJ : Hid (fitB need l D = false) := by unfold Hid; exact fitB_false j hlj (by rw [← HSV.out]; exact hsv)
                clear hsv
                go_wp2_with fail
                go_region_held3 (fun w' => w'.cell? ⟨b, off + j * 2, none⟩ = some (.int .i64 (num_ l j)) ∧ w'.cell? ⟨b, off + j * 2 + 1, none⟩ = some (.slice A' (val_ l j).length c')) (first | exact ⟨hc1, hc2⟩ | exact ⟨h8a, h8b⟩ | exact ⟨h9a, h9b⟩)
                  (first
                    | (go_at_call 54; refine (shardS_any _ _ D need (num_ l j) _ ud.drew.sl' HDR.out (by omega) (by omega) (by omega) (by omega) (by omega)).mono ?_; rintro e w8 ⟨g8, c8, hg8, rfl, u8, hc8, hm8, hb8⟩; rw [← HSV.out] at u8 hc8 ⊢; have h8a := (hb8.cell (p := ⟨b, off + j * 2, none⟩) hbd).trans hc1'; have h8b := (hb8.cell (p := ⟨b, off + j * 2 + 1, none⟩) hbd).trans hc2'; have hbd8 : b < w8.heap.size := Nat.lt_of_lt_of_le hbd hb8.size)
                    | (go_at_call 59; refine (same3_any (num_ l j) (num_ l j) _ A' SV (val_ l j) _ _ _ u8.sl' ((hsl'.below hb8).more hb8.size) (by omega) (by omega)).mono ?_; rintro e w9 ⟨rfl, hb9⟩; rw [HSB.out]; have h9a := (hb9.cell (p := ⟨b, off + j * 2, none⟩) hbd8).trans h8a; have h9b := (hb9.cell (p := ⟨b, off + j * 2 + 1, none⟩) hbd8).trans h8b))
                have hB8 : Below w.heap.size w w8 := hbdn.trans (hb8.mono hbdn.size)
                have hB9 : Below w.heap.size w w9 := hB8.trans (hb9.mono hB8.size)
                clear hb8 hb9 u8 ud hb hc1 hc2 hc1' hc2'
                go_wp2_with fail
                go_ret2
                refine ⟨[], false, w9.heap.size, 0, rfl, .inr ⟨HV.out, all, ?_, HAL.out.2.1, ?_, .inr ⟨?_, rfl, rfl⟩⟩, hB9.size, wr_empty _ _, Nat.le_refl _, by simp [maxLen], hB9.alloc hB9.size _⟩
                · simp only [Int.toNat_natCast]; rw [← HCE.out]; exact HAL.out.1
                · simp only [Int.toNat_natCast]; rw [← HCE.out]; exact HAL.out.2.2
                · simp only [Int.toNat_natCast]; rw [← HDE.out, HQJ.out]; simp
            · obtain rfl : j = l.length := by omega
              go_wp2_with fail
              go_ret2
              refine ⟨D, true, gd, cd, rfl, .inr ⟨HV.out, all, ?_, HAL.out.2.1, ?_, .inl ⟨?_, ?_, rfl⟩⟩, HGD.out.1, ud, HGD.out.2.1, HGD.out.2.2, hb⟩
              · simp only [Int.toNat_natCast]; rw [← HCE.out]; exact HAL.out.1
              · simp only [Int.toNat_natCast]; rw [← HCE.out]; exact HAL.out.2.2
              · simp only [Int.toNat_natCast]; rw [← HDE.out, fitB_true HQ.out, HPT.out]; rfl
              · simp only [Int.toNat_natCast]; exact HDE.out
end Go.Proofs.Ytfkmiflddpjllaa
