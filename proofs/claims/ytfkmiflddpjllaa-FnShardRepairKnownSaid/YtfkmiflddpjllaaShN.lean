/- The program's joining of shards. Conditions: the lists are within two million elements. -/
import Derived.Test.YtfkmiflddpjllaaShQ
import Derived.Test.YtfkmiflddpjllaaSpJ
import Derived.Test.YtfkmiflddpjllaaInter
namespace Go.Proofs.Ytfkmiflddpjllaa
open Go.RowKit
set_option linter.unusedVariables false
set_option linter.unusedSimpArgs false
set_option maxRecDepth 4000

theorem interRow (N0 V0 nd k : Nat) (l : List Sh) (W : World) (hN : W.rowIs N0 3 nd (fun j => .int .i64 (num_ l j))) (hV : W.rowIs V0 3 nd (fun j => .int .i64 (nth (val_ l j) k))) (h8 : nd ≤ 8)
    (hnum : ∀ i, i < nd → 1 ≤ num_ l i ∧ num_ l i ≤ 8) (hval : ∀ i, i < nd → 0 ≤ nth (val_ l i) k ∧ nth (val_ l i) k ≤ 250) (hap : Dag.Apart nd (num_ l)) :
    Calls Try.prog 49 #[.slice (some ⟨N0, 0, none⟩) nd nd, .slice (some ⟨V0, 0, none⟩) nd nd] W fun e w' => ∃ cs : List Int, cs.length = nd ∧ allIn 0 250 cs = true ∧ (∀ i, i < nd → Dag.ev cs (num_ l i) = nth (val_ l i) k) ∧ FreshI cs W e w' := by
  have u1 : Wr W N0 (rowL nd (num_ l)) := Wr.of_row (t := 3) (n := nd) (hN.congr fun j hj => by rw [rowL_nth _ _ hj]) (by rw [rowL_len]; exact Nat.le_refl _)
  have u2 : Wr W V0 (rowL nd fun j => nth (val_ l j) k) := Wr.of_row (t := 3) (n := nd) (hV.congr fun j hj => by rw [rowL_nth _ _ hj]) (by rw [rowL_len]; exact Nat.le_refl _)
  have hI := inter_any (some ⟨N0, 0, none⟩) (some ⟨V0, 0, none⟩) nd nd (rowL nd (num_ l)) (rowL nd fun j => nth (val_ l j) k) W u1.sl' u2.sl' (by rw [rowL_len]; exact h8) (by rw [rowL_len, rowL_len]; exact Nat.le_refl _) (by rw [rowL_len]; exact Nat.le_refl _)
    (allIn_true fun j hj => by rw [rowL_len] at hj; rw [rowL_nth _ _ hj]; exact hnum j hj) (allIn_true fun j hj => by rw [rowL_len] at hj; rw [rowL_nth _ _ hj]; exact hval j hj)
    (by rw [rowL_len]; intro i j hij hj; rw [rowL_nth _ _ hj, rowL_nth _ _ (show i < nd by omega)]; exact hap i j hij hj)
  rw [rowL_len, rowL_len] at hI
  refine hI.mono ?_
  rintro e w' ⟨cs, h1, h2, h3, h4⟩
  rw [rowL_len] at h1
  exact ⟨cs, h1, h2, fun i hi => by have := h3 i (by rw [rowL_len]; exact hi); rwa [rowL_nth _ _ hi, rowL_nth _ _ hi] at this, h4⟩
theorem row_made (W : World) (n : Nat) : (W.alloc (.cells (madeCells #[.int .i64 0] n) 3)).rowIs W.heap.size 3 n (fun _ => .int .i64 0) := (World.rowIs_made W _ _ _).congr (fun i _ => rfl)
theorem row_step {W : World} {b n k : Nat} {t : TypeId} {f : Nat → Int} (h : W.rowIs b t n (fun j => .int .i64 (if j < k then f j else 0))) : (W.setCell ⟨b, k, none⟩ (.int .i64 (f k))).rowIs b t n (fun j => .int .i64 (if j < k + 1 then f j else 0)) :=
  (h.set k _).congr (fun j hj => by
    by_cases e : j = k
    · subst e; rw [if_pos rfl, if_pos (by omega)]
    · rw [if_neg e]; by_cases e2 : j < k
      · rw [if_pos e2, if_pos (by omega)]
      · rw [if_neg e2, if_neg (by omega)])

set_option maxHeartbeats 8000000 in
theorem joinF_any (size need : Int) (A : Option Addr) (c : Nat) (l : List Sh) (w : World) (h : ShL w w.heap.size A l) (hl : l.length ≤ 2000000) (hvl : ∀ j, j < l.length → (val_ l j).length ≤ 2000000) :
    Calls Try.prog 17 #[.int .i64 size, .int .i64 need, .slice A l.length c] w (JoinPostS size need l w) := by
  by_cases hv : shardsB size need l = true
  · obtain ⟨p1, p2, p3, p4, p5, p6, p7⟩ := shardsB_parts hv
    obtain ⟨sz, rfl⟩ := Int.eq_ofNat_of_zero_le (show 0 ≤ size by omega)
    obtain ⟨nd, rfl⟩ := Int.eq_ofNat_of_zero_le (show 0 ≤ need by omega)
    simp only [Int.toNat_natCast] at p7
    have HV := Lib.hid hv
    have HG := Lib.hid p7
    have HVL := Lib.hid hvl
    clear hv p7 hvl
    have hC : cols sz nd ≤ 12 := cols_12 (by omega) (by omega)
    obtain ⟨C, hCe⟩ : ∃ C, C = cols sz nd := ⟨_, rfl⟩
    have HCG : Hid (sz ≤ C * nd) := by unfold Hid; rw [hCe]; exact cols_ge (by omega)
    have HCE := Lib.hid hCe
    rw [← hCe] at hC
    clear hCe
    have HNUM : Hid (∀ i, i < l.length → 1 ≤ num_ l i ∧ num_ l i ≤ 8) := by unfold Hid; intro i hi; exact ⟨(HG.out i hi).1, (HG.out i hi).2.1⟩
    have HVAL : Hid (∀ i, i < l.length → (val_ l i).length = C ∧ allIn 0 250 (val_ l i) = true) := by unfold Hid; intro i hi; rw [HCE.out]; exact ⟨(HG.out i hi).2.2.1, (HG.out i hi).2.2.2.1⟩
    have HAP : Hid (Dag.Apart nd (num_ l)) := by unfold Hid; intro i j hij hj; exact HG.out.apart i j hij (by omega)
    have hmk := run_make_row' (P := Try.prog) 26 3 (.int .i64 0) 8 Try.underlying26 info_int rfl .i64 .i64 nd (by omega) (by omega)
    go_enter Try.func17, Try.ntmps17
    go_wp2_with (go_at_call 47; refine (svalid_any _ _ _ _ l _ h hl HVL.out).mono ?_; rintro e w1 ⟨rfl, hb1⟩; rw [HV.out])
    have hr0 := row_made w1 nd
    have hb0 : Below w.heap.size w (w1.alloc (.cells (madeCells #[.int .i64 0] nd) 3)) := hb1.alloc hb1.size _
    have hNge : w.heap.size ≤ w1.heap.size := hb1.size
    obtain ⟨N0, hN0⟩ : ∃ N, N = w1.heap.size := ⟨_, rfl⟩
    rw [← hN0] at hr0 hNge ⊢
    clear hN0 hb1
    go_loopw [9, 29] (fun _ i wr => ∃ k : Nat, k ≤ nd ∧ i = .int .i64 k ∧ wr.rowIs N0 3 nd (fun j => .int .i64 (if j < k then num_ l j else 0)) ∧ Below w.heap.size w wr) (fun _ i _ => nd - (intOf i).toNat)
    case atStart => exact ⟨0, Nat.zero_le _, rfl, hr0.congr (fun j _ => by simp), hb0⟩
    case round =>
      clear hr0 hb0
      obtain ⟨k, hk, rfl, hrow, hb⟩ := hrel
      by_cases hlt : k < nd
      · obtain ⟨b, off, A', c', rfl, hbl, hc1, hc2, hcc, hsl⟩ := (h.below hb).at_ (k := k) (by omega)
        have hc3 := hrow.cell hlt
        have hfr := hrow.frozen k
        have hrow2 := row_step hrow
        have hB2 := hb.setCell (p := ⟨N0, k, none⟩) hNge (.int .i64 (num_ l k))
        have i1 : (k : Int) < (l.length : Int) := by omega
        clear hrow hb
        go_wp2_with fail
        exact ⟨⟨k + 1, by omega, by go_num, hrow2, hB2⟩, by simp [intOf]; omega⟩
      · obtain rfl : k = nd := by omega
        have hrowN : wr.rowIs N0 3 k (fun j => .int .i64 (num_ l j)) := hrow.congr (fun j hj => by rw [if_pos hj])
        have hlN := hrowN.lt
        clear hrow
        have ho0 := OwnI.made wr w.heap.size hb.size
        have hb0 : Below w.heap.size w (wr.alloc (.cells #[] 3)) := hb.alloc hb.size _
        have hr0 := hrowN.of_block (Below.heap_alloc wr (.cells #[] 3) N0 hlN)
        have hne0 : N0 ≠ wr.heap.size := by omega
        have ha0 := AllI.zero k l
        clear hrowN hlN hb
        go_wp2_with (go_at_call 48; refine (colsOf_any sz k _ (by omega) (by omega) (by omega) (by omega)).mono ?_; rintro e w2 ⟨rfl, rfl⟩; rw [← HCE.out])
        go_loopw [10, 11, 12, 13, 45, 52] (fun v _ _ _ i _ wx => ∃ (m g cg : Nat) (all : List Int), m ≤ C ∧ i = .int .i64 m ∧ v = .slice (some ⟨g, 0, none⟩) all.length cg ∧ AllI k l m all ∧ OwnI wx w.heap.size g cg all ∧ wx.rowIs N0 3 k (fun j => .int .i64 (num_ l j)) ∧ N0 ≠ g ∧ Below w.heap.size w wx) (fun _ _ _ _ i _ _ => C - (intOf i).toNat)
        case atStart => exact ⟨0, wr.heap.size, 0, [], Nat.zero_le _, rfl, rfl, ha0, ho0, hr0, hne0, hb0⟩
        case round =>
          clear ha0 ho0 hr0 hne0 hb0
          obtain ⟨m, g, cg, all, hm, rfl, rfl, hall, hown, hrowN, hneg, hb⟩ := hrel
          have hal : all.length = m * k := hall.1
          have hmk8 : m * k ≤ 12 * 8 := Nat.mul_le_mul (by omega) (by omega)
          have hal2 : all.length ≤ 96 := by omega
          have HAL := Lib.hid hall
          have HLL := Lib.hid hal
          clear hall hal
          by_cases hlm : m < C
          · have HVC : Hid (∀ i, i < k → m < (val_ l i).length ∧ 0 ≤ nth (val_ l i) m ∧ nth (val_ l i) m ≤ 250) := by
              unfold Hid; intro i hi
              have := HVAL.out i (by omega)
              exact ⟨by omega, allIn_get this.2 (by omega)⟩
            go_wp2_with fail
            obtain ⟨W, hW⟩ : ∃ W, W = wr := ⟨_, rfl⟩
            rw [← hW] at hown hrowN hb ⊢
            clear hW
            have hv0 := row_made W k
            have hx0 : Below W.heap.size W (W.alloc (.cells (madeCells #[.int .i64 0] k) 3)) := (Below.refl _ _).alloc (Nat.le_refl _) _
            go_loopw [13, 52] (fun _ i wx => ∃ q : Nat, q ≤ k ∧ i = .int .i64 q ∧ wx.rowIs W.heap.size 3 k (fun j => .int .i64 (if j < q then nth (val_ l j) m else 0)) ∧ Below W.heap.size W wx) (fun _ i _ => k - (intOf i).toNat)
            case atStart => exact ⟨0, Nat.zero_le _, rfl, hv0.congr (fun j _ => by simp), hx0⟩
            case round =>
              clear hv0 hx0
              obtain ⟨q, hq, rfl, hrv, hbx⟩ := hrel
              by_cases hlq : q < k
              · obtain ⟨b, off, A', c', rfl, hbl, hc1, hc2, hcc, hsl⟩ := ((h.below hb).below (hbx.mono hb.size)).at_ (k := q) (by omega)
                obtain ⟨b2, off2, rfl, hb2, hcv⟩ := hsl.at_ (HVC.out q hlq).1
                have hml := (HVC.out q hlq).1
                have hc3 := hrv.cell hlq
                have hfr := hrv.frozen q
                have hrow2 := row_step (f := fun j => nth (val_ l j) m) hrv
                have hB2 := hbx.setCell (p := ⟨W.heap.size, q, none⟩) (Nat.le_refl _) (.int .i64 (nth (val_ l q) m))
                have i1 : (q : Int) < (l.length : Int) := by omega
                have i2 : (m : Int) < ((val_ l q).length : Int) := by omega
                clear hrv hbx hsl
                go_wp2_with fail
                exact ⟨⟨q + 1, by omega, by go_num, hrow2, hB2⟩, by simp [intOf]; omega⟩
              · obtain rfl : q = k := by omega
                have hrowV : wr.rowIs W.heap.size 3 q (fun j => .int .i64 (nth (val_ l j) m)) := hrv.congr (fun j hj => by rw [if_pos hj])
                have hrowN2 := hrowN.of_block (hbx.block N0 hrowN.lt)
                have hownx := hown.below hbx hown.parts.2.1
                have hBx : Below w.heap.size w wr := hb.trans (hbx.mono hb.size)
                clear hrv hrowN hown hbx hb
                go_wp2_with fail
                refine (interRow N0 W.heap.size q m l _ hrowN2 hrowV (by omega) (fun i hi => HNUM.out i (by omega)) (fun i hi => (HVC.out i hi).2) HAP.out).mono ?_
                rintro e w3 ⟨cs, hcl, hcr, hce, gi, ci, hgi, rfl, ui, hcc, hcm, hb3⟩
                have HS := Lib.hid (HAL.out.step hcl hcr hce)
                have HCN := Lib.hid hcl
                have hcs8 : cs.length ≤ 8 := by omega
                have hown3 := hownx.below hb3 hownx.parts.2.1
                have hrowN3 := hrowN2.of_block (hb3.block N0 hrowN2.lt)
                have hB3 : Below w.heap.size w w3 := hBx.trans (hb3.mono hBx.size)
                obtain ⟨all', hall'⟩ : ∃ x, x = all ++ cs := ⟨_, rfl⟩
                have HAA := Lib.hid hall'
                clear hcl hcr hce hall' hownx hrowN2 hrowV hb3 hBx
                go_wp2_with (at_builtin; refine wpList_many rfl _ _ rfl w.heap.size g cg all all' cs HAA.out.symm rfl gi ci _ rfl rfl ui hown3 (by omega) (by omega) hB3.size ?_)
                intro g' cg' w5 ho5 hg5 hf5
                have hge := hown3.parts.1
                have hlN3 := hrowN3.lt
                have hB5 : Below w.heap.size w w5 := hB3.grown hg5 hB3.size (fun kk e => by injection e with e; omega)
                have hrowN5 := hrowN3.of_block (hg5.block N0 hlN3 (fun e => hneg (by injection e)))
                have hneg5 : N0 ≠ g' := by rcases hf5 with e | e <;> omega
                clear hown3 hg5 hf5 hB3 ui hrowN3
                go_wp2_with fail
                exact ⟨⟨m + 1, g', cg', all', by omega, by go_num, rfl, by rw [HAA.out]; exact HS.out, ho5, hrowN5, hneg5, hB5⟩, by simp [intOf]; omega⟩
          · obtain rfl : m = C := by omega
            obtain ⟨q1, q2, q3, q4, q5⟩ := hown.parts
            clear hown hrowN
            have hsa : sz ≤ all.length := by have := HLL.out; have := HCG.out; omega
            have hsa' : (sz : Int) ≤ (all.length : Int) := by omega
            have hsc : sz ≤ cg := by omega
            have hsc' : (sz : Int) ≤ (cg : Int) := by omega
            have hac' : (all.length : Int) ≤ (cg : Int) := by omega
            obtain ⟨D, hD⟩ : ∃ D, D = all.take sz := ⟨_, rfl⟩
            have hDl : D.length = sz := by rw [hD]; simp; omega
            have uD : Wr wr g D := by rw [hD]; exact q5.take sz
            have HDE := Lib.hid hD
            have HDL := Lib.hid hDl
            have hD12 : D.length ≤ 12 := by omega
            have HDR : Hid (allIn 0 250 D = true) := by
              unfold Hid; rw [HDE.out]; have := HAL.out.2.1
              simp only [allIn, List.all_eq_true, decide_eq_true_eq] at this ⊢
              exact fun x hx => this x (List.mem_of_mem_take hx)
            have HDB : Hid (dataB D k = true) := by unfold Hid; exact dataB_true (by omega) (by omega) HDR.out (by omega) (by omega)
            clear hD hDl
            by_cases hcs : cg = sz
            · have hasz : all.length = sz := by omega
              have hz0 : all.length - sz = 0 := by omega
              have HZ0 := Lib.hid hz0
              have HASZ := Lib.hid hasz
              clear hz0 hasz
              go_wp2_with fail
              go_loop [15, 77] (fun _ i => ∃ r : Nat, r ≤ all.length - sz ∧ i = .int .i64 r ∧ ∀ j, j < r → nth all (sz + j) = 0) (fun _ i => all.length - sz - (intOf i).toNat)
              case atStart => exact ⟨0, Nat.zero_le _, rfl, fun j hj => absurd hj (by omega)⟩
              case round =>
                obtain ⟨r, hr, rfl, hz⟩ := hrel
                have HZ := Lib.hid hz
                clear hz
                by_cases hlr : r < all.length - sz
                · exact absurd hlr (by have := HZ0.out; omega)
                · obtain rfl : r = all.length - sz := by omega
                  have HPT : Hid (padB sz all = true) := by
                    unfold Hid
                    exact padB_true fun j h1 h2 => by have := HZ.out (j - sz) (by omega); rwa [show sz + (j - sz) = j by omega] at this
                  go_wp2_with fail
                  refine (clone_any g _ sz D _ uD HDL.out (by omega)).mono ?_
                  rintro e w3 ⟨gd, cd, hgd, rfl, ud, hdc, hdm, hb3⟩
                  have hB3 : Below w.heap.size w w3 := hb.trans (hb3.mono hb.size)
                  have hgdw : w.heap.size ≤ gd := Nat.le_trans hb.size hgd
                  clear hb hb3 uD q5
                  go_wp2_with fail
                  go_loopw [18, 91] (fun _ i wx => ∃ j : Nat, j ≤ l.length ∧ i = .int .i64 j ∧ (∀ m, m < j → shVals D k (num_ l m) = val_ l m) ∧ Wr wx gd D ∧ Below w.heap.size w wx) (fun _ i _ => l.length - (intOf i).toNat)
                  case atStart => exact ⟨0, Nat.zero_le _, rfl, fun m hm => absurd hm (by omega), ud, hB3⟩
                  case round =>
                    clear ud hB3
                    obtain ⟨j, hj, rfl, hq, ud, hb⟩ := hrel
                    have HQ := Lib.hid hq
                    clear hq
                    by_cases hlj : j < l.length
                    · obtain ⟨b, off, A', c', rfl, hbl, hc1, hc2, hcc, hsl⟩ := (h.below hb).at_ (k := j) hlj
                      obtain ⟨x0, x1⟩ := HNUM.out j hlj
                      have hvlj := HVL.out j hlj
                      have hX := two_cells wr (.int .i64 (num_ l j)) (.slice A' (val_ l j).length c') 30
                      obtain ⟨y0, y1, _, _⟩ := box2 hX
                      have hB4 : Below w.heap.size w (wr.alloc (.cells #[.int .i64 (num_ l j), .slice A' (val_ l j).length c'] 30)) := hb.alloc hb.size _
                      have ud4 : Wr (wr.alloc (.cells #[.int .i64 (num_ l j), .slice A' (val_ l j).length c'] 30)) gd D := ud.block (Below.heap_alloc _ _ _ ud.lt)
                      have hsl4 := (hsl.below (w' := wr.alloc (.cells #[.int .i64 (num_ l j), .slice A' (val_ l j).length c'] 30)) ((Below.refl w.heap.size wr).alloc hb.size _)).more hB4.size
                      clear hX
                      have HME := Lib.hid (matchB_eq (vs := val_ l j) HDB.out x0 x1)
                      go_wp2_with fail
                      refine (matchF_any (some ⟨gd, 0, none⟩) A' cd c' D (val_ l j) k (num_ l j) _ ud4.sl' hsl4 (by omega) hvlj hdc hdm).mono ?_
                      rintro e w5 ⟨rfl, hb5⟩
                      rw [HME.out]
                      have hB5 : Below w.heap.size w w5 := hB4.trans (hb5.mono hB4.size)
                      have ud5 := ud4.below hb5 ud4.lt
                      clear hb5 ud4 ud hsl4 hsl hB4 hb y0 y1 hc1 hc2
                      by_cases he : val_ l j = shVals D k (num_ l j)
                      · have HE : Hid (eqTo (val_ l j) (shVals D (Int.toNat k) (num_ l j)) = true) := by unfold Hid; rw [Int.toNat_natCast, ← he]; simp [eqTo]
                        have HQJ := Lib.hid he.symm
                        clear he
                        rw [HE.out]
                        go_wp2_with fail
                        exact ⟨⟨j + 1, by omega, by go_num, fun m hm => by
                          by_cases e : m = j
                          · rw [e]; exact HQJ.out
                          · exact HQ.out m (by omega), ud5, hB5⟩, by simp [intOf]; omega⟩
                      · have HE : Hid (eqTo (val_ l j) (shVals D (Int.toNat k) (num_ l j)) = false) := by unfold Hid; rw [Int.toNat_natCast]; simp only [eqTo, decide_eq_false_iff_not]; exact he
                        have HQJ : Hid (fitB k l D = false) := by unfold Hid; exact fitB_false j hlj (fun e => he e.symm)
                        clear he
                        rw [HE.out]
                        go_wp2_with fail
                        go_ret2
                        refine ⟨[], false, w5.heap.size, 0, rfl, .inr ⟨HV.out, all, ?_, HAL.out.2.1, ?_, .inr ⟨?_, rfl, rfl⟩⟩, hB5.size, wr_empty _ _, Nat.le_refl _, by simp [maxLen], hB5.alloc hB5.size _⟩
                        · simp only [Int.toNat_natCast]; rw [← HCE.out]; exact HAL.out.1
                        · simp only [Int.toNat_natCast]; rw [← HCE.out]; exact HAL.out.2.2
                        · simp only [Int.toNat_natCast]; rw [← HDE.out, HQJ.out]; simp
                    · obtain rfl : j = l.length := by omega
                      go_wp2_with fail
                      go_ret2
                      refine ⟨D, true, gd, cd, rfl, .inr ⟨HV.out, all, ?_, HAL.out.2.1, ?_, .inl ⟨?_, ?_, rfl⟩⟩, hgdw, ud, hdc, hdm, hb⟩
                      · simp only [Int.toNat_natCast]; rw [← HCE.out]; exact HAL.out.1
                      · simp only [Int.toNat_natCast]; rw [← HCE.out]; exact HAL.out.2.2
                      · simp only [Int.toNat_natCast]; rw [← HDE.out, fitB_true HQ.out, HPT.out]; rfl
                      · simp only [Int.toNat_natCast]; exact HDE.out
            · skip
              go_wp2_with fail
              go_loop [15, 77] (fun _ i => ∃ r : Nat, r ≤ all.length - sz ∧ i = .int .i64 r ∧ ∀ j, j < r → nth all (sz + j) = 0) (fun _ i => all.length - sz - (intOf i).toNat)
              case atStart => exact ⟨0, Nat.zero_le _, rfl, fun j hj => absurd hj (by omega)⟩
              case round =>
                obtain ⟨r, hr, rfl, hz⟩ := hrel
                have HZ := Lib.hid hz
                clear hz
                by_cases hlr : r < all.length - sz
                · have hcr := q5.cell (j := sz + r) (by omega)
                  have i1 : (r : Int) < ((all.length - sz : Nat) : Int) := by omega
                  have i2 : (r : Int) < (all.length : Int) - (sz : Int) := by omega
                  by_cases h0 : nth all (sz + r) = 0
                  · have t2 : (nth all (sz + r) != 0) = false := by simpa using h0
                    have H0 := Lib.hid h0
                    clear h0
                    go_wp2_with fail
                    exact ⟨⟨r + 1, by omega, by go_num, fun j hj => by
                      by_cases e : j = r
                      · rw [e]; exact H0.out
                      · exact HZ.out j (by omega)⟩, by simp [intOf]; omega⟩
                  · have t2 : (nth all (sz + r) != 0) = true := by simpa using h0
                    have HF := Lib.hid (padB_at (size := sz) (all := all) (sz + r) (by omega) (by omega) h0)
                    clear h0
                    go_wp2_with fail
                    go_ret2
                    refine ⟨[], false, wr.heap.size, 0, rfl, .inr ⟨HV.out, all, ?_, HAL.out.2.1, ?_, .inr ⟨?_, rfl, rfl⟩⟩, hb.size, wr_empty _ _, Nat.le_refl _, by simp [maxLen], hb.alloc hb.size _⟩
                    · simp only [Int.toNat_natCast]; rw [← HCE.out]; exact HAL.out.1
                    · simp only [Int.toNat_natCast]; rw [← HCE.out]; exact HAL.out.2.2
                    · simp only [Int.toNat_natCast]; rw [HF.out]; rfl
                · obtain rfl : r = all.length - sz := by omega
                  have HPT : Hid (padB sz all = true) := by
                    unfold Hid
                    exact padB_true fun j h1 h2 => by have := HZ.out (j - sz) (by omega); rwa [show sz + (j - sz) = j by omega] at this
                  go_wp2_with fail
                  refine (clone_any g _ sz D _ uD HDL.out (by omega)).mono ?_
                  rintro e w3 ⟨gd, cd, hgd, rfl, ud, hdc, hdm, hb3⟩
                  have hB3 : Below w.heap.size w w3 := hb.trans (hb3.mono hb.size)
                  have hgdw : w.heap.size ≤ gd := Nat.le_trans hb.size hgd
                  clear hb hb3 uD q5
                  go_wp2_with fail
                  go_loopw [18, 91] (fun _ i wx => ∃ j : Nat, j ≤ l.length ∧ i = .int .i64 j ∧ (∀ m, m < j → shVals D k (num_ l m) = val_ l m) ∧ Wr wx gd D ∧ Below w.heap.size w wx) (fun _ i _ => l.length - (intOf i).toNat)
                  case atStart => exact ⟨0, Nat.zero_le _, rfl, fun m hm => absurd hm (by omega), ud, hB3⟩
                  case round =>
                    clear ud hB3
                    obtain ⟨j, hj, rfl, hq, ud, hb⟩ := hrel
                    have HQ := Lib.hid hq
                    clear hq
                    by_cases hlj : j < l.length
                    · obtain ⟨b, off, A', c', rfl, hbl, hc1, hc2, hcc, hsl⟩ := (h.below hb).at_ (k := j) hlj
                      obtain ⟨x0, x1⟩ := HNUM.out j hlj
                      have hvlj := HVL.out j hlj
                      have hX := two_cells wr (.int .i64 (num_ l j)) (.slice A' (val_ l j).length c') 30
                      obtain ⟨y0, y1, _, _⟩ := box2 hX
                      have hB4 : Below w.heap.size w (wr.alloc (.cells #[.int .i64 (num_ l j), .slice A' (val_ l j).length c'] 30)) := hb.alloc hb.size _
                      have ud4 : Wr (wr.alloc (.cells #[.int .i64 (num_ l j), .slice A' (val_ l j).length c'] 30)) gd D := ud.block (Below.heap_alloc _ _ _ ud.lt)
                      have hsl4 := (hsl.below (w' := wr.alloc (.cells #[.int .i64 (num_ l j), .slice A' (val_ l j).length c'] 30)) ((Below.refl w.heap.size wr).alloc hb.size _)).more hB4.size
                      clear hX
                      have HME := Lib.hid (matchB_eq (vs := val_ l j) HDB.out x0 x1)
                      go_wp2_with fail
                      refine (matchF_any (some ⟨gd, 0, none⟩) A' cd c' D (val_ l j) k (num_ l j) _ ud4.sl' hsl4 (by omega) hvlj hdc hdm).mono ?_
                      rintro e w5 ⟨rfl, hb5⟩
                      rw [HME.out]
                      have hB5 : Below w.heap.size w w5 := hB4.trans (hb5.mono hB4.size)
                      have ud5 := ud4.below hb5 ud4.lt
                      clear hb5 ud4 ud hsl4 hsl hB4 hb y0 y1 hc1 hc2
                      by_cases he : val_ l j = shVals D k (num_ l j)
                      · have HE : Hid (eqTo (val_ l j) (shVals D (Int.toNat k) (num_ l j)) = true) := by unfold Hid; rw [Int.toNat_natCast, ← he]; simp [eqTo]
                        have HQJ := Lib.hid he.symm
                        clear he
                        rw [HE.out]
                        go_wp2_with fail
                        exact ⟨⟨j + 1, by omega, by go_num, fun m hm => by
                          by_cases e : m = j
                          · rw [e]; exact HQJ.out
                          · exact HQ.out m (by omega), ud5, hB5⟩, by simp [intOf]; omega⟩
                      · have HE : Hid (eqTo (val_ l j) (shVals D (Int.toNat k) (num_ l j)) = false) := by unfold Hid; rw [Int.toNat_natCast]; simp only [eqTo, decide_eq_false_iff_not]; exact he
                        have HQJ : Hid (fitB k l D = false) := by unfold Hid; exact fitB_false j hlj (fun e => he e.symm)
                        clear he
                        rw [HE.out]
                        go_wp2_with fail
                        go_ret2
                        refine ⟨[], false, w5.heap.size, 0, rfl, .inr ⟨HV.out, all, ?_, HAL.out.2.1, ?_, .inr ⟨?_, rfl, rfl⟩⟩, hB5.size, wr_empty _ _, Nat.le_refl _, by simp [maxLen], hB5.alloc hB5.size _⟩
                        · simp only [Int.toNat_natCast]; rw [← HCE.out]; exact HAL.out.1
                        · simp only [Int.toNat_natCast]; rw [← HCE.out]; exact HAL.out.2.2
                        · simp only [Int.toNat_natCast]; rw [← HDE.out, HQJ.out]; simp
                    · obtain rfl : j = l.length := by omega
                      go_wp2_with fail
                      go_ret2
                      refine ⟨D, true, gd, cd, rfl, .inr ⟨HV.out, all, ?_, HAL.out.2.1, ?_, .inl ⟨?_, ?_, rfl⟩⟩, hgdw, ud, hdc, hdm, hb⟩
                      · simp only [Int.toNat_natCast]; rw [← HCE.out]; exact HAL.out.1
                      · simp only [Int.toNat_natCast]; rw [← HCE.out]; exact HAL.out.2.2
                      · simp only [Int.toNat_natCast]; rw [← HDE.out, fitB_true HQ.out, HPT.out]; rfl
                      · simp only [Int.toNat_natCast]; exact HDE.out
  · have hv' : shardsB size need l = false := by simpa using hv
    have HV := Lib.hid hv'
    clear hv hv'
    go_enter Try.func17, Try.ntmps17
    go_wp2_with (go_at_call 47; refine (svalid_any _ _ _ _ l _ h hl hvl).mono ?_; rintro e w1 ⟨rfl, hb1⟩; rw [HV.out])
    go_ret2
    exact ⟨[], false, w1.heap.size, 0, rfl, .inl ⟨HV.out, rfl, rfl⟩, hb1.size, wr_empty _ _, Nat.le_refl _, by simp [maxLen], hb1.alloc hb1.size _⟩
end Go.Proofs.Ytfkmiflddpjllaa
