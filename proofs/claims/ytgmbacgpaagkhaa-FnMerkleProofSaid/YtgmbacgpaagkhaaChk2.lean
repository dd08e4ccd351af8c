/- The check of a proof, of program and reference, for all arguments. Conditions: at most two million digests. -/
import Derived.Test.YtgmbacgpaagkhaaChkI
import Derived.Test.YtgmbacgpaagkhaaPrf2
namespace Go.Proofs.Ytgmbacgpaagkhaa
open Go.RowKit
set_option linter.unusedVariables false
set_option linter.unusedSimpArgs false

theorem allIn_bad {lo hi : Int} {l : List Int} (h : allIn lo hi l = false) : ∃ j, j < l.length ∧ (nth l j < lo ∨ hi < nth l j) := by
  rcases Classical.em (∃ j, j < l.length ∧ (nth l j < lo ∨ hi < nth l j)) with h1 | h1
  · exact h1
  · have := allIn_true (lo := lo) (hi := hi) (l := l) (fun j hj => by
      rcases Classical.em (lo ≤ nth l j ∧ nth l j ≤ hi) with h2 | h2
      · exact h2
      · exact absurd ⟨j, hj, by omega⟩ h1)
    rw [this] at h; cases h

theorem isdig_no (d : Int) (w : World) (h : d < 0 ∨ 990 < d) : Calls Try.prog 30 #[.int .i64 d] w fun e w' => e = .returned (.bool false) ∧ w' = w := by
  by_cases h0 : 0 ≤ d
  · have h2 : decide (d < 991) = false := by simp; omega
    go_enter Try.func30, Try.ntmps30
    go_wp2
    go_ret
    exact ⟨rfl, rfl⟩
  · have h2 : decide (0 ≤ d) = false := by simp; omega
    go_enter Try.func30, Try.ntmps30
    go_wp2
    go_ret
    exact ⟨rfl, rfl⟩

theorem below3 (w : World) (a b c : Obj) : Below w.heap.size w (((w.alloc a).alloc b).alloc c) := (((Below.refl _ w).alloc (Nat.le_refl _) _).alloc (by simp) _).alloc (by simp; omega) _
set_option maxHeartbeats 4000000 in
theorem check_any (root size i leaf : Int) (A : Option Addr) (c : Nat) (ps : List Int) (w : World) (h : Sl w w.heap.size A ps) (hl : ps.length ≤ 2000000) :
    Calls Try.prog 14 #[.int .i64 root, .int .i64 size, .int .i64 i, .int .i64 leaf, .slice A ps.length c] w fun e w' => e = .returned (.bool (checkV root size i leaf ps)) ∧ Below w.heap.size w w' := by
  have hB := below3 w (.cells #[.int .i64 i] 3) (.cells #[.slice A ps.length c] 22) (.cells #[.bool false] 4)
  by_cases hh : 1 ≤ size ∧ size ≤ 16 ∧ 0 ≤ i ∧ i < size ∧ 0 ≤ leaf ∧ leaf ≤ 990
  · by_cases hp : allIn 0 990 ps = true
    · obtain ⟨s1, s2, i1, i2, d0, d1⟩ := hh
      obtain ⟨size, rfl⟩ := Int.eq_ofNat_of_zero_le (show 0 ≤ size by omega)
      obtain ⟨i, rfl⟩ := Int.eq_ofNat_of_zero_le i1
      exact callsIn_wide.1 (check_in root leaf size i A c ps (by omega) (by omega) (by omega) d0 d1 hp hl w h)
    · have hp' : allIn 0 990 ps = false := by simpa using hp
      rw [checkV_proof hp']
      obtain ⟨s1, s2, i1, i2, d0, d1⟩ := hh
      have HBD := Lib.hid (allIn_bad hp')
      clear hp hp'
      have q1 : decide (size < 1) = false := by simp; omega
      have q2 : decide (16 < size) = false := by simp; omega
      have q3 : decide (i < 0) = false := by simp; omega
      have q4 : decide (size ≤ i) = false := by simp; omega
      go_enter Try.func14, Try.ntmps14
      go_wp2_with (go_at_call 30; refine (isdig_yes _ _ d0 d1).mono ?_; rintro e w' ⟨rfl, rfl⟩)
      go_loop [12, 38] (fun _ v => ∃ k : Nat, k ≤ ps.length ∧ v = .int .i64 (k : Int) ∧ ∀ j, j < k → 0 ≤ nth ps j ∧ nth ps j ≤ 990) (fun _ v => ps.length - (intOf v).toNat)
      case atStart => exact ⟨0, Nat.zero_le _, rfl, fun j hj => absurd hj (by omega)⟩
      case round =>
        obtain ⟨k, hk, rfl, hq⟩ := hrel
        have HQ := Lib.hid hq
        clear hq
        have hlt : k < ps.length := by
          rcases Nat.lt_or_ge k ps.length with h | h
          · exact h
          · obtain ⟨j, hj, hjb⟩ := HBD.out
            have := HQ.out j (by omega)
            omega
        obtain ⟨b, off, rfl, hbl, hc⟩ := (h.below hB).at_ hlt
        by_cases hd : 0 ≤ nth ps k ∧ nth ps k ≤ 990
        · obtain ⟨e0, e1⟩ := hd
          go_wp2_with (go_at_call 30; refine (isdig_yes _ _ e0 e1).mono ?_; rintro e w' ⟨rfl, rfl⟩)
          exact ⟨⟨k + 1, by omega, by go_num, fun j hj => by
            by_cases e : j = k
            · rw [e]; exact ⟨e0, e1⟩
            · exact HQ.out j (by omega)⟩, by simp [intOf]; omega⟩
        · go_wp2_with (go_at_call 30; refine (isdig_no _ _ (by omega)).mono ?_; rintro e w' ⟨rfl, rfl⟩)
          refine bodyPost_ret (v := .bool false) (by simp [results, Try.results14, go_sem]) rfl ⟨rfl, hB⟩
  · rw [checkV_head hh]
    by_cases g1 : 1 ≤ size
    · have q1 : decide (size < 1) = false := by simp; omega
      by_cases g2 : size ≤ 16
      · have q2 : decide (16 < size) = false := by simp; omega
        by_cases g3 : 0 ≤ i
        · have q3 : decide (i < 0) = false := by simp; omega
          by_cases g4 : i < size
          · have q4 : decide (size ≤ i) = false := by simp; omega
            go_enter Try.func14, Try.ntmps14
            go_wp2_with (go_at_call 30; refine (isdig_no _ _ (by omega)).mono ?_; rintro e w' ⟨rfl, rfl⟩)
            refine bodyPost_ret (v := .bool false) (by simp [results, Try.results14, go_sem]) rfl ⟨rfl, hB⟩
          · have q4 : decide (size ≤ i) = true := by simp; omega
            go_enter Try.func14, Try.ntmps14
            go_wp2_with fail
            refine bodyPost_ret (v := .bool false) (by simp [results, Try.results14, go_sem]) rfl ⟨rfl, hB⟩
        · have q3 : decide (i < 0) = true := by simp; omega
          go_enter Try.func14, Try.ntmps14
          go_wp2_with fail
          refine bodyPost_ret (v := .bool false) (by simp [results, Try.results14, go_sem]) rfl ⟨rfl, hB⟩
      · have q2 : decide (16 < size) = true := by simp; omega
        go_enter Try.func14, Try.ntmps14
        go_wp2_with fail
        refine bodyPost_ret (v := .bool false) (by simp [results, Try.results14, go_sem]) rfl ⟨rfl, hB⟩
    · have q1 : decide (size < 1) = true := by simp; omega
      go_enter Try.func14, Try.ntmps14
      go_wp2_with fail
      refine bodyPost_ret (v := .bool false) (by simp [results, Try.results14, go_sem]) rfl ⟨rfl, hB⟩

theorem digS_yes (d : Int) (w : World) (h0 : 0 ≤ d) (h1 : d ≤ 990) : Calls Try.prog 28 #[.int .i64 d] w fun e w' => e = .returned (.bool true) ∧ w = w' := by
  go_enter Try.func28, Try.ntmps28
  go_wp2_with (go_at_call 27; refine (inY _ _ _ _ h0 h1).mono ?_; rintro e w1 ⟨rfl, rfl⟩)
  go_ret
  exact ⟨rfl, rfl⟩
theorem digS_no (d : Int) (w : World) (h : d < 0 ∨ 990 < d) : Calls Try.prog 28 #[.int .i64 d] w fun e w' => e = .returned (.bool false) ∧ w = w' := by
  go_enter Try.func28, Try.ntmps28
  go_wp2_with (go_at_call 27; refine (inN _ _ _ _ h).mono ?_; rintro e w1 ⟨rfl, rfl⟩)
  go_ret
  exact ⟨rfl, rfl⟩
theorem Sl.tail {w : World} {B b off cp : Nat} {l : List Int} (h : Sl w B (some ⟨b, off, none⟩) l) (hc : l.length ≤ cp) : Sl w B (if cp = 1 then some ⟨b, off, none⟩ else some ⟨b, off + 1, none⟩) (l.drop 1) := fun hne => by
  have h2 : 1 < l.length := by
    rcases Nat.lt_or_ge 1 l.length with h | h
    · exact h
    · exact absurd (List.drop_eq_nil_of_le h) hne
  obtain ⟨b', off', e, hlt, hcl⟩ := h (by intro e; rw [e] at h2; simp at h2)
  simp only [Option.some.injEq, Addr.mk.injEq, and_true] at e
  obtain ⟨rfl, rfl⟩ := e
  rw [if_neg (by omega)]
  refine ⟨b, off + 1, rfl, hlt, fun j hj => ?_⟩
  have hj' : 1 + j < l.length := by simp at hj; omega
  have := hcl (1 + j) hj'
  rw [show off + 1 + j = off + (1 + j) by omega, this]
  simp [nth, Nat.add_comm 1 j]
theorem wid_int (n : Nat) : ((n : Int) + 1) / 2 = (((n + 1) / 2 : Nat) : Int) := by omega

set_option maxHeartbeats 8000000 in
theorem checkS_any (root size i leaf : Int) (A : Option Addr) (c : Nat) (ps : List Int) (w : World) (h : Sl w w.heap.size A ps) (hl : ps.length ≤ 2000000) (hcap : ps.length ≤ c) :
    Calls Try.prog 12 #[.int .i64 root, .int .i64 size, .int .i64 i, .int .i64 leaf, .slice A ps.length c] w fun e w' => e = .returned (.bool (checkV root size i leaf ps)) ∧ w = w' := by
  by_cases hh : 1 ≤ size ∧ size ≤ 16 ∧ 0 ≤ i ∧ i < size ∧ 0 ≤ leaf ∧ leaf ≤ 990
  · obtain ⟨s1, s2, i1, i2, d0, d1⟩ := hh
    obtain ⟨size, rfl⟩ := Int.eq_ofNat_of_zero_le (show 0 ≤ size by omega)
    obtain ⟨i, rfl⟩ := Int.eq_ofNat_of_zero_le i1
    have h1 : 1 ≤ size := by omega
    have h16 : size ≤ 16 := by omega
    have hi : i < size := by omega
    clear s1 s2 i1 i2
    go_enter Try.func12, Try.ntmps12
    go_wp2_with (first
      | (go_at_call 27; refine (inY _ _ _ _ (by omega) (by omega)).mono ?_; rintro e w1 ⟨rfl, rfl⟩)
      | (go_at_call 28; refine (digS_yes _ _ d0 d1).mono ?_; rintro e w1 ⟨rfl, rfl⟩))
    go_loop [1, 2, 4, 11, 12] (fun vs vi vp vn _ => ∃ (k used cp : Nat) (node : Int) (A' : Option Addr), vs = .int .i64 (wid size k : Int) ∧ vi = .int .i64 ((i / 2 ^ k : Nat) : Int) ∧ vp = .slice A' (ps.drop used).length cp ∧ vn = .int .i64 node ∧ Lead size i leaf ps k node used ∧ (∀ j, j < used → 0 ≤ nth ps j ∧ nth ps j ≤ 990) ∧ (∀ j, j < k → 1 < wid size j) ∧ Sl w w.heap.size A' (ps.drop used) ∧ (ps.drop used).length ≤ cp ∧ cp ≤ c) (fun vs _ _ _ _ => (intOf vs).toNat)
    case atStart => exact ⟨0, 0, c, leaf, A, rfl, by simp, by simp, rfl, Lead.zero d0 d1, fun j hj => absurd hj (by omega), fun j hj => absurd hj (by omega), by simpa using h, by simpa using hcap, Nat.le_refl _⟩
    case round =>
      obtain ⟨k, used, cp, node, A', rfl, rfl, rfl, rfl, hld, hok, hall, hsl, hc1, hc2⟩ := hrel
      have hix := wid_idx hi k
      have l1 := wid_pos h1 k
      have l2 := wid_le h1 h16 k
      have hu := hld.1
      obtain ⟨n0, n1⟩ := hld.2.1
      have HSK := Lib.hid (fun hs => Lead.skip hld h16 hall hs)
      have HUS := Lib.hid (fun hs hu => Lead.use hld h16 hall hix hs hu)
      have HSH := Lib.hid (fun hs hu => Lead.short hld h16 hall hix hs hu)
      have HDV := Lib.hid (idx_succ i k)
      have HWD := Lib.hid (show wid size (k + 1) = (wid size k + 1) / 2 from rfl)
      have HOK := Lib.hid hok
      have HAL := Lib.hid hall
      have HLD := Lib.hid hld
      clear hok hall hld
      obtain ⟨iv, hiv⟩ : ∃ iv, iv = i / 2 ^ k := ⟨_, rfl⟩
      obtain ⟨wd, hwd⟩ : ∃ wd, wd = wid size k := ⟨_, rfl⟩
      obtain ⟨P0, hP0⟩ : ∃ P0, P0 = ps.drop used := ⟨_, rfl⟩
      have hpl : P0.length = ps.length - used := by rw [hP0]; simp
      rw [← hP0] at hsl hc1 ⊢
      rw [← hiv] at hix HSK HUS HSH HDV ⊢
      rw [← hwd] at hix l1 l2 HSK HUS HSH HWD ⊢
      have hdr : ps.drop (used + 1) = P0.drop 1 := by rw [hP0, List.drop_drop]
      have HDR := Lib.hid hdr
      clear hdr
      have HP0 := Lib.hid hP0
      have HPL := Lib.hid hpl
      have HWE := Lib.hid hwd
      clear hiv hwd hP0 hpl
      have hsv := sib_int iv
      by_cases hlen : 1 < wd
      · have t1 : decide ((1 : Int) < (wd : Int)) = true := by simp; omega
        by_cases hsb : Dag.sib iv < wd
        · obtain ⟨sb, hsbe⟩ : ∃ sb, sb = Dag.sib iv := ⟨_, rfl⟩
          have hsbd : sb = if iv % 2 = 0 then iv + 1 else iv - 1 := by rw [hsbe]; rfl
          rw [← hsbe] at hsv
          have hsb' : sb < wd := by omega
          clear hsbe
          have j1 : decide ((sb : Int) < (wd : Int)) = true := by simp; omega
          by_cases hemp : used = ps.length
          · have t2 : ((P0.length : Int) == 0) = true := by have := HPL.out; simp only [beq_iff_eq]; omega
            have HF := Lib.hid (checkV_lead (root := root) (size := size) (i := i) (leaf := leaf) (proof := ps) (by simp only [Int.toNat_natCast]; rw [HSH.out hsb hemp]; simp))
            clear hsbd
            go_wp2_with fail
            go_ret
            exact ⟨by rw [HF.out]; rfl, rfl⟩
          · have t2 : ((P0.length : Int) == 0) = false := by have := HPL.out; simp only [beq_eq_false_iff_ne]; omega
            have hP1 : 1 ≤ P0.length := by have := HPL.out; omega
            have hlt : used < ps.length := by omega
            obtain ⟨b, off, rfl, hbl, hcell⟩ := hsl.at_ (k := 0) (by omega)
            have hnt : nth P0 0 = nth ps used := by rw [HP0.out]; simp [nth]
            rw [hnt] at hcell
            simp only [Nat.add_zero] at hcell
            have i1 : (0 : Int) < (P0.length : Int) := by omega
            by_cases hdg : 0 ≤ nth ps used ∧ nth ps used ≤ 990
            · obtain ⟨p0, p1⟩ := hdg
              have HLD2 := Lib.hid (HUS.out hsb hlt)
              by_cases hev : iv % 2 = 0
              · have hsb2 : sb = iv + 1 := by rw [hsbd, if_pos hev]
                have t3 : decide ((iv : Int) < (sb : Int)) = true := by simp; omega
                have HLD3 : Hid (Lead size i leaf ps (k + 1) (Dag.pair node (nth ps used)) (used + 1)) := by
                  have := HLD2.out; rw [if_pos hev] at this; exact this
                clear HLD2 hsbd hsb2
                go_wp2_with (first
                  | (go_at_call 28; refine (digS_yes _ _ p0 p1).mono ?_; rintro e w1 ⟨rfl, rfl⟩)
                  | (go_at_call 29; refine (pairS_any _ _ _ n0 n1 p0 p1).mono ?_; rintro e w1 ⟨rfl, rfl⟩))
                refine ⟨⟨k + 1, used + 1, cp - 1, _, (if cp = 1 then some ⟨b, off, none⟩ else some ⟨b, off + 1, none⟩), ?_, ?_, ?_, rfl, HLD3.out, fun j hj => ?_, fun j hj => ?_, ?_, ?_, by omega⟩, by simp [intOf]; omega⟩
                · rw [HWD.out]; go_num
                · rw [HDV.out]; go_num
                · rw [HDR.out, List.length_drop]
                · by_cases e : j = used
                  · rw [e]; exact ⟨p0, p1⟩
                  · exact HOK.out j (by omega)
                · by_cases e : j = k
                  · rw [e, ← HWE.out]; exact hlen
                  · exact HAL.out j (by omega)
                · rw [HDR.out]; exact hsl.tail hc1
                · rw [HDR.out]; simp; omega
              · have hsb2 : sb + 1 = iv := by rw [hsbd, if_neg hev]; omega
                have t3 : decide ((iv : Int) < (sb : Int)) = false := by simp; omega
                have t3' : decide (iv < sb) = false := by simp; omega
                have HLD3 : Hid (Lead size i leaf ps (k + 1) (Dag.pair (nth ps used) node) (used + 1)) := by
                  have := HLD2.out; rw [if_neg hev] at this; exact this
                clear HLD2 hsbd hsb2
                go_wp2_with (first
                  | (go_at_call 28; refine (digS_yes _ _ p0 p1).mono ?_; rintro e w1 ⟨rfl, rfl⟩)
                  | (go_at_call 29; refine (pairS_any _ _ _ p0 p1 n0 n1).mono ?_; rintro e w1 ⟨rfl, rfl⟩))
                refine ⟨⟨k + 1, used + 1, cp - 1, _, (if cp = 1 then some ⟨b, off, none⟩ else some ⟨b, off + 1, none⟩), ?_, ?_, ?_, rfl, HLD3.out, fun j hj => ?_, fun j hj => ?_, ?_, ?_, by omega⟩, by simp [intOf]; omega⟩
                · rw [HWD.out]; go_num
                · rw [HDV.out]; go_num
                · rw [HDR.out, List.length_drop]
                · by_cases e : j = used
                  · rw [e]; exact ⟨p0, p1⟩
                  · exact HOK.out j (by omega)
                · by_cases e : j = k
                  · rw [e, ← HWE.out]; exact hlen
                  · exact HAL.out j (by omega)
                · rw [HDR.out]; exact hsl.tail hc1
                · rw [HDR.out]; simp; omega
            · have HF := Lib.hid (checkV_proof (root := root) (size := size) (i := i) (leaf := leaf) (allIn_false (lo := 0) (hi := 990) hlt (by omega)))
              clear hsbd
              go_wp2_with (go_at_call 28; refine (digS_no _ _ (by omega)).mono ?_; rintro e w1 ⟨rfl, rfl⟩)
              go_ret
              exact ⟨by rw [HF.out]; rfl, rfl⟩
        · obtain ⟨sb, hsbe⟩ : ∃ sb, sb = Dag.sib iv := ⟨_, rfl⟩
          have HLD3 := Lib.hid (HSK.out hsb)
          rw [← hsbe] at hsv hsb
          clear hsbe
          have j1 : decide ((sb : Int) < (wd : Int)) = false := by simp; omega
          have j1' : decide (sb < wd) = false := by simp; omega
          go_wp2_with fail
          refine ⟨⟨k + 1, used, cp, node, A', ?_, ?_, ?_, rfl, HLD3.out, HOK.out, fun j hj => ?_, ?_, ?_, hc2⟩, by simp [intOf]; omega⟩
          · rw [HWD.out]; go_num
          · rw [HDV.out]; go_num
          · rw [← HP0.out]
          · by_cases e : j = k
            · rw [e, ← HWE.out]; exact hlen
            · exact HAL.out j (by omega)
          · rw [← HP0.out]; exact hsl
          · rw [← HP0.out]; exact hc1
      · have t1 : decide ((1 : Int) < (wd : Int)) = false := by simp; omega
        have t1' : decide (1 < wd) = false := by simp; omega
        by_cases hemp : used = ps.length
        · have t2 : ((P0.length : Int) == 0) = true := by have := HPL.out; simp only [beq_iff_eq]; omega
          have hpv : allIn 0 990 ps = true := allIn_true fun j hj => HOK.out j (by omega)
          have HF := Lib.hid (checkV_fin (root := root) HLD.out (by rw [← HWE.out]; omega) ⟨h1, h16, hi, d0, d1⟩ hpv)
          have HF2 : Hid (checkV root size i leaf ps = (node == root)) := by unfold Hid; rw [HF.out]; simp [hemp]
          clear HF hpv
          go_wp2_with fail
          go_ret
          exact ⟨by rw [HF2.out]; rfl, rfl⟩
        · have t2 : ((P0.length : Int) == 0) = false := by have := HPL.out; simp only [beq_eq_false_iff_ne]; omega
          have HF := Lib.hid (checkV_lead (root := root) (size := size) (i := i) (leaf := leaf) (proof := ps) (by simp only [Int.toNat_natCast]; rw [HLD.out.fin (by rw [← HWE.out]; omega), if_neg hemp]; simp))
          go_wp2_with fail
          go_ret
          exact ⟨by rw [HF.out]; rfl, rfl⟩
  · rw [checkV_head hh]
    by_cases g1 : 1 ≤ size ∧ size ≤ 16
    · by_cases g2 : 0 ≤ i ∧ i < size
      · go_enter Try.func12, Try.ntmps12
        go_wp2_with (first
          | (go_at_call 27; refine (inY _ _ _ _ (by omega) (by omega)).mono ?_; rintro e w1 ⟨rfl, rfl⟩)
          | (go_at_call 28; refine (digS_no _ _ (by omega)).mono ?_; rintro e w1 ⟨rfl, rfl⟩))
        go_ret
        exact ⟨rfl, rfl⟩
      · have g2' : i < 0 ∨ size - 1 < i := by omega
        go_enter Try.func12, Try.ntmps12
        go_wp2_with fail
        refine (inY _ _ _ _ g1.1 g1.2).mono ?_
        rintro e w1 ⟨rfl, rfl⟩
        go_wp2_with fail
        refine (inN _ _ _ _ g2').mono ?_
        rintro e w1 ⟨rfl, rfl⟩
        go_wp2_with fail
        go_ret
        exact ⟨rfl, rfl⟩
    · go_enter Try.func12, Try.ntmps12
      go_wp2_with (go_at_call 27; refine (inN _ _ _ _ (by omega)).mono ?_; rintro e w1 ⟨rfl, rfl⟩)
      go_ret
      exact ⟨rfl, rfl⟩
end Go.Proofs.Ytgmbacgpaagkhaa
