/- The program's joining of parts, second part. Conditions: at most two million parts. -/
import Derived.Test.YthdbbllcckimbaaCoinJ
namespace Go.Proofs.Ythdbbllcckimbaa
open Go.RowKit
set_option linter.unusedVariables false
set_option linter.unusedSimpArgs false
set_option maxRecDepth 4000

def JoinPost (need : Int) (ps : List (Int × Int)) (w : World) (e : Ending) (w' : World) : Prop :=
  ∃ v b, e = .returned (.tuple #[.int .i64 v, .bool b]) ∧ JoinIs need ps v b ∧ Below w.heap.size w w'

set_option maxHeartbeats 8000000 in
theorem join_any (need : Int) (A : Option Addr) (c : Nat) (ps : List (Int × Int)) (w : World) (h : Pl w w.heap.size A ps) (hl : ps.length ≤ 2000000) (hc : ps.length ≤ c) :
    Calls Try.prog 25 #[.int .i64 need, .slice A ps.length c] w (JoinPost need ps w) := by
  by_cases hv : partsB need ps = true
  · obtain ⟨p1, p2, p3, p4⟩ := partsB_parts hv
    obtain ⟨n, rfl⟩ := Int.eq_ofNat_of_zero_le (show 0 ≤ need by omega)
    have hps := p4.le
    have HV := Lib.hid hv
    have HP := Lib.hid p4
    clear hv p4
    have hsA : ∃ b off, A = some ⟨b, off, none⟩ := by
      obtain ⟨b, off, e, _⟩ := h.at_ (k := 0) (by omega)
      exact ⟨b, off, e⟩
    obtain ⟨b, off, rfl⟩ := hsA
    go_enter Try.func25, Try.ntmps25
    go_wp2_with (go_at_call 51; refine (pvalid_any _ _ _ ps _ h hl).mono ?_; rintro e w1 ⟨rfl, hb1⟩; rw [HV.out])
    have hB0 : Below w.heap.size w ((w1.alloc (.cells #[] 3)).alloc (.cells #[] 3)) := (hb1.alloc hb1.size _).alloc (by have := hb1.size; simp; omega) _
    have ho1 : OwnI ((w1.alloc (.cells #[] 3)).alloc (.cells #[] 3)) w.heap.size w1.heap.size 0 [] := (OwnI.made w1 w.heap.size hb1.size).alloc _
    have ho2 : OwnI ((w1.alloc (.cells #[] 3)).alloc (.cells #[] 3)) w.heap.size (w1.heap.size + 1) 0 [] := by
      have := OwnI.made (w1.alloc (.cells #[] 3)) w.heap.size (by have := hb1.size; simp; omega)
      simpa using this
    go_loopw [6, 7, 9, 23] (fun v1 v2 _ i wr => ∃ k g1 c1 g2 c2 : Nat, k ≤ n ∧ i = .int .i64 k ∧ v1 = .slice (some ⟨g1, 0, none⟩) (nums ps k).length c1 ∧ v2 = .slice (some ⟨g2, 0, none⟩) (vals ps k).length c2 ∧ OwnI wr w.heap.size g1 c1 (nums ps k) ∧ OwnI wr w.heap.size g2 c2 (vals ps k) ∧ g1 ≠ g2 ∧ Below w.heap.size w wr) (fun _ _ _ i _ => n - (intOf i).toNat)
    case atStart => exact ⟨0, w1.heap.size, 0, w1.heap.size + 1, 0, Nat.zero_le _, rfl, rfl, rfl, ho1, ho2, by omega, hB0⟩
    case round =>
      clear ho1 ho2 hB0
      obtain ⟨k, g1, c1, g2, c2, hk, rfl, rfl, rfl, ho1, ho2, hne, hb⟩ := hrel
      have hl1 := nums_len ps k
      have hl2 := vals_len ps k
      by_cases hlt : k < n
      · obtain ⟨b', off', e', hbl, hc1, hc2⟩ := (h.below hb).at_ (k := k) (by omega)
        simp only [Option.some.injEq, Addr.mk.injEq, and_true] at e'
        obtain ⟨rfl, rfl⟩ := e'
        obtain ⟨x0, x1, _⟩ := HP.out k (by omega)
        have y1 : (nums ps k).length ≤ 7 := by omega
        have y2 : (vals ps k).length ≤ 7 := by omega
        have HL1 := Lib.hid hl1
        have HL2 := Lib.hid hl2
        clear hl1 hl2
        have hlt1 := ho1.parts.2.1
        have hlt2 := ho2.parts.2.1
        have hge1 := ho1.parts.1
        go_wp2_with (at_builtin; refine wpList_one rfl _ _ rfl w.heap.size g1 c1 (nums ps k) (nums ps (k + 1)) _ (nums_succ ps k).symm rfl _ rfl (by simp) (ho1.alloc _) (by omega) (by have := hb.size; simp; omega) ?_)
        intro g1' c1' w5 ho5 hg5 hf5
        have hbox := hg5.cell (cell_new2 wr (.int .i64 (fst_ ps k)) (.int .i64 (snd_ ps k)) 47).2 (by simp; omega)
        have ho2' : OwnI w5 w.heap.size g2 c2 (vals ps k) := (ho2.alloc _).kept hg5 (fun e => hne (by injection e))
        have hb5 : Below w.heap.size w w5 := (hb.alloc hb.size _).grown hg5 (by have := hb.size; simp; omega) (fun kk e => by injection e with e; omega)
        have hne' : g1' ≠ g2 := by
          rcases hf5 with e | e
          · omega
          · try simp at e
            omega
        have hlt3 := ho5.parts.2.1
        have hlt4 := ho2'.parts.2.1
        have hge2 := ho2'.parts.1
        clear ho1 ho2 hg5 hf5 hb
        go_wp2_with (at_builtin; refine wpList_one rfl _ _ rfl w.heap.size g2 c2 (vals ps k) (vals ps (k + 1)) _ (vals_succ ps k).symm rfl _ rfl (by simp) ho2' (by omega) hb5.size ?_)
        intro g2' c2' w6 ho6 hg6 hf6
        have ho1' : OwnI w6 w.heap.size g1' c1' (nums ps (k + 1)) := ho5.kept hg6 (fun e => hne' (by injection e with e; exact e.symm))
        have hb6 : Below w.heap.size w w6 := hb5.grown hg6 hb5.size (fun kk e => by injection e with e; omega)
        have hne6 : g1' ≠ g2' := by
          rcases hf6 with e | e
          · omega
          · try simp at e
            omega
        clear ho5 ho2' hg6 hf6 hb5 hbox
        go_wp2_with fail
        exact ⟨⟨k + 1, g1', c1', g2', c2', by omega, by go_num, rfl, rfl, ho1', ho6, hne6, hb6⟩, by simp [intOf]; omega⟩
      · obtain rfl : k = n := by omega
        have u1 := ho1.parts.2.2.2.2
        have u2 := ho2.parts.2.2.2.2
        have hcc := ho1.parts.2.2.1
        have HL1 := Lib.hid hl1
        have HL2 := Lib.hid hl2
        clear ho1 ho2 hl1 hl2
        have HAP := Lib.hid (HP.out.apart' (m := k) (by omega))
        have HI1 := Lib.hid (HP.out.nums_in (m := k) (by omega))
        have HI2 := Lib.hid (HP.out.vals_in (m := k) (by omega))
        go_wp2_with (go_at_call 44; refine (inter_any _ _ _ _ (nums ps k) (vals ps k) _ u1.sl' u2.sl' (by rw [HL2.out]; omega) (by rw [HL1.out, HL2.out]; omega) hcc HI1.out HI2.out (by rw [HL2.out]; exact HAP.out)).mono ?_; rintro e w7 ⟨cs, hcl, hci, hce, gi, ci, hgi, rfl, ui, hcc', hcm, hb7⟩; have HC0 := Lib.hid hcl; clear hcl)
        have hci' := Lib.hid hci
        have HCE := Lib.hid (fun i (hi : i < k) => by have := hce i (by rw [HL2.out]; exact hi); rwa [nums_nth ps hi, vals_nth ps hi] at this)
        have HCL := Lib.hid (HC0.out.trans HL2.out)
        have hB7 : Below w.heap.size w w7 := hb.trans (hb7.mono hb.size)
        have hgw : w.heap.size ≤ gi := Nat.le_trans hb.size hgi
        have hcs7 : cs.length ≤ 7 := by have := HCL.out; omega
        clear hci hce hb hb7 hgi u1 u2 HC0
        go_loopw [12, 45] (fun _ i wr => ∃ j : Nat, j ≤ ps.length ∧ i = .int .i64 j ∧ (∀ m, m < j → Dag.ev cs (fst_ ps m + 1) = snd_ ps m) ∧ Wr wr gi cs ∧ Below w.heap.size w wr) (fun _ i _ => ps.length - (intOf i).toNat)
        case atStart => exact ⟨0, Nat.zero_le _, rfl, fun m hm => absurd hm (by omega), ui, hB7⟩
        case round =>
          clear ui hB7
          obtain ⟨j, hj, rfl, hq, ui, hb⟩ := hrel
          have HQ := Lib.hid hq
          clear hq
          by_cases hlj : j < ps.length
          · obtain ⟨b', off', e', hbl, hc1, hc2⟩ := (h.below hb).at_ (k := j) hlj
            simp only [Option.some.injEq, Addr.mk.injEq, and_true] at e'
            obtain ⟨rfl, rfl⟩ := e'
            obtain ⟨x0, x1, _⟩ := HP.out j hlj
            have hltg := ui.lt
            obtain ⟨hn1, hn2⟩ := cell_new2 wr (.int .i64 (fst_ ps j)) (.int .i64 (snd_ ps j)) 47
            have hB1 : Below w.heap.size w (wr.alloc (.cells #[.int .i64 (fst_ ps j), .int .i64 (snd_ ps j)] 47)) := hb.alloc hb.size _
            have ui1 : Wr (wr.alloc (.cells #[.int .i64 (fst_ ps j), .int .i64 (snd_ ps j)] 47)) gi cs := ui.block (Below.heap_alloc _ _ _ hltg)
            have hls : wr.heap.size < (wr.alloc (.cells #[.int .i64 (fst_ ps j), .int .i64 (snd_ ps j)] 47)).heap.size := by simp
            go_wp2_with fail
            obtain ⟨W, hW⟩ : ∃ W, W = wr.alloc (.cells #[.int .i64 (fst_ ps j), .int .i64 (snd_ ps j)] 47) := ⟨_, rfl⟩
            rw [← hW] at hn1 hn2 hB1 ui1 hls ⊢
            obtain ⟨G, hG⟩ : ∃ G, G = wr.heap.size := ⟨_, rfl⟩
            rw [← hG] at hn1 hn2 hls ⊢
            clear hW hG hc1 hc2 hb ui
            have a1 : IntKind.i64.wrap (fst_ ps j + 1) = fst_ ps j + 1 := IntWalk.i64_in _ (by omega)
            by_cases hev : Dag.ev cs (fst_ ps j + 1) = snd_ ps j
            · have t1 : (Dag.ev cs (fst_ ps j + 1) != snd_ ps j) = false := by simpa using hev
              have HEV := Lib.hid hev
              clear hev
              go_region_held3 (fun w' => w'.cell? ⟨G, 0, none⟩ = some (.int .i64 (fst_ ps j)) ∧ w'.cell? ⟨G, 1, none⟩ = some (.int .i64 (snd_ ps j))) (first | exact ⟨hn1, hn2⟩ | exact ⟨h8a, h8b⟩)
                (first | (go_at_call 50; refine (at_any _ _ cs (fst_ ps j + 1) hci'.out (by omega) (by omega) (by omega) _ ?_).mono ?_; exact ui1.sl'; rintro e w8 ⟨rfl, hb8⟩; have h8a := (hb8.cell (p := ⟨G, 0, none⟩) hls).trans hn1; have h8b := (hb8.cell (p := ⟨G, 1, none⟩) hls).trans hn2))
              have ui8 : Wr w8 gi cs := ui1.drew.below hb8 ui1.lt
              have hB8 : Below w.heap.size w w8 := (below_drew hB1).trans (hb8.mono hB1.size)
              clear hb8 ui1 hB1 hn1 hn2
              go_wp2_with fail
              exact ⟨⟨j + 1, by omega, by go_num, fun m hm => by
                by_cases e : m = j
                · rw [e]; exact HEV.out
                · exact HQ.out m (by omega), ui8, hB8⟩, by simp [intOf]; omega⟩
            · have t1 : (Dag.ev cs (fst_ ps j + 1) != snd_ ps j) = true := by simpa using hev
              have HF := Lib.hid (fitsB_false j hlj hev)
              clear hev
              go_region_held3 (fun w' => w'.cell? ⟨G, 0, none⟩ = some (.int .i64 (fst_ ps j)) ∧ w'.cell? ⟨G, 1, none⟩ = some (.int .i64 (snd_ ps j))) (first | exact ⟨hn1, hn2⟩ | exact ⟨h8a, h8b⟩)
                (first | (go_at_call 50; refine (at_any _ _ cs (fst_ ps j + 1) hci'.out (by omega) (by omega) (by omega) _ ?_).mono ?_; exact ui1.sl'; rintro e w8 ⟨rfl, hb8⟩; have h8a := (hb8.cell (p := ⟨G, 0, none⟩) hls).trans hn1; have h8b := (hb8.cell (p := ⟨G, 1, none⟩) hls).trans hn2))
              have hB8 : Below w.heap.size w w8 := (below_drew hB1).trans (hb8.mono hB1.size)
              clear hb8 ui1 hB1 hn1 hn2
              go_wp2_with fail
              go_ret2
              exact ⟨0, false, rfl, .inr ⟨HV.out, cs, by rw [HCL.out], hci'.out, fun i hi => HCE.out i (by rw [← HCL.out]; exact hi), .inr ⟨HF.out, rfl, rfl⟩⟩, hB8⟩
          · obtain rfl : j = ps.length := by omega
            have HF := Lib.hid (fitsB_true (cs := cs) (ps := ps) HQ.out)
            go_wp2_with (go_at_call 50; refine (at_any _ _ cs 0 hci'.out (by omega) (by omega) (by omega) _ ui.sl').mono ?_; rintro e w8 ⟨rfl, hb8⟩)
            go_ret2
            exact ⟨_, true, rfl, .inr ⟨HV.out, cs, by rw [HCL.out], hci'.out, fun i hi => HCE.out i (by rw [← HCL.out]; exact hi), .inl ⟨HF.out, rfl, rfl⟩⟩, hb.trans (hb8.mono hb.size)⟩
  · have hv' : partsB need ps = false := by simpa using hv
    have HV := Lib.hid hv'
    clear hv hv'
    go_enter Try.func25, Try.ntmps25
    go_wp2_with (go_at_call 51; refine (pvalid_any _ _ _ ps _ h hl).mono ?_; rintro e w1 ⟨rfl, hb1⟩; rw [HV.out])
    go_ret2
    exact ⟨0, false, rfl, .inl ⟨HV.out, rfl, rfl⟩, hb1⟩
end Go.Proofs.Ythdbbllcckimbaa
