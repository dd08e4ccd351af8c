/- The program's check of a proof whose digests are valid, whole. Conditions: a valid size, index and leaf. -/
import Derived.Test.YtgmbacgpaagkhaaChkW
namespace Go.Proofs.Ytgmbacgpaagkhaa
open Go.RowKit Go.Shelf
set_option linter.unusedVariables false
set_option linter.unusedSimpArgs false
attribute [local go_sem] Oper.semAt_some

theorem isdig_yes (d : Int) (w : World) (h0 : 0 ≤ d) (h1 : d ≤ 990) : Calls Try.prog 30 #[.int .i64 d] w fun e w' => e = .returned (.bool true) ∧ w' = w := by
  have h2 : d < 991 := by omega
  go_enter Try.func30, Try.ntmps30
  go_wp2
  go_ret
  exact ⟨by simp [h2], rfl⟩

theorem keep5 {w : World} (W : World) (Bz : w.heap.size + 5 ≠ w.heap.size ∧ w.heap.size + 5 ≠ w.heap.size + 3 ∧ w.heap.size + 5 ≠ w.heap.size + 4) (u v x : Value) (hb : Below w.heap.size w W) (_ : True) :
    KeepsOthers W ((((W.setCell ⟨w.heap.size + 3, 0, none⟩ u).drew).setCell ⟨w.heap.size + 4, 0, none⟩ v).setCell ⟨w.heap.size, 0, none⟩ x) ∧ KeepB (w.heap.size + 5) 0 W ((((W.setCell ⟨w.heap.size + 3, 0, none⟩ u).drew).setCell ⟨w.heap.size + 4, 0, none⟩ v).setCell ⟨w.heap.size, 0, none⟩ x) ∧ Below w.heap.size w ((((W.setCell ⟨w.heap.size + 3, 0, none⟩ u).drew).setCell ⟨w.heap.size + 4, 0, none⟩ v).setCell ⟨w.heap.size, 0, none⟩ x) := by
  refine ⟨(((KeepsOthers.setCell _ _ _).trans (KeepsOthers.drew _)).trans (KeepsOthers.setCell _ _ _)).trans (KeepsOthers.setCell _ _ _), ?_, ?_⟩
  · unfold KeepB
    rw [Below.heap_setCell _ _ _ _ Bz.1, Below.heap_setCell _ _ _ _ Bz.2.2]
    exact Below.heap_setCell W ⟨w.heap.size + 3, 0, none⟩ u _ Bz.2.1
  · exact Below.setCell (p := ⟨w.heap.size, 0, none⟩) (Below.setCell (p := ⟨w.heap.size + 4, 0, none⟩) (below_drew (hb.setCell (p := ⟨w.heap.size + 3, 0, none⟩) (by simp) _)) (by simp) _) (Nat.le_refl _) _
/-- What the loop of MerkleCheck keeps. -/
def CkI (w : World) (size i : Nat) (leaf : Int) (A : Option Addr) (c : Nat) (ps : List Int) (k : Nat) (W : World) : Prop :=
  ∃ (node : Int) (used : Nat), Boxed W w.heap.size 3 (.int .i64 ((i / 2 ^ k : Nat) : Int)) ∧ Boxed W (w.heap.size + 1) 22 (.slice A ps.length c) ∧ Boxed W (w.heap.size + 2) 4 (.bool false) ∧ Boxed W (w.heap.size + 3) 3 (.int .i64 node) ∧ Boxed W (w.heap.size + 4) 3 (.int .i64 (used : Int)) ∧ Lead size i leaf ps k node used ∧ Below w.heap.size w W

set_option maxRecDepth 100000 in
set_option maxHeartbeats 4000000 in
theorem check_in (root leaf : Int) (size i : Nat) (A : Option Addr) (c : Nat) (ps : List Int) (h1 : 1 ≤ size) (h16 : size ≤ 16) (hi : i < size) (d0 : 0 ≤ leaf) (d1 : leaf ≤ 990) (hp : allIn 0 990 ps = true) (hl : ps.length ≤ 2000000) (w : World) (hI : Sl w w.heap.size A ps) :
    CallsIn Fence.wide 6 Try.prog 14 #[.int .i64 root, .int .i64 (size : Int), .int .i64 (i : Int), .int .i64 leaf, .slice A ps.length c] w fun e W' => e = .returned (.bool (checkV root size i leaf ps)) ∧ Below w.heap.size w W' := by
  have hw : ∀ f, Fence.wide.fn f := fun _ => trivial
  have q1 : decide ((size : Int) < 1) = false := by simp only [decide_eq_false_iff_not]; omega
  have q2 : decide ((16 : Int) < (size : Int)) = false := by simp; omega
  have q3 : decide ((i : Int) < 0) = false := by simp only [decide_eq_false_iff_not]; omega
  have q4 : decide ((size : Int) ≤ (i : Int)) = false := by simp; omega
  have q4' : decide (size ≤ i) = false := by simp; omega
  refine callsIn_of_wp_marks Try.func14 rfl trivial ?_ rfl
  simp only [Try.ntmps14, List.size_toArray, List.length_cons, List.length_nil, Nat.reduceAdd, Nat.reduceSub, Array.replicate_succ, Array.replicate_zero, List.push_toArray, List.append_toArray, List.nil_append, List.cons_append]
  gi_wp2_with (gi_at_call 30; refine (callsIn_wide.2 (isdig_yes _ _ d0 d1)).mono ?_; rintro e w' ⟨rfl, rfl⟩)
  obtain ⟨W0, hW0⟩ : ∃ W, W = ((w.alloc (.cells #[.int .i64 (i : Int)] 3)).alloc (.cells #[.slice A ps.length c] 22)).alloc (.cells #[.bool false] 4) := ⟨_, rfl⟩
  have hB0 : Below w.heap.size w W0 := by rw [hW0]; exact (((Below.refl _ w).alloc (Nat.le_refl _) _).alloc (by simp) _).alloc (by simp; omega) _
  have hs0 : W0.heap.size = w.heap.size + 3 := by rw [hW0]; simp
  have bI : Boxed W0 w.heap.size 3 (.int .i64 (i : Int)) := by
    rw [hW0]; exact ((Boxed.new w 3 (.int .i64 (i : Int))).alloc _).alloc _
  have bP : Boxed W0 (w.heap.size + 1) 22 (.slice A ps.length c) := by
    have := (Boxed.new (w.alloc (.cells #[.int .i64 (i : Int)] 3)) 22 (.slice A ps.length c)).alloc (.cells #[.bool false] 4)
    rw [hW0]; simpa using this
  have bR : Boxed W0 (w.heap.size + 2) 4 (.bool false) := by
    have := Boxed.new ((w.alloc (.cells #[.int .i64 (i : Int)] 3)).alloc (.cells #[.slice A ps.length c] 22)) 4 (.bool false)
    rw [hW0]; simpa using this
  rw [← hW0]
  clear hW0
  gi_loop [12, 38] (fun _ v => ∃ k : Nat, k ≤ ps.length ∧ v = .int .i64 (k : Int)) (fun _ v => ps.length - (intOf v).toNat)
  case atStart => exact ⟨0, Nat.zero_le _, rfl⟩
  case round =>
    obtain ⟨k, hk, rfl⟩ := hrel
    by_cases hlt : k < ps.length
    · obtain ⟨b, off, rfl, hbl, hc⟩ := (hI.below hB0).at_ hlt
      obtain ⟨p0, p1⟩ := allIn_get hp hlt
      gi_wp2_with (gi_at_call 30; refine (callsIn_wide.2 (isdig_yes _ _ p0 p1)).mono ?_; rintro e w' ⟨rfl, rfl⟩)
      exact ⟨⟨k + 1, by omega, by go_num⟩, by simp [intOf]; omega⟩
    · obtain rfl : k = ps.length := by omega
      gi_wp2_with (gi_at_call 31; refine (callsIn_wide.2 (widths_any _ _)).mono ?_; rintro e w' ⟨rfl, rfl⟩)
      have bI1 := ((bI.alloc (.cells #[.int .i64 leaf] 3)).alloc (.cells #[.int .i64 0] 3)).alloc (.cells #[.int .i64 (size : Int)] 3)
      have bP1 := ((bP.alloc (.cells #[.int .i64 leaf] 3)).alloc (.cells #[.int .i64 0] 3)).alloc (.cells #[.int .i64 (size : Int)] 3)
      have bR1 := ((bR.alloc (.cells #[.int .i64 leaf] 3)).alloc (.cells #[.int .i64 0] 3)).alloc (.cells #[.int .i64 (size : Int)] 3)
      have bN1 := ((Boxed.new W0 3 (.int .i64 leaf)).alloc (.cells #[.int .i64 0] 3)).alloc (.cells #[.int .i64 (size : Int)] 3)
      have bU1 := (Boxed.new (W0.alloc (.cells #[.int .i64 leaf] 3)) 3 (.int .i64 0)).alloc (.cells #[.int .i64 (size : Int)] 3)
      have bS1 := Boxed.new ((W0.alloc (.cells #[.int .i64 leaf] 3)).alloc (.cells #[.int .i64 0] 3)) 3 (.int .i64 (size : Int))
      have hB1 : Below w.heap.size w (((W0.alloc (.cells #[.int .i64 leaf] 3)).alloc (.cells #[.int .i64 0] 3)).alloc (.cells #[.int .i64 (size : Int)] 3)) := ((hB0.alloc hB0.size _).alloc (by have := hB0.size; simp; omega) _).alloc (by have := hB0.size; simp; omega) _
      have hs1 : (((W0.alloc (.cells #[.int .i64 leaf] 3)).alloc (.cells #[.int .i64 0] 3)).alloc (.cells #[.int .i64 (size : Int)] 3)).heap.size = w.heap.size + 6 := by simp; omega
      simp only [World.size_alloc, hs0] at bN1 bU1 bS1
      obtain ⟨W1, hW1⟩ : ∃ W, W = ((W0.alloc (.cells #[.int .i64 leaf] 3)).alloc (.cells #[.int .i64 0] 3)).alloc (.cells #[.int .i64 (size : Int)] 3) := ⟨_, rfl⟩
      rw [← hW1] at bI1 bP1 bR1 bN1 bU1 bS1 hB1 hs1 ⊢
      clear hW1 bI bP bR hB0 hs0
      refine range_x (row := some (w.heap.size + 5)) (F := Fence.wide) rfl (by omega) (gf := 40) (lb := #[.pointer (some ⟨w.heap.size + 5, 0, none⟩)]) rfl trivial (enters_of Try.func40 (by kernel_rfl) rfl)
        (widths_seq 5 (by omega) (w.heap.size + 5) size h1 h16 W1 bS1 (by omega)) (fun r e => by injection e with e; omega)
        (fun h k => Eq.trans k h) (fun x W l o o' hl ho hc => World.putObj_heap_other (by omega)) (fun _ => rfl)
        (fun pre W => CkI w size i leaf A c ps pre.length W) (fun cd _ W => cd = .ret ∧ Boxed W (w.heap.size + 2) 4 (.bool false) ∧ Dag.leadN 4 size i leaf ps = none ∧ Below w.heap.size w W)
        ?hI ?hIx (fun s x Z X l o o' h hl ho hc => h) ?h0
        (fun x => { tmps := #[.int .i64 root, .int .i64 (size : Int), .int .i64 (i : Int), .int .i64 leaf, .slice A ps.length c, undef, undef, .pointer (some ⟨w.heap.size, 0, none⟩), undef, .pointer (some ⟨w.heap.size + 1, 0, none⟩), .pointer (some ⟨w.heap.size + 1 + 1, 0, none⟩), undef, u12, .pointer (some ⟨w.heap.size + 3, 0, none⟩), .pointer (some ⟨w.heap.size + 3 + 1, 0, none⟩), .int .i64 (x : Int), .int .i64 (size : Int), .bool false, .bool false, .int .i64 (size : Int), .bool false, .bool false, .bool false, .int .i64 (i : Int), .bool false, .bool false, .bool false, .int .i64 (i : Int), .int .i64 (size : Int), .bool false, .bool false, .bool false, .int .i64 leaf, .bool true, .bool false, .bool false, .slice A ps.length c, .int .i64 (ps.length : Int), .int .i64 (ps.length : Int), .bool false, u40, u41, u42, u43, u44, u45, .int .i64 leaf, .int .i64 (size : Int), .func (.func 40) #[] #[.pointer (some ⟨w.heap.size + 3 + 1 + 1, 0, none⟩)], .int .i64 (x : Int), undef, undef, undef, undef, undef, undef, undef, undef, undef, undef, undef, undef, undef, undef, undef, undef, undef, undef, undef, undef, undef, undef, undef, undef, undef, undef, undef, undef, undef, undef, undef, undef, undef, undef, undef, undef], defers := [] }) ?assign ?body ?done ?stop
      case hI =>
        rintro s X Y ⟨node, used, b0, b1, b2, b3, b4, hld, hb⟩ k
        exact ⟨node, used, k.cells b0 rfl (by simp), k.cells b1 rfl (by simp), k.cells b2 rfl (by simp), k.cells b3 rfl (by simp), k.cells b4 rfl (by simp), hld, k.below hb (Nat.le_refl _) (by omega) (fun r e => by injection e with e; omega)⟩
      case hIx =>
        rintro cd s X Y ⟨e, b2, hn, hb⟩ k
        exact ⟨e, k.cells b2 rfl (by simp), hn, k.below hb (Nat.le_refl _) (by omega) (fun r e => by injection e with e; omega)⟩
      case h0 => exact ⟨leaf, 0, by simpa using bI1, bP1, bR1, bN1, bU1, Lead.zero d0 d1, hB1⟩
      case assign =>
        intro l x W K hK
        simp only [encW]
        gi_wp2
        exact hK
      case body =>
        rintro l pre wd X W _ ⟨node, used, b0, b1, b2, b3, b4, hld, hb⟩ hsz _ ⟨rfl, hall⟩
        have hix := wid_idx hi pre.length
        have l1 := wid_pos h1 pre.length
        have l2 := wid_le h1 h16 pre.length
        have hdv : i / 2 ^ (pre ++ [wid size pre.length]).length = i / 2 ^ pre.length / 2 := by simp [Nat.pow_succ, Nat.div_div_eq_div_mul]
        have hu := hld.1
        obtain ⟨n0, n1⟩ := hld.2.1
        have hskip := fun hs => Lead.skip hld h16 hall hs
        have huse := fun hs hu => Lead.use hld h16 hall hix hs hu
        have hshort := fun hs hu => Lead.short hld h16 hall hix hs hu
        have HDV := Lib.hid hdv
        have HSK := Lib.hid hskip
        have HUS := Lib.hid huse
        have HSH := Lib.hid hshort
        clear hdv hskip huse hshort hld hall
        have hlen : (pre ++ [wid size pre.length]).length = pre.length + 1 := by simp
        have HLN := Lib.hid hlen
        clear hlen
        obtain ⟨iv, hiv⟩ : ∃ iv, iv = i / 2 ^ pre.length := ⟨_, rfl⟩
        obtain ⟨wd, hwd⟩ : ∃ wd, wd = wid size pre.length := ⟨_, rfl⟩
        obtain ⟨kk, hkk⟩ : ∃ kk, kk = (pre ++ [wid size pre.length]).length := ⟨_, rfl⟩
        rw [← hkk] at HDV HLN
        rw [← hiv] at hix b0 HDV HSK HUS HSH
        rw [← hwd] at hix l1 l2 HSK HUS HSH
        rw [← HLN.out] at HSK HUS
        have c0 := Boxed.cell b0
        have c0' := Boxed.frozen b0
        have c1 := Boxed.cell b1
        have c2 := Boxed.cell b2
        have c2' := Boxed.frozen b2
        have c3 := Boxed.cell b3
        have c3' := Boxed.frozen b3
        have c4 := Boxed.cell b4
        have c4' := Boxed.frozen b4
        have hx := xor_sib (i := iv) (by omega)
        have hgoal : ∀ W', CkI w size i leaf A c ps kk W' → CkI w size i leaf A c ps (pre ++ [wid size pre.length]).length W' := fun W' h => by rw [← hkk]; exact h
        simp only
        rw [← hwd] at hgoal ⊢
        have HG := Lib.hid hgoal
        clear hgoal hkk hwd hiv
        by_cases hsb : Dag.sib iv < wd
        · have t1 : decide (((Dag.sib iv : Nat) : Int) < (wd : Int)) = true := by simp; omega
          by_cases hfull : used = ps.length
          · have HN := Lib.hid (HSH.out hsb hfull)
            have t2 : ((used : Int) == (ps.length : Int)) = true := by simp; omega
            gi_wp2
            exact ⟨(KeepsOthers.setCell _ _ _).from _, rfl, b2.set _, HN.out, hb.setCell (p := ⟨w.heap.size + 2, 0, none⟩) (by simp) _⟩
          · have hlt : used < ps.length := by omega
            have t2 : ((used : Int) == (ps.length : Int)) = false := by simp; omega
            have HLD' := Lib.hid (HUS.out hsb hlt)
            obtain ⟨p0, p1⟩ := allIn_get hp hlt
            obtain ⟨b, off, rfl, hbl, hcp⟩ := (hI.below hb).at_ hlt
            have j1 : (used : Int) < (ps.length : Int) := by omega
            have j2 : (0 : Int) ≤ (used : Int) := by omega
            have Bz : w.heap.size + 5 ≠ w.heap.size ∧ w.heap.size + 5 ≠ w.heap.size + 3 ∧ w.heap.size + 5 ≠ w.heap.size + 4 := by omega
            by_cases hev : iv % 2 = 0
            · have t3 : ((iv : Int) % 2 == 0) = true := by simp; omega
              have HLD : Hid (Lead size i leaf ps kk (Dag.pair node (nth ps used)) (used + 1)) := by
                have := HLD'.out; rw [if_pos hev] at this; exact this
              clear HLD'
              gi_wp2
              refine region_round (F := Fence.wide) (by kernel_rfl) (by kernel_rfl) ?_
              refine wpAnyIn_ready (rs := [0, 1, 2]) (by kernel_rfl) (by simp) ?_
              refine AllReadyIn.cons rfl (fun K hK => ?_) (AllReadyIn.cons rfl (fun K hK => ?_) (AllReadyIn.cons rfl (fun K hK => ?_) AllReadyIn.nil))
              · skip
                go_simp
                refine hK _ _ ?_
                clear hK K
                refine wpAnyIn_ready (rs := [1, 2]) (by kernel_rfl) (by simp) ?_
                refine AllReadyIn.cons rfl (fun K hK => ?_) (AllReadyIn.cons rfl (fun K hK => ?_) AllReadyIn.nil)
                · skip
                  go_simp
                  refine hK _ _ ?_
                  clear hK K
                  refine wpAnyIn_ready (rs := [2]) (by kernel_rfl) (by simp) ?_
                  refine AllReadyIn.cons rfl (fun K hK => ?_) AllReadyIn.nil
                  go_simp
                  refine hK _ _ ?_
                  clear hK K
                  refine wpAnyIn_take (i := 3) (v := ?_) rfl rfl (by kernel_rfl) (by kernel_rfl) (by kernel_rfl) (fun _ _ _ h => h) ⟨Or.inl ⟨by rfl, ?_⟩, fun _ => rfl⟩ ?_
                  rotate_left
                  · intro w'; go_simp; try with_reducible rfl
                  refine wpAnyIn_ready (rs := [4]) (by kernel_rfl) (by simp) ?_
                  refine AllReadyIn.cons rfl (fun K hK => ?_) AllReadyIn.nil
                  go_simp
                  refine hK _ _ ?_
                  clear hK K
                  refine wpAnyIn_ready (rs := [5]) (by kernel_rfl) (by simp) ?_
                  refine AllReadyIn.cons rfl (fun K hK => ?_) AllReadyIn.nil
                  go_simp
                  refine ((CallsIn.inRound l (callsIn_wide.2 (pair_any node (nth ps used) _ n0 n1 p0 p1))).outOfRound).mono ?_
                  rintro e w' ⟨rfl, rfl⟩
                  simp only []
                  refine hK _ _ ?_
                  clear hK K
                  refine wpAnyIn_ready (rs := [6]) (by kernel_rfl) (by simp) ?_
                  refine AllReadyIn.cons rfl (fun K hK => ?_) AllReadyIn.nil
                  go_simp
                  refine hK _ _ ?_
                  clear hK K
                  refine wpAnyIn_done (by kernel_rfl) ?_ _
                  have f1 := b4.other (B' := w.heap.size + 3) (by omega) (.int .i64 (Dag.pair node (nth ps used)))
                  have f2 := b0.other (B' := w.heap.size + 3) (by omega) (.int .i64 (Dag.pair node (nth ps used)))
                  have f3 := b1.other (B' := w.heap.size + 3) (by omega) (.int .i64 (Dag.pair node (nth ps used)))
                  have f4 := b2.other (B' := w.heap.size + 3) (by omega) (.int .i64 (Dag.pair node (nth ps used)))
                  have f5 := b3.set (.int .i64 (Dag.pair node (nth ps used)))
                  have hk := keep5 W Bz (.int .i64 (Dag.pair node (nth ps used))) (.int .i64 ((used : Int) + 1)) (.int .i64 ((iv : Int) / 2)) hb trivial
                  obtain ⟨W6, hW6⟩ : ∃ W6, W6 = W.setCell ⟨w.heap.size + 3, 0, none⟩ (.int .i64 (Dag.pair node (nth ps used))) := ⟨_, rfl⟩
                  rw [← hW6] at f1 f2 f3 f4 f5 hk
                  have hW6' : (W.setCell ⟨w.heap.size + 3, 0, none⟩ (.int .i64 (Dag.pair node (nth ps used)))).drew = W6.drew := by rw [hW6]
                  try rw [hW6']
                  clear hW6 hW6' c0 c0' c1 c2 c3 c3' c4 c4'
                  have e1 := Boxed.cell f1
                  have e2 := Boxed.frozen f1
                  have g0 := f2.other (B' := w.heap.size + 4) (by omega) (.int .i64 ((used : Int) + 1))
                  have e3 := Boxed.cell g0
                  have e4 := Boxed.frozen g0
                  gi_wp2
                  refine ⟨hk.1.from _, hk.2.1, HG.out _ ⟨_, used + 1, ?_, ?_, ?_, ?_, ?_, HLD.out, hk.2.2⟩⟩
                  · rw [HDV.out]; exact g0.set _
                  · exact (f3.other (by omega) _).other (by omega) _
                  · exact (f4.other (by omega) _).other (by omega) _
                  · exact (f5.other (by omega) _).other (by omega) _
                  · exact (f1.set _).other (by omega) _
                · skip
                  go_simp
                  refine hK _ _ ?_
                  clear hK K
                  refine wpAnyIn_ready (rs := [1]) (by kernel_rfl) (by simp) ?_
                  refine AllReadyIn.cons rfl (fun K hK => ?_) AllReadyIn.nil
                  go_simp
                  refine hK _ _ ?_
                  clear hK K
                  refine wpAnyIn_take (i := 3) (v := ?_) rfl rfl (by kernel_rfl) (by kernel_rfl) (by kernel_rfl) (fun _ _ _ h => h) ⟨Or.inl ⟨by rfl, ?_⟩, fun _ => rfl⟩ ?_
                  rotate_left
                  · intro w'; go_simp; try with_reducible rfl
                  refine wpAnyIn_ready (rs := [4]) (by kernel_rfl) (by simp) ?_
                  refine AllReadyIn.cons rfl (fun K hK => ?_) AllReadyIn.nil
                  go_simp
                  refine hK _ _ ?_
                  clear hK K
                  refine wpAnyIn_ready (rs := [5]) (by kernel_rfl) (by simp) ?_
                  refine AllReadyIn.cons rfl (fun K hK => ?_) AllReadyIn.nil
                  go_simp
                  refine ((CallsIn.inRound l (callsIn_wide.2 (pair_any node (nth ps used) _ n0 n1 p0 p1))).outOfRound).mono ?_
                  rintro e w' ⟨rfl, rfl⟩
                  simp only []
                  refine hK _ _ ?_
                  clear hK K
                  refine wpAnyIn_ready (rs := [6]) (by kernel_rfl) (by simp) ?_
                  refine AllReadyIn.cons rfl (fun K hK => ?_) AllReadyIn.nil
                  go_simp
                  refine hK _ _ ?_
                  clear hK K
                  refine wpAnyIn_done (by kernel_rfl) ?_ _
                  have f1 := b4.other (B' := w.heap.size + 3) (by omega) (.int .i64 (Dag.pair node (nth ps used)))
                  have f2 := b0.other (B' := w.heap.size + 3) (by omega) (.int .i64 (Dag.pair node (nth ps used)))
                  have f3 := b1.other (B' := w.heap.size + 3) (by omega) (.int .i64 (Dag.pair node (nth ps used)))
                  have f4 := b2.other (B' := w.heap.size + 3) (by omega) (.int .i64 (Dag.pair node (nth ps used)))
                  have f5 := b3.set (.int .i64 (Dag.pair node (nth ps used)))
                  have hk := keep5 W Bz (.int .i64 (Dag.pair node (nth ps used))) (.int .i64 ((used : Int) + 1)) (.int .i64 ((iv : Int) / 2)) hb trivial
                  obtain ⟨W6, hW6⟩ : ∃ W6, W6 = W.setCell ⟨w.heap.size + 3, 0, none⟩ (.int .i64 (Dag.pair node (nth ps used))) := ⟨_, rfl⟩
                  rw [← hW6] at f1 f2 f3 f4 f5 hk
                  have hW6' : (W.setCell ⟨w.heap.size + 3, 0, none⟩ (.int .i64 (Dag.pair node (nth ps used)))).drew = W6.drew := by rw [hW6]
                  try rw [hW6']
                  clear hW6 hW6' c0 c0' c1 c2 c3 c3' c4 c4'
                  have e1 := Boxed.cell f1
                  have e2 := Boxed.frozen f1
                  have g0 := f2.other (B' := w.heap.size + 4) (by omega) (.int .i64 ((used : Int) + 1))
                  have e3 := Boxed.cell g0
                  have e4 := Boxed.frozen g0
                  gi_wp2
                  refine ⟨hk.1.from _, hk.2.1, HG.out _ ⟨_, used + 1, ?_, ?_, ?_, ?_, ?_, HLD.out, hk.2.2⟩⟩
                  · rw [HDV.out]; exact g0.set _
                  · exact (f3.other (by omega) _).other (by omega) _
                  · exact (f4.other (by omega) _).other (by omega) _
                  · exact (f5.other (by omega) _).other (by omega) _
                  · exact (f1.set _).other (by omega) _
              · skip
                go_simp
                refine hK _ _ ?_
                clear hK K
                refine wpAnyIn_ready (rs := [0, 2]) (by kernel_rfl) (by simp) ?_
                refine AllReadyIn.cons rfl (fun K hK => ?_) (AllReadyIn.cons rfl (fun K hK => ?_) AllReadyIn.nil)
                · skip
                  go_simp
                  refine hK _ _ ?_
                  clear hK K
                  refine wpAnyIn_ready (rs := [2]) (by kernel_rfl) (by simp) ?_
                  refine AllReadyIn.cons rfl (fun K hK => ?_) AllReadyIn.nil
                  go_simp
                  refine hK _ _ ?_
                  clear hK K
                  refine wpAnyIn_take (i := 3) (v := ?_) rfl rfl (by kernel_rfl) (by kernel_rfl) (by kernel_rfl) (fun _ _ _ h => h) ⟨Or.inl ⟨by rfl, ?_⟩, fun _ => rfl⟩ ?_
                  rotate_left
                  · intro w'; go_simp; try with_reducible rfl
                  refine wpAnyIn_ready (rs := [4]) (by kernel_rfl) (by simp) ?_
                  refine AllReadyIn.cons rfl (fun K hK => ?_) AllReadyIn.nil
                  go_simp
                  refine hK _ _ ?_
                  clear hK K
                  refine wpAnyIn_ready (rs := [5]) (by kernel_rfl) (by simp) ?_
                  refine AllReadyIn.cons rfl (fun K hK => ?_) AllReadyIn.nil
                  go_simp
                  refine ((CallsIn.inRound l (callsIn_wide.2 (pair_any node (nth ps used) _ n0 n1 p0 p1))).outOfRound).mono ?_
                  rintro e w' ⟨rfl, rfl⟩
                  simp only []
                  refine hK _ _ ?_
                  clear hK K
                  refine wpAnyIn_ready (rs := [6]) (by kernel_rfl) (by simp) ?_
                  refine AllReadyIn.cons rfl (fun K hK => ?_) AllReadyIn.nil
                  go_simp
                  refine hK _ _ ?_
                  clear hK K
                  refine wpAnyIn_done (by kernel_rfl) ?_ _
                  have f1 := b4.other (B' := w.heap.size + 3) (by omega) (.int .i64 (Dag.pair node (nth ps used)))
                  have f2 := b0.other (B' := w.heap.size + 3) (by omega) (.int .i64 (Dag.pair node (nth ps used)))
                  have f3 := b1.other (B' := w.heap.size + 3) (by omega) (.int .i64 (Dag.pair node (nth ps used)))
                  have f4 := b2.other (B' := w.heap.size + 3) (by omega) (.int .i64 (Dag.pair node (nth ps used)))
                  have f5 := b3.set (.int .i64 (Dag.pair node (nth ps used)))
                  have hk := keep5 W Bz (.int .i64 (Dag.pair node (nth ps used))) (.int .i64 ((used : Int) + 1)) (.int .i64 ((iv : Int) / 2)) hb trivial
                  obtain ⟨W6, hW6⟩ : ∃ W6, W6 = W.setCell ⟨w.heap.size + 3, 0, none⟩ (.int .i64 (Dag.pair node (nth ps used))) := ⟨_, rfl⟩
                  rw [← hW6] at f1 f2 f3 f4 f5 hk
                  have hW6' : (W.setCell ⟨w.heap.size + 3, 0, none⟩ (.int .i64 (Dag.pair node (nth ps used)))).drew = W6.drew := by rw [hW6]
                  try rw [hW6']
                  clear hW6 hW6' c0 c0' c1 c2 c3 c3' c4 c4'
                  have e1 := Boxed.cell f1
                  have e2 := Boxed.frozen f1
                  have g0 := f2.other (B' := w.heap.size + 4) (by omega) (.int .i64 ((used : Int) + 1))
                  have e3 := Boxed.cell g0
                  have e4 := Boxed.frozen g0
                  gi_wp2
                  refine ⟨hk.1.from _, hk.2.1, HG.out _ ⟨_, used + 1, ?_, ?_, ?_, ?_, ?_, HLD.out, hk.2.2⟩⟩
                  · rw [HDV.out]; exact g0.set _
                  · exact (f3.other (by omega) _).other (by omega) _
                  · exact (f4.other (by omega) _).other (by omega) _
                  · exact (f5.other (by omega) _).other (by omega) _
                  · exact (f1.set _).other (by omega) _
                · skip
                  go_simp
                  refine hK _ _ ?_
                  clear hK K
                  refine wpAnyIn_take (i := 3) (v := ?_) rfl rfl (by kernel_rfl) (by kernel_rfl) (by kernel_rfl) (fun _ _ _ h => h) ⟨Or.inl ⟨by rfl, ?_⟩, fun _ => rfl⟩ ?_
                  rotate_left
                  · intro w'; go_simp; try with_reducible rfl
                  refine wpAnyIn_ready (rs := [0, 4]) (by kernel_rfl) (by simp) ?_
                  refine AllReadyIn.cons rfl (fun K hK => ?_) (AllReadyIn.cons rfl (fun K hK => ?_) AllReadyIn.nil)
                  · skip
                    go_simp
                    refine hK _ _ ?_
                    clear hK K
                    refine wpAnyIn_ready (rs := [4]) (by kernel_rfl) (by simp) ?_
                    refine AllReadyIn.cons rfl (fun K hK => ?_) AllReadyIn.nil
                    go_simp
                    refine hK _ _ ?_
                    clear hK K
                    refine wpAnyIn_ready (rs := [5]) (by kernel_rfl) (by simp) ?_
                    refine AllReadyIn.cons rfl (fun K hK => ?_) AllReadyIn.nil
                    go_simp
                    refine ((CallsIn.inRound l (callsIn_wide.2 (pair_any node (nth ps used) _ n0 n1 p0 p1))).outOfRound).mono ?_
                    rintro e w' ⟨rfl, rfl⟩
                    simp only []
                    refine hK _ _ ?_
                    clear hK K
                    refine wpAnyIn_ready (rs := [6]) (by kernel_rfl) (by simp) ?_
                    refine AllReadyIn.cons rfl (fun K hK => ?_) AllReadyIn.nil
                    go_simp
                    refine hK _ _ ?_
                    clear hK K
                    refine wpAnyIn_done (by kernel_rfl) ?_ _
                    have f1 := b4.other (B' := w.heap.size + 3) (by omega) (.int .i64 (Dag.pair node (nth ps used)))
                    have f2 := b0.other (B' := w.heap.size + 3) (by omega) (.int .i64 (Dag.pair node (nth ps used)))
                    have f3 := b1.other (B' := w.heap.size + 3) (by omega) (.int .i64 (Dag.pair node (nth ps used)))
                    have f4 := b2.other (B' := w.heap.size + 3) (by omega) (.int .i64 (Dag.pair node (nth ps used)))
                    have f5 := b3.set (.int .i64 (Dag.pair node (nth ps used)))
                    have hk := keep5 W Bz (.int .i64 (Dag.pair node (nth ps used))) (.int .i64 ((used : Int) + 1)) (.int .i64 ((iv : Int) / 2)) hb trivial
                    obtain ⟨W6, hW6⟩ : ∃ W6, W6 = W.setCell ⟨w.heap.size + 3, 0, none⟩ (.int .i64 (Dag.pair node (nth ps used))) := ⟨_, rfl⟩
                    rw [← hW6] at f1 f2 f3 f4 f5 hk
                    have hW6' : (W.setCell ⟨w.heap.size + 3, 0, none⟩ (.int .i64 (Dag.pair node (nth ps used)))).drew = W6.drew := by rw [hW6]
                    try rw [hW6']
                    clear hW6 hW6' c0 c0' c1 c2 c3 c3' c4 c4'
                    have e1 := Boxed.cell f1
                    have e2 := Boxed.frozen f1
                    have g0 := f2.other (B' := w.heap.size + 4) (by omega) (.int .i64 ((used : Int) + 1))
                    have e3 := Boxed.cell g0
                    have e4 := Boxed.frozen g0
                    gi_wp2
                    refine ⟨hk.1.from _, hk.2.1, HG.out _ ⟨_, used + 1, ?_, ?_, ?_, ?_, ?_, HLD.out, hk.2.2⟩⟩
                    · rw [HDV.out]; exact g0.set _
                    · exact (f3.other (by omega) _).other (by omega) _
                    · exact (f4.other (by omega) _).other (by omega) _
                    · exact (f5.other (by omega) _).other (by omega) _
                    · exact (f1.set _).other (by omega) _
                  · skip
                    go_simp
                    refine hK _ _ ?_
                    clear hK K
                    refine wpAnyIn_ready (rs := [0]) (by kernel_rfl) (by simp) ?_
                    refine AllReadyIn.cons rfl (fun K hK => ?_) AllReadyIn.nil
                    go_simp
                    refine hK _ _ ?_
                    clear hK K
                    refine wpAnyIn_ready (rs := [5]) (by kernel_rfl) (by simp) ?_
                    refine AllReadyIn.cons rfl (fun K hK => ?_) AllReadyIn.nil
                    go_simp
                    refine ((CallsIn.inRound l (callsIn_wide.2 (pair_any node (nth ps used) _ n0 n1 p0 p1))).outOfRound).mono ?_
                    rintro e w' ⟨rfl, rfl⟩
                    simp only []
                    refine hK _ _ ?_
                    clear hK K
                    refine wpAnyIn_ready (rs := [6]) (by kernel_rfl) (by simp) ?_
                    refine AllReadyIn.cons rfl (fun K hK => ?_) AllReadyIn.nil
                    go_simp
                    refine hK _ _ ?_
                    clear hK K
                    refine wpAnyIn_done (by kernel_rfl) ?_ _
                    have f1 := b4.other (B' := w.heap.size + 3) (by omega) (.int .i64 (Dag.pair node (nth ps used)))
                    have f2 := b0.other (B' := w.heap.size + 3) (by omega) (.int .i64 (Dag.pair node (nth ps used)))
                    have f3 := b1.other (B' := w.heap.size + 3) (by omega) (.int .i64 (Dag.pair node (nth ps used)))
                    have f4 := b2.other (B' := w.heap.size + 3) (by omega) (.int .i64 (Dag.pair node (nth ps used)))
                    have f5 := b3.set (.int .i64 (Dag.pair node (nth ps used)))
                    have hk := keep5 W Bz (.int .i64 (Dag.pair node (nth ps used))) (.int .i64 ((used : Int) + 1)) (.int .i64 ((iv : Int) / 2)) hb trivial
                    obtain ⟨W6, hW6⟩ : ∃ W6, W6 = W.setCell ⟨w.heap.size + 3, 0, none⟩ (.int .i64 (Dag.pair node (nth ps used))) := ⟨_, rfl⟩
                    rw [← hW6] at f1 f2 f3 f4 f5 hk
                    have hW6' : (W.setCell ⟨w.heap.size + 3, 0, none⟩ (.int .i64 (Dag.pair node (nth ps used)))).drew = W6.drew := by rw [hW6]
                    try rw [hW6']
                    clear hW6 hW6' c0 c0' c1 c2 c3 c3' c4 c4'
                    have e1 := Boxed.cell f1
                    have e2 := Boxed.frozen f1
                    have g0 := f2.other (B' := w.heap.size + 4) (by omega) (.int .i64 ((used : Int) + 1))
                    have e3 := Boxed.cell g0
                    have e4 := Boxed.frozen g0
                    gi_wp2
                    refine ⟨hk.1.from _, hk.2.1, HG.out _ ⟨_, used + 1, ?_, ?_, ?_, ?_, ?_, HLD.out, hk.2.2⟩⟩
                    · rw [HDV.out]; exact g0.set _
                    · exact (f3.other (by omega) _).other (by omega) _
                    · exact (f4.other (by omega) _).other (by omega) _
                    · exact (f5.other (by omega) _).other (by omega) _
                    · exact (f1.set _).other (by omega) _
              · skip
                go_simp
                refine hK _ _ ?_
                clear hK K
                refine wpAnyIn_ready (rs := [0, 1]) (by kernel_rfl) (by simp) ?_
                refine AllReadyIn.cons rfl (fun K hK => ?_) (AllReadyIn.cons rfl (fun K hK => ?_) AllReadyIn.nil)
                · skip
                  go_simp
                  refine hK _ _ ?_
                  clear hK K
                  refine wpAnyIn_ready (rs := [1]) (by kernel_rfl) (by simp) ?_
                  refine AllReadyIn.cons rfl (fun K hK => ?_) AllReadyIn.nil
                  go_simp
                  refine hK _ _ ?_
                  clear hK K
                  refine wpAnyIn_take (i := 3) (v := ?_) rfl rfl (by kernel_rfl) (by kernel_rfl) (by kernel_rfl) (fun _ _ _ h => h) ⟨Or.inl ⟨by rfl, ?_⟩, fun _ => rfl⟩ ?_
                  rotate_left
                  · intro w'; go_simp; try with_reducible rfl
                  refine wpAnyIn_ready (rs := [4]) (by kernel_rfl) (by simp) ?_
                  refine AllReadyIn.cons rfl (fun K hK => ?_) AllReadyIn.nil
                  go_simp
                  refine hK _ _ ?_
                  clear hK K
                  refine wpAnyIn_ready (rs := [5]) (by kernel_rfl) (by simp) ?_
                  refine AllReadyIn.cons rfl (fun K hK => ?_) AllReadyIn.nil
                  go_simp
                  refine ((CallsIn.inRound l (callsIn_wide.2 (pair_any node (nth ps used) _ n0 n1 p0 p1))).outOfRound).mono ?_
                  rintro e w' ⟨rfl, rfl⟩
                  simp only []
                  refine hK _ _ ?_
                  clear hK K
                  refine wpAnyIn_ready (rs := [6]) (by kernel_rfl) (by simp) ?_
                  refine AllReadyIn.cons rfl (fun K hK => ?_) AllReadyIn.nil
                  go_simp
                  refine hK _ _ ?_
                  clear hK K
                  refine wpAnyIn_done (by kernel_rfl) ?_ _
                  have f1 := b4.other (B' := w.heap.size + 3) (by omega) (.int .i64 (Dag.pair node (nth ps used)))
                  have f2 := b0.other (B' := w.heap.size + 3) (by omega) (.int .i64 (Dag.pair node (nth ps used)))
                  have f3 := b1.other (B' := w.heap.size + 3) (by omega) (.int .i64 (Dag.pair node (nth ps used)))
                  have f4 := b2.other (B' := w.heap.size + 3) (by omega) (.int .i64 (Dag.pair node (nth ps used)))
                  have f5 := b3.set (.int .i64 (Dag.pair node (nth ps used)))
                  have hk := keep5 W Bz (.int .i64 (Dag.pair node (nth ps used))) (.int .i64 ((used : Int) + 1)) (.int .i64 ((iv : Int) / 2)) hb trivial
                  obtain ⟨W6, hW6⟩ : ∃ W6, W6 = W.setCell ⟨w.heap.size + 3, 0, none⟩ (.int .i64 (Dag.pair node (nth ps used))) := ⟨_, rfl⟩
                  rw [← hW6] at f1 f2 f3 f4 f5 hk
                  have hW6' : (W.setCell ⟨w.heap.size + 3, 0, none⟩ (.int .i64 (Dag.pair node (nth ps used)))).drew = W6.drew := by rw [hW6]
                  try rw [hW6']
                  clear hW6 hW6' c0 c0' c1 c2 c3 c3' c4 c4'
                  have e1 := Boxed.cell f1
                  have e2 := Boxed.frozen f1
                  have g0 := f2.other (B' := w.heap.size + 4) (by omega) (.int .i64 ((used : Int) + 1))
                  have e3 := Boxed.cell g0
                  have e4 := Boxed.frozen g0
                  gi_wp2
                  refine ⟨hk.1.from _, hk.2.1, HG.out _ ⟨_, used + 1, ?_, ?_, ?_, ?_, ?_, HLD.out, hk.2.2⟩⟩
                  · rw [HDV.out]; exact g0.set _
                  · exact (f3.other (by omega) _).other (by omega) _
                  · exact (f4.other (by omega) _).other (by omega) _
                  · exact (f5.other (by omega) _).other (by omega) _
                  · exact (f1.set _).other (by omega) _
                · skip
                  go_simp
                  refine hK _ _ ?_
                  clear hK K
                  refine wpAnyIn_take (i := 3) (v := ?_) rfl rfl (by kernel_rfl) (by kernel_rfl) (by kernel_rfl) (fun _ _ _ h => h) ⟨Or.inl ⟨by rfl, ?_⟩, fun _ => rfl⟩ ?_
                  rotate_left
                  · intro w'; go_simp; try with_reducible rfl
                  refine wpAnyIn_ready (rs := [0, 4]) (by kernel_rfl) (by simp) ?_
                  refine AllReadyIn.cons rfl (fun K hK => ?_) (AllReadyIn.cons rfl (fun K hK => ?_) AllReadyIn.nil)
                  · skip
                    go_simp
                    refine hK _ _ ?_
                    clear hK K
                    refine wpAnyIn_ready (rs := [4]) (by kernel_rfl) (by simp) ?_
                    refine AllReadyIn.cons rfl (fun K hK => ?_) AllReadyIn.nil
                    go_simp
                    refine hK _ _ ?_
                    clear hK K
                    refine wpAnyIn_ready (rs := [5]) (by kernel_rfl) (by simp) ?_
                    refine AllReadyIn.cons rfl (fun K hK => ?_) AllReadyIn.nil
                    go_simp
                    refine ((CallsIn.inRound l (callsIn_wide.2 (pair_any node (nth ps used) _ n0 n1 p0 p1))).outOfRound).mono ?_
                    rintro e w' ⟨rfl, rfl⟩
                    simp only []
                    refine hK _ _ ?_
                    clear hK K
                    refine wpAnyIn_ready (rs := [6]) (by kernel_rfl) (by simp) ?_
                    refine AllReadyIn.cons rfl (fun K hK => ?_) AllReadyIn.nil
                    go_simp
                    refine hK _ _ ?_
                    clear hK K
                    refine wpAnyIn_done (by kernel_rfl) ?_ _
                    have f1 := b4.other (B' := w.heap.size + 3) (by omega) (.int .i64 (Dag.pair node (nth ps used)))
                    have f2 := b0.other (B' := w.heap.size + 3) (by omega) (.int .i64 (Dag.pair node (nth ps used)))
                    have f3 := b1.other (B' := w.heap.size + 3) (by omega) (.int .i64 (Dag.pair node (nth ps used)))
                    have f4 := b2.other (B' := w.heap.size + 3) (by omega) (.int .i64 (Dag.pair node (nth ps used)))
                    have f5 := b3.set (.int .i64 (Dag.pair node (nth ps used)))
                    have hk := keep5 W Bz (.int .i64 (Dag.pair node (nth ps used))) (.int .i64 ((used : Int) + 1)) (.int .i64 ((iv : Int) / 2)) hb trivial
                    obtain ⟨W6, hW6⟩ : ∃ W6, W6 = W.setCell ⟨w.heap.size + 3, 0, none⟩ (.int .i64 (Dag.pair node (nth ps used))) := ⟨_, rfl⟩
                    rw [← hW6] at f1 f2 f3 f4 f5 hk
                    have hW6' : (W.setCell ⟨w.heap.size + 3, 0, none⟩ (.int .i64 (Dag.pair node (nth ps used)))).drew = W6.drew := by rw [hW6]
                    try rw [hW6']
                    clear hW6 hW6' c0 c0' c1 c2 c3 c3' c4 c4'
                    have e1 := Boxed.cell f1
                    have e2 := Boxed.frozen f1
                    have g0 := f2.other (B' := w.heap.size + 4) (by omega) (.int .i64 ((used : Int) + 1))
                    have e3 := Boxed.cell g0
                    have e4 := Boxed.frozen g0
                    gi_wp2
                    refine ⟨hk.1.from _, hk.2.1, HG.out _ ⟨_, used + 1, ?_, ?_, ?_, ?_, ?_, HLD.out, hk.2.2⟩⟩
                    · rw [HDV.out]; exact g0.set _
                    · exact (f3.other (by omega) _).other (by omega) _
                    · exact (f4.other (by omega) _).other (by omega) _
                    · exact (f5.other (by omega) _).other (by omega) _
                    · exact (f1.set _).other (by omega) _
                  · skip
                    go_simp
                    refine hK _ _ ?_
                    clear hK K
                    refine wpAnyIn_ready (rs := [0]) (by kernel_rfl) (by simp) ?_
                    refine AllReadyIn.cons rfl (fun K hK => ?_) AllReadyIn.nil
                    go_simp
                    refine hK _ _ ?_
                    clear hK K
                    refine wpAnyIn_ready (rs := [5]) (by kernel_rfl) (by simp) ?_
                    refine AllReadyIn.cons rfl (fun K hK => ?_) AllReadyIn.nil
                    go_simp
                    refine ((CallsIn.inRound l (callsIn_wide.2 (pair_any node (nth ps used) _ n0 n1 p0 p1))).outOfRound).mono ?_
                    rintro e w' ⟨rfl, rfl⟩
                    simp only []
                    refine hK _ _ ?_
                    clear hK K
                    refine wpAnyIn_ready (rs := [6]) (by kernel_rfl) (by simp) ?_
                    refine AllReadyIn.cons rfl (fun K hK => ?_) AllReadyIn.nil
                    go_simp
                    refine hK _ _ ?_
                    clear hK K
                    refine wpAnyIn_done (by kernel_rfl) ?_ _
                    have f1 := b4.other (B' := w.heap.size + 3) (by omega) (.int .i64 (Dag.pair node (nth ps used)))
                    have f2 := b0.other (B' := w.heap.size + 3) (by omega) (.int .i64 (Dag.pair node (nth ps used)))
                    have f3 := b1.other (B' := w.heap.size + 3) (by omega) (.int .i64 (Dag.pair node (nth ps used)))
                    have f4 := b2.other (B' := w.heap.size + 3) (by omega) (.int .i64 (Dag.pair node (nth ps used)))
                    have f5 := b3.set (.int .i64 (Dag.pair node (nth ps used)))
                    have hk := keep5 W Bz (.int .i64 (Dag.pair node (nth ps used))) (.int .i64 ((used : Int) + 1)) (.int .i64 ((iv : Int) / 2)) hb trivial
                    obtain ⟨W6, hW6⟩ : ∃ W6, W6 = W.setCell ⟨w.heap.size + 3, 0, none⟩ (.int .i64 (Dag.pair node (nth ps used))) := ⟨_, rfl⟩
                    rw [← hW6] at f1 f2 f3 f4 f5 hk
                    have hW6' : (W.setCell ⟨w.heap.size + 3, 0, none⟩ (.int .i64 (Dag.pair node (nth ps used)))).drew = W6.drew := by rw [hW6]
                    try rw [hW6']
                    clear hW6 hW6' c0 c0' c1 c2 c3 c3' c4 c4'
                    have e1 := Boxed.cell f1
                    have e2 := Boxed.frozen f1
                    have g0 := f2.other (B' := w.heap.size + 4) (by omega) (.int .i64 ((used : Int) + 1))
                    have e3 := Boxed.cell g0
                    have e4 := Boxed.frozen g0
                    gi_wp2
                    refine ⟨hk.1.from _, hk.2.1, HG.out _ ⟨_, used + 1, ?_, ?_, ?_, ?_, ?_, HLD.out, hk.2.2⟩⟩
                    · rw [HDV.out]; exact g0.set _
                    · exact (f3.other (by omega) _).other (by omega) _
                    · exact (f4.other (by omega) _).other (by omega) _
                    · exact (f5.other (by omega) _).other (by omega) _
                    · exact (f1.set _).other (by omega) _
            · have t3 : ((iv : Int) % 2 == 0) = false := by simp; omega
              have HLD : Hid (Lead size i leaf ps kk (Dag.pair (nth ps used) node) (used + 1)) := by
                have := HLD'.out; rw [if_neg hev] at this; exact this
              clear HLD'
              gi_wp2
              refine region_round (F := Fence.wide) (by kernel_rfl) (by kernel_rfl) ?_
              refine wpAnyIn_ready (rs := [0, 1, 4]) (by kernel_rfl) (by simp) ?_
              refine AllReadyIn.cons rfl (fun K hK => ?_) (AllReadyIn.cons rfl (fun K hK => ?_) (AllReadyIn.cons rfl (fun K hK => ?_) AllReadyIn.nil))
              · skip
                go_simp
                refine hK _ _ ?_
                clear hK K
                refine wpAnyIn_ready (rs := [1, 4]) (by kernel_rfl) (by simp) ?_
                refine AllReadyIn.cons rfl (fun K hK => ?_) (AllReadyIn.cons rfl (fun K hK => ?_) AllReadyIn.nil)
                · skip
                  go_simp
                  refine hK _ _ ?_
                  clear hK K
                  refine wpAnyIn_take (i := 2) (v := ?_) rfl rfl (by kernel_rfl) (by kernel_rfl) (by kernel_rfl) (fun _ _ _ h => h) ⟨Or.inl ⟨by rfl, ?_⟩, fun _ => rfl⟩ ?_
                  rotate_left
                  · intro w'; go_simp; try with_reducible rfl
                  refine wpAnyIn_ready (rs := [3, 4]) (by kernel_rfl) (by simp) ?_
                  refine AllReadyIn.cons rfl (fun K hK => ?_) (AllReadyIn.cons rfl (fun K hK => ?_) AllReadyIn.nil)
                  · skip
                    go_simp
                    refine hK _ _ ?_
                    clear hK K
                    refine wpAnyIn_ready (rs := [4]) (by kernel_rfl) (by simp) ?_
                    refine AllReadyIn.cons rfl (fun K hK => ?_) AllReadyIn.nil
                    go_simp
                    refine hK _ _ ?_
                    clear hK K
                    refine wpAnyIn_ready (rs := [5]) (by kernel_rfl) (by simp) ?_
                    refine AllReadyIn.cons rfl (fun K hK => ?_) AllReadyIn.nil
                    go_simp
                    refine ((CallsIn.inRound l (callsIn_wide.2 (pair_any (nth ps used) node _ p0 p1 n0 n1))).outOfRound).mono ?_
                    rintro e w' ⟨rfl, rfl⟩
                    simp only []
                    refine hK _ _ ?_
                    clear hK K
                    refine wpAnyIn_ready (rs := [6]) (by kernel_rfl) (by simp) ?_
                    refine AllReadyIn.cons rfl (fun K hK => ?_) AllReadyIn.nil
                    go_simp
                    refine hK _ _ ?_
                    clear hK K
                    refine wpAnyIn_done (by kernel_rfl) ?_ _
                    have f1 := b4.other (B' := w.heap.size + 3) (by omega) (.int .i64 (Dag.pair (nth ps used) node))
                    have f2 := b0.other (B' := w.heap.size + 3) (by omega) (.int .i64 (Dag.pair (nth ps used) node))
                    have f3 := b1.other (B' := w.heap.size + 3) (by omega) (.int .i64 (Dag.pair (nth ps used) node))
                    have f4 := b2.other (B' := w.heap.size + 3) (by omega) (.int .i64 (Dag.pair (nth ps used) node))
                    have f5 := b3.set (.int .i64 (Dag.pair (nth ps used) node))
                    have hk := keep5 W Bz (.int .i64 (Dag.pair (nth ps used) node)) (.int .i64 ((used : Int) + 1)) (.int .i64 ((iv : Int) / 2)) hb trivial
                    obtain ⟨W6, hW6⟩ : ∃ W6, W6 = W.setCell ⟨w.heap.size + 3, 0, none⟩ (.int .i64 (Dag.pair (nth ps used) node)) := ⟨_, rfl⟩
                    rw [← hW6] at f1 f2 f3 f4 f5 hk
                    have hW6' : (W.setCell ⟨w.heap.size + 3, 0, none⟩ (.int .i64 (Dag.pair (nth ps used) node))).drew = W6.drew := by rw [hW6]
                    try rw [hW6']
                    clear hW6 hW6' c0 c0' c1 c2 c3 c3' c4 c4'
                    have e1 := Boxed.cell f1
                    have e2 := Boxed.frozen f1
                    have g0 := f2.other (B' := w.heap.size + 4) (by omega) (.int .i64 ((used : Int) + 1))
                    have e3 := Boxed.cell g0
                    have e4 := Boxed.frozen g0
                    gi_wp2
                    refine ⟨hk.1.from _, hk.2.1, HG.out _ ⟨_, used + 1, ?_, ?_, ?_, ?_, ?_, HLD.out, hk.2.2⟩⟩
                    · rw [HDV.out]; exact g0.set _
                    · exact (f3.other (by omega) _).other (by omega) _
                    · exact (f4.other (by omega) _).other (by omega) _
                    · exact (f5.other (by omega) _).other (by omega) _
                    · exact (f1.set _).other (by omega) _
                  · skip
                    go_simp
                    refine hK _ _ ?_
                    clear hK K
                    refine wpAnyIn_ready (rs := [3]) (by kernel_rfl) (by simp) ?_
                    refine AllReadyIn.cons rfl (fun K hK => ?_) AllReadyIn.nil
                    go_simp
                    refine hK _ _ ?_
                    clear hK K
                    refine wpAnyIn_ready (rs := [5]) (by kernel_rfl) (by simp) ?_
                    refine AllReadyIn.cons rfl (fun K hK => ?_) AllReadyIn.nil
                    go_simp
                    refine ((CallsIn.inRound l (callsIn_wide.2 (pair_any (nth ps used) node _ p0 p1 n0 n1))).outOfRound).mono ?_
                    rintro e w' ⟨rfl, rfl⟩
                    simp only []
                    refine hK _ _ ?_
                    clear hK K
                    refine wpAnyIn_ready (rs := [6]) (by kernel_rfl) (by simp) ?_
                    refine AllReadyIn.cons rfl (fun K hK => ?_) AllReadyIn.nil
                    go_simp
                    refine hK _ _ ?_
                    clear hK K
                    refine wpAnyIn_done (by kernel_rfl) ?_ _
                    have f1 := b4.other (B' := w.heap.size + 3) (by omega) (.int .i64 (Dag.pair (nth ps used) node))
                    have f2 := b0.other (B' := w.heap.size + 3) (by omega) (.int .i64 (Dag.pair (nth ps used) node))
                    have f3 := b1.other (B' := w.heap.size + 3) (by omega) (.int .i64 (Dag.pair (nth ps used) node))
                    have f4 := b2.other (B' := w.heap.size + 3) (by omega) (.int .i64 (Dag.pair (nth ps used) node))
                    have f5 := b3.set (.int .i64 (Dag.pair (nth ps used) node))
                    have hk := keep5 W Bz (.int .i64 (Dag.pair (nth ps used) node)) (.int .i64 ((used : Int) + 1)) (.int .i64 ((iv : Int) / 2)) hb trivial
                    obtain ⟨W6, hW6⟩ : ∃ W6, W6 = W.setCell ⟨w.heap.size + 3, 0, none⟩ (.int .i64 (Dag.pair (nth ps used) node)) := ⟨_, rfl⟩
                    rw [← hW6] at f1 f2 f3 f4 f5 hk
                    have hW6' : (W.setCell ⟨w.heap.size + 3, 0, none⟩ (.int .i64 (Dag.pair (nth ps used) node))).drew = W6.drew := by rw [hW6]
                    try rw [hW6']
                    clear hW6 hW6' c0 c0' c1 c2 c3 c3' c4 c4'
                    have e1 := Boxed.cell f1
                    have e2 := Boxed.frozen f1
                    have g0 := f2.other (B' := w.heap.size + 4) (by omega) (.int .i64 ((used : Int) + 1))
                    have e3 := Boxed.cell g0
                    have e4 := Boxed.frozen g0
                    gi_wp2
                    refine ⟨hk.1.from _, hk.2.1, HG.out _ ⟨_, used + 1, ?_, ?_, ?_, ?_, ?_, HLD.out, hk.2.2⟩⟩
                    · rw [HDV.out]; exact g0.set _
                    · exact (f3.other (by omega) _).other (by omega) _
                    · exact (f4.other (by omega) _).other (by omega) _
                    · exact (f5.other (by omega) _).other (by omega) _
                    · exact (f1.set _).other (by omega) _
                · skip
                  go_simp
                  refine hK _ _ ?_
                  clear hK K
                  refine wpAnyIn_ready (rs := [1]) (by kernel_rfl) (by simp) ?_
                  refine AllReadyIn.cons rfl (fun K hK => ?_) AllReadyIn.nil
                  go_simp
                  refine hK _ _ ?_
                  clear hK K
                  refine wpAnyIn_take (i := 2) (v := ?_) rfl rfl (by kernel_rfl) (by kernel_rfl) (by kernel_rfl) (fun _ _ _ h => h) ⟨Or.inl ⟨by rfl, ?_⟩, fun _ => rfl⟩ ?_
                  rotate_left
                  · intro w'; go_simp; try with_reducible rfl
                  refine wpAnyIn_ready (rs := [3]) (by kernel_rfl) (by simp) ?_
                  refine AllReadyIn.cons rfl (fun K hK => ?_) AllReadyIn.nil
                  go_simp
                  refine hK _ _ ?_
                  clear hK K
                  refine wpAnyIn_ready (rs := [5]) (by kernel_rfl) (by simp) ?_
                  refine AllReadyIn.cons rfl (fun K hK => ?_) AllReadyIn.nil
                  go_simp
                  refine ((CallsIn.inRound l (callsIn_wide.2 (pair_any (nth ps used) node _ p0 p1 n0 n1))).outOfRound).mono ?_
                  rintro e w' ⟨rfl, rfl⟩
                  simp only []
                  refine hK _ _ ?_
                  clear hK K
                  refine wpAnyIn_ready (rs := [6]) (by kernel_rfl) (by simp) ?_
                  refine AllReadyIn.cons rfl (fun K hK => ?_) AllReadyIn.nil
                  go_simp
                  refine hK _ _ ?_
                  clear hK K
                  refine wpAnyIn_done (by kernel_rfl) ?_ _
                  have f1 := b4.other (B' := w.heap.size + 3) (by omega) (.int .i64 (Dag.pair (nth ps used) node))
                  have f2 := b0.other (B' := w.heap.size + 3) (by omega) (.int .i64 (Dag.pair (nth ps used) node))
                  have f3 := b1.other (B' := w.heap.size + 3) (by omega) (.int .i64 (Dag.pair (nth ps used) node))
                  have f4 := b2.other (B' := w.heap.size + 3) (by omega) (.int .i64 (Dag.pair (nth ps used) node))
                  have f5 := b3.set (.int .i64 (Dag.pair (nth ps used) node))
                  have hk := keep5 W Bz (.int .i64 (Dag.pair (nth ps used) node)) (.int .i64 ((used : Int) + 1)) (.int .i64 ((iv : Int) / 2)) hb trivial
                  obtain ⟨W6, hW6⟩ : ∃ W6, W6 = W.setCell ⟨w.heap.size + 3, 0, none⟩ (.int .i64 (Dag.pair (nth ps used) node)) := ⟨_, rfl⟩
                  rw [← hW6] at f1 f2 f3 f4 f5 hk
                  have hW6' : (W.setCell ⟨w.heap.size + 3, 0, none⟩ (.int .i64 (Dag.pair (nth ps used) node))).drew = W6.drew := by rw [hW6]
                  try rw [hW6']
                  clear hW6 hW6' c0 c0' c1 c2 c3 c3' c4 c4'
                  have e1 := Boxed.cell f1
                  have e2 := Boxed.frozen f1
                  have g0 := f2.other (B' := w.heap.size + 4) (by omega) (.int .i64 ((used : Int) + 1))
                  have e3 := Boxed.cell g0
                  have e4 := Boxed.frozen g0
                  gi_wp2
                  refine ⟨hk.1.from _, hk.2.1, HG.out _ ⟨_, used + 1, ?_, ?_, ?_, ?_, ?_, HLD.out, hk.2.2⟩⟩
                  · rw [HDV.out]; exact g0.set _
                  · exact (f3.other (by omega) _).other (by omega) _
                  · exact (f4.other (by omega) _).other (by omega) _
                  · exact (f5.other (by omega) _).other (by omega) _
                  · exact (f1.set _).other (by omega) _
              · skip
                go_simp
                refine hK _ _ ?_
                clear hK K
                refine wpAnyIn_ready (rs := [0, 4]) (by kernel_rfl) (by simp) ?_
                refine AllReadyIn.cons rfl (fun K hK => ?_) (AllReadyIn.cons rfl (fun K hK => ?_) AllReadyIn.nil)
                · skip
                  go_simp
                  refine hK _ _ ?_
                  clear hK K
                  refine wpAnyIn_take (i := 2) (v := ?_) rfl rfl (by kernel_rfl) (by kernel_rfl) (by kernel_rfl) (fun _ _ _ h => h) ⟨Or.inl ⟨by rfl, ?_⟩, fun _ => rfl⟩ ?_
                  rotate_left
                  · intro w'; go_simp; try with_reducible rfl
                  refine wpAnyIn_ready (rs := [3, 4]) (by kernel_rfl) (by simp) ?_
                  refine AllReadyIn.cons rfl (fun K hK => ?_) (AllReadyIn.cons rfl (fun K hK => ?_) AllReadyIn.nil)
                  · skip
                    go_simp
                    refine hK _ _ ?_
                    clear hK K
                    refine wpAnyIn_ready (rs := [4]) (by kernel_rfl) (by simp) ?_
                    refine AllReadyIn.cons rfl (fun K hK => ?_) AllReadyIn.nil
                    go_simp
                    refine hK _ _ ?_
                    clear hK K
                    refine wpAnyIn_ready (rs := [5]) (by kernel_rfl) (by simp) ?_
                    refine AllReadyIn.cons rfl (fun K hK => ?_) AllReadyIn.nil
                    go_simp
                    refine ((CallsIn.inRound l (callsIn_wide.2 (pair_any (nth ps used) node _ p0 p1 n0 n1))).outOfRound).mono ?_
                    rintro e w' ⟨rfl, rfl⟩
                    simp only []
                    refine hK _ _ ?_
                    clear hK K
                    refine wpAnyIn_ready (rs := [6]) (by kernel_rfl) (by simp) ?_
                    refine AllReadyIn.cons rfl (fun K hK => ?_) AllReadyIn.nil
                    go_simp
                    refine hK _ _ ?_
                    clear hK K
                    refine wpAnyIn_done (by kernel_rfl) ?_ _
                    have f1 := b4.other (B' := w.heap.size + 3) (by omega) (.int .i64 (Dag.pair (nth ps used) node))
                    have f2 := b0.other (B' := w.heap.size + 3) (by omega) (.int .i64 (Dag.pair (nth ps used) node))
                    have f3 := b1.other (B' := w.heap.size + 3) (by omega) (.int .i64 (Dag.pair (nth ps used) node))
                    have f4 := b2.other (B' := w.heap.size + 3) (by omega) (.int .i64 (Dag.pair (nth ps used) node))
                    have f5 := b3.set (.int .i64 (Dag.pair (nth ps used) node))
                    have hk := keep5 W Bz (.int .i64 (Dag.pair (nth ps used) node)) (.int .i64 ((used : Int) + 1)) (.int .i64 ((iv : Int) / 2)) hb trivial
                    obtain ⟨W6, hW6⟩ : ∃ W6, W6 = W.setCell ⟨w.heap.size + 3, 0, none⟩ (.int .i64 (Dag.pair (nth ps used) node)) := ⟨_, rfl⟩
                    rw [← hW6] at f1 f2 f3 f4 f5 hk
                    have hW6' : (W.setCell ⟨w.heap.size + 3, 0, none⟩ (.int .i64 (Dag.pair (nth ps used) node))).drew = W6.drew := by rw [hW6]
                    try rw [hW6']
                    clear hW6 hW6' c0 c0' c1 c2 c3 c3' c4 c4'
                    have e1 := Boxed.cell f1
                    have e2 := Boxed.frozen f1
                    have g0 := f2.other (B' := w.heap.size + 4) (by omega) (.int .i64 ((used : Int) + 1))
                    have e3 := Boxed.cell g0
                    have e4 := Boxed.frozen g0
                    gi_wp2
                    refine ⟨hk.1.from _, hk.2.1, HG.out _ ⟨_, used + 1, ?_, ?_, ?_, ?_, ?_, HLD.out, hk.2.2⟩⟩
                    · rw [HDV.out]; exact g0.set _
                    · exact (f3.other (by omega) _).other (by omega) _
                    · exact (f4.other (by omega) _).other (by omega) _
                    · exact (f5.other (by omega) _).other (by omega) _
                    · exact (f1.set _).other (by omega) _
                  · skip
                    go_simp
                    refine hK _ _ ?_
                    clear hK K
                    refine wpAnyIn_ready (rs := [3]) (by kernel_rfl) (by simp) ?_
                    refine AllReadyIn.cons rfl (fun K hK => ?_) AllReadyIn.nil
                    go_simp
                    refine hK _ _ ?_
                    clear hK K
                    refine wpAnyIn_ready (rs := [5]) (by kernel_rfl) (by simp) ?_
                    refine AllReadyIn.cons rfl (fun K hK => ?_) AllReadyIn.nil
                    go_simp
                    refine ((CallsIn.inRound l (callsIn_wide.2 (pair_any (nth ps used) node _ p0 p1 n0 n1))).outOfRound).mono ?_
                    rintro e w' ⟨rfl, rfl⟩
                    simp only []
                    refine hK _ _ ?_
                    clear hK K
                    refine wpAnyIn_ready (rs := [6]) (by kernel_rfl) (by simp) ?_
                    refine AllReadyIn.cons rfl (fun K hK => ?_) AllReadyIn.nil
                    go_simp
                    refine hK _ _ ?_
                    clear hK K
                    refine wpAnyIn_done (by kernel_rfl) ?_ _
                    have f1 := b4.other (B' := w.heap.size + 3) (by omega) (.int .i64 (Dag.pair (nth ps used) node))
                    have f2 := b0.other (B' := w.heap.size + 3) (by omega) (.int .i64 (Dag.pair (nth ps used) node))
                    have f3 := b1.other (B' := w.heap.size + 3) (by omega) (.int .i64 (Dag.pair (nth ps used) node))
                    have f4 := b2.other (B' := w.heap.size + 3) (by omega) (.int .i64 (Dag.pair (nth ps used) node))
                    have f5 := b3.set (.int .i64 (Dag.pair (nth ps used) node))
                    have hk := keep5 W Bz (.int .i64 (Dag.pair (nth ps used) node)) (.int .i64 ((used : Int) + 1)) (.int .i64 ((iv : Int) / 2)) hb trivial
                    obtain ⟨W6, hW6⟩ : ∃ W6, W6 = W.setCell ⟨w.heap.size + 3, 0, none⟩ (.int .i64 (Dag.pair (nth ps used) node)) := ⟨_, rfl⟩
                    rw [← hW6] at f1 f2 f3 f4 f5 hk
                    have hW6' : (W.setCell ⟨w.heap.size + 3, 0, none⟩ (.int .i64 (Dag.pair (nth ps used) node))).drew = W6.drew := by rw [hW6]
                    try rw [hW6']
                    clear hW6 hW6' c0 c0' c1 c2 c3 c3' c4 c4'
                    have e1 := Boxed.cell f1
                    have e2 := Boxed.frozen f1
                    have g0 := f2.other (B' := w.heap.size + 4) (by omega) (.int .i64 ((used : Int) + 1))
                    have e3 := Boxed.cell g0
                    have e4 := Boxed.frozen g0
                    gi_wp2
                    refine ⟨hk.1.from _, hk.2.1, HG.out _ ⟨_, used + 1, ?_, ?_, ?_, ?_, ?_, HLD.out, hk.2.2⟩⟩
                    · rw [HDV.out]; exact g0.set _
                    · exact (f3.other (by omega) _).other (by omega) _
                    · exact (f4.other (by omega) _).other (by omega) _
                    · exact (f5.other (by omega) _).other (by omega) _
                    · exact (f1.set _).other (by omega) _
                · skip
                  go_simp
                  refine hK _ _ ?_
                  clear hK K
                  refine wpAnyIn_ready (rs := [0]) (by kernel_rfl) (by simp) ?_
                  refine AllReadyIn.cons rfl (fun K hK => ?_) AllReadyIn.nil
                  go_simp
                  refine hK _ _ ?_
                  clear hK K
                  refine wpAnyIn_take (i := 2) (v := ?_) rfl rfl (by kernel_rfl) (by kernel_rfl) (by kernel_rfl) (fun _ _ _ h => h) ⟨Or.inl ⟨by rfl, ?_⟩, fun _ => rfl⟩ ?_
                  rotate_left
                  · intro w'; go_simp; try with_reducible rfl
                  refine wpAnyIn_ready (rs := [3]) (by kernel_rfl) (by simp) ?_
                  refine AllReadyIn.cons rfl (fun K hK => ?_) AllReadyIn.nil
                  go_simp
                  refine hK _ _ ?_
                  clear hK K
                  refine wpAnyIn_ready (rs := [5]) (by kernel_rfl) (by simp) ?_
                  refine AllReadyIn.cons rfl (fun K hK => ?_) AllReadyIn.nil
                  go_simp
                  refine ((CallsIn.inRound l (callsIn_wide.2 (pair_any (nth ps used) node _ p0 p1 n0 n1))).outOfRound).mono ?_
                  rintro e w' ⟨rfl, rfl⟩
                  simp only []
                  refine hK _ _ ?_
                  clear hK K
                  refine wpAnyIn_ready (rs := [6]) (by kernel_rfl) (by simp) ?_
                  refine AllReadyIn.cons rfl (fun K hK => ?_) AllReadyIn.nil
                  go_simp
                  refine hK _ _ ?_
                  clear hK K
                  refine wpAnyIn_done (by kernel_rfl) ?_ _
                  have f1 := b4.other (B' := w.heap.size + 3) (by omega) (.int .i64 (Dag.pair (nth ps used) node))
                  have f2 := b0.other (B' := w.heap.size + 3) (by omega) (.int .i64 (Dag.pair (nth ps used) node))
                  have f3 := b1.other (B' := w.heap.size + 3) (by omega) (.int .i64 (Dag.pair (nth ps used) node))
                  have f4 := b2.other (B' := w.heap.size + 3) (by omega) (.int .i64 (Dag.pair (nth ps used) node))
                  have f5 := b3.set (.int .i64 (Dag.pair (nth ps used) node))
                  have hk := keep5 W Bz (.int .i64 (Dag.pair (nth ps used) node)) (.int .i64 ((used : Int) + 1)) (.int .i64 ((iv : Int) / 2)) hb trivial
                  obtain ⟨W6, hW6⟩ : ∃ W6, W6 = W.setCell ⟨w.heap.size + 3, 0, none⟩ (.int .i64 (Dag.pair (nth ps used) node)) := ⟨_, rfl⟩
                  rw [← hW6] at f1 f2 f3 f4 f5 hk
                  have hW6' : (W.setCell ⟨w.heap.size + 3, 0, none⟩ (.int .i64 (Dag.pair (nth ps used) node))).drew = W6.drew := by rw [hW6]
                  try rw [hW6']
                  clear hW6 hW6' c0 c0' c1 c2 c3 c3' c4 c4'
                  have e1 := Boxed.cell f1
                  have e2 := Boxed.frozen f1
                  have g0 := f2.other (B' := w.heap.size + 4) (by omega) (.int .i64 ((used : Int) + 1))
                  have e3 := Boxed.cell g0
                  have e4 := Boxed.frozen g0
                  gi_wp2
                  refine ⟨hk.1.from _, hk.2.1, HG.out _ ⟨_, used + 1, ?_, ?_, ?_, ?_, ?_, HLD.out, hk.2.2⟩⟩
                  · rw [HDV.out]; exact g0.set _
                  · exact (f3.other (by omega) _).other (by omega) _
                  · exact (f4.other (by omega) _).other (by omega) _
                  · exact (f5.other (by omega) _).other (by omega) _
                  · exact (f1.set _).other (by omega) _
              · skip
                go_simp
                refine hK _ _ ?_
                clear hK K
                refine wpAnyIn_ready (rs := [0, 1]) (by kernel_rfl) (by simp) ?_
                refine AllReadyIn.cons rfl (fun K hK => ?_) (AllReadyIn.cons rfl (fun K hK => ?_) AllReadyIn.nil)
                · skip
                  go_simp
                  refine hK _ _ ?_
                  clear hK K
                  refine wpAnyIn_ready (rs := [1]) (by kernel_rfl) (by simp) ?_
                  refine AllReadyIn.cons rfl (fun K hK => ?_) AllReadyIn.nil
                  go_simp
                  refine hK _ _ ?_
                  clear hK K
                  refine wpAnyIn_take (i := 2) (v := ?_) rfl rfl (by kernel_rfl) (by kernel_rfl) (by kernel_rfl) (fun _ _ _ h => h) ⟨Or.inl ⟨by rfl, ?_⟩, fun _ => rfl⟩ ?_
                  rotate_left
                  · intro w'; go_simp; try with_reducible rfl
                  refine wpAnyIn_ready (rs := [3]) (by kernel_rfl) (by simp) ?_
                  refine AllReadyIn.cons rfl (fun K hK => ?_) AllReadyIn.nil
                  go_simp
                  refine hK _ _ ?_
                  clear hK K
                  refine wpAnyIn_ready (rs := [5]) (by kernel_rfl) (by simp) ?_
                  refine AllReadyIn.cons rfl (fun K hK => ?_) AllReadyIn.nil
                  go_simp
                  refine ((CallsIn.inRound l (callsIn_wide.2 (pair_any (nth ps used) node _ p0 p1 n0 n1))).outOfRound).mono ?_
                  rintro e w' ⟨rfl, rfl⟩
                  simp only []
                  refine hK _ _ ?_
                  clear hK K
                  refine wpAnyIn_ready (rs := [6]) (by kernel_rfl) (by simp) ?_
                  refine AllReadyIn.cons rfl (fun K hK => ?_) AllReadyIn.nil
                  go_simp
                  refine hK _ _ ?_
                  clear hK K
                  refine wpAnyIn_done (by kernel_rfl) ?_ _
                  have f1 := b4.other (B' := w.heap.size + 3) (by omega) (.int .i64 (Dag.pair (nth ps used) node))
                  have f2 := b0.other (B' := w.heap.size + 3) (by omega) (.int .i64 (Dag.pair (nth ps used) node))
                  have f3 := b1.other (B' := w.heap.size + 3) (by omega) (.int .i64 (Dag.pair (nth ps used) node))
                  have f4 := b2.other (B' := w.heap.size + 3) (by omega) (.int .i64 (Dag.pair (nth ps used) node))
                  have f5 := b3.set (.int .i64 (Dag.pair (nth ps used) node))
                  have hk := keep5 W Bz (.int .i64 (Dag.pair (nth ps used) node)) (.int .i64 ((used : Int) + 1)) (.int .i64 ((iv : Int) / 2)) hb trivial
                  obtain ⟨W6, hW6⟩ : ∃ W6, W6 = W.setCell ⟨w.heap.size + 3, 0, none⟩ (.int .i64 (Dag.pair (nth ps used) node)) := ⟨_, rfl⟩
                  rw [← hW6] at f1 f2 f3 f4 f5 hk
                  have hW6' : (W.setCell ⟨w.heap.size + 3, 0, none⟩ (.int .i64 (Dag.pair (nth ps used) node))).drew = W6.drew := by rw [hW6]
                  try rw [hW6']
                  clear hW6 hW6' c0 c0' c1 c2 c3 c3' c4 c4'
                  have e1 := Boxed.cell f1
                  have e2 := Boxed.frozen f1
                  have g0 := f2.other (B' := w.heap.size + 4) (by omega) (.int .i64 ((used : Int) + 1))
                  have e3 := Boxed.cell g0
                  have e4 := Boxed.frozen g0
                  gi_wp2
                  refine ⟨hk.1.from _, hk.2.1, HG.out _ ⟨_, used + 1, ?_, ?_, ?_, ?_, ?_, HLD.out, hk.2.2⟩⟩
                  · rw [HDV.out]; exact g0.set _
                  · exact (f3.other (by omega) _).other (by omega) _
                  · exact (f4.other (by omega) _).other (by omega) _
                  · exact (f5.other (by omega) _).other (by omega) _
                  · exact (f1.set _).other (by omega) _
                · skip
                  go_simp
                  refine hK _ _ ?_
                  clear hK K
                  refine wpAnyIn_ready (rs := [0]) (by kernel_rfl) (by simp) ?_
                  refine AllReadyIn.cons rfl (fun K hK => ?_) AllReadyIn.nil
                  go_simp
                  refine hK _ _ ?_
                  clear hK K
                  refine wpAnyIn_take (i := 2) (v := ?_) rfl rfl (by kernel_rfl) (by kernel_rfl) (by kernel_rfl) (fun _ _ _ h => h) ⟨Or.inl ⟨by rfl, ?_⟩, fun _ => rfl⟩ ?_
                  rotate_left
                  · intro w'; go_simp; try with_reducible rfl
                  refine wpAnyIn_ready (rs := [3]) (by kernel_rfl) (by simp) ?_
                  refine AllReadyIn.cons rfl (fun K hK => ?_) AllReadyIn.nil
                  go_simp
                  refine hK _ _ ?_
                  clear hK K
                  refine wpAnyIn_ready (rs := [5]) (by kernel_rfl) (by simp) ?_
                  refine AllReadyIn.cons rfl (fun K hK => ?_) AllReadyIn.nil
                  go_simp
                  refine ((CallsIn.inRound l (callsIn_wide.2 (pair_any (nth ps used) node _ p0 p1 n0 n1))).outOfRound).mono ?_
                  rintro e w' ⟨rfl, rfl⟩
                  simp only []
                  refine hK _ _ ?_
                  clear hK K
                  refine wpAnyIn_ready (rs := [6]) (by kernel_rfl) (by simp) ?_
                  refine AllReadyIn.cons rfl (fun K hK => ?_) AllReadyIn.nil
                  go_simp
                  refine hK _ _ ?_
                  clear hK K
                  refine wpAnyIn_done (by kernel_rfl) ?_ _
                  have f1 := b4.other (B' := w.heap.size + 3) (by omega) (.int .i64 (Dag.pair (nth ps used) node))
                  have f2 := b0.other (B' := w.heap.size + 3) (by omega) (.int .i64 (Dag.pair (nth ps used) node))
                  have f3 := b1.other (B' := w.heap.size + 3) (by omega) (.int .i64 (Dag.pair (nth ps used) node))
                  have f4 := b2.other (B' := w.heap.size + 3) (by omega) (.int .i64 (Dag.pair (nth ps used) node))
                  have f5 := b3.set (.int .i64 (Dag.pair (nth ps used) node))
                  have hk := keep5 W Bz (.int .i64 (Dag.pair (nth ps used) node)) (.int .i64 ((used : Int) + 1)) (.int .i64 ((iv : Int) / 2)) hb trivial
                  obtain ⟨W6, hW6⟩ : ∃ W6, W6 = W.setCell ⟨w.heap.size + 3, 0, none⟩ (.int .i64 (Dag.pair (nth ps used) node)) := ⟨_, rfl⟩
                  rw [← hW6] at f1 f2 f3 f4 f5 hk
                  have hW6' : (W.setCell ⟨w.heap.size + 3, 0, none⟩ (.int .i64 (Dag.pair (nth ps used) node))).drew = W6.drew := by rw [hW6]
                  try rw [hW6']
                  clear hW6 hW6' c0 c0' c1 c2 c3 c3' c4 c4'
                  have e1 := Boxed.cell f1
                  have e2 := Boxed.frozen f1
                  have g0 := f2.other (B' := w.heap.size + 4) (by omega) (.int .i64 ((used : Int) + 1))
                  have e3 := Boxed.cell g0
                  have e4 := Boxed.frozen g0
                  gi_wp2
                  refine ⟨hk.1.from _, hk.2.1, HG.out _ ⟨_, used + 1, ?_, ?_, ?_, ?_, ?_, HLD.out, hk.2.2⟩⟩
                  · rw [HDV.out]; exact g0.set _
                  · exact (f3.other (by omega) _).other (by omega) _
                  · exact (f4.other (by omega) _).other (by omega) _
                  · exact (f5.other (by omega) _).other (by omega) _
                  · exact (f1.set _).other (by omega) _
        · have t1 : decide (((Dag.sib iv : Nat) : Int) < (wd : Int)) = false := by simp; omega
          have t1' : decide (Dag.sib iv < wd) = false := by simp; omega
          have HLD := Lib.hid (HSK.out hsb)
          gi_wp2
          refine ⟨(KeepsOthers.setCell _ _ _).from _, Below.heap_setCell _ _ _ _ (by simp), HG.out _ ⟨node, used, ?_, b1.other (by omega) _, b2.other (by omega) _, b3.other (by omega) _, b4.other (by omega) _, HLD.out, hb.setCell (p := ⟨w.heap.size, 0, none⟩) (Nat.le_refl _) _⟩⟩
          rw [HDV.out]; exact b0.set _
      case done =>
        rintro D ys W hD hS ⟨node, used, b0, b1, b2, b3, b4, hld, hb⟩ hK
        have hwe : wid size ys.length ≤ 1 := by
          obtain ⟨a1, _, a3⟩ := hS
          obtain ⟨q, hq⟩ : ∃ q, ys.length = q + 1 := ⟨ys.length - 1, by omega⟩
          rw [hq] at a3 ⊢
          simp only [Nat.add_sub_cancel] at a3
          unfold wid; omega
        have hfin := checkV_fin (root := root) hld hwe ⟨h1, h16, hi, d0, d1⟩ hp
        have c1 := Boxed.cell b1
        have c2 := Boxed.cell b2
        have c2' := Boxed.frozen b2
        have c3 := Boxed.cell b3
        have c4 := Boxed.cell b4
        have HF := Lib.hid hfin
        clear hfin hld
        by_cases hfull : used = ps.length
        · have t1 : ((used : Int) == (ps.length : Int)) = true := by simp; omega
          have hv : checkV root size i leaf ps = (node == root) := by rw [HF.out]; simp [hfull]
          have HV := Lib.hid hv
          clear hv
          gi_wp2
          have hK' := (KeepsOthers.setCell W ⟨w.heap.size + 2, 0, none⟩ (.bool (node == root))).same D _ hK rfl
          refine ⟨by simp, .inl ⟨_, _, rfl, run_takeDeferred hK', ?_⟩⟩
          have hc5 := cell_kept (b2.set (.bool (node == root))).cell (grownBy_putObj' _ D (.deferred none)) (fun r e => by cases e; exact ⟨_, hK', rfl⟩)
          refine ⟨.bool (node == root), ?_, by rw [HV.out], (hb.setCell (p := ⟨w.heap.size + 2, 0, none⟩) (by simp) _).trans (belowK_b (w := w) (Nat.le_refl _) _ D _ _ (by omega) hK' rfl rfl)⟩
          simp [results, Try.results14, go_sem, hc5]
        · have t1 : ((used : Int) == (ps.length : Int)) = false := by simp; omega
          have hv : checkV root size i leaf ps = false := by rw [HF.out]; simp [hfull]
          have HV := Lib.hid hv
          clear hv
          gi_wp2
          have hK' := (KeepsOthers.setCell W ⟨w.heap.size + 2, 0, none⟩ (.bool false)).same D _ hK rfl
          refine ⟨by simp, .inl ⟨_, _, rfl, run_takeDeferred hK', ?_⟩⟩
          have hc5 := cell_kept (b2.set (.bool false)).cell (grownBy_putObj' _ D (.deferred none)) (fun r e => by cases e; exact ⟨_, hK', rfl⟩)
          refine ⟨.bool false, ?_, by rw [HV.out], (hb.setCell (p := ⟨w.heap.size + 2, 0, none⟩) (by simp) _).trans (belowK_b (w := w) (Nat.le_refl _) _ D _ _ (by omega) hK' rfl rfl)⟩
          simp [results, Try.results14, go_sem, hc5]
      case stop =>
        rintro D cd pre W hD ⟨rfl, b2, hn, hb⟩ hK
        have hv : checkV root size i leaf ps = false := checkV_lead (by simp only [Int.toNat_natCast]; rw [hn]; simp)
        gi_wp2
        refine ⟨by simp, .inl ⟨_, _, rfl, run_takeDeferred hK, ?_⟩⟩
        have hc5 := cell_kept (Boxed.cell b2) (grownBy_putObj' _ D (.deferred none)) (fun r e => by cases e; exact ⟨_, hK, rfl⟩)
        refine ⟨.bool false, ?_, by rw [hv], hb.trans (belowK_b (w := w) (Nat.le_refl _) _ D _ _ (by omega) hK rfl rfl)⟩
        simp [results, Try.results14, go_sem, hc5]
end Go.Proofs.Ytgmbacgpaagkhaa
