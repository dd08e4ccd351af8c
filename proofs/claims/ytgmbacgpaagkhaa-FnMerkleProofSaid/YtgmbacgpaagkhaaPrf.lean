/- The proof of a leaf, of program and reference. Conditions: at most two million leaves. -/
import Derived.Test.YtgmbacgpaagkhaaRoot
import Derived.Test.YtgmbacgpaagkhaaRd
namespace Go.Proofs.Ytgmbacgpaagkhaa
open Go.RowKit Go.Shelf
set_option linter.unusedVariables false
set_option linter.unusedSimpArgs false
attribute [local go_sem] Oper.semAt_some

theorem sib16 : ∀ i : Fin 16, i.val ^^^ 1 = Dag.sib i.val := by decide
theorem xor_sib {i : Nat} (h : i < 16) : bits .xor .i64 (i : Int) 1 = ((Dag.sib i : Nat) : Int) := by
  have := i64_xor_nat i 1 (by omega) (by omega)
  rw [sib16 ⟨i, h⟩] at this
  exact this
def proofB (l : List Int) (i : Int) : Bool := leavesB l && decide (0 ≤ i ∧ i < l.length)
def proofV (l : List Int) (i : Int) : List Int := if proofB l i = true then Dag.proofN 4 l i.toNat else []
theorem proofV_yes {l : List Int} {i : Int} (h : proofB l i = true) : proofV l i = Dag.proofN 4 l i.toNat := if_pos h
theorem proofV_no {l : List Int} {i : Int} (h : ¬ proofB l i = true) : proofV l i = [] := if_neg h
theorem proofB_parts {l : List Int} {i : Int} (h : proofB l i = true) : leavesB l = true ∧ 0 ≤ i ∧ i < l.length := by
  simp only [proofB, Bool.and_eq_true, decide_eq_true_eq] at h; exact ⟨h.1, h.2.1, h.2.2⟩

/-- The proof's part of level k, and the proof of the first k levels. -/
def pstep (zs : List Int) (i k : Nat) : List Int := if Dag.sib (i / 2 ^ k) < (lev zs k).length then [nth (lev zs k) (Dag.sib (i / 2 ^ k))] else []
def pfx (zs : List Int) (i : Nat) : Nat → List Int
  | 0 => []
  | k + 1 => pfx zs i k ++ pstep zs i k
theorem lev_up (zs : List Int) : ∀ j, lev (Dag.up zs) j = lev zs (j + 1)
  | 0 => rfl
  | j + 1 => by rw [lev, lev_up zs j]; rfl
theorem pstep_up (zs : List Int) (i k : Nat) : pstep (Dag.up zs) (i / 2) k = pstep zs i (k + 1) := by
  have e : i / 2 / 2 ^ k = i / 2 ^ (k + 1) := by rw [Nat.div_div_eq_div_mul, Nat.pow_succ, Nat.mul_comm]
  unfold pstep
  rw [lev_up, e]
theorem pfx_up (zs : List Int) (i : Nat) : ∀ k, pfx zs i (k + 1) = pstep zs i 0 ++ pfx (Dag.up zs) (i / 2) k
  | 0 => by simp [pfx]
  | k + 1 => by rw [pfx, pfx_up zs i k, pfx, pstep_up, List.append_assoc]
theorem proof_pfx : ∀ (f k : Nat) (zs : List Int) (i : Nat), k ≤ f → (∀ j, j < k → 1 < (lev zs j).length) → (lev zs k).length ≤ 1 → i < zs.length → Dag.proofN f zs i = pfx zs i k
  | 0, 0, zs, i, _, _, _, _ => rfl
  | f + 1, 0, zs, i, _, _, h, _ => by
    have h' : zs.length ≤ 1 := h
    rw [Dag.proofN, if_neg (by omega)]; rfl
  | f + 1, k + 1, zs, i, hk, h1, h2, hi => by
    have h0 : 1 < zs.length := h1 0 (by omega)
    rw [Dag.proofN, if_pos h0, pfx_up, proof_pfx f k (Dag.up zs) (i / 2) (by omega) (fun j hj => by rw [lev_up]; exact h1 (j + 1) (by omega)) (by rw [lev_up]; exact h2) (by rw [Dag.up_len]; omega)]
    congr 1
    unfold pstep
    simp only [lev, Nat.pow_zero, Nat.div_one]
    rfl
  | 0, k + 1, zs, i, hk, _, _, _ => by omega
theorem lev_idx {zs : List Int} {i : Nat} (hi : i < zs.length) : ∀ k, i / 2 ^ k < (lev zs k).length
  | 0 => by simpa [lev] using hi
  | k + 1 => by
    have := lev_idx hi k
    rw [lev, Dag.up_len, Nat.pow_succ, ← Nat.div_div_eq_div_mul]
    omega
theorem pfx_len (zs : List Int) (i : Nat) : ∀ k, (pfx zs i k).length ≤ k
  | 0 => by simp [pfx]
  | k + 1 => by have := pfx_len zs i k; rw [pfx, List.length_append]; unfold pstep; split <;> simp <;> omega
theorem pfx_end {zs : List Int} {i : Nat} (h1 : 1 ≤ zs.length) (h16 : zs.length ≤ 16) (hi : i < zs.length) {xs : List Lv} (h : LevEnd zs xs) : pfx zs i xs.length = Dag.proofN 4 zs i := by
  obtain ⟨a, b, c⟩ := h
  obtain ⟨k, hk⟩ : ∃ k, xs.length = k + 1 := ⟨xs.length - 1, by omega⟩
  rw [hk] at b c ⊢
  simp only [Nat.add_sub_cancel] at c
  have hb : ∀ j, j < k → 1 < (lev zs j).length := fun j hj => b j (by omega)
  rw [proof_pfx 4 k zs i (lev_stop h1 h16 hb) hb c hi, pfx]
  have hx := lev_idx hi k
  have : pstep zs i k = [] := by
    unfold pstep
    rw [if_neg]
    have : i / 2 ^ k = 0 := by have h0 : 0 ≤ i / 2 ^ k := Nat.zero_le _; generalize i / 2 ^ k = q at *; omega
    rw [this]; simp [Dag.sib]; omega
  rw [this, List.append_nil]
theorem StepX.cells {B : Nat} {row : Option Nat} {X Y : World} (h : StepX B row X Y) {k : Nat} {o : Obj} (hk : X.heap[k]? = some o) (ho : o.isCells = true) (hr : row ≠ some k) : Y.heap[k]? = some o := by
  rcases h with h | ⟨l, q, q', hl, hq, hc, rfl⟩
  · exact kept_obj h hk hr
  · refine (World.putObj_heap_other (fun e => ?_)).trans hk
    subst e; rw [hk] at hq; cases hq; rw [hc] at ho; cases ho
/-- The row of one's own, through a step. -/
theorem OwnI.through {w w' : World} {B g c : Nat} {l : List Int} (h : OwnI w B g c l) (hk : ∀ o : Obj, w.heap[g]? = some o → o.isCells = true → w'.heap[g]? = some o) : OwnI w' B g c l := by
  refine ⟨h.1, ?_⟩
  rcases h.2 with h1 | ⟨g', cap, cur, h1, h2, hh, hr⟩
  · exact .inl h1
  · have : g' = g := by simp only [Value.slice.injEq, Option.some.injEq, Addr.mk.injEq, and_true, true_and] at h1; omega
    subst this
    exact .inr ⟨g', cap, cur, h1, h2, hk _ hh rfl, hr⟩

/-- What the loop of MerkleProof keeps: the boxes of the index and of the proof, the proof's row. -/
def PrI (w : World) (zs : List Int) (i : Nat) (k : Nat) (W : World) : Prop :=
  ∃ g c : Nat, Boxed W w.heap.size 3 (.int .i64 ((i / 2 ^ k : Nat) : Int)) ∧ Boxed W (w.heap.size + 2) 22 (.slice (some ⟨g, 0, none⟩) (pfx zs i k).length c) ∧ OwnI W w.heap.size g c (pfx zs i k) ∧ g ≠ w.heap.size ∧ g ≠ w.heap.size + 2 ∧ Below w.heap.size w W

theorem push_own {w5 W : World} {x : Value} {t : TypeId} {B g5 c5 gp : Nat} {l : List Int} (h : OwnI w5 B g5 c5 l) (hf : g5 = gp ∨ (W.drew.alloc (.cells #[x] t)).heap.size ≤ g5) (hgs : gp < W.heap.size) (n1 : gp ≠ B) (n2 : gp ≠ B + 2) (hsW : B + 3 ≤ W.heap.size) (u v : Value) :
    OwnI ((w5.setCell ⟨B + 2, 0, none⟩ u).setCell ⟨B, 0, none⟩ v) B g5 c5 l ∧ g5 ≠ B ∧ g5 ≠ B + 2 := by
  have m1 : g5 ≠ B ∧ g5 ≠ B + 2 := by
    rcases hf with e | e
    · omega
    · have : W.heap.size + 1 ≤ g5 := by simpa using e
      omega
  exact ⟨h.through (fun o hh _ => (Below.heap_setCell _ _ _ _ m1.1).trans ((Below.heap_setCell _ _ _ _ m1.2).trans hh)), m1⟩
theorem push_keeps {w w5 X : World} (W : World) {x : Value} {t : TypeId} {g gp cp cq : Nat} {L P0 : List Int} {u1 u2 : Value} {t1 t2 : TypeId} (hg5 : (W.drew.alloc (.cells #[x] t)).grownBy w5 (some gp))
    (b1 : Boxed W w.heap.size t1 u1) (b2 : Boxed W (w.heap.size + 2) t2 u2) (ho : OwnI W w.heap.size gp cq P0) (hwr : Wr W g L) (hbW : Below w.heap.size w W) (hge : X.heap.size ≤ g) (h0 : w.heap.size < X.heap.size) (h2 : w.heap.size + 2 < X.heap.size) (hgp : gp < X.heap.size) (u v : Value) (hf : True) :
    KeepsOthers W ((w5.setCell ⟨w.heap.size + 2, 0, none⟩ u).setCell ⟨w.heap.size, 0, none⟩ v) ∧ KeepL (g, cp, L) W ((w5.setCell ⟨w.heap.size + 2, 0, none⟩ u).setCell ⟨w.heap.size, 0, none⟩ v) ∧ Below w.heap.size w ((w5.setCell ⟨w.heap.size + 2, 0, none⟩ u).setCell ⟨w.heap.size, 0, none⟩ v) := by
  have hgw : w.heap.size ≤ gp := ho.parts.1
  have hgl := ho.parts.2.1
  have hlt := hwr.lt
  refine ⟨?_, ?_, ?_⟩
  · refine ((((KeepsOthers.drew W).trans (KeepsOthers.alloc _ _)).trans (KeepsOthers.of_grownBy hg5 (fun j o e hj => ?_))).trans (KeepsOthers.setCell _ _ _)).trans (KeepsOthers.setCell _ _ _)
    injection e with e
    subst e
    rcases ho.2 with ⟨q, _⟩ | ⟨g', cap, cur, q, _, hh, _⟩
    · simp at q
    · simp only [Value.slice.injEq, Option.some.injEq, Addr.mk.injEq, and_true, true_and] at q
      obtain ⟨rfl, rfl⟩ := q
      rw [Below.heap_alloc _ _ _ (by simpa using hgl)] at hj
      rw [show W.drew.heap = W.heap from rfl, hh] at hj
      cases hj; rfl
  · refine KeepL.of ?_
    simp only
    rw [Below.heap_setCell _ _ _ _ (by simp; omega), Below.heap_setCell _ _ _ _ (by simp; omega), hg5.block g (by simp; omega) (by simp; omega)]
    exact Below.heap_alloc W.drew _ g hlt
  · refine Below.setCell (p := ⟨w.heap.size, 0, none⟩) (Below.setCell (p := ⟨w.heap.size + 2, 0, none⟩) ?_ (by simp) _) (Nat.le_refl _) _
    exact ((below_drew hbW).alloc hbW.size _).grown hg5 (by have := hbW.size; simp; omega) (fun k e => by injection e with e; omega)

set_option maxRecDepth 100000 in
set_option maxHeartbeats 4000000 in
theorem proof_in (A : Option Addr) (c : Nat) (zs : List Int) (i : Nat) (hv : leavesB zs = true) (hi : i < zs.length) (w : World) (hI : Sl w w.heap.size A zs) :
    CallsIn Fence.wide 6 Try.prog 19 #[.slice A zs.length c, .int .i64 (i : Int)] w fun e W' => FreshI (Dag.proofN 4 zs i) w e W' := by
  obtain ⟨h1, h16, hz⟩ := leavesB_parts hv
  have hw : ∀ f, Fence.wide.fn f := fun _ => trivial
  have HV := Lib.hid hv
  have HZ := Lib.hid hz
  clear hv hz
  have q1 : decide ((i : Int) < 0) = false := by simp only [decide_eq_false_iff_not]; omega
  have q2 : decide ((zs.length : Int) ≤ (i : Int)) = false := by simp; omega
  have q2' : decide (zs.length ≤ i) = false := by simp; omega
  obtain ⟨W0, hW0⟩ : ∃ W, W = ((w.alloc (.cells #[.int .i64 (i : Int)] 3)).alloc (.cells #[] 3)).alloc (.cells #[.slice (some ⟨w.heap.size + 1, 0, none⟩) 0 0] 22) := ⟨_, rfl⟩
  have hB0 : Below w.heap.size w W0 := by rw [hW0]; exact (((Below.refl _ w).alloc (Nat.le_refl _) _).alloc (by simp) _).alloc (by simp; omega) _
  refine callsIn_of_wp_marks Try.func19 rfl trivial ?_ rfl
  simp only [Try.ntmps19, List.size_toArray, List.length_cons, List.length_nil, Nat.reduceAdd, Nat.reduceSub, Array.replicate_succ, Array.replicate_zero, List.push_toArray, List.append_toArray, List.nil_append, List.cons_append]
  gi_wp2_with (first
    | (gi_at_call 34; rw [← hW0]; refine (callsIn_wide.2 (leaves_any _ _ zs _ _ (hI.below hB0) (by omega))).mono ?_; rintro e w' ⟨rfl, rfl⟩; rw [HV.out, hW0])
    | (gi_at_call 35; refine (callsIn_wide.2 (levels_any _ _ _ _)).mono ?_; rintro e w' ⟨rfl, rfl⟩))
  have hs0 : W0.heap.size = w.heap.size + 3 := by rw [hW0]; simp
  have bI : Boxed (W0.alloc (.cells #[.slice A zs.length c] 22)) w.heap.size 3 (.int .i64 (i : Int)) := by
    rw [hW0]; exact (((Boxed.new w 3 (.int .i64 (i : Int))).alloc _).alloc _).alloc _
  have bP : Boxed (W0.alloc (.cells #[.slice A zs.length c] 22)) (w.heap.size + 2) 22 (.slice (some ⟨w.heap.size + 1, 0, none⟩) 0 0) := by
    have := (Boxed.new ((w.alloc (.cells #[.int .i64 (i : Int)] 3)).alloc (.cells #[] 3)) 22 (.slice (some ⟨w.heap.size + 1, 0, none⟩) 0 0)).alloc (.cells #[.slice A zs.length c] 22)
    rw [hW0]; simpa using this
  have hO : OwnI (W0.alloc (.cells #[.slice A zs.length c] 22)) w.heap.size (w.heap.size + 1) 0 [] := by
    have := ((OwnI.made (w.alloc (.cells #[.int .i64 (i : Int)] 3)) w.heap.size (by simp)).alloc (.cells #[.slice (some ⟨w.heap.size + 1, 0, none⟩) 0 0] 22)).alloc (.cells #[.slice A zs.length c] 22)
    rw [hW0]; simpa using this
  have bS : Boxed (W0.alloc (.cells #[.slice A zs.length c] 22)) (w.heap.size + 3) 22 (.slice A zs.length c) := by
    have := Boxed.new W0 22 (.slice A zs.length c)
    rwa [hs0] at this
  have hB1 : Below w.heap.size w (W0.alloc (.cells #[.slice A zs.length c] 22)) := hB0.alloc hB0.size _
  rw [← hW0]
  obtain ⟨W1, hW1⟩ : ∃ W, W = W0.alloc (.cells #[.slice A zs.length c] 22) := ⟨_, rfl⟩
  have hs1 : W1.heap.size = w.heap.size + 4 := by rw [hW1]; simp; omega
  rw [← hW1] at bI bP hO bS hB1 ⊢
  clear hW1 hW0 hB0 hs0
  refine range_x (row := none) (F := Fence.wide) rfl (by omega) (gf := 41) (lb := #[.pointer (some ⟨w.heap.size + 3, 0, none⟩)]) rfl trivial (enters_of Try.func41 (by kernel_rfl) rfl)
    (levels_seq 5 (by omega) (w.heap.size + 3) c A zs HZ.out h1 h16 W1 bS (by omega) ((hI.below hB1).more hB1.size)) (fun r e => by cases e)
    (fun h k o ho hc => k o (h o ho hc) hc) (fun x W l o o' hl ho hc => KeepL.put x W l o o' ho hc) (fun _ => rfl)
    (fun pre W => PrI w zs i pre.length W) (fun _ _ _ => False) ?hI (fun _ _ _ _ h _ => h)
    (fun s x Z X l o o' h hl ho hc => LevRd.put h hl ho hc) ?h0
    (fun x => { tmps := #[.slice A zs.length c, .int .i64 (i : Int), undef, .pointer (some ⟨w.heap.size, 0, none⟩), .slice none 0 0, .pointer (some ⟨w.heap.size + 1 + 1, 0, none⟩), .slice (some ⟨x.1, 0, none⟩) x.2.2.length x.2.1, undef, .slice (some ⟨w.heap.size + 1, 0, none⟩) 0 0, .slice A zs.length c, .bool true, .bool false, .bool false, .int .i64 (i : Int), .bool false, .bool false, .bool false, .int .i64 (i : Int), .slice A zs.length c, .int .i64 (zs.length : Int), .bool false, .bool false, undef, .slice A zs.length c, .func (.func 41) #[] #[.pointer (some ⟨w.heap.size + 3, 0, none⟩)], .slice (some ⟨x.1, 0, none⟩) x.2.2.length x.2.1, undef, undef, undef, undef, undef, undef, undef, undef, undef, undef, undef, undef, undef, undef, undef, undef], defers := [] }) ?assign ?body ?done ?stop
  case hI =>
    rintro s X Y ⟨g, cp, b1, b2, ho, n1, n2, hb⟩ k
    exact ⟨g, cp, k.cells b1 rfl (by simp), k.cells b2 rfl (by simp), ho.through (fun o hh hc => k.cells hh hc (by simp)), n1, n2, k.below hb (Nat.le_refl _) (by omega) (fun r e => by cases e)⟩
  case h0 => exact ⟨w.heap.size + 1, 0, by simpa using bI, by simpa [pfx] using bP, hO, by omega, by omega, hB1⟩
  case assign =>
    intro l x W K hK
    simp only [encL]
    gi_wp2
    exact hK
  case body =>
    rintro l pre ⟨g, cp, L⟩ X W ⟨gp, cq, b1, b2, ho, n1, n2, hbX⟩ hIW hsz hkeep ⟨e1, hge, hwr, hall⟩
    simp only at e1 hge hwr
    obtain ⟨_, _, _, _, _, _, _, hbW⟩ := hIW
    have hgp := ho.parts.2.1
    have hx2 := (Array.getElem?_eq_some_iff.1 b2).1
    have hsW : w.heap.size + 3 ≤ W.heap.size := by omega
    replace b1 : Boxed W w.heap.size 3 (.int .i64 ((i / 2 ^ pre.length : Nat) : Int)) := hkeep _ _ b1 rfl (by simp)
    replace b2 : Boxed W (w.heap.size + 2) 22 (.slice (some ⟨gp, 0, none⟩) (pfx zs i pre.length).length cq) := hkeep _ _ b2 rfl (by simp)
    replace ho := ho.through (fun o hh hc => hkeep _ o hh hc (by simp))
    have hix := lev_idx hi pre.length
    obtain ⟨l1, l2⟩ := lev_len h1 h16 pre.length
    have hpl := pfx_len zs i pre.length
    have hk4 := lev_stop h1 h16 hall
    have hst : pfx zs i (pre ++ [(g, cp, L)]).length = pfx zs i pre.length ++ pstep zs i pre.length := by simp [pfx]
    have hdv : i / 2 ^ (pre ++ [(g, cp, L)]).length = i / 2 ^ pre.length / 2 := by simp [Nat.pow_succ, Nat.div_div_eq_div_mul]
    have hps : pstep zs i pre.length = if Dag.sib (i / 2 ^ pre.length) < L.length then [nth L (Dag.sib (i / 2 ^ pre.length))] else [] := by rw [e1]; rfl
    rw [← e1] at hix l1 l2
    obtain ⟨iv, hiv⟩ : ∃ iv, iv = i / 2 ^ pre.length := ⟨_, rfl⟩
    obtain ⟨P0, hP0⟩ : ∃ P, P = pfx zs i pre.length := ⟨_, rfl⟩
    rw [← hiv] at hix hdv hps b1
    rw [← hP0] at hpl hst b2 ho
    have HST := Lib.hid hst
    have HDV := Lib.hid hdv
    have HE1 := Lib.hid e1
    clear hst hdv hiv hP0 e1 hall
    have hx := xor_sib (i := iv) (by omega)
    have c1 := Boxed.cell b1
    have c2 := Boxed.frozen b1
    have c3 := Boxed.cell b2
    have c4 := Boxed.frozen b2
    have hgs : gp < W.heap.size := by omega
    simp only
    by_cases hsb : Dag.sib iv < L.length
    · rw [if_pos hsb] at hps
      have HPS := Lib.hid hps
      clear hps
      have c5 := hwr.cell hsb
      obtain ⟨sb, hsbe⟩ : ∃ sb, sb = Dag.sib iv := ⟨_, rfl⟩
      rw [← hsbe] at hx hsb c5 HPS
      clear hsbe
      have t1 : decide ((sb : Int) < (L.length : Int)) = true := by simp; omega
      have j1 : (sb : Int) < (L.length : Int) := by omega
      have j2 : (0 : Int) ≤ (sb : Int) := by omega
      have c3a := Boxed.cell (b2.alloc (.cells #[.int .i64 (nth L sb)] 3))
      gi_wp2
      refine region_round (F := Fence.wide) (by kernel_rfl) (by kernel_rfl) ?_
      refine wpAnyIn_take (i := 1) (v := ?_) rfl rfl (by kernel_rfl) (by kernel_rfl) (by kernel_rfl) (fun _ _ _ h => h) ⟨Or.inl ⟨by rfl, ?_⟩, fun _ => rfl⟩ ?_
      rotate_left
      · intro w'; go_simp; try with_reducible rfl
      refine wpAnyIn_take (i := 2) (v := ?_) rfl rfl (by kernel_rfl) (by kernel_rfl) (by kernel_rfl) (fun _ _ _ h => h) ⟨Or.inl ⟨by rfl, ?_⟩, fun _ => rfl⟩ ?_
      rotate_left
      · intro w'; go_simp; try with_reducible rfl
      refine wpAnyIn_take (i := 3) (v := ?_) rfl rfl (by kernel_rfl) (by kernel_rfl) (by kernel_rfl) (fun _ _ _ h => h) ⟨Or.inl ⟨by rfl, ?_⟩, fun _ => rfl⟩ ?_
      rotate_left
      · intro w'; go_simp; try with_reducible rfl
      refine wpAnyIn_ready (rs := [0, 4]) (by kernel_rfl) (by simp) ?_
      refine AllReadyIn.cons rfl (fun K hK => ?_) (AllReadyIn.cons rfl (fun K hK => ?_) AllReadyIn.nil)
      · skip
        go_simp
        refine hK _ _ ?_
        clear hK K
        refine wpAnyIn_ready (rs := [4]) (by kernel_rfl) (by simp) ?_
        refine AllReadyIn.cons rfl (fun K hK => ?_) AllReadyIn.nil
        go_simp
        refine hK _ _ ?_
        clear hK K
        refine wpAnyIn_ready (rs := [5]) (by kernel_rfl) (by simp) ?_
        refine AllReadyIn.cons rfl (fun K hK => ?_) AllReadyIn.nil
        go_simp
        refine hK _ _ ?_
        clear hK K
        refine wpAnyIn_ready (rs := [6]) (by kernel_rfl) (by simp) ?_
        refine AllReadyIn.cons rfl (fun K hK => ?_) AllReadyIn.nil
        refine stepIn_one rfl (.tmp 32) (.tmp 37) rfl w.heap.size gp cq P0 (P0 ++ [nth L sb]) (nth L sb) rfl (by simp [Act.eval, Act.put]) W.heap.size (by simp [Act.eval, Act.put]) (heap_alloc_new _ _) (OwnI.alloc (w := W.drew) ho _) (by omega) (by have := hbW.size; simp; omega) ?_
        intro g5 c5 w5 ho5 hg5 hf5
        have b1' : Boxed w5 w.heap.size 3 (.int .i64 (iv : Int)) := Boxed.kept (Boxed.alloc (W := W.drew) b1 _) hg5 (by simp; omega)
        have b2' : Boxed w5 (w.heap.size + 2) 22 (.slice (some ⟨gp, 0, none⟩) P0.length cq) := Boxed.kept (Boxed.alloc (W := W.drew) b2 _) hg5 (by simp; omega)
        have d3 := Boxed.cell b2'
        have d4 := Boxed.frozen b2'
        refine hK _ _ ?_
        clear hK K
        refine wpAnyIn_ready (rs := [7]) (by kernel_rfl) (by simp) ?_
        refine AllReadyIn.cons rfl (fun K hK => ?_) AllReadyIn.nil
        go_simp
        refine hK _ _ ?_
        clear hK K
        refine wpAnyIn_done (by kernel_rfl) ?_ _
        have f1 := b1'.other (B' := w.heap.size + 2) (by omega) (.slice (some ⟨g5, 0, none⟩) (P0.length + 1) c5)
        have f2 := b2'.set (.slice (some ⟨g5, 0, none⟩) (P0.length + 1) c5)
        have f3 := Boxed.cell f1
        have f4 := Boxed.frozen f1
        have hk := push_keeps (cp := cp) W hg5 b1 b2 ho hwr hbW hge (by omega) (by omega) hgp (.slice (some ⟨g5, 0, none⟩) (P0.length + 1) c5) (.int .i64 ((iv : Int) / 2)) trivial
        have ho6 := push_own ho5 hf5 hgs n1 n2 hsW (.slice (some ⟨g5, 0, none⟩) (P0.length + 1) c5) (.int .i64 ((iv : Int) / 2))
        have HL := Lib.hid (show (P0 ++ [nth L sb]).length = P0.length + 1 by simp)
        clear ho5 hf5 hg5 d3 d4
        obtain ⟨W6, hW6⟩ : ∃ W6, W6 = w5.setCell ⟨w.heap.size + 2, 0, none⟩ (.slice (some ⟨g5, 0, none⟩) (P0.length + 1) c5) := ⟨_, rfl⟩
        rw [← hW6] at f1 f2 f3 f4 hk ho6
        have hW6' : w5.setCell ⟨w.heap.size + 1 + 1, 0, none⟩ (.slice (some ⟨g5, 0, none⟩) (P0.length + 1) c5) = W6 := hW6.symm
        rw [hW6']
        clear hW6 hW6'
        gi_wp2
        refine ⟨hk.1.from _, hk.2.1, g5, c5, ?_, ?_, ?_, ho6.2.1, ho6.2.2, hk.2.2⟩
        · rw [HDV.out]; exact f1.set _
        · rw [HST.out, HPS.out, HL.out]; exact f2.other (by omega) _
        · rw [HST.out, HPS.out]; exact ho6.1
      · skip
        go_simp
        refine hK _ _ ?_
        clear hK K
        refine wpAnyIn_ready (rs := [0, 5]) (by kernel_rfl) (by simp) ?_
        refine AllReadyIn.cons rfl (fun K hK => ?_) (AllReadyIn.cons rfl (fun K hK => ?_) AllReadyIn.nil)
        · skip
          go_simp
          refine hK _ _ ?_
          clear hK K
          refine wpAnyIn_ready (rs := [5]) (by kernel_rfl) (by simp) ?_
          refine AllReadyIn.cons rfl (fun K hK => ?_) AllReadyIn.nil
          go_simp
          refine hK _ _ ?_
          clear hK K
          refine wpAnyIn_ready (rs := [6]) (by kernel_rfl) (by simp) ?_
          refine AllReadyIn.cons rfl (fun K hK => ?_) AllReadyIn.nil
          refine stepIn_one rfl (.tmp 32) (.tmp 37) rfl w.heap.size gp cq P0 (P0 ++ [nth L sb]) (nth L sb) rfl (by simp [Act.eval, Act.put]) W.heap.size (by simp [Act.eval, Act.put]) (heap_alloc_new _ _) (OwnI.alloc (w := W.drew) ho _) (by omega) (by have := hbW.size; simp; omega) ?_
          intro g5 c5 w5 ho5 hg5 hf5
          have b1' : Boxed w5 w.heap.size 3 (.int .i64 (iv : Int)) := Boxed.kept (Boxed.alloc (W := W.drew) b1 _) hg5 (by simp; omega)
          have b2' : Boxed w5 (w.heap.size + 2) 22 (.slice (some ⟨gp, 0, none⟩) P0.length cq) := Boxed.kept (Boxed.alloc (W := W.drew) b2 _) hg5 (by simp; omega)
          have d3 := Boxed.cell b2'
          have d4 := Boxed.frozen b2'
          refine hK _ _ ?_
          clear hK K
          refine wpAnyIn_ready (rs := [7]) (by kernel_rfl) (by simp) ?_
          refine AllReadyIn.cons rfl (fun K hK => ?_) AllReadyIn.nil
          go_simp
          refine hK _ _ ?_
          clear hK K
          refine wpAnyIn_done (by kernel_rfl) ?_ _
          have f1 := b1'.other (B' := w.heap.size + 2) (by omega) (.slice (some ⟨g5, 0, none⟩) (P0.length + 1) c5)
          have f2 := b2'.set (.slice (some ⟨g5, 0, none⟩) (P0.length + 1) c5)
          have f3 := Boxed.cell f1
          have f4 := Boxed.frozen f1
          have hk := push_keeps (cp := cp) W hg5 b1 b2 ho hwr hbW hge (by omega) (by omega) hgp (.slice (some ⟨g5, 0, none⟩) (P0.length + 1) c5) (.int .i64 ((iv : Int) / 2)) trivial
          have ho6 := push_own ho5 hf5 hgs n1 n2 hsW (.slice (some ⟨g5, 0, none⟩) (P0.length + 1) c5) (.int .i64 ((iv : Int) / 2))
          have HL := Lib.hid (show (P0 ++ [nth L sb]).length = P0.length + 1 by simp)
          clear ho5 hf5 hg5 d3 d4
          obtain ⟨W6, hW6⟩ : ∃ W6, W6 = w5.setCell ⟨w.heap.size + 2, 0, none⟩ (.slice (some ⟨g5, 0, none⟩) (P0.length + 1) c5) := ⟨_, rfl⟩
          rw [← hW6] at f1 f2 f3 f4 hk ho6
          have hW6' : w5.setCell ⟨w.heap.size + 1 + 1, 0, none⟩ (.slice (some ⟨g5, 0, none⟩) (P0.length + 1) c5) = W6 := hW6.symm
          rw [hW6']
          clear hW6 hW6'
          gi_wp2
          refine ⟨hk.1.from _, hk.2.1, g5, c5, ?_, ?_, ?_, ho6.2.1, ho6.2.2, hk.2.2⟩
          · rw [HDV.out]; exact f1.set _
          · rw [HST.out, HPS.out, HL.out]; exact f2.other (by omega) _
          · rw [HST.out, HPS.out]; exact ho6.1
        · skip
          go_simp
          refine hK _ _ ?_
          clear hK K
          refine wpAnyIn_ready (rs := [0]) (by kernel_rfl) (by simp) ?_
          refine AllReadyIn.cons rfl (fun K hK => ?_) AllReadyIn.nil
          go_simp
          refine hK _ _ ?_
          clear hK K
          refine wpAnyIn_ready (rs := [6]) (by kernel_rfl) (by simp) ?_
          refine AllReadyIn.cons rfl (fun K hK => ?_) AllReadyIn.nil
          refine stepIn_one rfl (.tmp 32) (.tmp 37) rfl w.heap.size gp cq P0 (P0 ++ [nth L sb]) (nth L sb) rfl (by simp [Act.eval, Act.put]) W.heap.size (by simp [Act.eval, Act.put]) (heap_alloc_new _ _) (OwnI.alloc (w := W.drew) ho _) (by omega) (by have := hbW.size; simp; omega) ?_
          intro g5 c5 w5 ho5 hg5 hf5
          have b1' : Boxed w5 w.heap.size 3 (.int .i64 (iv : Int)) := Boxed.kept (Boxed.alloc (W := W.drew) b1 _) hg5 (by simp; omega)
          have b2' : Boxed w5 (w.heap.size + 2) 22 (.slice (some ⟨gp, 0, none⟩) P0.length cq) := Boxed.kept (Boxed.alloc (W := W.drew) b2 _) hg5 (by simp; omega)
          have d3 := Boxed.cell b2'
          have d4 := Boxed.frozen b2'
          refine hK _ _ ?_
          clear hK K
          refine wpAnyIn_ready (rs := [7]) (by kernel_rfl) (by simp) ?_
          refine AllReadyIn.cons rfl (fun K hK => ?_) AllReadyIn.nil
          go_simp
          refine hK _ _ ?_
          clear hK K
          refine wpAnyIn_done (by kernel_rfl) ?_ _
          have f1 := b1'.other (B' := w.heap.size + 2) (by omega) (.slice (some ⟨g5, 0, none⟩) (P0.length + 1) c5)
          have f2 := b2'.set (.slice (some ⟨g5, 0, none⟩) (P0.length + 1) c5)
          have f3 := Boxed.cell f1
          have f4 := Boxed.frozen f1
          have hk := push_keeps (cp := cp) W hg5 b1 b2 ho hwr hbW hge (by omega) (by omega) hgp (.slice (some ⟨g5, 0, none⟩) (P0.length + 1) c5) (.int .i64 ((iv : Int) / 2)) trivial
          have ho6 := push_own ho5 hf5 hgs n1 n2 hsW (.slice (some ⟨g5, 0, none⟩) (P0.length + 1) c5) (.int .i64 ((iv : Int) / 2))
          have HL := Lib.hid (show (P0 ++ [nth L sb]).length = P0.length + 1 by simp)
          clear ho5 hf5 hg5 d3 d4
          obtain ⟨W6, hW6⟩ : ∃ W6, W6 = w5.setCell ⟨w.heap.size + 2, 0, none⟩ (.slice (some ⟨g5, 0, none⟩) (P0.length + 1) c5) := ⟨_, rfl⟩
          rw [← hW6] at f1 f2 f3 f4 hk ho6
          have hW6' : w5.setCell ⟨w.heap.size + 1 + 1, 0, none⟩ (.slice (some ⟨g5, 0, none⟩) (P0.length + 1) c5) = W6 := hW6.symm
          rw [hW6']
          clear hW6 hW6'
          gi_wp2
          refine ⟨hk.1.from _, hk.2.1, g5, c5, ?_, ?_, ?_, ho6.2.1, ho6.2.2, hk.2.2⟩
          · rw [HDV.out]; exact f1.set _
          · rw [HST.out, HPS.out, HL.out]; exact f2.other (by omega) _
          · rw [HST.out, HPS.out]; exact ho6.1
    · rw [if_neg hsb] at hps
      have HPS := Lib.hid hps
      clear hps
      obtain ⟨sb, hsbe⟩ : ∃ sb, sb = Dag.sib iv := ⟨_, rfl⟩
      rw [← hsbe] at hx hsb
      clear hsbe
      have t1 : decide ((sb : Int) < (L.length : Int)) = false := by simp; omega
      have t1' : decide (sb < L.length) = false := by simp; omega
      have hng : g ≠ w.heap.size := by omega
      gi_wp2
      refine ⟨(KeepsOthers.setCell _ _ _).from _, KeepL.of (Below.heap_setCell _ _ _ _ hng), gp, cq, ?_, ?_, ?_, n1, n2, hbW.setCell (p := ⟨w.heap.size, 0, none⟩) (Nat.le_refl _) _⟩
      · rw [HDV.out]; exact b1.set _
      · rw [HST.out, HPS.out, List.append_nil]; exact Boxed.other b2 (by omega) _
      · rw [HST.out, HPS.out, List.append_nil]; exact ho.through (fun o hh _ => (Below.heap_setCell _ _ _ _ n1).trans hh)
  case done =>
    rintro D ys W hD hS ⟨gp, cq, b1, b2, ho, n1, n2, hb⟩ hK
    have c2 := Boxed.cell b2
    gi_wp2
    refine ⟨by simp, .inl ⟨_, _, rfl, run_takeDeferred hK, ?_⟩⟩
    refine ⟨_, results_tmp rfl _ _ _, ?_⟩
    have hb2 := hb.trans (belowK_b (w := w) (Nat.le_refl _) W D (.deferred (some [])) (.deferred none) (by omega) hK rfl rfl)
    have ho2 : OwnI (W.putObj D (.deferred none)) w.heap.size gp cq (pfx zs i ys.length) := ho.through (fun o hh hc => (World.putObj_heap_other (fun e => by rw [e, hK] at hh; cases hh; cases hc)).trans hh)
    rw [pfx_end h1 h16 hi hS] at ho2 ⊢
    exact ho2.fresh hb2
  case stop =>
    rintro D c pre W _ h _
    exact h.elim
end Go.Proofs.Ytgmbacgpaagkhaa
