/- The root of a tree, of program and reference. Conditions: at most two million leaves. -/
import Derived.Test.YtgmbacgpaagkhaaLev
namespace Go.Proofs.Ytgmbacgpaagkhaa
open Go.RowKit Go.Shelf
set_option linter.unusedVariables false
set_option linter.unusedSimpArgs false
attribute [local go_sem] Oper.semAt_some

def rootV (l : List Int) : Int := if leavesB l = true then Dag.rootN 4 l else -1
theorem rootV_yes {l : List Int} (h : leavesB l = true) : rootV l = Dag.rootN 4 l := if_pos h
theorem rootV_no {l : List Int} (h : ¬ leavesB l = true) : rootV l = -1 := if_neg h
def rootAt (zs : List Int) : Nat → Int
  | 0 => -1
  | k + 1 => nth (lev zs k) 0
theorem root_lev : ∀ (f k : Nat) (zs : List Int), k ≤ f → (∀ j, j < k → 1 < (lev zs j).length) → (lev zs k).length ≤ 1 → Dag.rootN f zs = nth (lev zs k) 0
  | 0, 0, zs, _, _, _ => by simp [Dag.rootN, lev, nth, List.headD_eq_head?_getD, List.head?_eq_getElem?]
  | f + 1, 0, zs, _, _, h => by
    have h' : zs.length ≤ 1 := h
    rw [Dag.rootN, if_neg (by omega)]
    simp [lev, nth, List.headD_eq_head?_getD, List.head?_eq_getElem?]
  | f + 1, k + 1, zs, hk, h1, h2 => by
    have e : ∀ j, lev (Dag.up zs) j = lev zs (j + 1) := by
      intro j
      induction j with
      | zero => rfl
      | succ j ih => rw [lev, ih]; rfl
    have h0 : 1 < zs.length := h1 0 (by omega)
    rw [Dag.rootN, if_pos h0, root_lev f k (Dag.up zs) (by omega) (fun j hj => by rw [e]; exact h1 (j + 1) (by omega)) (by rw [e]; exact h2), e]
  | 0, k + 1, zs, hk, _, _ => by omega
theorem lev_stop {zs : List Int} (h1 : 1 ≤ zs.length) (h16 : zs.length ≤ 16) {k : Nat} (h : ∀ j, j < k → 1 < (lev zs j).length) : k ≤ 4 := by
  by_cases hk : k ≤ 4
  · exact hk
  · exfalso
    have e : ∀ j, (lev zs (j + 1)).length = ((lev zs j).length + 1) / 2 := fun j => by rw [lev, Dag.up_len]
    have h4 := h 4 (by omega)
    have e0 : (lev zs 0).length = zs.length := rfl
    have f1 : (lev zs 1).length = ((lev zs 0).length + 1) / 2 := e 0
    have f2 : (lev zs 2).length = ((lev zs 1).length + 1) / 2 := e 1
    have f3 : (lev zs 3).length = ((lev zs 2).length + 1) / 2 := e 2
    have f4 : (lev zs 4).length = ((lev zs 3).length + 1) / 2 := e 3
    omega
theorem root_end {zs : List Int} (h1 : 1 ≤ zs.length) (h16 : zs.length ≤ 16) {xs : List Lv} (h : LevEnd zs xs) : rootAt zs xs.length = Dag.rootN 4 zs := by
  obtain ⟨a, b, c⟩ := h
  obtain ⟨k, hk⟩ : ∃ k, xs.length = k + 1 := ⟨xs.length - 1, by omega⟩
  rw [hk] at b c ⊢
  have hb : ∀ j, j < k → 1 < (lev zs j).length := fun j hj => b j (by omega)
  rw [rootAt, root_lev 4 k zs (lev_stop h1 h16 hb) hb c]

theorem StepX.block {B : Nat} {row : Option Nat} {X Y : World} (h : StepX B row X Y) {k : Nat} (hk : k < X.heap.size) (hB : k < B) (hr : row ≠ some k) : Y.heap[k]? = X.heap[k]? := by
  rcases h with h | ⟨l, o, o', hl, _, _, rfl⟩
  · exact h.block k hk (fun e => hr e.symm)
  · exact World.putObj_heap_other (by omega)
theorem StepX.boxed {B : Nat} {row : Option Nat} {X Y : World} (h : StepX B row X Y) {k : Nat} {t : TypeId} {v : Value} (hb : Boxed X k t v) (hB : k < B) (hr : row ≠ some k) : Boxed Y k t v :=
  (h.block (Array.getElem?_eq_some_iff.1 hb).1 hB hr).trans hb
theorem StepX.below {B n₀ : Nat} {row : Option Nat} {w X Y : World} (h : StepX B row X Y) (hb : Below n₀ w X) (hn : n₀ ≤ w.heap.size) (hB : n₀ ≤ B) (hr : ∀ r, row = some r → n₀ ≤ r) : Below n₀ w Y := by
  rcases h with h | ⟨l, o, o', hl, _, _, rfl⟩
  · exact hb.grown h (Nat.le_trans hn hb.size) hr
  · exact ⟨hb.os, hb.tape, hb.output, by simpa using hb.size, fun k hk => (World.putObj_heap_other (by omega)).trans (hb.block k hk)⟩
theorem LevRd.put {zs : List Int} {s : List Lv} {x : Lv} {Z X : World} {B l : Nat} {o o' : Obj} (h : LevRd zs s x Z X) (hl : B ≤ l) (ho : X.heap[l]? = some o) (hc : o.isCells = false) : LevRd zs s x Z (X.putObj l o') := by
  obtain ⟨h1, h2, h3, h4⟩ := h
  refine ⟨h1, h2, ?_, h4⟩
  have hne : x.1 ≠ l := by
    obtain ⟨cs, t, hh, _⟩ := h3
    intro e
    rw [e, ho] at hh
    cases hh
    cases hc
  exact h3.block (World.putObj_heap_other hne)

theorem levels_any (a : Option Addr) (len cap : Nat) (w : World) :
    Calls Try.prog 35 #[.slice a len cap] w fun e w' => e = .returned (.func (.func 41) #[] #[.pointer (some ⟨w.heap.size, 0, none⟩)]) ∧ w' = w.alloc (.cells #[.slice a len cap] 22) := by
  go_enter Try.func35, Try.ntmps35
  go_wp2_with fail
  go_ret
  exact ⟨rfl, rfl⟩

set_option maxRecDepth 100000 in
set_option maxHeartbeats 2000000 in
theorem root_in (A : Option Addr) (c : Nat) (zs : List Int) (hv : leavesB zs = true) (w : World) (hI : Sl w w.heap.size A zs) :
    CallsIn Fence.wide 6 Try.prog 17 #[.slice A zs.length c] w fun e W' => e = .returned (.int .i64 (Dag.rootN 4 zs)) ∧ Below w.heap.size w W' := by
  obtain ⟨h1, h16, hz⟩ := leavesB_parts hv
  have hw : ∀ f, Fence.wide.fn f := fun _ => trivial
  have HV := Lib.hid hv
  have HZ := Lib.hid hz
  clear hv hz
  refine callsIn_of_wp_marks Try.func17 rfl trivial ?_ rfl
  simp only [Try.ntmps17, List.size_toArray, List.length_cons, List.length_nil, Nat.reduceAdd, Nat.reduceSub, Array.replicate_succ, Array.replicate_zero, List.push_toArray, List.append_toArray, List.nil_append, List.cons_append]
  gi_wp2_with (first
    | (gi_at_call 34; refine (callsIn_wide.2 (leaves_any _ _ zs _ _ hI (by omega))).mono ?_; rintro e w' ⟨rfl, rfl⟩; rw [HV.out])
    | (gi_at_call 35; refine (callsIn_wide.2 (levels_any _ _ _ _)).mono ?_; rintro e w' ⟨rfl, rfl⟩))
  have hB0 : Below w.heap.size w ((w.alloc (.cells #[.int .i64 (-1)] 3)).alloc (.cells #[.slice A zs.length c] 22)) := ((Below.refl _ w).alloc (Nat.le_refl _) _).alloc (by simp) _
  have bR := (Boxed.new w 3 (.int .i64 (-1))).alloc (.cells #[.slice A zs.length c] 22)
  have bS := Boxed.new (w.alloc (.cells #[.int .i64 (-1)] 3)) 22 (.slice A zs.length c)
  rw [World.size_alloc] at bS
  have hs0 : ((w.alloc (.cells #[.int .i64 (-1)] 3)).alloc (.cells #[.slice A zs.length c] 22)).heap.size = w.heap.size + 2 := by simp
  obtain ⟨W0, hW0⟩ : ∃ W, W = (w.alloc (.cells #[.int .i64 (-1)] 3)).alloc (.cells #[.slice A zs.length c] 22) := ⟨_, rfl⟩
  rw [← hW0] at hB0 bR bS hs0 ⊢
  clear hW0
  refine range_x (row := none) (F := Fence.wide) rfl (by omega) (gf := 41) (lb := #[.pointer (some ⟨w.heap.size + 1, 0, none⟩)]) rfl trivial (enters_of Try.func41 (by kernel_rfl) rfl)
    (levels_seq 5 (by omega) (w.heap.size + 1) c A zs HZ.out h1 h16 W0 bS (by omega) ((hI.below hB0).more hB0.size)) (fun r e => by cases e)
    (fun h k o ho hc => k o (h o ho hc) hc) (fun x W l o o' hl ho hc => KeepL.put x W l o o' ho hc) (fun _ => rfl)
    (fun pre W => Boxed W w.heap.size 3 (.int .i64 (rootAt zs pre.length)) ∧ Below w.heap.size w W) (fun _ _ _ => False)
    (fun s X Y h k => ⟨k.boxed h.1 (by omega) (by simp), k.below h.2 (Nat.le_refl _) (by omega) (fun r e => by cases e)⟩) (fun _ _ _ _ h _ => h)
    (fun s x Z X l o o' h hl ho hc => LevRd.put h hl ho hc) ⟨bR, hB0⟩
    (fun x => { tmps := #[.slice A zs.length c, undef, .int .i64 0, .pointer (some ⟨w.heap.size, 0, none⟩), .slice (some ⟨x.1, 0, none⟩) x.2.2.length x.2.1, .slice A zs.length c, .bool true, .bool false, .slice A zs.length c, .func (.func 41) #[] #[.pointer (some ⟨w.heap.size + 1, 0, none⟩)], .slice (some ⟨x.1, 0, none⟩) x.2.2.length x.2.1, undef, undef, undef, undef], defers := [] }) ?assign ?body ?done ?stop
  case assign =>
    intro l x W K hK
    simp only [encL]
    gi_wp2
    exact hK
  case body =>
    rintro l pre ⟨g, cp, L⟩ X W ⟨hxX, hbX⟩ ⟨hx, hb⟩ hsz hkeep ⟨e1, hge, hwr, hall⟩
    simp only at e1 hge hwr
    obtain ⟨l1, l2⟩ := lev_len h1 h16 pre.length
    rw [← e1] at l1 l2
    have hlt := (Array.getElem?_eq_some_iff.1 hxX).1
    have hne : g ≠ w.heap.size := by omega
    have c0 := hwr.cell (j := 0) (by omega)
    have c1 := hx.cell
    have c2 := hx.frozen
    have i1 : (0 : Int) < (L.length : Int) := by omega
    have HE1 := Lib.hid e1
    clear e1
    simp only
    gi_wp2
    refine ⟨(KeepsOthers.setCell _ _ _).from _, KeepL.of (Below.heap_setCell _ _ _ _ hne), ?_, hb.setCell (p := ⟨w.heap.size, 0, none⟩) (Nat.le_refl _) _⟩
    rw [List.length_append, List.length_singleton, rootAt, ← HE1.out]
    exact hx.set _
  case done =>
    rintro D ys W hD hS ⟨hx, hb⟩ hK
    have c2 := hx.cell
    gi_wp2
    refine ⟨by simp, .inl ⟨_, _, rfl, run_takeDeferred hK, ?_⟩⟩
    refine ⟨_, results_tmp rfl _ _ _, ?_, hb.trans (belowK_b (w := w) (Nat.le_refl _) W D _ _ (by omega) hK rfl rfl)⟩
    rw [root_end h1 h16 hS]
    simp
  case stop =>
    rintro D c pre W _ h _
    exact h.elim

theorem root_any (A : Option Addr) (c : Nat) (zs : List Int) (w : World) (h : Sl w w.heap.size A zs) (hl : zs.length ≤ 2000000) :
    Calls Try.prog 17 #[.slice A zs.length c] w fun e w' => e = .returned (.int .i64 (rootV zs)) ∧ Below w.heap.size w w' := by
  by_cases hv : leavesB zs = true
  · rw [rootV_yes hv]
    exact callsIn_wide.1 (root_in A c zs hv w h)
  · rw [rootV_no hv]
    have hv' : leavesB zs = false := by simpa using hv
    have HV := Lib.hid hv'
    clear hv hv'
    go_enter Try.func17, Try.ntmps17
    go_wp2_with (go_at_call 34; refine (leaves_any _ _ zs _ _ h hl).mono ?_; rintro e w1 ⟨rfl, rfl⟩; rw [HV.out])
    go_ret
    exact ⟨rfl, Below.refl _ _⟩

set_option maxHeartbeats 2000000 in
theorem rootS_any (A : Option Addr) (c : Nat) (zs : List Int) (w : World) (h : Sl w w.heap.size A zs) (hl : zs.length ≤ 2000000) :
    Calls Try.prog 16 #[.slice A zs.length c] w fun e w' => e = .returned (.int .i64 (rootV zs)) ∧ Below w.heap.size w w' := by
  by_cases hv : leavesB zs = true
  · rw [rootV_yes hv]
    obtain ⟨h1, h16, hz⟩ := leavesB_parts hv
    have HV := Lib.hid hv
    have HZ := Lib.hid hz
    clear hv hz
    go_enter Try.func16, Try.ntmps16
    go_wp2_with (go_at_call 32; refine (leavesS_any _ _ zs _ _ h hl).mono ?_; rintro e w1 ⟨rfl, rfl⟩; rw [HV.out])
    go_loopw [3] (fun v wr => ∃ (k : Nat) (A' : Option Addr) (c' : Nat), v = .slice A' (lev zs k).length c' ∧ Sl wr wr.heap.size A' (lev zs k) ∧ Below w.heap.size w wr ∧ ∀ j, j < k → 1 < (lev zs j).length) (fun v _ => sLen v)
    case atStart => exact ⟨0, A, c, rfl, h, Below.refl _ _, fun j hj => absurd hj (by omega)⟩
    case round =>
      obtain ⟨k, A', c', rfl, hs, hb, hall⟩ := hrel
      obtain ⟨l1, l2⟩ := lev_len h1 h16 k
      have HIN := Lib.hid (lev_in HZ.out k)
      have HA := Lib.hid hall
      clear hall
      have HUP := Lib.hid (show Dag.up (lev zs k) = lev zs (k + 1) from rfl)
      obtain ⟨L, hL⟩ : ∃ L, L = lev zs k := ⟨_, rfl⟩
      rw [← hL] at hs l1 l2 HIN HUP ⊢
      have HL := Lib.hid hL
      clear hL
      by_cases hlen : 1 < L.length
      · have t1 : decide ((1 : Int) < (L.length : Int)) = true := by simp; omega
        go_wp2_with (go_at_call 33; refine (up_any _ _ L _ hs HIN.out (by omega)).mono ?_; rintro e w4 ⟨g4, c4, hg4, rfl, u4, hc4, hm4, hb4⟩)
        have hB4 : Below w.heap.size w w4 := hb.trans (hb4.mono hb.size)
        exact ⟨⟨k + 1, some ⟨g4, 0, none⟩, c4, by rw [← HUP.out], by rw [← HUP.out]; exact u4.sl', hB4, fun j hj => by
          by_cases e : j = k
          · rw [e, ← HL.out]; exact hlen
          · exact HA.out j (by omega)⟩, by simp only [sLen]; rw [Dag.up_len]; omega⟩
      · have t1 : decide ((1 : Int) < (L.length : Int)) = false := by simp; omega
        have t1' : decide (1 < L.length) = false := by simp; omega
        obtain ⟨b, off, rfl, hbl, hc0⟩ := hs.at_ (k := 0) (by omega)
        have HR := Lib.hid (root_lev 4 k zs (lev_stop h1 h16 HA.out) HA.out (by rw [← HL.out]; omega))
        rw [← HL.out] at HR
        have i1 : (0 : Int) < (L.length : Int) := by omega
        simp only [Nat.add_zero] at hc0
        go_wp2_with fail
        go_ret
        exact ⟨by rw [HR.out]; rfl, hb⟩
  · rw [rootV_no hv]
    have hv' : leavesB zs = false := by simpa using hv
    have HV := Lib.hid hv'
    clear hv hv'
    go_enter Try.func16, Try.ntmps16
    go_wp2_with (go_at_call 32; refine (leavesS_any _ _ zs _ _ h hl).mono ?_; rintro e w1 ⟨rfl, rfl⟩; rw [HV.out])
    go_ret
    exact ⟨rfl, Below.refl _ _⟩
end Go.Proofs.Ytgmbacgpaagkhaa
