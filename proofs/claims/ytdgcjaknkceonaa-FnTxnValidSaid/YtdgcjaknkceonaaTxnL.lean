/- The walk of FnTxnValid. No condition. -/
import Derived.Test.YtdgcjaknkceonaaTxnA
namespace Go.Proofs.Ytdgcjaknkceonaa
open Go.RowKit
set_option linter.unusedVariables false
set_option linter.unusedSimpArgs false

def AggPost (k B g p : Nat) (w : World) (r : Ending) (w' : World) : Prop :=
  ∃ (f t s e : Int) (p' : Nat), r = .returned (.agg #[.int .i64 f, .int .i64 t, .int .i64 s, .int .i64 e]) ∧ p' ≤ p + k ∧ RdAt w' B g p' ∧ w.grownBy w' (some g)

theorem grown_frz {w w' : World} {g : Nat} (h : w.grownBy w' (some g)) {b : Nat} (hb : b < w.heap.size) (hne : b ≠ g) (o : Nat) : w'.frozen? ⟨b, o, none⟩ = w.frozen? ⟨b, o, none⟩ :=
  World.frozen?_of_block (h.block b hb (fun e => hne (by injection e)))

theorem grown_setCell {a w : World} {row : Option Nat} (h : a.grownBy w row) {p : Addr} (hp : a.heap.size ≤ p.block) (u : Value) : a.grownBy (w.setCell p u) row :=
  ⟨h.os, h.tape, h.output, by simpa [World.setCell] using h.size, fun i hi hne => (Below.heap_setCell w p u i (by omega)).trans (h.block i hi hne)⟩
theorem RdAt.setCell {w : World} {B g p : Nat} (h : RdAt w B g p) {a : Addr} (ha : B ≤ a.block) (hne : g ≠ a.block) (u : Value) : RdAt (w.setCell a u) B g p := by
  obtain ⟨hB, A, n, c, zs, hg, hi⟩ := h
  exact ⟨hB, A, n, c, zs, (Below.heap_setCell w a u g hne).trans hg, hi.below ((Below.refl B w).setCell ha u)⟩

set_option maxHeartbeats 8000000 in
theorem l92Txn_any (B g p : Nat) (w : World) (h : RdAt w B g p) (hp : p ≤ 100000) :
    Calls Try.prog 50 #[.pointer (some ⟨g, 0, none⟩)] w (AggPost 7 B g p w) := by
  have hlt := h.lt
  go_enter Try.func50, Try.ntmps50
  go_wp2_with fail
  refine (pick_any 6 B g p _ (h.alloc _) (by omega) (by omega)).mono ?_
  rintro r w1 ⟨f, rfl, hf0, hf1, hr1, hg1, hs1⟩
  go_wp2_with fail
  refine (pick_any 6 B g (p + 1) _ hr1 (by omega) (by omega)).mono ?_
  rintro r w2 ⟨t, rfl, ht0, ht1, hr2, hg2, hs2⟩
  go_wp2_with fail
  refine (pick_any 99 B g (p + 1 + 1) _ hr2 (by omega) (by omega)).mono ?_
  rintro r w3 ⟨s, rfl, hs0, hs1', hr3, hg3, hs3⟩
  go_wp2_with fail
  refine (pick_any 10 B g (p + 1 + 1 + 1) _ hr3 (by omega) (by omega)).mono ?_
  rintro r w4 ⟨e, rfl, he0, he1, hr4, hg4, hs4⟩
  have hS : w4.heap.size = w.heap.size + 1 := by rw [hs4, hs3, hs2, hs1]; simp
  have hG := grown_trans (grown_trans (grown_trans hg1 hg2) hg3) hg4
  have hR := grown_far hG (b := w.heap.size) (by simp) (by omega)
  have hZ := grown_frz hG (b := w.heap.size) (by simp) (by omega)
  clear hs1 hs2 hs3 hs4 hg1 hg2 hg3 hg4
  have hft : (f == t) = true ∨ (f == t) = false := by cases (f == t) <;> simp
  rcases hft with g1 | g1
  all_goals
    go_wp2_with fail
    refine (pick_any 30 B g (p + 1 + 1 + 1 + 1) _ (hr4.alloc _) (by omega) (by omega)).mono ?_
    rintro r w5 ⟨v, rfl, hv0, hv1, hr5, hg5, hs5⟩
    have hs6 : w5.heap.size = w.heap.size + 1 + 1 := by rw [hs5]; simp [hS]
    clear hs5
    have hc := grown_far hg5 (b := w.heap.size + 1) (by simp [hS]) (by omega)
    have hz := grown_frz hg5 (b := w.heap.size + 1) (by simp [hS]) (by omega)
    have hc' := grown_far hg5 (b := w.heap.size) (by simp [hS]; omega) (by omega)
    have hz' := grown_frz hg5 (b := w.heap.size) (by simp [hS]; omega) (by omega)
    have hw5 : w.grownBy w5 (some g) := grown_trans (grown_alloc (grown_trans (World.grownBy_alloc w _ _) hG) _) hg5
    have hBg : B ≤ g := h.1
    by_cases v0 : v = 0
    · subst v0
      go_wp2_with fail
      refine bodyPost_ret (v := .agg #[.int .i64 f, .int .i64 f, .int .i64 (1 + s), .int .i64 e]) (by simp [results, Try.results50, go_sem, hc', hR, hS]) rfl ⟨_, _, _, _, _, rfl, ?_, ((((hr5.setCell ?_ ?_ _).setCell ?_ ?_ _).setCell ?_ ?_ _).setCell ?_ ?_ _).setCell ?_ ?_ _, grown_setCell (grown_setCell (grown_setCell (grown_setCell (grown_setCell hw5 ?_ _) ?_ _) ?_ _) ?_ _) ?_ _⟩ <;> (try simp only []) <;> omega
    · have n0 : (v == 0) = false := by simpa using v0
      by_cases v1 : v = 1
      · subst v1
        go_wp2_with fail
        refine (pick_any 2 B g (p + 1 + 1 + 1 + 1 + 1) _ hr5 (by omega) (by omega)).mono ?_
        rintro r w6 ⟨u, rfl, hu0, hu1, hr6, hg6, hs7⟩
        have hd := grown_far hg6 (b := w.heap.size + 1) (by omega) (by omega)
        have hy := grown_frz hg6 (b := w.heap.size + 1) (by omega) (by omega)
        have hd' := grown_far hg6 (b := w.heap.size) (by omega) (by omega)
        have hy' := grown_frz hg6 (b := w.heap.size) (by omega) (by omega)
        have hw6 := grown_trans hw5 hg6
        go_wp2_with fail
        first
          | (refine bodyPost_ret (v := .agg #[.int .i64 f, .int .i64 t, .int .i64 (u * 100), .int .i64 e]) ?_ rfl ?_
             · (simp [results, Try.results50, go_sem, hc', hR, hd', hd, hc, hS]; done)
             · exact ⟨_, _, _, _, _, rfl, by omega, (((((hr6.setCell (by first | omega | (simp only []; omega)) (by first | omega | (simp only []; omega)) _).setCell (by first | omega | (simp only []; omega)) (by first | omega | (simp only []; omega)) _).setCell (by first | omega | (simp only []; omega)) (by first | omega | (simp only []; omega)) _).setCell (by first | omega | (simp only []; omega)) (by first | omega | (simp only []; omega)) _).setCell (by first | omega | (simp only []; omega)) (by first | omega | (simp only []; omega)) _), (grown_setCell (grown_setCell (grown_setCell (grown_setCell (grown_setCell hw6 (by first | omega | (simp only []; omega)) _) (by first | omega | (simp only []; omega)) _) (by first | omega | (simp only []; omega)) _) (by first | omega | (simp only []; omega)) _) (by first | omega | (simp only []; omega)) _)⟩)
          | (refine bodyPost_ret (v := .agg #[.int .i64 f, .int .i64 ((t + 1) % 6), .int .i64 (u * 100), .int .i64 e]) ?_ rfl ?_
             · (simp [results, Try.results50, go_sem, hc', hR, hd', hd, hc, hS]; done)
             · exact ⟨_, _, _, _, _, rfl, by omega, (((((hr6.setCell (by first | omega | (simp only []; omega)) (by first | omega | (simp only []; omega)) _).setCell (by first | omega | (simp only []; omega)) (by first | omega | (simp only []; omega)) _).setCell (by first | omega | (simp only []; omega)) (by first | omega | (simp only []; omega)) _).setCell (by first | omega | (simp only []; omega)) (by first | omega | (simp only []; omega)) _).setCell (by first | omega | (simp only []; omega)) (by first | omega | (simp only []; omega)) _), (grown_setCell (grown_setCell (grown_setCell (grown_setCell (grown_setCell hw6 (by first | omega | (simp only []; omega)) _) (by first | omega | (simp only []; omega)) _) (by first | omega | (simp only []; omega)) _) (by first | omega | (simp only []; omega)) _) (by first | omega | (simp only []; omega)) _)⟩)
      · have n1 : (v == 1) = false := by simpa using v1
        by_cases v2 : v = 2
        · subst v2
          go_wp2_with fail
          refine (pick_any 2 B g (p + 1 + 1 + 1 + 1 + 1) _ hr5 (by omega) (by omega)).mono ?_
          rintro r w6 ⟨u, rfl, hu0, hu1, hr6, hg6, hs7⟩
          have hd := grown_far hg6 (b := w.heap.size + 1) (by omega) (by omega)
          have hy := grown_frz hg6 (b := w.heap.size + 1) (by omega) (by omega)
          have hd' := grown_far hg6 (b := w.heap.size) (by omega) (by omega)
          have hy' := grown_frz hg6 (b := w.heap.size) (by omega) (by omega)
          have hw6 := grown_trans hw5 hg6
          go_wp2_with fail
          first
            | (refine bodyPost_ret (v := .agg #[.int .i64 f, .int .i64 t, .int .i64 (1 + s), .int .i64 (u * 11 - 1)]) ?_ rfl ?_
               · (simp [results, Try.results50, go_sem, hc', hR, hd', hd, hc, hS]; done)
               · exact ⟨_, _, _, _, _, rfl, by omega, (((((hr6.setCell (by first | omega | (simp only []; omega)) (by first | omega | (simp only []; omega)) _).setCell (by first | omega | (simp only []; omega)) (by first | omega | (simp only []; omega)) _).setCell (by first | omega | (simp only []; omega)) (by first | omega | (simp only []; omega)) _).setCell (by first | omega | (simp only []; omega)) (by first | omega | (simp only []; omega)) _).setCell (by first | omega | (simp only []; omega)) (by first | omega | (simp only []; omega)) _), (grown_setCell (grown_setCell (grown_setCell (grown_setCell (grown_setCell hw6 (by first | omega | (simp only []; omega)) _) (by first | omega | (simp only []; omega)) _) (by first | omega | (simp only []; omega)) _) (by first | omega | (simp only []; omega)) _) (by first | omega | (simp only []; omega)) _)⟩)
            | (refine bodyPost_ret (v := .agg #[.int .i64 f, .int .i64 ((t + 1) % 6), .int .i64 (1 + s), .int .i64 (u * 11 - 1)]) ?_ rfl ?_
               · (simp [results, Try.results50, go_sem, hc', hR, hd', hd, hc, hS]; done)
               · exact ⟨_, _, _, _, _, rfl, by omega, (((((hr6.setCell (by first | omega | (simp only []; omega)) (by first | omega | (simp only []; omega)) _).setCell (by first | omega | (simp only []; omega)) (by first | omega | (simp only []; omega)) _).setCell (by first | omega | (simp only []; omega)) (by first | omega | (simp only []; omega)) _).setCell (by first | omega | (simp only []; omega)) (by first | omega | (simp only []; omega)) _).setCell (by first | omega | (simp only []; omega)) (by first | omega | (simp only []; omega)) _), (grown_setCell (grown_setCell (grown_setCell (grown_setCell (grown_setCell hw6 (by first | omega | (simp only []; omega)) _) (by first | omega | (simp only []; omega)) _) (by first | omega | (simp only []; omega)) _) (by first | omega | (simp only []; omega)) _) (by first | omega | (simp only []; omega)) _)⟩)
        · have n2 : (v == 2) = false := by simpa using v2
          by_cases v3 : v = 3
          · subst v3
            go_wp2_with fail
            refine (pick_any 2 B g (p + 1 + 1 + 1 + 1 + 1) _ hr5 (by omega) (by omega)).mono ?_
            rintro r w6 ⟨u, rfl, hu0, hu1, hr6, hg6, hs7⟩
            have hd := grown_far hg6 (b := w.heap.size + 1) (by omega) (by omega)
            have hy := grown_frz hg6 (b := w.heap.size + 1) (by omega) (by omega)
            have hd' := grown_far hg6 (b := w.heap.size) (by omega) (by omega)
            have hy' := grown_frz hg6 (b := w.heap.size) (by omega) (by omega)
            have hw6 := grown_trans hw5 hg6
            go_wp2_with fail
            first
              | (refine bodyPost_ret (v := .agg #[.int .i64 (u * 7 - 1), .int .i64 t, .int .i64 (1 + s), .int .i64 e]) ?_ rfl ?_
                 · (simp [results, Try.results50, go_sem, hc', hR, hd', hd, hc, hS]; done)
                 · exact ⟨_, _, _, _, _, rfl, by omega, (((((hr6.setCell (by first | omega | (simp only []; omega)) (by first | omega | (simp only []; omega)) _).setCell (by first | omega | (simp only []; omega)) (by first | omega | (simp only []; omega)) _).setCell (by first | omega | (simp only []; omega)) (by first | omega | (simp only []; omega)) _).setCell (by first | omega | (simp only []; omega)) (by first | omega | (simp only []; omega)) _).setCell (by first | omega | (simp only []; omega)) (by first | omega | (simp only []; omega)) _), (grown_setCell (grown_setCell (grown_setCell (grown_setCell (grown_setCell hw6 (by first | omega | (simp only []; omega)) _) (by first | omega | (simp only []; omega)) _) (by first | omega | (simp only []; omega)) _) (by first | omega | (simp only []; omega)) _) (by first | omega | (simp only []; omega)) _)⟩)
              | (refine bodyPost_ret (v := .agg #[.int .i64 (u * 7 - 1), .int .i64 ((t + 1) % 6), .int .i64 (1 + s), .int .i64 e]) ?_ rfl ?_
                 · (simp [results, Try.results50, go_sem, hc', hR, hd', hd, hc, hS]; done)
                 · exact ⟨_, _, _, _, _, rfl, by omega, (((((hr6.setCell (by first | omega | (simp only []; omega)) (by first | omega | (simp only []; omega)) _).setCell (by first | omega | (simp only []; omega)) (by first | omega | (simp only []; omega)) _).setCell (by first | omega | (simp only []; omega)) (by first | omega | (simp only []; omega)) _).setCell (by first | omega | (simp only []; omega)) (by first | omega | (simp only []; omega)) _).setCell (by first | omega | (simp only []; omega)) (by first | omega | (simp only []; omega)) _), (grown_setCell (grown_setCell (grown_setCell (grown_setCell (grown_setCell hw6 (by first | omega | (simp only []; omega)) _) (by first | omega | (simp only []; omega)) _) (by first | omega | (simp only []; omega)) _) (by first | omega | (simp only []; omega)) _) (by first | omega | (simp only []; omega)) _)⟩)
          · have n3 : (v == 3) = false := by simpa using v3
            go_wp2_with fail
            first
              | (refine bodyPost_ret (v := .agg #[.int .i64 f, .int .i64 t, .int .i64 (1 + s), .int .i64 e]) ?_ rfl ?_
                 · (simp [results, Try.results50, go_sem, hc', hR, hc, hS]; done)
                 · exact ⟨_, _, _, _, _, rfl, by omega, ((((hr5.setCell (by first | omega | (simp only []; omega)) (by first | omega | (simp only []; omega)) _).setCell (by first | omega | (simp only []; omega)) (by first | omega | (simp only []; omega)) _).setCell (by first | omega | (simp only []; omega)) (by first | omega | (simp only []; omega)) _).setCell (by first | omega | (simp only []; omega)) (by first | omega | (simp only []; omega)) _), (grown_setCell (grown_setCell (grown_setCell (grown_setCell hw5 (by first | omega | (simp only []; omega)) _) (by first | omega | (simp only []; omega)) _) (by first | omega | (simp only []; omega)) _) (by first | omega | (simp only []; omega)) _)⟩)
              | (refine bodyPost_ret (v := .agg #[.int .i64 f, .int .i64 ((t + 1) % 6), .int .i64 (1 + s), .int .i64 e]) ?_ rfl ?_
                 · (simp [results, Try.results50, go_sem, hc', hR, hc, hS]; done)
                 · exact ⟨_, _, _, _, _, rfl, by omega, ((((hr5.setCell (by first | omega | (simp only []; omega)) (by first | omega | (simp only []; omega)) _).setCell (by first | omega | (simp only []; omega)) (by first | omega | (simp only []; omega)) _).setCell (by first | omega | (simp only []; omega)) (by first | omega | (simp only []; omega)) _).setCell (by first | omega | (simp only []; omega)) (by first | omega | (simp only []; omega)) _), (grown_setCell (grown_setCell (grown_setCell (grown_setCell hw5 (by first | omega | (simp only []; omega)) _) (by first | omega | (simp only []; omega)) _) (by first | omega | (simp only []; omega)) _) (by first | omega | (simp only []; omega)) _)⟩)

def AggBelow (w : World) (r : Ending) (w' : World) : Prop :=
  ∃ f t s e : Int, r = .returned (.agg #[.int .i64 f, .int .i64 t, .int .i64 s, .int .i64 e]) ∧ Below w.heap.size w w'

set_option maxHeartbeats 1000000 in
theorem drawTxn_any (A : Option Addr) (n c : Nat) (zs : List Int) (w : World) (h : Ints .u8 w w.heap.size A n c zs) :
    Calls Try.prog 34 #[.slice A n c] w (AggBelow w) := by
  go_enter Try.func34, Try.ntmps34
  go_wp2_with fail
  refine (open_any A n c zs _ ((h.below ((Below.refl _ _).alloc (Nat.le_refl _) _)).more (by simp))).mono ?_
  rintro e w1 ⟨rfl, hr1, hb1, hs1⟩
  simp only [World.size_alloc] at hr1 hb1 hs1
  go_wp2_with fail
  refine (l92Txn_any (w.heap.size + 1) (w.heap.size + 1) 0 _ hr1 (by omega)).mono ?_
  rintro r w2 ⟨f, t, s, e, p', rfl, hp, hr2, hg2⟩
  have hb2 : Below (w.heap.size + 1) (w.alloc (.cells #[.int .i64 0, .int .i64 0, .int .i64 0, .int .i64 0] 30)) w2 :=
    hb1.trans (grown_below hg2 (Nat.le_refl _) (by omega))
  have hc := fun o => hb2.cell (p := ⟨w.heap.size, o, none⟩) (by simp)
  have hz := fun o => hb2.frozen (p := ⟨w.heap.size, o, none⟩) (by simp)
  have hB : Below w.heap.size w w2 := ((Below.refl _ w).alloc (Nat.le_refl _) _).trans (hb2.mono (by omega))
  go_wp2_with fail
  refine bodyPost_ret (v := .agg #[.int .i64 f, .int .i64 t, .int .i64 s, .int .i64 e]) (by simp [results, Try.results34, go_sem, hc]) rfl ⟨f, t, s, e, rfl, ?_⟩
  exact (((hB.setCell (p := ⟨w.heap.size, 0, none⟩) (Nat.le_refl _) _).setCell (p := ⟨w.heap.size, 1, none⟩) (Nat.le_refl _) _).setCell (p := ⟨w.heap.size, 2, none⟩) (Nat.le_refl _) _).setCell (p := ⟨w.heap.size, 3, none⟩) (Nat.le_refl _) _

set_option maxHeartbeats 4000000 in
theorem walk_FnTxnValid (a0 : Option Addr) (len0 cap0 : Nat) (z0 : List Int) (w : World) (w0 : Ints .u8 w w.heap.size a0 len0 cap0 z0) :
    Calls Try.prog 14 #[.slice a0 len0 cap0] w fun e w' => e = .returned (.bool true) ∧ Below w.heap.size w w' := by
  by_cases h1 : len0 ≤ 1048576
  · have g1 : decide (1048576 < len0) = false := by simp; omega
    go_enter Try.func14, Try.ntmps14
    go_wp2_with fail
    refine (drawTxn_any a0 len0 cap0 z0 _ w0).mono ?_
    rintro r w2 ⟨f, t, s, e, rfl, hb⟩
    have hsz := hb.size
    go_wp2_with fail
    refine (txn_any f t s e _).mono ?_
    rintro r w3 ⟨rfl, hb3⟩
    have hc3 := fun o => hb3.cell (p := ⟨w2.heap.size, o, none⟩) (by simp)
    go_wp2_with fail
    refine (txnS_any f t s e _).mono ?_
    rintro r w4 ⟨rfl, hb4⟩
    have hl3 : w2.heap.size < w3.heap.size := by have := hb3.size; simp at this; omega
    have hl4 : w2.heap.size < w4.heap.size := by have := hb4.size; omega
    have hc4 := fun o => hb4.cell (p := ⟨w2.heap.size, o, none⟩) (by simp; omega)
    have hB4 : Below w.heap.size w w4 := (hb.trans (((Below.refl _ w2).alloc hsz _).trans (hb3.mono (by simp; omega)))).trans (hb4.mono (by omega))
    by_cases hv : txnB f t s e = true
    · have hne : (f != t) = true := by simp [txnB] at hv; simp; omega
      have ha : txnB t f s e = true := by simp [txnB] at hv ⊢; omega
      have hb' : txnB f f s e = false := by simp [txnB]
      rw [hv]
      have HV := Lib.hid hv
      clear hv
      go_wp2_with fail
      refine (txn_any t f s e _).mono ?_
      rintro r w5 ⟨rfl, hb5⟩
      rw [ha]
      have HA := Lib.hid ha
      clear ha
      have hl5 : w4.heap.size + 1 < w5.heap.size := by have := hb5.size; simp at this; omega
      have hc5 := fun b o h => hb5.cell (p := ⟨b, o, none⟩) h
      have q0 : w5.cell? ⟨w4.heap.size + 1, 0, none⟩ = some (.int .i64 f) := by rw [hc5 _ _ (by simp)]; go_simp
      have q1 : w5.cell? ⟨w4.heap.size + 1, 1, none⟩ = some (.int .i64 f) := by rw [hc5 _ _ (by simp)]; go_simp
      have q2 : w5.cell? ⟨w4.heap.size + 1, 2, none⟩ = some (.int .i64 s) := by rw [hc5 _ _ (by simp)]; go_simp
      have q3 : w5.cell? ⟨w4.heap.size + 1, 3, none⟩ = some (.int .i64 e) := by rw [hc5 _ _ (by simp)]; go_simp
      clear hc5
      go_wp2_with fail
      refine (txn_any f f s e _).mono ?_
      rintro r w6 ⟨rfl, hb6⟩
      rw [hb']
      clear hb'
      go_wp2_with fail
      go_ret
      refine ⟨rfl, ?_⟩
      have s4 := hB4.size
      exact ((((hB4.alloc s4 _).alloc (by simp; omega) _).trans (hb5.mono (by simp; omega)))).trans (hb6.mono (by omega))
    · have hv' : txnB f t s e = false := by simpa using hv
      rw [hv']
      have HV := Lib.hid hv'
      clear hv' hv
      go_wp2_with fail
      go_ret
      exact ⟨rfl, hB4⟩
  · have g1 : decide (1048576 < len0) = true := by simp; omega
    go_enter Try.func14, Try.ntmps14
    go_wp2_with fail
    go_ret
    exact ⟨rfl, Below.refl _ _⟩
end Go.Proofs.Ytdgcjaknkceonaa
