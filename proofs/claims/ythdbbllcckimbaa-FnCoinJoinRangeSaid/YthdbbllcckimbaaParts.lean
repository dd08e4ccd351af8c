/- Lists of structs of two integers in memory: copied, compared, counted. Conditions: the lists are within two million elements. -/
import Derived.Test.YthdbbllcckimbaaInts
import Derived.Deep.RegionWith
import Derived.Deep.RegionHeld3
import Derived.Laws.MakeOwn
namespace Go.Proofs.Ythdbbllcckimbaa
open Go.RowKit
set_option linter.unusedVariables false
set_option linter.unusedSimpArgs false

def fst_ (l : List (Int × Int)) (j : Nat) : Int := (l.getD j (0, 0)).1
def snd_ (l : List (Int × Int)) (j : Nat) : Int := (l.getD j (0, 0)).2
theorem pair_ext {a b : List (Int × Int)} (hn : a.length = b.length) (h : ∀ j, j < a.length → fst_ a j = fst_ b j ∧ snd_ a j = snd_ b j) : a = b := by
  apply List.ext_getElem hn
  intro j h1 h2
  have := h j h1
  simp only [fst_, snd_, List.getD_eq_getElem?_getD, List.getElem?_eq_getElem h1, List.getElem?_eq_getElem h2, Option.getD_some] at this
  exact Prod.ext this.1 this.2

/-- The slice with address A and the length of l reads as l, in a block below B. -/
def Pl (w : World) (B : Nat) (A : Option Addr) (l : List (Int × Int)) : Prop :=
  l ≠ [] → ∃ b off, A = some ⟨b, off, none⟩ ∧ b < B ∧ ∀ j, j < l.length → w.cell? ⟨b, off + j * 2, none⟩ = some (.int .i64 (fst_ l j)) ∧ w.cell? ⟨b, off + j * 2 + 1, none⟩ = some (.int .i64 (snd_ l j))
theorem Pl.nil (w : World) (B : Nat) (A : Option Addr) : Pl w B A [] := fun h => absurd rfl h
theorem Pl.below {w w' : World} {B : Nat} {A : Option Addr} {l : List (Int × Int)} (h : Pl w B A l) (hb : Below B w w') : Pl w' B A l := fun hl => by
  obtain ⟨b, off, e, hlt, hc⟩ := h hl
  exact ⟨b, off, e, hlt, fun j hj => ⟨(hb.cell (p := ⟨b, off + j * 2, none⟩) hlt).trans (hc j hj).1, (hb.cell (p := ⟨b, off + j * 2 + 1, none⟩) hlt).trans (hc j hj).2⟩⟩
theorem Pl.more {w : World} {B B' : Nat} {A : Option Addr} {l : List (Int × Int)} (h : Pl w B A l) (hB : B ≤ B') : Pl w B' A l := fun hl => by
  obtain ⟨b, off, e, hlt, hc⟩ := h hl
  exact ⟨b, off, e, by omega, hc⟩
theorem Pl.drew {w : World} {B : Nat} {A : Option Addr} {l : List (Int × Int)} (h : Pl w B A l) : Pl w.drew B A l := h
theorem Pl.drewN {w : World} {B : Nat} {A : Option Addr} {l : List (Int × Int)} (h : Pl w B A l) (n : Nat) : Pl (w.drewN n) B A l := h
theorem Pl.at_ {w : World} {B : Nat} {A : Option Addr} {l : List (Int × Int)} (h : Pl w B A l) {k : Nat} (hk : k < l.length) :
    ∃ b off, A = some ⟨b, off, none⟩ ∧ b < B ∧ w.cell? ⟨b, off + k * 2, none⟩ = some (.int .i64 (fst_ l k)) ∧ w.cell? ⟨b, off + k * 2 + 1, none⟩ = some (.int .i64 (snd_ l k)) := by
  obtain ⟨b, off, e, hlt, hc⟩ := h (by intro e; rw [e] at hk; simp at hk)
  exact ⟨b, off, e, hlt, (hc k hk).1, (hc k hk).2⟩
/-- The cells of a row of pairs, by the index. -/
def pcell (l : List (Int × Int)) (i : Nat) : Value := .int .i64 (if i % 2 = 0 then fst_ l (i / 2) else snd_ l (i / 2))
theorem pcell_0 (l : List (Int × Int)) (k : Nat) : pcell l (k * 2) = .int .i64 (fst_ l k) := by
  unfold pcell; rw [if_pos (by omega), show k * 2 / 2 = k by omega]
theorem pcell_1 (l : List (Int × Int)) (k : Nat) : pcell l (k * 2 + 1) = .int .i64 (snd_ l k) := by
  unfold pcell; rw [if_neg (by omega), show (k * 2 + 1) / 2 = k by omega]
theorem Pl.of_row {w : World} {b n : Nat} {t : TypeId} {l : List (Int × Int)} (h : w.rowIs b t n (pcell l)) (hn : l.length * 2 ≤ n) : Pl w (b + 1) (some ⟨b, 0, none⟩) l :=
  fun _ => ⟨b, 0, rfl, by omega, fun j hj => ⟨by rw [Nat.zero_add, h.cell (by omega), pcell_0], by rw [Nat.zero_add, h.cell (by omega), pcell_1]⟩⟩
theorem Pl.take {w : World} {B : Nat} {A : Option Addr} {l : List (Int × Int)} (h : Pl w B A l) (n : Nat) : Pl w B A (l.take n) := fun hl => by
  obtain ⟨b, off, e, hlt, hc⟩ := h (by intro e; rw [e] at hl; simp at hl)
  refine ⟨b, off, e, hlt, fun j hj => ?_⟩
  have hj' : j < n ∧ j < l.length := by simp at hj; omega
  have := hc j hj'.2
  simpa [fst_, snd_, hj'.1] using this

def eqP (a b : List (Int × Int)) : Bool := decide (a = b)
theorem eqP_true {a b : List (Int × Int)} (hn : a.length = b.length) (h : ∀ j, j < a.length → fst_ a j = fst_ b j ∧ snd_ a j = snd_ b j) : eqP a b = true := by
  simp only [eqP, decide_eq_true_eq]; exact pair_ext hn h
theorem eqP_false {a b : List (Int × Int)} (k : Nat) (h : ¬ (fst_ a k = fst_ b k ∧ snd_ a k = snd_ b k)) : eqP a b = false := by
  simp only [eqP, decide_eq_false_iff_not]
  rintro rfl
  exact h ⟨rfl, rfl⟩
def BoolB (b : Bool) (w : World) (e : Ending) (w' : World) : Prop := e = .returned (.bool b) ∧ Below w.heap.size w w'
theorem below_n {B : Nat} {a w : World} (h : Below B a w) (n : Nat) : Below B a (w.drewN n) := ⟨h.os, h.tape, h.output, h.size, h.block⟩

set_option maxHeartbeats 1000000 in
theorem sz_any (A : Option Addr) (l : List (Int × Int)) (c : Nat) (left : Int) (w : World) (h0 : 0 ≤ left) (h1 : left ≤ 1048576) (hl : l.length ≤ 9223372036854775807) :
    Calls Try.prog 28 #[.slice A l.length c, .int .i64 left] w fun e w' => e = .returned (.int .i64 (szV l.length left)) ∧ w = w' := by
  by_cases h : (l.length : Int) ≤ left
  · rw [szV_pos h]
    go_enter Try.func28, Try.ntmps28
    go_wp2
    go_ret
    exact ⟨rfl, rfl⟩
  · rw [szV_neg h]
    go_enter Try.func28, Try.ntmps28
    go_wp2
    go_ret
    exact ⟨rfl, rfl⟩

set_option maxHeartbeats 1000000 in
theorem toOne_any (a b : Int) (w : World) : Calls Try.prog 55 #[.agg #[.int .i64 a, .int .i64 b]] w fun r w' => r = .returned (.agg #[.int .i64 a, .int .i64 b]) ∧ Below w.heap.size w w' := by
  go_enter Try.func55, Try.ntmps55
  go_wp2
  refine bodyPost_ret (v := .agg #[.int .i64 a, .int .i64 b]) (by simp [results, Try.results55, go_sem]) rfl ⟨rfl, ?_⟩
  exact (((Below.refl _ _).alloc (Nat.le_refl _) _).alloc (by simp) _).alloc (by simp; omega) _

set_option maxHeartbeats 1000000 in
theorem eqOne_any (a b a' b' : Int) (w : World) : Calls Try.prog 56 #[.agg #[.int .i64 a, .int .i64 b], .agg #[.int .i64 a', .int .i64 b']] w (BoolB (a == a' && b == b') w) := by
  have hB : Below w.heap.size w ((w.alloc (.cells #[.int .i64 a, .int .i64 b] 47)).alloc (.cells #[.int .i64 a', .int .i64 b'] 47)) := ((Below.refl _ _).alloc (Nat.le_refl _) _).alloc (by simp) _
  by_cases h1 : a = a'
  · have g1 : (a != a') = false := by simpa using h1
    have e1 : (a == a') = true := by simpa using h1
    by_cases h2 : b = b'
    · have g2 : (b != b') = false := by simpa using h2
      have e2 : (b == b') = true := by simpa using h2
      rw [e1, e2]
      clear e1 e2 h1 h2
      go_enter Try.func56, Try.ntmps56
      go_wp2
      go_ret
      exact ⟨rfl, hB⟩
    · have g2 : (b != b') = true := by simpa using h2
      have e2 : (b == b') = false := by simpa using h2
      rw [e1, e2]
      clear e1 e2 h1 h2
      go_enter Try.func56, Try.ntmps56
      go_wp2
      go_ret
      exact ⟨rfl, hB⟩
  · have g1 : (a != a') = true := by simpa using h1
    have e1 : (a == a') = false := by simpa using h1
    rw [e1]
    clear e1 h1
    go_enter Try.func56, Try.ntmps56
    go_wp2
    go_ret
    exact ⟨rfl, hB⟩

theorem info_el : (Try.prog.info? 47).map (fun i => (i.zero, i.size, i.bytes)) = some (some (.agg #[.int .i64 0, .int .i64 0]), 2, 16) := by kernel_rfl
theorem make_el (n : Nat) (hn : n ≤ 2000000) (w : World) : (Instr.makeSlice 44 (.int .i64 (n : Int)) (.int .i64 (n : Int))).run Try.prog w = .ok (.slice (some ⟨w.heap.size, 0, none⟩) n n) (w.alloc (.cells (madeCells #[.int .i64 0, .int .i64 0] (n * 2)) 47)) := by
  obtain ⟨i0, hi, hz0, hz1, hz2⟩ := info_parts info_el
  have hr := run_make (P := Try.prog) w 44 47 i0 _ Try.underlying44 hi hz0 .i64 .i64 n n (by omega) (Int.le_refl _) (by rw [hz2]; omega) (by omega)
  simp only [Int.toNat_natCast, hz1] at hr
  exact hr
theorem made_row (w : World) (n : Nat) (t : TypeId) : (w.alloc (.cells (madeCells #[.int .i64 0, .int .i64 0] (n * 2)) t)).rowIs w.heap.size t (n * 2) (fun _ => .int .i64 0) :=
  ⟨_, heap_alloc_new w _, size_madeCells _ _, fun i hi => by
    have : i % 2 = 0 ∨ i % 2 = 1 := by omega
    rcases this with h | h <;> simp [madeCells, hi, h]⟩

def CopyP (l : List (Int × Int)) (w : World) (e : Ending) (w' : World) : Prop :=
  e = .returned (.slice (some ⟨w.heap.size, 0, none⟩) l.length l.length) ∧ w'.rowIs w.heap.size 47 (l.length * 2) (pcell l) ∧ Below w.heap.size w w'

set_option maxHeartbeats 2000000 in
theorem toList_any (A : Option Addr) (l : List (Int × Int)) (c : Nat) (w : World) (h : Pl w w.heap.size A l) (hl : l.length ≤ 2000000) :
    Calls Try.prog 30 #[.slice A l.length c] w (CopyP l w) := by
  have hmk := make_el l.length hl
  go_enter Try.func30, Try.ntmps30
  go_wp2_with fail
  go_loopw [4] (fun i wr => ∃ k : Nat, k ≤ l.length ∧ i = .int .i64 k ∧ wr.rowIs w.heap.size 47 (l.length * 2) (fun j => if j < k * 2 then pcell l j else .int .i64 0) ∧ Below w.heap.size w wr) (fun i _ => l.length - (intOf i).toNat)
  case atStart =>
    refine ⟨0, Nat.zero_le _, rfl, (made_row w _ _).congr (fun i _ => by simp), (Below.refl _ _).alloc (Nat.le_refl _) _⟩
  case round =>
    obtain ⟨k, hk, rfl, hrow, hb⟩ := hrel
    by_cases hlt : k < l.length
    · obtain ⟨b, off, rfl, hbl, hc1, hc2⟩ := h.at_ hlt
      have hd1 := (hb.cell (p := ⟨b, off + k * 2, none⟩) hbl).trans hc1
      have hd2 := (hb.cell (p := ⟨b, off + k * 2 + 1, none⟩) hbl).trans hc2
      have hltr := hrow.lt
      go_wp2_with fail
      refine (toOne_any (fst_ l k) (snd_ l k) _).mono ?_
      rintro e w1 ⟨rfl, hb1⟩
      have hrow1 := hrow.of_block (hb1.block _ hltr)
      have f1 := hrow1.cell (i := k * 2) (by omega)
      have f2 := hrow1.cell (i := k * 2 + 1) (by omega)
      have z1 := hrow1.frozen (k * 2)
      have z2 := hrow1.frozen (k * 2 + 1)
      rw [if_neg (by omega)] at f1 f2
      have hB1 : Below w.heap.size w w1 := hb.trans (hb1.mono (by omega))
      clear hb1 hrow
      go_wp2_with fail
      exact ⟨⟨k + 1, by omega, by go_num, ((hrow1.set (k * 2) _).set (k * 2 + 1) _).congr (fun j hj => by
        by_cases e : j = k * 2 + 1
        · subst e; rw [if_pos rfl, if_pos (by omega), pcell_1]
        · rw [if_neg e]; by_cases e1 : j = k * 2
          · subst e1; rw [if_pos rfl, if_pos (by omega), pcell_0]
          · rw [if_neg e1]; by_cases e2 : j < k * 2
            · rw [if_pos e2, if_pos (by omega)]
            · rw [if_neg e2, if_neg (by omega)]), (hB1.setCell (p := ⟨w.heap.size, k * 2, none⟩) (Nat.le_refl _) _).setCell (p := ⟨w.heap.size, k * 2 + 1, none⟩) (Nat.le_refl _) _⟩, by simp [intOf]; omega⟩
    · go_wp2_with fail
      go_ret
      exact ⟨rfl, hrow.congr (fun j hj => by rw [if_pos (by omega)]), hb⟩

set_option maxHeartbeats 4000000 in
theorem eqList_any (A A' : Option Addr) (l l' : List (Int × Int)) (c c' : Nat) (w : World) (h : Pl w w.heap.size A l) (h' : Pl w w.heap.size A' l') (hl : l.length ≤ 2000000) (hl' : l'.length ≤ 2000000) :
    Calls Try.prog 31 #[.slice A l.length c, .slice A' l'.length c'] w (BoolB (eqP l l') w) := by
  by_cases hn : l.length = l'.length
  · have hn' : ((l.length : Int) != l'.length) = false := by simp; omega
    have HN := Lib.hid hn
    clear hn
    go_enter Try.func31, Try.ntmps31
    go_wp2_with fail
    go_loopw [5] (fun i wr => ∃ k : Nat, k ≤ l.length ∧ i = .int .i64 k ∧ Below w.heap.size w wr ∧ ∀ j, j < k → fst_ l j = fst_ l' j ∧ snd_ l j = snd_ l' j) (fun i _ => l.length - (intOf i).toNat)
    case atStart => exact ⟨0, Nat.zero_le _, rfl, Below.refl _ _, fun j hj => absurd hj (by omega)⟩
    case round =>
      obtain ⟨k, hk, rfl, hb, heq⟩ := hrel
      have HQ := Lib.hid heq
      clear heq
      by_cases hlt : k < l.length
      · obtain ⟨b, off, rfl, hbl, hc1, hc2⟩ := h.at_ hlt
        have hlt' : k < l'.length := by have := HN.out; omega
        obtain ⟨b', off', rfl, hbl', hc1', hc2'⟩ := h'.at_ hlt'
        have d1 := (hb.cell (p := ⟨b, off + k * 2, none⟩) hbl).trans hc1
        have d2 := (hb.cell (p := ⟨b, off + k * 2 + 1, none⟩) hbl).trans hc2
        have d3 := (hb.cell (p := ⟨b', off' + k * 2, none⟩) hbl').trans hc1'
        have d4 := (hb.cell (p := ⟨b', off' + k * 2 + 1, none⟩) hbl').trans hc2'
        clear hc1 hc2 hc1' hc2'
        have c1 : (k : Int) < (l.length : Int) := by omega
        have c2 : (k : Int) < (l'.length : Int) := by omega
        have c3 : (0 : Int) ≤ (k : Int) := by omega
        by_cases hv1 : fst_ l k = fst_ l' k
        · have e1 : (fst_ l k == fst_ l' k) = true := by simpa using hv1
          by_cases hv2 : snd_ l k = snd_ l' k
          · have e2 : (snd_ l k == snd_ l' k) = true := by simpa using hv2
            have HV := Lib.hid (And.intro hv1 hv2)
            clear hv1 hv2
            go_wp2_with fail
            go_region_with (go_at_call 56; refine (eqOne_any (fst_ l k) (snd_ l k) (fst_ l' k) (snd_ l' k) _).mono ?_; rintro e w1 ⟨rfl, hb1⟩)
            all_goals
              have hB1 : Below w.heap.size w w1 := hb.drew.trans (hb1.mono hb.size)
              clear hb1
              go_wp2_with fail
              exact ⟨⟨k + 1, by omega, by go_num, hB1, fun j hj => by
                by_cases e : j = k
                · rw [e]; exact HV.out
                · exact HQ.out j (by omega)⟩, by simp [intOf]; omega⟩
          · have e2 : (snd_ l k == snd_ l' k) = false := by simpa using hv2
            have HF := Lib.hid (eqP_false (a := l) (b := l') k (fun h => hv2 h.2))
            clear hv1 hv2
            go_wp2_with fail
            go_region_with (go_at_call 56; refine (eqOne_any (fst_ l k) (snd_ l k) (fst_ l' k) (snd_ l' k) _).mono ?_; rintro e w1 ⟨rfl, hb1⟩)
            all_goals
              have hB1 : Below w.heap.size w w1 := hb.drew.trans (hb1.mono hb.size)
              clear hb1
              go_wp2_with fail
              go_ret
              exact ⟨by rw [HF.out]; rfl, hB1⟩
        · have e1 : (fst_ l k == fst_ l' k) = false := by simpa using hv1
          have HF := Lib.hid (eqP_false (a := l) (b := l') k (fun h => hv1 h.1))
          clear hv1
          go_wp2_with fail
          go_region_with (go_at_call 56; refine (eqOne_any (fst_ l k) (snd_ l k) (fst_ l' k) (snd_ l' k) _).mono ?_; rintro e w1 ⟨rfl, hb1⟩)
          all_goals
            have hB1 : Below w.heap.size w w1 := hb.drew.trans (hb1.mono hb.size)
            clear hb1
            go_wp2_with fail
            go_ret
            exact ⟨by rw [HF.out]; rfl, hB1⟩
      · have HT := Lib.hid (eqP_true HN.out (fun j hj => HQ.out j (by omega)))
        go_wp2_with fail
        go_ret
        exact ⟨by rw [HT.out]; rfl, hb⟩
  · have hn' : ((l.length : Int) != l'.length) = true := by simp; omega
    have hf : eqP l l' = false := by simp [eqP]; intro e; exact hn (by rw [e])
    rw [hf]
    clear hf
    go_enter Try.func31, Try.ntmps31
    go_wp2_with fail
    go_ret
    exact ⟨rfl, Below.refl _ _⟩
end Go.Proofs.Ythdbbllcckimbaa
