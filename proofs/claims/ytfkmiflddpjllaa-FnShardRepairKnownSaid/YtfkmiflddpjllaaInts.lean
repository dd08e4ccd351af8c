/- Lists of integers in memory: copied, compared, counted. Conditions: the lists are within a million elements. -/
import Derived.Test.YtfkmiflddpjllaaBase
import Derived.Deep.OwnRows
import Derived.Outline
import Derived.Deep.QuietTactic
import Derived.BigQuiet
namespace Go.Proofs.Ytfkmiflddpjllaa
open Go.RowKit
set_option linter.unusedVariables false

def nth (l : List Int) (j : Nat) : Int := l.getD j 0
theorem nth_eq (l : List Int) (j : Nat) : nth l j = l[j]?.getD 0 := by simp [nth]
theorem nth_lt {l : List Int} {j : Nat} (h : j < l.length) : nth l j = l[j] := by simp [nth, h]

/-- The slice with address A and the length of l reads as l, in a block below B. -/
def Sl (w : World) (B : Nat) (A : Option Addr) (l : List Int) : Prop :=
  l ≠ [] → ∃ b off, A = some ⟨b, off, none⟩ ∧ b < B ∧ ∀ j, j < l.length → w.cell? ⟨b, off + j, none⟩ = some (.int .i64 (nth l j))

theorem Sl.nil (w : World) (B : Nat) (A : Option Addr) : Sl w B A [] := fun h => absurd rfl h
theorem Sl.below {w w' : World} {B : Nat} {A : Option Addr} {l : List Int} (h : Sl w B A l) (hb : Below B w w') : Sl w' B A l := fun hl => by
  obtain ⟨b, off, e, hlt, hc⟩ := h hl
  exact ⟨b, off, e, hlt, fun j hj => (hb.cell (p := ⟨b, off + j, none⟩) hlt).trans (hc j hj)⟩
theorem Sl.more {w : World} {B B' : Nat} {A : Option Addr} {l : List Int} (h : Sl w B A l) (hB : B ≤ B') : Sl w B' A l := fun hl => by
  obtain ⟨b, off, e, hlt, hc⟩ := h hl
  exact ⟨b, off, e, by omega, hc⟩
theorem Sl.at_ {w : World} {B : Nat} {A : Option Addr} {l : List Int} (h : Sl w B A l) {k : Nat} (hk : k < l.length) : ∃ b off, A = some ⟨b, off, none⟩ ∧ b < B ∧ w.cell? ⟨b, off + k, none⟩ = some (.int .i64 (nth l k)) := by
  obtain ⟨b, off, e, hlt, hc⟩ := h (by intro e; rw [e] at hk; simp at hk)
  exact ⟨b, off, e, hlt, hc k hk⟩
theorem Sl.of_row {w : World} {b n : Nat} {t : TypeId} {l : List Int} (h : w.rowIs b t n (fun j => .int .i64 (nth l j))) (hn : l.length ≤ n) : Sl w (b + 1) (some ⟨b, 0, none⟩) l :=
  fun _ => ⟨b, 0, rfl, by omega, fun j hj => by rw [Nat.zero_add]; exact h.cell (by omega)⟩
theorem Sl.of_ints {w : World} {B : Nat} {A : Option Addr} {n c : Nat} {zs : List Int} (h : Ints .i64 w B A n c zs) : n = zs.length ∧ Sl w B A zs := by
  refine ⟨h.1.symm, fun hl => ?_⟩
  obtain ⟨b, off, e, hlt, hc⟩ := h.2.2.2.2 (by have := h.1; have := List.length_pos_iff.2 hl; omega)
  exact ⟨b, off, e, hlt, fun j hj => by rw [hc j (by have := h.1; omega)]; rfl⟩

/-- What is left when n have been counted; -1 where there were too few. -/
def szV (n : Nat) (left : Int) : Int := if (n : Int) ≤ left then left - n else -1
theorem szV_pos {n : Nat} {left : Int} (h : (n : Int) ≤ left) : szV n left = left - n := if_pos h
theorem szV_neg {n : Nat} {left : Int} (h : ¬ (n : Int) ≤ left) : szV n left = -1 := if_neg h
def eqTo (a b : List Int) : Bool := decide (a = b)
theorem eqTo_true {a b : List Int} (hn : a.length = b.length) (h : ∀ j, j < a.length → nth a j = nth b j) : eqTo a b = true := by
  simp only [eqTo, decide_eq_true_eq]
  apply List.ext_getElem hn
  intro j h1 h2
  have := h j h1
  rwa [nth_lt h1, nth_lt h2] at this
theorem eqTo_false {a b : List Int} (k : Nat) (h : nth a k ≠ nth b k) : eqTo a b = false := by
  simp only [eqTo, decide_eq_false_iff_not]
  rintro rfl
  exact h rfl
/-- Nothing but draws. -/
def Still (w : World) (v : Value) (e : Ending) (w' : World) : Prop := e = .returned v ∧ ∃ n, w' = w.drewN n

set_option maxHeartbeats 2000000 in
theorem eqIntS_any (A A' : Option Addr) (l l' : List Int) (c c' : Nat) (B B' : Nat) (w : World) (h : Sl w B A l) (h' : Sl w B' A' l') (hl : l.length ≤ 2000000) (hl' : l'.length ≤ 2000000) :
    Calls Try.prog 34 #[.slice A l.length c, .slice A' l'.length c'] w (Still w (.bool (eqTo l l'))) := by
  by_cases hn : l.length = l'.length
  · have hn' : ((l.length : Int) != l'.length) = false := by simp; omega
    have HN := Lib.hid hn
    clear hn
    go_enter Try.func34, Try.ntmps34
    go_wp2
    go_loopw [5] (fun i wr => ∃ k m : Nat, k ≤ l.length ∧ i = .int .i64 k ∧ wr = w.drewN m ∧ ∀ j, j < k → nth l j = nth l' j) (fun i _ => l.length - (intOf i).toNat)
    case atStart => exact ⟨0, 0, Nat.zero_le _, rfl, rfl, fun j hj => absurd hj (by omega)⟩
    case round =>
      obtain ⟨k, m, hk, rfl, rfl, heq⟩ := hrel
      have HQ := Lib.hid heq
      clear heq
      by_cases hlt : k < l.length
      · obtain ⟨b, off, rfl, hb, hc⟩ := h.at_ hlt
        have hlt' : k < l'.length := by have := HN.out; omega
        obtain ⟨b', off', rfl, hb', hc'⟩ := h'.at_ hlt'
        have c1 : (k : Int) < (l.length : Int) := by omega
        have c2 : (k : Int) < (l'.length : Int) := by omega
        have c3 : (0 : Int) ≤ (k : Int) := by omega
        by_cases hv : nth l k = nth l' k
        · have hv' : (nth l k != nth l' k) = false := by simpa using hv
          have HV := Lib.hid hv
          clear hv
          go_wp2
          go_quiet (fail)
          go_wp2
          exact ⟨⟨k + 1, _, by omega, by go_num, rfl, fun j hj => by
            by_cases e : j = k
            · rw [e]; exact HV.out
            · exact HQ.out j (by omega)⟩, by simp [intOf]; omega⟩
        · have hv' : (nth l k != nth l' k) = true := by simpa using hv
          have HF := Lib.hid (eqTo_false k hv)
          clear hv
          go_wp2
          go_quiet (fail)
          go_wp2
          go_ret
          exact ⟨by rw [HF.out]; rfl, _, World.drewN_drewN _ _ _⟩
      · have HT := Lib.hid (eqTo_true HN.out (fun j hj => HQ.out j (by omega)))
        go_wp2
        go_ret
        exact ⟨by rw [HT.out]; rfl, _, rfl⟩
  · have hn' : ((l.length : Int) != l'.length) = true := by simp; omega
    have hf : eqTo l l' = false := by simp [eqTo]; intro e; exact hn (by rw [e])
    rw [hf]
    clear hf
    go_enter Try.func34, Try.ntmps34
    go_wp2
    go_ret
    exact ⟨rfl, 0, rfl⟩

def allIn (lo hi : Int) (l : List Int) : Bool := l.all fun x => decide (lo ≤ x ∧ x ≤ hi)
theorem allIn_true {lo hi : Int} {l : List Int} (h : ∀ j, j < l.length → lo ≤ nth l j ∧ nth l j ≤ hi) : allIn lo hi l = true := by
  simp only [allIn, List.all_eq_true, decide_eq_true_eq]
  intro x hx
  obtain ⟨j, hj, rfl⟩ := List.getElem_of_mem hx
  have := h j hj
  rwa [nth_lt hj] at this
theorem allIn_get {lo hi : Int} {l : List Int} (h : allIn lo hi l = true) {j : Nat} (hj : j < l.length) : lo ≤ nth l j ∧ nth l j ≤ hi := by
  simp only [allIn, List.all_eq_true, decide_eq_true_eq] at h
  rw [nth_lt hj]
  exact h _ (List.getElem_mem hj)
theorem allIn_false {lo hi : Int} {l : List Int} {j : Nat} (hj : j < l.length) (h : nth l j < lo ∨ hi < nth l j) : allIn lo hi l = false := by
  cases e : allIn lo hi l with
  | false => rfl
  | true => have := allIn_get e hj; omega
theorem allIn_mem {lo hi : Int} {l : List Int} (h : allIn lo hi l = true) {x : Int} (hx : x ∈ l) : lo ≤ x ∧ x ≤ hi := by
  simp only [allIn, List.all_eq_true, decide_eq_true_eq] at h
  exact h x hx

theorem info_int : (Try.prog.info? 3).map (fun i => (i.zero, i.size, i.bytes)) = some (some (.int .i64 0), 1, 8) := by kernel_rfl

/-- The slice lies whole in its own block. -/
def CopyPost (l : List Int) (w : World) (e : Ending) (w' : World) : Prop :=
  e = .returned (.slice (some ⟨w.heap.size, 0, none⟩) l.length l.length) ∧ w'.rowIs w.heap.size 3 l.length (fun j => .int .i64 (nth l j)) ∧ Below w.heap.size w w' ∧ w'.heap.size = w.heap.size + 1

set_option maxHeartbeats 2000000 in
theorem toIntS_any (A : Option Addr) (l : List Int) (c : Nat) (w : World) (h : Sl w w.heap.size A l) (hl : l.length ≤ 2000000) :
    Calls Try.prog 32 #[.slice A l.length c] w (CopyPost l w) := by
  have hmk := run_make_row' (P := Try.prog) 26 3 (.int .i64 0) 8 Try.underlying26 info_int rfl .i64 .i64 l.length (by omega) (by omega)
  go_enter Try.func32, Try.ntmps32
  go_wp2
  go_loopw [4] (fun i wr => ∃ k : Nat, k ≤ l.length ∧ i = .int .i64 k ∧ wr.rowIs w.heap.size 3 l.length (fun j => .int .i64 (if j < k then nth l j else 0)) ∧ Below w.heap.size w wr ∧ wr.heap.size = w.heap.size + 1) (fun i _ => l.length - (intOf i).toNat)
  case atStart =>
    refine ⟨0, Nat.zero_le _, rfl, (World.rowIs_made w _ _ _).congr (fun i _ => by simp), (Below.refl _ _).alloc (Nat.le_refl _) _, by simp⟩
  case round =>
    obtain ⟨k, hk, rfl, hrow, hb, hs⟩ := hrel
    by_cases hlt : k < l.length
    · obtain ⟨b, off, rfl, hbl, hc⟩ := h.at_ hlt
      have hc1 : wr.cell? ⟨b, off + k, none⟩ = some (.int .i64 (nth l k)) := (hb.cell (p := ⟨b, off + k, none⟩) hbl).trans hc
      have hc2 := hrow.cell hlt
      have hf := hrow.frozen k
      have HS := Lib.hid hs
      clear hs
      go_wp2
      exact ⟨⟨k + 1, by omega, by go_num, (hrow.set k _).congr (fun j hj => by
        by_cases e : j = k
        · subst e; rw [if_pos rfl, if_pos (by omega)]
        · rw [if_neg e]; by_cases e2 : j < k
          · rw [if_pos e2, if_pos (by omega)]
          · rw [if_neg e2, if_neg (by omega)]), hb.setCell (p := ⟨w.heap.size, k, none⟩) (Nat.le_refl _) _, by simpa [World.setCell] using HS.out⟩, by simp [intOf]; omega⟩
    · have HS := Lib.hid hs
      clear hs
      go_wp2
      go_ret
      exact ⟨rfl, hrow.congr (fun j hj => by rw [if_pos (by omega)]), hb, HS.out⟩
end Go.Proofs.Ytfkmiflddpjllaa
