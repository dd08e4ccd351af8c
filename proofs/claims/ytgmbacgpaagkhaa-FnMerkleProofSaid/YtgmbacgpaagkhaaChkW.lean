/- The program's check of a proof whose digests are valid. Conditions: a valid size, index and leaf. -/
import Derived.Test.YtgmbacgpaagkhaaChk
namespace Go.Proofs.Ytgmbacgpaagkhaa
open Go.RowKit Go.Shelf
set_option linter.unusedVariables false
set_option linter.unusedSimpArgs false
attribute [local go_sem] Oper.semAt_some

def encW (x : Nat) : Array Value := #[.int .i64 (x : Int)]
def WidRd (size : Nat) (pre : List Nat) (x : Nat) (X W : World) : Prop := x = wid size pre.length ∧ ∀ j, j < pre.length → 1 < wid size j
def WidEnd (size : Nat) (xs : List Nat) : Prop := 1 ≤ xs.length ∧ (∀ j, j + 1 < xs.length → 1 < wid size j) ∧ wid size (xs.length - 1) ≤ 1
def KeepB (Bs : Nat) (_ : Nat) (W W' : World) : Prop := W'.heap[Bs]? = W.heap[Bs]?
def boxN (Bs : Nat) (W : World) : Nat := match W.cell? ⟨Bs, 0, none⟩ with
  | some (.int _ n) => n.toNat
  | _ => 0
theorem boxN_eq {Bs : Nat} {W : World} {t : TypeId} {n : Nat} (h : Boxed W Bs t (.int .i64 (n : Int))) : boxN Bs W = n := by
  unfold boxN; rw [h.cell]; simp

set_option maxRecDepth 100000 in
set_option maxHeartbeats 2000000 in
theorem widths_seq (n : Nat) (hn : 2 ≤ n) (Bs size : Nat) (h1 : 1 ≤ size) (h16 : size ≤ 16) (w : World) (hBs : Boxed w Bs 3 (.int .i64 (size : Int))) (hlt : Bs < w.heap.size) :
    SeqX Fence.wide n Try.prog 40 #[.pointer (some ⟨Bs, 0, none⟩)] encW (WidRd size) (some Bs) (KeepB Bs) (WidEnd size) w := by
  intro l J Jx W hW hJ hJx hY h0
  refine callsIn_of_wp Try.func40 rfl trivial ?_ rfl
  simp only [Try.ntmps40, List.size_toArray, List.length_cons, List.length_nil, Nat.reduceAdd, Nat.reduceSub, Array.replicate_succ, Array.replicate_zero, List.push_toArray, List.append_toArray, List.nil_append, List.cons_append]
  have hw : ∀ f, Fence.wide.fn f := fun _ => trivial
  have hn1 : 1 ≤ n := by omega
  have hbW : Boxed W Bs 3 (.int .i64 (size : Int)) := (hW.block Bs hlt).trans hBs
  gi_wp2
  gi_loopw [3] (fun _ wr => ∃ (pre : List Nat) (X : World), J pre X ∧ X.grownBy wr (some Bs) ∧ Boxed wr Bs 3 (.int .i64 (wid size pre.length : Int)) ∧ ∀ j, j < pre.length → 1 < wid size j) (fun _ wr => boxN Bs wr)
  case atStart => exact ⟨[], W, h0, World.grownBy.refl _ _, hbW, fun j hj => absurd hj (by simp)⟩
  case round =>
    obtain ⟨pre, X, hJX, hgX, hb, hall⟩ := hrel
    obtain ⟨fn, tmps, assign, body, hy, hR⟩ := hY pre (wid size pre.length) X wr hJX hgX ⟨rfl, hall⟩
    have l1 := wid_pos h1 pre.length
    have l2 := wid_le h1 h16 pre.length
    simp only [encW] at hy
    obtain ⟨L, hL⟩ : ∃ L, L = wid size pre.length := ⟨_, rfl⟩
    have hup : (L + 1) / 2 = wid size (pre ++ [L]).length := by rw [hL]; simp [wid]
    rw [← hL] at hy hR hb l1 l2
    have HL := Lib.hid hL
    have HUP := Lib.hid hup
    clear hL hup
    have c1 := hb.cell
    gi_wp2
    refine hR.mono ?_
    rintro e W3 (⟨rfl, hJ3, hk3⟩ | ⟨rfl, hJx3⟩)
    · have hb3 : Boxed W3 Bs 3 (.int .i64 (L : Int)) := (show W3.heap[Bs]? = wr.heap[Bs]? from hk3).trans hb
      have c2 := hb3.cell
      have c3 := hb3.frozen
      by_cases hlen : 1 < L
      · have t1 : decide ((1 : Int) < (L : Int)) = true := by simp; omega
        gi_wp2
        go_roundw
        case rel =>
          refine ⟨pre ++ [L], W3, hJ3, grownBy_setCell' _ _ _, ?_, fun j hj => ?_⟩
          · rw [← HUP.out]; exact hb3.set _
          · by_cases e : j = pre.length
            · rw [e, ← HL.out]; exact hlen
            · exact hall j (by simp at hj; omega)
        case measure =>
          have e1 : boxN Bs (W3.setCell ⟨Bs, 0, none⟩ (.int .i64 (((L : Int) + 1) / 2))) = (L + 1) / 2 := boxN_eq (t := 3) (n := (L + 1) / 2) (hb3.set _)
          rw [e1, boxN_eq hb]; omega
      · have t1 : decide ((1 : Int) < (L : Int)) = false := by simp; omega
        have t1' : decide (1 < L) = false := by simp; omega
        gi_wp2
        go_end0
        exact ⟨⟨_, rfl⟩, .inl ⟨_, ⟨by simp, fun j hj => hall j (by simp at hj; omega), by simp only [List.length_append, List.length_cons, List.length_nil, Nat.zero_add, Nat.add_sub_cancel]; rw [← HL.out]; omega⟩, hJ3⟩⟩
    · gi_wp2
      go_end0
      exact ⟨⟨_, rfl⟩, .inr ⟨_, hJx3⟩⟩

theorem widths_any (n : Int) (w : World) :
    Calls Try.prog 31 #[.int .i64 n] w fun e w' => e = .returned (.func (.func 40) #[] #[.pointer (some ⟨w.heap.size, 0, none⟩)]) ∧ w' = w.alloc (.cells #[.int .i64 n] 3) := by
  go_enter Try.func31, Try.ntmps31
  go_wp2_with fail
  go_ret
  exact ⟨rfl, rfl⟩
end Go.Proofs.Ytgmbacgpaagkhaa
