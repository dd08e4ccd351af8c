/- The library's chunks of a slice, enumerated. Conditions: few numbers, chunks of one to eight. -/
import Derived.Test.YtfkmiflddpjllaaRange
import Derived.Test.YtfkmiflddpjllaaShP
import Derived.StillTailTactics
namespace Go.Proofs.Ytfkmiflddpjllaa
open Go.RowKit Go.Shelf
set_option linter.unusedVariables false
set_option linter.unusedSimpArgs false
attribute [local go_sem] Oper.semAt_some

def KpTwo (Bs Bn : Nat) (W W' : World) : Prop := W'.heap[Bs]? = W.heap[Bs]? ∧ W'.heap[Bn]? = W.heap[Bn]?
def encC (b off need len : Nat) (k : Nat) : Array Value := #[.slice (some ⟨b, off + k * need, none⟩) (min need (len - k * need)) (min need (len - k * need))]

set_option maxHeartbeats 1000000 in
theorem chunk_any (a : Option Addr) (len cap need : Nat) (w : World) (h1 : 1 ≤ need) :
    Calls Try.prog 64 #[.slice a len cap, .int .i64 need] w fun e w' => e = .returned (.func (.func 69) #[] #[.pointer (some ⟨w.heap.size, 0, none⟩), .pointer (some ⟨w.heap.size + 1, 0, none⟩)]) ∧ w' = (w.alloc (.cells #[.slice a len cap] 26)).alloc (.cells #[.int .i64 need] 3) := by
  have q1 : decide ((need : Int) < 1) = false := by simp only [decide_eq_false_iff_not]; omega
  go_enter Try.func64, Try.ntmps64
  go_wp2_with fail
  go_ret
  exact ⟨rfl, rfl⟩

theorem grown_drewN (w : World) (n : Nat) : w.grownBy (w.drewN n) none := ⟨rfl, rfl, rfl, Nat.le_refl _, fun k _ _ => rfl⟩

set_option maxRecDepth 100000 in
set_option maxHeartbeats 2000000 in
theorem chunk_seq (n : Nat) (hn : 2 ≤ n) (Bs Bn b off c need len C : Nat) (h1 : 1 ≤ need) (h8 : need ≤ 8) (hl : len ≤ 12) (hlc : len ≤ c) (hcm : c ≤ maxLen) (hC : C = cols len need) (w : World) (hBs : Boxed w Bs 26 (.slice (some ⟨b, off, none⟩) len c)) (hBn : Boxed w Bn 3 (.int .i64 need)) (hs : Bs < w.heap.size) (hb : Bn < w.heap.size) :
    SeqX Fence.wide n Try.prog 69 #[.pointer (some ⟨Bs, 0, none⟩), .pointer (some ⟨Bn, 0, none⟩)] (encC b off need len) (fun pre k _ _ => k = pre.length ∧ k < C) none (fun _ => KpTwo Bs Bn) (fun xs => xs.length = C) w := by
  intro l J Jx W hW hJ hJx hY h0
  refine callsIn_of_wp Try.func69 rfl trivial ?_ rfl
  simp only [Try.ntmps69, List.size_toArray, List.length_cons, List.length_nil, Nat.reduceAdd, Nat.reduceSub, Array.replicate_succ, Array.replicate_zero, List.push_toArray, List.append_toArray, List.nil_append, List.cons_append]
  have hw : ∀ f, Fence.wide.fn f := fun _ => trivial
  have hn1 : 1 ≤ n := by omega
  have HCL : Hid (∀ k, k < C ↔ k * need < len) := by unfold Hid; intro k; rw [hC]; exact cols_le h1
  have hC12 : C ≤ 12 := by rw [hC]; exact cols_12 h1 hl
  clear hC
  have bs0 : Boxed W Bs 26 (.slice (some ⟨b, off, none⟩) len c) := (hW.block Bs hs).trans hBs
  have bn0 : Boxed W Bn 3 (.int .i64 need) := (hW.block Bn hb).trans hBn
  unfold maxLen at hcm
  gi_wp2
  gi_loopw [4, 5] (fun i _ wr => ∃ (pre : List Nat), pre.length ≤ C ∧ i = .int .i64 ((pre.length * need : Nat) : Int) ∧ J pre wr ∧ Boxed wr Bs 26 (.slice (some ⟨b, off, none⟩) len c) ∧ Boxed wr Bn 3 (.int .i64 need)) (fun i _ _ => 200 - (intOf i).toNat)
  case atStart => exact ⟨[], Nat.zero_le _, by simp, h0, bs0, bn0⟩
  case round =>
    clear h0 bs0 bn0
    obtain ⟨pre, hk, rfl, hj, bs, bn⟩ := hrel
    have c1 := bs.cell
    have c2 := bn.cell
    have hkl := HCL.out pre.length
    obtain ⟨p, hp⟩ : ∃ p, p = pre.length * need := ⟨_, rfl⟩
    have hp96 : p ≤ 96 := by rw [hp]; exact Nat.mul_le_mul (Nat.le_trans hk hC12) h8
    have hpn : (pre.length + 1) * need = p + need := by rw [hp, Nat.add_mul, Nat.one_mul]
    rw [← hp] at hkl ⊢
    by_cases hlt : p < len
    · have hkC := hkl.2 hlt
      obtain ⟨fn, tmps, assign, body, hy, hR⟩ := hY pre pre.length wr wr.drew hj (grown_drewN wr 1) ⟨rfl, hkC⟩
      simp only [encC] at hy
      rw [← hp] at hy
      have HP := Lib.hid hp
      have HPN := Lib.hid hpn
      have HKL := Lib.hid hkl
      clear hp hpn hkl
      have t1 : decide ((p : Int) < (len : Int)) = true := by simp; omega
      have k7 : ¬ c = p := by omega
      have k8 : (p : Int) ≤ (len : Int) := by omega
      have k9 : p ≤ len := by omega
      have hmin : (if len - p < need then ((len - p : Nat) : Int) else (need : Int)) = ((min need (len - p) : Nat) : Int) := by split <;> omega
      obtain ⟨m, hm⟩ : ∃ m, m = min need (len - p) := ⟨_, rfl⟩
      rw [← hm] at hmin hy
      have hm1 : 1 ≤ m := by omega
      have hm2 : p + m ≤ len := by omega
      have hm8 : m ≤ 8 := by omega
      have HM := Lib.hid hm
      have HMI := Lib.hid hmin
      clear hm hmin
      gi_wp2
      gi_region
      rw [HMI.out]
      have d1 := (show Boxed wr.drew Bs 26 (.slice (some ⟨b, off, none⟩) len c) from bs).cell
      have d2 := (show Boxed wr.drew Bn 3 (.int .i64 need) from bn).cell
      have e1 : (p : Int) ≤ (p : Int) + (m : Int) := by omega
      have e2 : (0 : Int) ≤ (p : Int) := by omega
      have e3 : (p : Int) + (m : Int) ≤ (c : Int) := by omega
      have e4 : ((p : Int) + (m : Int)).toNat = p + m := by omega
      have e5 : ¬ p + m = p := by omega
      have e6 : p + m - p = m := by omega
      have e7 : p + m ≤ c := by omega
      gi_wp2
      refine hR.mono ?_
      rintro e W3 (⟨rfl, hJ3, hk3⟩ | ⟨rfl, hJx3⟩)
      · have bs3 : Boxed W3 Bs 26 (.slice (some ⟨b, off, none⟩) len c) := hk3.1.trans bs
        have bn3 : Boxed W3 Bn 3 (.int .i64 need) := hk3.2.trans bn
        have f1 := bs3.cell
        have f2 := bn3.cell
        clear d1 d2 c1 c2
        gi_wp2
        go_roundw
        case rel => exact ⟨pre ++ [pre.length], by simp; omega, by simp only [List.length_append, List.length_cons, List.length_nil, Nat.zero_add]; rw [HPN.out]; simp, hJ3, bs3, bn3⟩
        case measure => simp [intOf]; omega
      · gi_wp2
        refine bodyPost_ret (results_none rfl _ _ _) rfl ?_
        exact ⟨⟨_, rfl⟩, .inr ⟨_, hJx3⟩⟩
    · have t1 : decide ((p : Int) < (len : Int)) = false := by simp; omega
      have hkC : pre.length = C := by
        have : ¬ pre.length < C := fun h => hlt (hkl.1 h)
        omega
      have HKC := Lib.hid hkC
      clear hkC hkl hp hpn
      gi_wp2
      go_end0
      exact ⟨⟨_, rfl⟩, .inl ⟨_, HKC.out, hj⟩⟩
end Go.Proofs.Ytfkmiflddpjllaa
