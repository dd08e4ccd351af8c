/- What is drawn as a text: at most some hundred bytes. Conditions: the code is a slice of bytes. -/
import Derived.Test.YtgfjaoajjcolcaaRd
import Derived.Laws.BytesArg
namespace Go.Proofs.Ytgfjaoajjcolcaa
open Go.RowKit
set_option linter.unusedVariables false

def StrPost (k : Nat) (w : World) (e : Ending) (w' : World) : Prop := ∃ s : ByteArray, e = .returned (.string s) ∧ s.size ≤ k ∧ w = w'
theorem half_mul (m p : Nat) (h : m * p ≤ 63) : m / 2 * (2 * p) ≤ 63 := by
  have : m / 2 * (2 * p) ≤ m * p := by rw [← Nat.mul_assoc]; exact Nat.mul_le_mul_right p (by omega)
  omega

set_option maxHeartbeats 1000000 in
theorem l6Many_any (s : ByteArray) (n : Nat) (w : World) (hs : s.size ≤ 1) (hn : n ≤ 63) :
    Calls Try.prog 63 #[.string s, .int .i64 n] w (StrPost 126 w) := by
  go_enter Try.func63, Try.ntmps63
  go_wp2
  go_loop [0, 1, 5] (fun a b c => ∃ (m p : Nat) (S O : ByteArray), a = .string S ∧ b = .int .i64 m ∧ c = .string O ∧ S.size ≤ p ∧ O.size ≤ p ∧ m * p ≤ 63 ∧ 1 ≤ p ∧ p ≤ 126) (fun _ b _ => (intOf b).toNat)
  case atStart => exact ⟨n, 1, s, _, rfl, rfl, rfl, hs, Nat.zero_le _, by omega, by omega, by omega⟩
  case round =>
    obtain ⟨m, p, S, O, rfl, rfl, rfl, h1, h2, h3, h5, h4⟩ := hrel
    by_cases hm : m = 0
    · subst hm
      go_wp2
      go_ret
      exact ⟨O, rfl, by omega, rfl⟩
    · have hp : p ≤ 63 := Nat.le_trans (Nat.le_mul_of_pos_left p (by omega)) h3
      have hm63 : m ≤ 63 := Nat.le_trans (Nat.le_mul_of_pos_right m h5) h3
      have H3 := Lib.hid h3
      clear h3
      have hm' : 0 < m := by omega
      have hb : ((m : Int) % 2 == 1) = true ∨ ((m : Int) % 2 == 1) = false := by cases ((m : Int) % 2 == 1) <;> simp
      rcases hb with hb | hb
      · go_wp2
        exact ⟨⟨m / 2, 2 * p, S ++ S, O ++ S, rfl, by simp, rfl, by simp; omega, by simp; omega, half_mul m p H3.out, by omega, by omega⟩, by simp [intOf]; omega⟩
      · go_wp2
        exact ⟨⟨m / 2, 2 * p, S ++ S, O, rfl, by simp, rfl, by simp; omega, by omega, half_mul m p H3.out, by omega, by omega⟩, by simp [intOf]; omega⟩

theorem conv_one (W : World) (b : Nat) (u : Int) (hb : b = W.heap.size) : (convert 22 9 (.slice (some ⟨b, 0, none⟩) 1 1)).run Try.prog (W.alloc (.cells #[.int .u8 u] 5)) = .ok (.string (strOfNums [u])) (W.alloc (.cells #[.int .u8 u] 5)) := by
  subst hb
  refine run_convert_bytes_arg (P := Try.prog) _ 22 5 Try.underlying22 Try.underlying5 W.heap.size 0 1 1 [u] rfl (fun i hi => ?_) 9 Try.underlying9
  have : i = 0 := by omega
  subst this
  have e := heap_alloc_new W (.cells #[.int .u8 u] 5)
  simp only [World.cell?]
  rw [e]
  rfl
theorem conv_one_drew (W : World) (u : Int) : (convert 22 9 (.slice (some ⟨W.heap.size, 0, none⟩) 1 1)).run Try.prog (W.alloc (.cells #[.int .u8 u] 5)).drew = .ok (.string (strOfNums [u])) (W.alloc (.cells #[.int .u8 u] 5)).drew := by
  refine run_convert_bytes_arg (P := Try.prog) _ 22 5 Try.underlying22 Try.underlying5 W.heap.size 0 1 1 [u] rfl (fun i hi => ?_) 9 Try.underlying9
  have : i = 0 := by omega
  subst this
  have e := heap_alloc_new W (.cells #[.int .u8 u] 5)
  show World.cell? (W.alloc (.cells #[.int .u8 u] 5)) _ = _
  simp only [World.cell?]
  rw [e]
  rfl
theorem one_size (u : Int) : (strOfNums [u]).size = 1 := rfl

def TextPost (k m : Nat) (B g p : Nat) (w : World) (e : Ending) (w' : World) : Prop :=
  ∃ (s : ByteArray) (p' : Nat), e = .returned (.string s) ∧ s.size ≤ m ∧ p' ≤ p + k ∧ RdAt w' B g p' ∧ w.grownBy w' (some g)

set_option maxHeartbeats 2000000 in
theorem l91Text_any (B g p : Nat) (w : World) (h : RdAt w B g p) (hp : p ≤ 100000) :
    Calls Try.prog 46 #[.pointer (some ⟨g, 0, none⟩)] w (TextPost 100 200 B g p w) := by
  go_enter Try.func46, Try.ntmps46
  go_wp2_with fail
  go_loopw [3, 4] (fun n i wr => ∃ (k p' : Nat) (S : ByteArray), k ≤ 13 ∧ i = .int .i64 k ∧ n = .string S ∧ S.size ≤ k ∧ p' ≤ p + 2 * k ∧ RdAt wr B g p' ∧ w.grownBy wr (some g)) (fun _ i _ => 14 - (intOf i).toNat)
  case atStart => exact ⟨0, p, _, by omega, rfl, rfl, Nat.le_refl _, by omega, h, World.grownBy.refl w _⟩
  case round =>
    obtain ⟨k, p', S, hk, rfl, rfl, hS, hp', hr, hg⟩ := hrel
    go_wp2_with fail
    refine (pick_any 14 B g p' _ hr (by omega) (by omega)).mono ?_
    rintro e w1 ⟨v, rfl, hv0, hv1, hr1, hg1, hs1⟩
    by_cases hlt : (k : Int) < v
    · go_wp2_with fail
      refine (pick_any 95 B g (p' + 1) _ hr1 (by omega) (by omega)).mono ?_
      rintro e w2 ⟨u, rfl, hu0, hu1, hr2, hg2, hs2⟩
      have hcv := conv_one w2 wr.heap.size (32 + u) (by rw [hs2, hs1])
      have h1 := one_size (32 + u)
      have hz : (S ++ strOfNums [32 + u]).size ≤ k + 1 := by rw [ByteArray.size_append, h1]; omega
      have hmx : S.size + (strOfNums [32 + u]).size ≤ 1000 := by rw [h1]; omega
      go_wp2_with fail
      exact ⟨⟨k + 1, p' + 1 + 1, _, by omega, by go_num, rfl, hz, by omega, hr2.alloc _, grown_alloc (grown_trans (grown_trans hg hg1) hg2) _⟩, by simp [intOf]; omega⟩
    · go_wp2_with fail
      refine (pick_any 20 B g (p' + 1) _ hr1 (by omega) (by omega)).mono ?_
      rintro e w2 ⟨u, rfl, hu0, hu1, hr2, hg2, hs2⟩
      by_cases u0 : u = 0
      · subst u0
        go_wp2_with fail
        refine (pick_any 14 B g (p' + 1 + 1) _ hr2 (by omega) (by omega)).mono ?_
        rintro e w3 ⟨t, rfl, ht0, ht1, hr3, hg3, hs3⟩
        obtain ⟨t, rfl⟩ := Int.eq_ofNat_of_zero_le ht0
        go_wp2_with fail
        refine (l6Many_any _ (50 + t) _ (by decide) (by omega)).mono ?_
        rintro e w4 ⟨M, rfl, hM, rfl⟩
        have hz : (S ++ M).size ≤ 200 := by rw [ByteArray.size_append]; omega
        go_wp2_with fail
        go_ret
        exact ⟨_, p' + 1 + 1 + 1, rfl, hz, by omega, hr3, grown_trans (grown_trans (grown_trans hg hg1) hg2) hg3⟩
      · have n0 : (u == 0) = false := by simpa using u0
        go_wp2_with fail
        go_ret
        exact ⟨S, p' + 1 + 1, rfl, by omega, by omega, hr2, grown_trans (grown_trans hg hg1) hg2⟩

def StrBelow (k : Nat) (w : World) (e : Ending) (w' : World) : Prop := ∃ s : ByteArray, e = .returned (.string s) ∧ s.size ≤ k ∧ Below w.heap.size w w'

set_option maxHeartbeats 1000000 in
theorem drawText_any (A : Option Addr) (n c : Nat) (zs : List Int) (w : World) (h : Ints .u8 w w.heap.size A n c zs) :
    Calls Try.prog 17 #[.slice A n c] w (StrBelow 200 w) := by
  go_enter Try.func17, Try.ntmps17
  go_wp2_with fail
  refine (open_any A n c zs _ h).mono ?_
  rintro e w1 ⟨rfl, hr1, hb1, hs1⟩
  go_wp2_with fail
  refine (l91Text_any w.heap.size w.heap.size 0 _ hr1 (by omega)).mono ?_
  rintro e w2 ⟨s, p2, rfl, hz, hp2, hr2, hg2⟩
  go_wp2_with fail
  go_ret
  exact ⟨s, rfl, hz, hb1.trans (grown_below hg2 (Nat.le_refl _) hb1.size)⟩
end Go.Proofs.Ytgfjaoajjcolcaa
