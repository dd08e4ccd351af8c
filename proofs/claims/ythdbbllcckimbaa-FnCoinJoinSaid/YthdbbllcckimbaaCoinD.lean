/- What is drawn for the laws of coins: coefficients and a number of members. Conditions: the code is a slice of bytes. -/
import Derived.Test.YthdbbllcckimbaaDraw
namespace Go.Proofs.Ythdbbllcckimbaa
open Go.RowKit
set_option linter.unusedVariables false
set_option linter.unusedSimpArgs false

def DealDraw (w : World) (e : Ending) (w' : World) : Prop :=
  ∃ (g c : Nat) (l : List Int) (many : Int), w.heap.size ≤ g ∧ e = .returned (.tuple #[.slice (some ⟨g, 0, none⟩) l.length c, .int .i64 many]) ∧ Wr w' g l ∧ l.length ≤ 10 ∧ l.length ≤ c ∧ c ≤ maxLen ∧ Below w.heap.size w w'

set_option maxHeartbeats 8000000 in
theorem drawDeal_any (A : Option Addr) (n c : Nat) (zs : List Int) (w : World) (h : Ints .u8 w w.heap.size A n c zs) :
    Calls Try.prog 23 #[.slice A n c] w (DealDraw w) := by
  go_enter Try.func23, Try.ntmps23
  go_wp2_with fail
  refine (open_any A n c zs _ h).mono ?_
  rintro e w1 ⟨rfl, hr1, hb1, hs1⟩
  have hd := Dr.start hr1 hb1 hs1
  have HS := Lib.hid hs1
  have hs1' : w1.heap.size = w.heap.size + 1 := hs1
  clear hr1 hb1 hs1
  go_wp2_with fail
  go_loopw [5, 6] (fun v i wr => ∃ (k p g c : Nat) (l : List Int), k ≤ 5 ∧ i = .int .i64 k ∧ l.length = k ∧ v = .slice (some ⟨g, 0, none⟩) l.length c ∧ p ≤ 2 * k ∧ Dr w w.heap.size p g c l wr) (fun _ i _ => 6 - (intOf i).toNat)
  case atStart => exact ⟨0, 0, w.heap.size + 1, 0, [], by omega, rfl, rfl, by simp, by omega, hd⟩
  case round =>
    clear hd hs1'
    obtain ⟨k, p, g, c, l, hk, rfl, hlk, rfl, hp, hd⟩ := hrel
    have HLK := Lib.hid hlk
    clear hlk
    go_wp2_with fail
    refine (hd.pick 5 (by omega) (by omega)).mono ?_
    clear hd
    rintro e w2 ⟨v, rfl, hv0, hv1, hd⟩
    by_cases hlt : (k : Int) < 1 + v
    · go_wp2_with fail
      refine (hd.pick 251 (by omega) (by omega)).mono ?_
      clear hd
      rintro e w3 ⟨y, rfl, hy0, hy1, hd⟩
      have hl5 : l.length ≤ 5 := by have := HLK.out; omega
      go_wp2_with (at_builtin; refine wpList_one rfl _ _ rfl w.heap.size g c l (l ++ [y]) y rfl rfl _ rfl (by simp) hd.2.1 (by omega) hd.2.2.2.size ?_)
      intro g' c' w4 ho hg hf
      have hd' := hd.grown ho hg hf
      clear hd ho hg hf
      go_wp2_with fail
      exact ⟨⟨k + 1, p + 1 + 1, g', c', l ++ [y], by omega, by go_num, by simp; exact HLK.out, by simp, by omega, hd'⟩, by simp [intOf]; omega⟩
    · have hlt' : decide ((k : Int) < 1 + v) = false := by simp; omega
      have hl1 : 1 ≤ l.length := by have := HLK.out; omega
      have hl5 : l.length ≤ 5 := by have := HLK.out; omega
      go_wp2_with fail
      refine (hd.pick 16 (by omega) (by omega)).mono ?_
      clear hd
      rintro e w3 ⟨y, rfl, hy0, hy1, hd⟩
      by_cases hy : y = 0
      · subst hy
        have hdm := hd.alloc (.cells #[.int .i64 (-1), .int .i64 250, .int .i64 251] 3)
        have hgr3 := hd.1.lt
        go_wp2_with fail
        refine (hdm.pick' 3 (by omega) (by omega)).mono ?_
        clear hdm hd
        rintro e w5 ⟨x, rfl, hx0, hx1, hd5, hg5⟩
        obtain ⟨u, hu⟩ := pick3 hgr3 hg5 x hx0 hx1
        have hf5 := hd5.2.1.frozen 0
        have hc5 := hd5.2.1.cell (j := 0) (by omega)
        have hd := hd5.set 0 u (by omega)
        clear hd5 hg5
        go_wp2_with fail
        obtain ⟨W5, hW5⟩ : ∃ W, W = w5.setCell ⟨g, 0, none⟩ (.int .i64 u) := ⟨_, rfl⟩
        rw [← hW5] at hd ⊢
        clear hW5 hf5 hc5 hu
        obtain ⟨l', hl'⟩ : ∃ l', l' = l.set 0 u := ⟨_, rfl⟩
        have hll : l'.length = l.length := by rw [hl']; simp
        rw [← hl'] at hd
        clear hl'
        rw [← hll] at hl1 hl5 ⊢
        clear hll HLK
        go_wp2_with fail
        refine (hd.pick 20 (by omega) (by omega)).mono ?_
        clear hd
        rintro e w4 ⟨z, rfl, hz0, hz1, hd⟩
        by_cases hz : z = 0
        · subst hz
          have hd : Dr w w.heap.size _ g c [] w4 := ⟨hd.1, hd.2.1.nil, hd.2.2⟩
          go_wp2_with fail
          refine (hd.pick 4 (by omega) (by omega)).mono ?_
          clear hd
          rintro e wa ⟨a, rfl, ha0, ha1, hd⟩
          go_wp2_with fail
          refine (hd.pick 16 (by omega) (by omega)).mono ?_
          clear hd
          rintro e wb ⟨b, rfl, hb0, hb1, hd⟩
          go_wp2_with fail
          go_ret2
          obtain ⟨_, ho, _, hB⟩ := hd
          obtain ⟨q1, q2, q3, q4, q5⟩ := ho.parts
          exact ⟨g, c, [], _, q1, rfl, q5, by simp, q3, q4, hB⟩
        · have hz' : (z == 0) = false := by simpa using hz
          go_wp2_with fail
          refine (hd.pick 4 (by omega) (by omega)).mono ?_
          clear hd
          rintro e wa ⟨a, rfl, ha0, ha1, hd⟩
          go_wp2_with fail
          refine (hd.pick 16 (by omega) (by omega)).mono ?_
          clear hd
          rintro e wb ⟨b, rfl, hb0, hb1, hd⟩
          go_wp2_with fail
          go_ret2
          obtain ⟨_, ho, _, hB⟩ := hd
          obtain ⟨q1, q2, q3, q4, q5⟩ := ho.parts
          exact ⟨g, c, l', _, q1, rfl, q5, by omega, q3, q4, hB⟩
      · have hy' : (y == 0) = false := by simpa using hy
        go_wp2_with fail
        refine (hd.pick 20 (by omega) (by omega)).mono ?_
        clear hd
        rintro e w4 ⟨z, rfl, hz0, hz1, hd⟩
        by_cases hz : z = 0
        · subst hz
          have hd : Dr w w.heap.size _ g c [] w4 := ⟨hd.1, hd.2.1.nil, hd.2.2⟩
          go_wp2_with fail
          refine (hd.pick 4 (by omega) (by omega)).mono ?_
          clear hd
          rintro e wa ⟨a, rfl, ha0, ha1, hd⟩
          go_wp2_with fail
          refine (hd.pick 16 (by omega) (by omega)).mono ?_
          clear hd
          rintro e wb ⟨b, rfl, hb0, hb1, hd⟩
          go_wp2_with fail
          go_ret2
          obtain ⟨_, ho, _, hB⟩ := hd
          obtain ⟨q1, q2, q3, q4, q5⟩ := ho.parts
          exact ⟨g, c, [], _, q1, rfl, q5, by simp, q3, q4, hB⟩
        · have hz' : (z == 0) = false := by simpa using hz
          go_wp2_with fail
          refine (hd.pick 4 (by omega) (by omega)).mono ?_
          clear hd
          rintro e wa ⟨a, rfl, ha0, ha1, hd⟩
          go_wp2_with fail
          refine (hd.pick 16 (by omega) (by omega)).mono ?_
          clear hd
          rintro e wb ⟨b, rfl, hb0, hb1, hd⟩
          go_wp2_with fail
          go_ret2
          obtain ⟨_, ho, _, hB⟩ := hd
          obtain ⟨q1, q2, q3, q4, q5⟩ := ho.parts
          exact ⟨g, c, l, _, q1, rfl, q5, by omega, q3, q4, hB⟩
end Go.Proofs.Ythdbbllcckimbaa
