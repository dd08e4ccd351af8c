/- Draws of shards; the walk of FnShardJoinMatches. No condition. -/
import Derived.Test.YtfkmiflddpjllaaSrd
import Derived.Test.YtfkmiflddpjllaaShI
import Derived.Test.YtfkmiflddpjllaaShQ
import Derived.Test.YtfkmiflddpjllaaSame
namespace Go.Proofs.Ytfkmiflddpjllaa
open Go.RowKit
set_option linter.unusedVariables false
set_option linter.unusedSimpArgs false

theorem results_four {fn : Func} {t u v x : Tmp} (h : fn.results = #[.tmp t, .tmp u, .tmp v, .tmp x]) (tmps : Array Value) (P : Program) (w : World) :
    (results fn tmps).run P w = .ok (.tuple #[tmps.getD t undef, tmps.getD u undef, tmps.getD v undef, tmps.getD x undef]) w := by
  simp [results, h]
def JoinDraw (w : World) (e : Ending) (w' : World) : Prop :=
  ∃ (size need : Int) (A : Option Addr) (c : Nat) (L : List Sh), e = .returned (.tuple #[.int .i64 size, .int .i64 need, .slice A L.length c]) ∧ ShL w' w'.heap.size A L ∧ L.length ≤ 8 ∧
    (∀ j, j < L.length → (val_ L j).length ≤ 13) ∧ Below w.heap.size w w'
set_option maxHeartbeats 2000000 in
theorem drawJoin_any (A : Option Addr) (n c : Nat) (zs : List Int) (w : World) (h : Ints .u8 w w.heap.size A n c zs) :
    Calls Try.prog 15 #[.slice A n c] w (JoinDraw w) := by
  go_enter Try.func15, Try.ntmps15
  go_wp2_with fail
  refine (open_any A n c zs _ h).mono ?_
  rintro e w1 ⟨rfl, hr1, hb1, hs1⟩
  go_wp2_with fail
  refine (drawShards_any w w.heap.size 0 _ hr1 hb1 (by omega)).mono ?_
  rintro e w2 ⟨size, need, g, cc, p, L, rfl, h1, h2, h3, h4, h5, h6, h7⟩
  clear hr1 hb1 hs1
  go_wp2_with fail
  go_ret3
  exact ⟨size, need, _, cc, L, rfl, h1, h2, h3, h6⟩
def RepDraw (w : World) (e : Ending) (w' : World) : Prop :=
  ∃ (size need : Int) (A : Option Addr) (c : Nat) (L : List Sh) (number : Int), e = .returned (.tuple #[.int .i64 size, .int .i64 need, .slice A L.length c, .int .i64 number]) ∧ ShL w' w'.heap.size A L ∧ L.length ≤ 8 ∧
    (∀ j, j < L.length → (val_ L j).length ≤ 13) ∧ Below w.heap.size w w'
set_option maxHeartbeats 2000000 in
theorem drawRep_any (A : Option Addr) (n c : Nat) (zs : List Int) (w : World) (h : Ints .u8 w w.heap.size A n c zs) :
    Calls Try.prog 20 #[.slice A n c] w (RepDraw w) := by
  go_enter Try.func20, Try.ntmps20
  go_wp2_with fail
  refine (open_any A n c zs _ h).mono ?_
  rintro e w1 ⟨rfl, hr1, hb1, hs1⟩
  go_wp2_with fail
  refine (drawShards_any w w.heap.size 0 _ hr1 hb1 (by omega)).mono ?_
  rintro e w2 ⟨size, need, g, cc, p, L, rfl, h1, h2, h3, h4, h5, h6, h7⟩
  clear hr1 hb1 hs1
  go_wp2_with fail
  refine (pick_any 10 _ w.heap.size p _ h4 (by omega) (by omega)).mono ?_
  rintro e w3 ⟨v, rfl, hv0, hv1, hr, hg, hs⟩
  go_wp2_with fail
  (try simp only [Exit.inBlock, Exit.then])
  refine bodyPost_ret (results_four rfl _ _ _) rfl ?_
  exact ⟨size, need, _, cc, L, v, rfl, h7 _ hg, h2, h3, h6.trans (grown_below hg h4.1 h6.size)⟩
theorem match_all {size need : Int} {L : List Sh} {out : List Int} (h : JoinSh size need L out true) : (∀ j, j < L.length → matchB out need (num_ L j) (val_ L j) = true) ∧ ((out.length : Int) == size) = true := by
  obtain ⟨hb, h1, h2, h3⟩ := h.said
  obtain ⟨d1, d2, d3, d4, d5⟩ := data_of h
  obtain ⟨p1, p2, p3, p4, p5, p6, p7⟩ := shardsB_parts hb
  refine ⟨fun j hj => ?_, by simp only [beq_iff_eq]; omega⟩
  have hj8 : 1 ≤ num_ L j ∧ num_ L j ≤ 8 := ⟨(p7 j hj).1, (p7 j hj).2.1⟩
  rw [matchB_eq (dataB_true d1 d2 d3 d4 d5) hj8.1 hj8.2, h3 j hj]
  exact eqTo_refl _

set_option maxHeartbeats 4000000 in
theorem walk_FnShardJoinMatches (a0 : Option Addr) (len0 cap0 : Nat) (z0 : List Int) (w : World) (w0 : Ints .u8 w w.heap.size a0 len0 cap0 z0) :
    Calls Try.prog 11 #[.slice a0 len0 cap0] w fun e w' => e = .returned (.bool true) ∧ Below w.heap.size w w' := by
  by_cases h1 : len0 ≤ 1048576
  · have g1 : decide (1048576 < len0) = false := by simp; omega
    go_enter Try.func11, Try.ntmps11
    go_wp2_with fail
    refine (drawJoin_any a0 len0 cap0 z0 _ w0).mono ?_
    clear w0
    rintro e w1 ⟨size, need, A, c, L, rfl, hL, hl8, hv13, hB1⟩
    have HVZ : Hid (∀ j, j < L.length → (val_ L j).length ≤ 2000000) := by unfold Hid; intro j hj; have := hv13 j hj; omega
    clear hv13
    go_wp2_with fail
    refine (joinF_any size need A c L _ hL (by omega) HVZ.out).mono ?_
    rintro e w2 ⟨out, ok, g0, c0, rfl, hj, hg0, u0, hc0, hc0m, hb2⟩
    have ho12 := hj.small
    have HJ := Lib.hid hj
    have HEL := Lib.hid (eqTo_refl out)
    have hB2 : Below w.heap.size w w2 := hB1.trans (hb2.mono hB1.size)
    have hL2 := (hL.below hb2).more hb2.size
    clear hj hb2 hL hB1
    go_wp2_with fail
    refine (joinR_any size need A c L _ hL2 (by omega) HVZ.out).mono ?_
    rintro e w3 ⟨out', ok', gw, cw, rfl, hj', hgw, uw, hcw, hcwm, hb3⟩
    obtain ⟨e1, e2⟩ := JoinSh.one hj' HJ.out
    rw [e1] at uw hcw ⊢
    rw [e2]
    clear hj' e1 e2 out' ok' hcw hcwm hgw
    have hB3 : Below w.heap.size w w3 := hB2.trans (hb3.mono hB2.size)
    have hL3 := (hL2.below hb3).more hb3.size
    have u3 := u0.below hb3 u0.lt
    clear hL2 hB2 hb3 u0
    cases ok with
    | false =>
      go_wp2_with fail
      refine (sameInts_any (some ⟨g0, 0, none⟩) (some ⟨gw, 0, none⟩) out out c0 cw _ _ _ u3.sl uw.sl (by omega) (by omega)).mono ?_
      rintro e w4 ⟨rfl, n4, rfl⟩
      rw [HEL.out]
      have hB4 := bel_n hB3 n4
      have u4 := u3.drewN n4
      have uw4 := uw.drewN n4
      obtain ⟨W, hW⟩ : ∃ W, W = w3.drewN n4 := ⟨_, rfl⟩
      rw [← hW] at hB4 u4 uw4 ⊢
      clear hW
      go_wp2_with fail
      refine (sameInts_any (some ⟨g0, 0, none⟩) (some ⟨gw, 0, none⟩) out out c0 cw _ _ _ u4.sl uw4.sl (by omega) (by omega)).mono ?_
      rintro e w5 ⟨rfl, n5, rfl⟩
      rw [HEL.out]
      have hB5 := bel_n hB4 n5
      go_wp2_with fail
      go_ret
      exact ⟨rfl, hB5⟩
    | true =>
      obtain ⟨hma, hsz⟩ := match_all HJ.out
      have HMA := Lib.hid hma
      clear hma
      go_wp2_with fail
      refine (sameInts_any (some ⟨g0, 0, none⟩) (some ⟨gw, 0, none⟩) out out c0 cw _ _ _ u3.sl uw.sl (by omega) (by omega)).mono ?_
      rintro e w4 ⟨rfl, n4, rfl⟩
      rw [HEL.out]
      have hB4 := bel_n hB3 n4
      have u4 := u3.drewN n4
      have hL4 : ShL (w3.drewN n4) (w3.drewN n4).heap.size A L := hL3
      obtain ⟨W, hW⟩ : ∃ W, W = w3.drewN n4 := ⟨_, rfl⟩
      rw [← hW] at hB4 u4 hL4 ⊢
      clear hW hL3 u3 uw hB3
      go_wp2_with fail
      go_loopw [10] (fun i wr => ∃ k : Nat, k ≤ L.length ∧ i = .int .i64 k ∧ Below W.heap.size W wr) (fun i _ => L.length - (intOf i).toNat)
      case atStart => exact ⟨0, Nat.zero_le _, rfl, Below.refl _ _⟩
      case round =>
        obtain ⟨k, hk, rfl, hb⟩ := hrel
        by_cases hlt : k < L.length
        · obtain ⟨b, off, A', c', rfl, hbl, q1, q2, hcc, hsl⟩ := (hL4.below hb).at_ hlt
          have i1 : (k : Int) < (L.length : Int) := by omega
          have hvk := HVZ.out k hlt
          have u5 := u4.below hb u4.lt
          go_wp2_with fail
          refine (matchF_any _ A' c0 c' out (val_ L k) need (num_ L k) _ u5.sl' (hsl.more hb.size) (by omega) hvk hc0 hc0m).mono ?_
          rintro e w6 ⟨rfl, hb6⟩
          rw [HMA.out k hlt]
          have hB6 : Below W.heap.size W w6 := hb.trans (hb6.mono hb.size)
          clear hb6 hb q1 q2 u5 hsl
          go_wp2_with fail
          exact ⟨⟨k + 1, by omega, by go_num, hB6⟩, by simp [intOf] <;> omega⟩
        · have hkl : L.length = k := by omega
          subst hkl
          go_wp2_with fail
          go_ret
          exact ⟨rfl, hB4.trans (hb.mono hB4.size)⟩
  · have g1 : decide (1048576 < len0) = true := by simp; omega
    go_enter Try.func11, Try.ntmps11
    go_wp2_with fail
    go_ret
    exact ⟨rfl, Below.refl _ _⟩
end Go.Proofs.Ytfkmiflddpjllaa
