/- The value of a polynomial at a number, by the library's walk over a slice from its end. Conditions: coefficients and number are symbols. -/
import Derived.RangeFuncNested
import Derived.RangeFuncBound
import Derived.RangeFuncCalls
import Derived.RangeFuncLeaves
import Derived.Shelf.Abstract
import Derived.Shelf.RegionOpen
import Derived.OwnWalkIn
import Derived.TacticsInMore
import Derived.LoopNIn
import Derived.LoopIn
import Derived.Test.YtfkmiflddpjllaaInts
import Derived.Test.YtfkmiflddpjllaaFld
namespace Go.Proofs.Ytfkmiflddpjllaa
open Go.RowKit Go.Shelf
set_option linter.unusedVariables false
set_option linter.unusedSimpArgs false
attribute [local go_sem] Oper.semAt_some

/-- A symbol. -/
abbrev Sy := { x : Int // 0 ≤ x ∧ x ≤ 250 }
/-- What a round keeps: the blocks below n₀ and block Bs. -/
def KpB (n₀ Bs : Nat) (W W' : World) : Prop := Below n₀ W W' ∧ W'.heap[Bs]? = W.heap[Bs]?
theorem kpB_t {n₀ Bs : Nat} {A B C : World} (h : KpB n₀ Bs A B) (k : KpB n₀ Bs B C) : KpB n₀ Bs A C := ⟨h.1.trans k.1, k.2.trans h.2⟩
theorem kpB_b {n₀ Bs : Nat} {w : World} (hn : n₀ ≤ w.heap.size) (hB : Bs < w.heap.size) (W : World) (l : Nat) (o o' : Obj) (hl : w.heap.size ≤ l) (h : W.heap[l]? = some o) (h1 : o.isCells = false) (h2 : o.isWalk = false) : KpB n₀ Bs W (W.putObj l o') :=
  ⟨belowK_b hn W l o o' hl h h1 h2, World.putObj_heap_other (by omega)⟩

theorem nthB {l : List Int} (h : allIn 0 250 l = true) (j : Nat) : 0 ≤ nth l j ∧ nth l j ≤ 250 := by
  by_cases hj : j < l.length
  · exact allIn_get h hj
  · simp [nth, List.getElem?_eq_none (show l.length ≤ j by omega)]
/-- The j-th pair that comes from the end. -/
def bk {l : List Int} (h : allIn 0 250 l = true) (j : Nat) : Nat × Sy := (l.length - 1 - j, ⟨nth l (l.length - 1 - j), nthB h _⟩)
def upto {α : Type} (f : Nat → α) (k : Nat) : List α := (List.range k).map f
theorem upto_succ {α : Type} (f : Nat → α) (k : Nat) : upto f (k + 1) = upto f k ++ [f k] := by simp [upto, List.range_succ]
theorem upto_length {α : Type} (f : Nat → α) (k : Nat) : (upto f k).length = k := by simp [upto]

set_option maxRecDepth 100000 in
set_option maxHeartbeats 2000000 in
theorem back1_in (F : Fence) (n : Nat) (h7 : F.fn 71) (hro : F.round = none) (hn : 1 ≤ n) (l : Nat) (Bs n₀ c : Nat) (A : Option Addr) (zs : List Int) (hz : allIn 0 250 zs = true) (hreach : zs.length ≤ 1000) (J Jx : List (Nat × Sy) → World → Prop)
    (hY : ∀ pre x W, J pre W → pre.length < zs.length → YieldAt F (n - 1) Try.prog l #[.int .i64 (x.1 : Int), .int .i64 x.2.1] W fun e W' =>
      (e = .returned (.bool true) ∧ J (pre ++ [x]) W' ∧ KpB n₀ Bs W W') ∨ (e = .returned (.bool false) ∧ Jx (pre ++ [x]) W'))
    (W : World) (hBs : W.heap[Bs]? = some (.cells #[.slice A zs.length c] 26 (0, 0))) (hc : Sl W n₀ A zs) (h0 : J [] W) :
    CallsIn F n Try.prog 71 #[.func (.yield l) #[] #[], .pointer (some ⟨Bs, 0, none⟩)] W fun e W' => (∃ v, e = .returned v) ∧
      ((∃ ys, ys = upto (bk hz) zs.length ∧ J ys W') ∨ (∃ pre, True ∧ Jx pre W')) := by
  refine callsIn_of_wp Try.func71 rfl h7 ?_ hro
  simp only [Try.ntmps71, List.size_toArray, List.length_cons, List.length_nil, Nat.reduceAdd, Nat.reduceSub, Array.replicate_succ, Array.replicate_zero, List.push_toArray, List.append_toArray, List.nil_append, List.cons_append]
  have hcl := Boxed.cell (show Boxed W Bs 26 (.slice A zs.length c) from hBs)
  gi_wp2
  gi_loopw [3] (fun i wr => ∃ k : Nat, k ≤ zs.length ∧ i = .int .i64 (zs.length - 1 - k) ∧ J (upto (bk hz) k) wr ∧ KpB n₀ Bs W wr)
    (fun i _ => (intOf i + 1).toNat)
  case atStart => exact ⟨0, Nat.zero_le _, by simp, h0, Below.refl _ _, rfl⟩
  case round =>
    obtain ⟨k, hk, rfl, hJs, hnx⟩ := hrel
    by_cases hlt : k < zs.length
    · obtain ⟨b, off, rfl, hb, hcx⟩ := hc.at_ (k := zs.length - 1 - k) (by omega)
      have hcx' : wr.cell? ⟨b, off + (zs.length - 1 - k), none⟩ = some (.int .i64 (nth zs (zs.length - 1 - k))) := (hnx.1.cell (p := ⟨b, off + (zs.length - 1 - k), none⟩) hb).trans hcx
      have hbx := Boxed.cell (show Boxed wr Bs 26 (.slice (some ⟨b, off, none⟩) zs.length c) from hnx.2.trans hBs)
      obtain ⟨fn, tmps, assign, body, hy, hR⟩ := hY _ (bk hz k) wr hJs (by rw [upto_length]; exact hlt)
      simp only [bk] at hy
      have hcast : ((zs.length - 1 - k : Nat) : Int) = (zs.length : Int) - 1 - k := by omega
      rw [hcast] at hy
      have e1 : ((zs.length : Int) - 1 - k).toNat = zs.length - 1 - k := by omega
      have e2 : (0 : Int) ≤ (zs.length : Int) - 1 - k := by omega
      gi_wp2
      refine hR.mono ?_
      rintro e W3 (⟨rfl, hJ3, hk3⟩ | ⟨rfl, hJx3⟩)
      · gi_wp2
        go_roundw
        case rel => exact ⟨k + 1, by omega, by go_num, by rw [upto_succ]; exact hJ3, kpB_t hnx hk3⟩
        case measure => simp [intOf]; omega
      · gi_wp2
        refine bodyPost_ret (results_none rfl _ _ _) rfl ?_
        exact ⟨⟨_, rfl⟩, .inr ⟨_, trivial, hJx3⟩⟩
    · obtain rfl : k = zs.length := by omega
      gi_wp2
      go_end0
      exact ⟨⟨_, rfl⟩, .inl ⟨_, rfl, hJs⟩⟩

set_option maxHeartbeats 1000000 in
theorem backward_in (F : Fence) (n : Nat) (h5 : F.fn 70) (hro : F.round = none) (a : Option Addr) (len cap : Nat) (w : World) :
    CallsIn F n Try.prog 70 #[.slice a len cap] w fun e w' => e = .returned (.func (.func 71) #[] #[.pointer (some ⟨w.heap.size, 0, none⟩)]) ∧ w' = w.alloc (.cells #[.slice a len cap] 26) := by
  refine callsIn_of_wp Try.func70 rfl h5 ?_ hro
  simp only [Try.ntmps70, List.size_toArray, List.length_cons, List.length_nil, Nat.reduceAdd, Nat.reduceSub, Array.replicate_succ, Array.replicate_zero, List.push_toArray, List.append_toArray, List.nil_append, List.cons_append]
  gi_wp2
  go_ret
  exact ⟨rfl, rfl⟩

theorem back_stops (F : Fence) (n : Nat) (h7 : F.fn 71) (hro : F.round = none) (hn : 1 ≤ n) (Bs n₀ c : Nat) (A : Option Addr) (zs : List Int) (hz : allIn 0 250 zs = true) (hreach : zs.length ≤ 1000) (w : World) (hBs : Bs < w.heap.size) (hn₀ : n₀ ≤ w.heap.size)
    (hc : Boxed w Bs 26 (.slice A zs.length c)) (hI : Sl w n₀ A zs) :
    SeqStopsK F n Try.prog 71 #[.pointer (some ⟨Bs, 0, none⟩)] (fun x : Nat × Sy => #[Value.int .i64 (x.1 : Int), Value.int .i64 x.2.1]) (KpB n₀ Bs) (fun ys => ys = upto (bk hz) zs.length) (fun _ => True) zs.length w := fun l J Jx W hW _ _ hY h0 =>
  back1_in F n h7 hro hn l Bs n₀ c A zs hz hreach J Jx hY W ((hW.block Bs hBs).trans hc) (hI.below (hW.mono hn₀)) h0

/-- What has been reckoned from the end. -/
def evR (x : Int) (pre : List (Nat × Sy)) : Int := pre.foldl (fun v p => (v * x + p.2.1) % 251) 0
theorem evR_snoc (x : Int) (pre : List (Nat × Sy)) (p : Nat × Sy) : evR x (pre ++ [p]) = (evR x pre * x + p.2.1) % 251 := by simp [evR]
theorem evR_range (x : Int) (pre : List (Nat × Sy)) : 0 ≤ evR x pre ∧ evR x pre ≤ 250 := by
  rcases List.eq_nil_or_concat pre with rfl | ⟨t, p, rfl⟩
  · simp [evR]
  · rw [List.concat_eq_append, evR_snoc]; omega
theorem evR_all (x : Int) {l : List Int} (h : allIn 0 250 l = true) : ∀ k, k ≤ l.length → evR x (upto (bk h) k) = Dag.ev (l.drop (l.length - k)) x
  | 0, _ => by simp [evR, upto, Dag.ev]
  | k + 1, hk => by
    rw [upto_succ, evR_snoc, evR_all x h k (by omega)]
    have h1 : l.length - (k + 1) < l.length := by omega
    rw [List.drop_eq_getElem_cons h1, show l.length - (k + 1) + 1 = l.length - k by omega, Dag.ev]
    simp only [bk]
    rw [nth_lt (show l.length - 1 - k < l.length by omega)]
    have e : l.length - 1 - k = l.length - (k + 1) := by omega
    simp only [e]

set_option maxRecDepth 100000 in
set_option maxHeartbeats 2000000 in
theorem evaluate_in (F : Fence) (n : Nat) (h3 : F.fn 65) (h5 : F.fn 70) (h7 : F.fn 71) (hro : F.round = none) (hn : 3 ≤ n) (A : Option Addr) (c : Nat) (zs : List Int) (x : Int) (hz : allIn 0 250 zs = true) (hreach : zs.length ≤ 1000) (hx0 : 0 ≤ x) (hx1 : x ≤ 250) (w : World) (hI : Sl w w.heap.size A zs) :
    CallsIn F n Try.prog 65 #[.slice A zs.length c, .int .i64 x] w fun e W' => e = .returned (.int .i64 (Dag.ev zs x)) ∧ Below w.heap.size w W' := by
  have h1 : 1 ≤ n := by omega
  refine callsIn_of_wp_marks Try.func65 rfl h3 ?_ hro
  simp only [Try.ntmps65, List.size_toArray, List.length_cons, List.length_nil, Nat.reduceAdd, Nat.reduceSub, Array.replicate_succ, Array.replicate_zero, List.push_toArray, List.append_toArray, List.nil_append, List.cons_append]
  gi_wp2_with (gi_at_call 70; refine (backward_in F (n - 1) h5 hro _ _ _ _).mono ?_; rintro e w' ⟨rfl, rfl⟩)
  have bX := ((Boxed.new w 3 (.int .i64 x)).alloc (.cells #[.int .i64 0] 3)).alloc (.cells #[.slice A zs.length c] 26)
  have bV := (Boxed.new (w.alloc (.cells #[.int .i64 x] 3)) 3 (.int .i64 0)).alloc (.cells #[.slice A zs.length c] 26)
  have bS := Boxed.new ((w.alloc (.cells #[.int .i64 x] 3)).alloc (.cells #[.int .i64 0] 3)) 26 (.slice A zs.length c)
  simp only [World.size_alloc] at bV bS
  have hB0 : Below w.heap.size w (((w.alloc (.cells #[.int .i64 x] 3)).alloc (.cells #[.int .i64 0] 3)).alloc (.cells #[.slice A zs.length c] 26)) := (((Below.refl _ w).alloc (Nat.le_refl _) _).alloc (by simp) _).alloc (by simp; omega) _
  refine wpIn_rangeFunc_ownG hro h1 (gf := 71) (lb := #[.pointer (some ⟨w.heap.size + 1 + 1, 0, none⟩)]) rfl h7 (enters_of Try.func71 (by kernel_rfl) rfl)
    (back_stops F (n - 1) h7 hro (by omega) (w.heap.size + 1 + 1) w.heap.size c A zs hz hreach _ (by simp) (by simp; omega) bS (hI.below hB0)) kpB_t (kpB_b (by simp; omega) (by simp)) (Below.refl _ _) (fun _ => rfl)
    (fun pre W => (Boxed W w.heap.size 3 (.int .i64 x) ∧ Boxed W (w.heap.size + 1) 3 (.int .i64 (evR x pre))) ∧ Below w.heap.size w W)
    (fun _ _ _ => False)
    (OwnFrom.and (OwnFrom.and (Own.from (boxed_own w.heap.size 3 (fun _ => .int .i64 x)) _) (Own.from (boxed_own (w.heap.size + 1) 3 (fun pre => .int .i64 (evR x pre))) _)) (ownFrom_below (Nat.le_refl _) (by simp; omega)))
    (fun _ _ _ _ _ hs _ _ => hs)
    ⟨⟨bX, bV⟩, hB0⟩
    (fun p => { tmps := #[.slice A zs.length c, .int .i64 x, undef, .pointer (some ⟨w.heap.size, 0, none⟩), .int .i64 0, .pointer (some ⟨w.heap.size + 1, 0, none⟩), undef, .int .i64 p.2.1, .slice A zs.length c, .func (.func 71) #[] #[.pointer (some ⟨w.heap.size + 1 + 1, 0, none⟩)], .int .i64 (p.1 : Int), .int .i64 p.2.1, undef, undef, undef, undef, undef, undef, undef], defers := [] }) ?assign ?body ?done ?stop
  case assign =>
    intro l p W K hK
    gi_wp2
    exact hK
  case body =>
    rintro l pre p W ⟨⟨hx, hv⟩, hB⟩ _
    have c1 := hx.cell
    have c2 := hv.cell
    have c3 := hv.frozen
    obtain ⟨r0, r1⟩ := evR_range x pre
    obtain ⟨i, p, p0, p1⟩ := p
    have m0 : 0 ≤ evR x pre * x := Int.mul_nonneg r0 hx0
    have m1 : evR x pre * x ≤ 250 * 250 := Int.mul_le_mul r1 hx1 hx0 (by omega)
    gi_wp2
    refine ⟨(KeepsOthers.setCell _ _ _).from _, ⟨(Below.refl w.heap.size W).setCell (p := ⟨w.heap.size + 1, 0, none⟩) (by simp) _, Below.heap_setCell _ _ _ _ (by simp)⟩, ⟨hx.other (by omega) _, by rw [evR_snoc]; exact hv.set _⟩, hB.setCell (p := ⟨w.heap.size + 1, 0, none⟩) (by simp) _⟩
  case done =>
    rintro D ys W hD rfl ⟨⟨hx, hv⟩, hB⟩ hK
    have c2 := hv.cell
    gi_wp2
    refine ⟨by simp, .inl ⟨_, _, rfl, run_takeDeferred hK, ?_⟩⟩
    refine ⟨_, results_tmp rfl _ _ _, ?_, hB.trans (belowK_b (w := w) (Nat.le_refl _) W D _ _ (by simp at hD; omega) hK rfl rfl)⟩
    rw [evR_all x hz zs.length (Nat.le_refl _)]
    simp
  case stop =>
    rintro D c pre W _ _ h _
    exact h.elim

theorem evaluate_any (A : Option Addr) (c : Nat) (zs : List Int) (x : Int) (hz : allIn 0 250 zs = true) (hreach : zs.length ≤ 1000) (hx0 : 0 ≤ x) (hx1 : x ≤ 250) (w : World) (hI : Sl w w.heap.size A zs) :
    Calls Try.prog 65 #[.slice A zs.length c, .int .i64 x] w fun e W' => e = .returned (.int .i64 (Dag.ev zs x)) ∧ Below w.heap.size w W' :=
  callsIn_wide.1 (evaluate_in Fence.wide 3 trivial trivial trivial rfl (Nat.le_refl _) A c zs x hz hreach hx0 hx1 w hI)
end Go.Proofs.Ytfkmiflddpjllaa
