/- The reference's shard of symbols, and shards compared. Conditions: symbols. -/
import Derived.Test.YtfkmiflddpjllaaShO
import Derived.Deep.RegionLaw
namespace Go.Proofs.Ytfkmiflddpjllaa
open Go.RowKit
set_option linter.unusedVariables false
set_option linter.unusedSimpArgs false

def sameB (a : Int) (l : List Int) (a' : Int) (l' : List Int) : Bool := decide (a = a' ∧ l = l')
theorem sameB_true {a a' : Int} {l l' : List Int} (h : a = a') (hn : l.length = l'.length) (hq : ∀ j, j < l.length → nth l j = nth l' j) : sameB a l a' l' = true := by
  have := eqTo_true hn hq
  simp only [eqTo, decide_eq_true_eq] at this
  simp [sameB, h, this]
theorem sameB_num {a a' : Int} {l l' : List Int} (h : a ≠ a') : sameB a l a' l' = false := by simp [sameB, h]
theorem sameB_len {a a' : Int} {l l' : List Int} (h : l.length ≠ l'.length) : sameB a l a' l' = false := by
  simp only [sameB, decide_eq_false_iff_not]; rintro ⟨_, e⟩; exact h (by rw [e])
theorem sameB_at {a a' : Int} {l l' : List Int} (k : Nat) (h : nth l k ≠ nth l' k) : sameB a l a' l' = false := by
  simp only [sameB, decide_eq_false_iff_not]; rintro ⟨_, e⟩; exact h (by rw [e])
def BoolW (b : Bool) (w : World) (e : Ending) (w' : World) : Prop := e = .returned (.bool b) ∧ Below w.heap.size w w'
theorem belowN {B : Nat} {a w : World} (h : Below B a w) (n : Nat) : Below B a (w.drewN n) := ⟨h.os, h.tape, h.output, h.size, h.block⟩
theorem two_cells (W : World) (x y : Value) (t : TypeId) : (W.alloc (.cells #[x, y] t)).heap[W.heap.size]? = some (.cells #[x, y] t (0, 0)) := heap_alloc_new W _
theorem box2 {w : World} {g : Nat} {x y : Value} {t : TypeId} (h : w.heap[g]? = some (.cells #[x, y] t (0, 0))) : w.cell? ⟨g, 0, none⟩ = some x ∧ w.cell? ⟨g, 1, none⟩ = some y ∧ w.frozen? ⟨g, 0, none⟩ = false ∧ w.frozen? ⟨g, 1, none⟩ = false := by
  refine ⟨?_, ?_, ?_, ?_⟩ <;> simp [World.cell?, World.frozen?, h]

set_option maxHeartbeats 4000000 in
theorem same3_any (a a' : Int) (A A' : Option Addr) (l l' : List Int) (c c' : Nat) (w : World) (h : Sl w w.heap.size A l) (h' : Sl w w.heap.size A' l') (hl : l.length ≤ 2000000) (hl' : l'.length ≤ 2000000) :
    Calls Try.prog 59 #[.agg #[.int .i64 a, .slice A l.length c], .agg #[.int .i64 a', .slice A' l'.length c']] w (BoolW (sameB a l a' l') w) := by
  obtain ⟨W, hW⟩ : ∃ W, W = (w.alloc (.cells #[.int .i64 a, .slice A l.length c] 30)).alloc (.cells #[.int .i64 a', .slice A' l'.length c'] 30) := ⟨_, rfl⟩
  have hB : Below w.heap.size w W := by rw [hW]; exact ((Below.refl _ _).alloc (Nat.le_refl _) _).alloc (by simp) _
  have b1 : W.heap[w.heap.size]? = some (.cells #[.int .i64 a, .slice A l.length c] 30 (0, 0)) := by
    rw [hW]; exact (Below.heap_alloc _ _ _ (by simp)).trans (two_cells w _ _ _)
  have b2 : W.heap[w.heap.size + 1]? = some (.cells #[.int .i64 a', .slice A' l'.length c'] 30 (0, 0)) := by
    rw [hW]; have := two_cells (w.alloc (.cells #[.int .i64 a, .slice A l.length c] 30)) (.int .i64 a') (.slice A' l'.length c') 30; simpa using this
  obtain ⟨_, c1, _, _⟩ := box2 b1
  obtain ⟨_, c2, _, _⟩ := box2 b2
  by_cases ha : a = a'
  · have g1 : (a != a') = false := by simpa using ha
    by_cases hn : l.length = l'.length
    · have hn' : ((l.length : Int) != l'.length) = false := by simp; omega
      have HN := Lib.hid hn
      have HA := Lib.hid ha
      clear hn ha
      go_enter Try.func59, Try.ntmps59
      go_wp2_with fail
      rw [← hW]
      clear hW b1 b2
      go_loopw [5] (fun i wr => ∃ k m : Nat, k ≤ l.length ∧ i = .int .i64 k ∧ wr = W.drewN m ∧ ∀ j, j < k → nth l j = nth l' j) (fun i _ => l.length - (intOf i).toNat)
      case atStart => exact ⟨0, 0, Nat.zero_le _, rfl, rfl, fun j hj => absurd hj (by omega)⟩
      case round =>
        obtain ⟨k, m, hk, rfl, rfl, heq⟩ := hrel
        have HQ := Lib.hid heq
        clear heq
        by_cases hlt : k < l.length
        · obtain ⟨b, off, rfl, hb, hc⟩ := (h.below hB).at_ hlt
          have hlt' : k < l'.length := by have := HN.out; omega
          obtain ⟨b', off', rfl, hb', hc'⟩ := (h'.below hB).at_ hlt'
          have d1 : (k : Int) < (l.length : Int) := by omega
          have d2 : (k : Int) < (l'.length : Int) := by omega
          have d3 : (0 : Int) ≤ (k : Int) := by omega
          by_cases hv : nth l k = nth l' k
          · have hv' : (nth l k != nth l' k) = false := by simpa using hv
            have HV := Lib.hid hv
            clear hv
            go_wp2_with fail
            go_quiet (fail)
            go_wp2_with fail
            exact ⟨⟨k + 1, _, by omega, by go_num, rfl, fun j hj => by
              by_cases e : j = k
              · rw [e]; exact HV.out
              · exact HQ.out j (by omega)⟩, by simp [intOf]; omega⟩
          · have hv' : (nth l k != nth l' k) = true := by simpa using hv
            have HF := Lib.hid (sameB_at (a := a) (a' := a') k hv)
            clear hv
            go_wp2_with fail
            go_quiet (fail)
            go_wp2_with fail
            go_ret
            exact ⟨by rw [HF.out]; rfl, belowN (belowN hB _) _⟩
        · have HT := Lib.hid (sameB_true HA.out HN.out (fun j hj => HQ.out j (by omega)))
          go_wp2_with fail
          go_ret
          exact ⟨by rw [HT.out]; rfl, belowN hB _⟩
    · have hn' : ((l.length : Int) != l'.length) = true := by simp; omega
      rw [sameB_len hn]
      rw [hW] at hB
      clear hn ha b1 b2 c1 c2 hW
      go_enter Try.func59, Try.ntmps59
      go_wp2_with fail
      go_ret
      exact ⟨rfl, hB⟩
  · have g1 : (a != a') = true := by simpa using ha
    rw [sameB_num ha]
    rw [hW] at hB
    clear ha b1 b2 c1 c2 hW
    go_enter Try.func59, Try.ntmps59
    go_wp2_with fail
    go_ret
    exact ⟨rfl, hB⟩

theorem below_drew' {w w' : World} {B : Nat} (h : Below B w w') : Below B w w'.drew := ⟨h.os, h.tape, h.output, h.size, h.block⟩
theorem keep_box {W w5 : World} {g S : Nat} {o o' : Obj} (hg : (W.alloc o).grownBy w5 (some g)) (h : W.heap[S]? = some o') (hne : g ≠ S) : w5.heap[S]? = some o' := by
  have hlt : S < W.heap.size := (Array.getElem?_eq_some_iff.1 h).1
  exact (hg.block S (by simp; omega) (by simpa using hne.symm)).trans ((Below.heap_alloc W o S hlt).trans h)
theorem box2_set {w : World} {g : Nat} {x y : Value} {t : TypeId} (h : w.heap[g]? = some (.cells #[x, y] t (0, 0))) (v : Value) : (w.setCell ⟨g, 1, none⟩ v).heap[g]? = some (.cells #[x, v] t (0, 0)) := by
  simp [World.setCell, Array.getElem?_modify, h]
theorem box2_set0 {w : World} {g : Nat} {x y : Value} {t : TypeId} (h : w.heap[g]? = some (.cells #[x, y] t (0, 0))) (v : Value) : (w.setCell ⟨g, 0, none⟩ v).heap[g]? = some (.cells #[v, y] t (0, 0)) := by
  simp [World.setCell, Array.getElem?_modify, h]
theorem OwnI.block {w w' : World} {B g c : Nat} {l : List Int} (h : OwnI w B g c l) (e : w'.heap[g]? = w.heap[g]?) : OwnI w' B g c l := by
  refine ⟨h.1, ?_⟩
  rcases h.2 with h1 | ⟨g', cap, cur, h1, h2, hh, hr⟩
  · exact .inl h1
  · have : g' = g := by simp only [Value.slice.injEq, Option.some.injEq, Addr.mk.injEq, and_true, true_and] at h1; omega
    subst this
    exact .inr ⟨g', cap, cur, h1, h2, e.trans hh, hr⟩

/-- A shard whose values lie in a block of their own. -/
def ShardIs (x : Int) (l : List Int) (w : World) (e : Ending) (w' : World) : Prop :=
  ∃ g c, w.heap.size ≤ g ∧ e = .returned (.agg #[.int .i64 x, .slice (some ⟨g, 0, none⟩) l.length c]) ∧ Wr w' g l ∧ l.length ≤ c ∧ c ≤ maxLen ∧ Below w.heap.size w w'
/-- The values of the first k columns. -/
def shPre (data : List Int) (need : Nat) (x : Int) (k : Nat) : List Int := rowL k fun c => Dag.ev (col data need c) x
theorem shPre_all (data : List Int) (need : Nat) (x : Int) : shPre data need x (cols data.length need) = shVals data need x := rfl
theorem shPre_len (data : List Int) (need : Nat) (x : Int) (k : Nat) : (shPre data need x k).length = k := rowL_len _ _
theorem shPre_succ (data : List Int) (need : Nat) (x : Int) (k : Nat) : shPre data need x k ++ [Dag.ev (col data need k) x] = shPre data need x (k + 1) := rowL_succ k fun c => Dag.ev (col data need c) x

set_option maxHeartbeats 4000000 in
theorem shardS_any (A : Option Addr) (c : Nat) (data : List Int) (need : Nat) (x : Int) (w : World) (h : Sl w w.heap.size A data) (hd : allIn 0 250 data = true) (hl : data.length ≤ 12) (h1 : 1 ≤ need) (h8 : need ≤ 8) (h0 : 0 ≤ x) (h250 : x ≤ 250) :
    Calls Try.prog 54 #[.slice A data.length c, .int .i64 need, .int .i64 x] w (ShardIs x (shVals data need x) w) := by
  have hC : cols data.length need ≤ 12 := cols_12 (by omega) hl
  obtain ⟨C, hCe⟩ : ∃ C, C = cols data.length need := ⟨_, rfl⟩
  have HVA : Hid (shPre data need x C = shVals data need x) := by unfold Hid; rw [hCe]; exact shPre_all data need x
  have HCL : Hid (∀ k, k < C ↔ k * need < data.length) := by unfold Hid; intro k; rw [hCe]; exact cols_le (by omega)
  rw [← hCe] at hC
  clear hCe
  obtain ⟨W, hW⟩ : ∃ W, W = ((w.alloc (.cells #[.int .i64 0, .slice none 0 0] 30)).alloc (.cells #[] 3)).alloc (.cells #[.int .i64 x, .slice (some ⟨w.heap.size + 1, 0, none⟩) 0 0] 30) := ⟨_, rfl⟩
  have hB0 : Below w.heap.size w W := by rw [hW]; exact (((Below.refl _ _).alloc (Nat.le_refl _) _).alloc (by simp) _).alloc (by simp; omega) _
  have bR0 : W.heap[w.heap.size]? = some (.cells #[.int .i64 0, .slice none 0 0] 30 (0, 0)) := by
    rw [hW]; exact (Below.heap_alloc _ _ _ (by simp; omega)).trans ((Below.heap_alloc _ _ _ (by simp)).trans (two_cells w _ _ _))
  have bS0 : W.heap[w.heap.size + 1 + 1]? = some (.cells #[.int .i64 x, .slice (some ⟨w.heap.size + 1, 0, none⟩) 0 0] 30 (0, 0)) := by
    rw [hW]; have := two_cells ((w.alloc (.cells #[.int .i64 0, .slice none 0 0] 30)).alloc (.cells #[] 3)) (.int .i64 x) (.slice (some ⟨w.heap.size + 1, 0, none⟩) 0 0) 30; simpa using this
  have hO0 : OwnI W (w.heap.size + 1) (w.heap.size + 1) 0 [] := by
    have := (OwnI.made (w.alloc (.cells #[.int .i64 0, .slice none 0 0] 30)) (w.heap.size + 1) (by simp)).alloc (.cells #[.int .i64 x, .slice (some ⟨w.heap.size + 1, 0, none⟩) 0 0] 30)
    rw [hW]; simpa using this
  go_enter Try.func54, Try.ntmps54
  go_wp2_with fail
  rw [← hW]
  clear hW
  obtain ⟨S, hS⟩ : ∃ S, S = w.heap.size + 1 + 1 := ⟨_, rfl⟩
  rw [← hS] at bS0 ⊢
  have HS := Lib.hid hS
  clear hS
  go_loopw [8] (fun i wr => ∃ k g cp : Nat, k ≤ C ∧ i = .int .i64 k ∧ wr.heap[w.heap.size]? = some (.cells #[.int .i64 0, .slice none 0 0] 30 (0, 0)) ∧ wr.heap[S]? = some (.cells #[.int .i64 x, .slice (some ⟨g, 0, none⟩) (shPre data need x k).length cp] 30 (0, 0)) ∧ OwnI wr (w.heap.size + 1) g cp (shPre data need x k) ∧ g ≠ S ∧ Below w.heap.size w wr) (fun i _ => C - (intOf i).toNat)
  case atStart => exact ⟨0, w.heap.size + 1, 0, Nat.zero_le _, rfl, bR0, by simpa [shPre, rowL] using bS0, hO0, by have := HS.out; omega, hB0⟩
  case round =>
    clear hB0 bR0 bS0 hO0
    obtain ⟨k, g, cp, hk, rfl, bR, bS, hown, hgS, hb⟩ := hrel
    have hpl := shPre_len data need x k
    obtain ⟨p, hp⟩ : ∃ p, p = k * need := ⟨_, rfl⟩
    have hpi : (k : Int) * (need : Int) = (p : Int) := by rw [hp]; simp
    have hkn : k * need ≤ 12 * 8 := Nat.mul_le_mul (by omega) h8
    have hkl := HCL.out k
    rw [← hp] at hkn hkl
    have HP := Lib.hid hp
    clear hp
    have a1 : IntKind.i64.wrap (p : Int) = (p : Int) := IntWalk.i64_in _ (by omega)
    have hge := hown.parts.1
    have hsz := hb.size
    have hSlt : S < wr.heap.size := (Array.getElem?_eq_some_iff.1 bS).1
    obtain ⟨_, s1, _, _⟩ := box2 bS
    by_cases hlt : k < C
    · have hin : p < data.length := hkl.1 hlt
      have t1 : decide ((p : Int) < (data.length : Int)) = true := by simp; omega
      have HT := Lib.hid (shPre_succ data need x k)
      have hp12 : (shPre data need x k).length ≤ 12 := by omega
      have HPL := Lib.hid hpl
      have HKL := Lib.hid hkl
      clear hpl hkl
      go_wp2_with fail
      have sA : ∀ (n : Nat) (o : Obj), ((wr.drewN n).alloc o).cell? ⟨S, 1, none⟩ = some (.slice (some ⟨g, 0, none⟩) (shPre data need x k).length cp) := fun n o => (box2 ((Below.heap_alloc (wr.drewN n) o S hSlt).trans bS)).2.1
      clear a1 t1 hpi
      go_region_law (first
        | (refine step_one rfl (.tmp 21) (.tmp 27) rfl (w.heap.size + 1) g cp _ _ _ HT.out (by simp [Act.eval, Act.put]) wr.heap.size (by simp [Act.eval, Act.put]) (heap_alloc_new (wr.drewN (1 + m)) _) (OwnI.alloc (w := wr.drewN (1 + m)) hown _) (by omega) (by have := hb.size; simp; omega) ?_; intro g' c' w5 ho hg hf; have b5 := keep_box (W := wr.drewN (1 + m)) hg bS hgS; obtain ⟨_, q1, _, q2⟩ := box2 b5)
        | (go_simp; go_at_call 66; refine (value_any _ _ data need k x _ w.heap.size (h.below (below_drew' hb)) hd (by omega) (by omega) (by omega) h0 h250).mono ?_; rintro e w1 ⟨rfl, m, rfl⟩))
      all_goals
        have hne' : g' ≠ S := by
          rcases hf with e | e
          · omega
          · simp at e; omega
        have bR5 := keep_box (W := wr.drewN (1 + m)) hg bR (by omega)
        have hB5 : Below w.heap.size w w5 := ((belowN hb (1 + m)).alloc hb.size _).grown hg (by have := hb.size; simp; omega) (fun kk e => by injection e with e; omega)
        have ho6 := ho.block (w' := w5.setCell ⟨S, 1, none⟩ (.slice (some ⟨g', 0, none⟩) (shPre data need x (k + 1)).length c')) (Below.heap_setCell _ _ _ _ hne')
        have bR6 := (Below.heap_setCell w5 ⟨S, 1, none⟩ (.slice (some ⟨g', 0, none⟩) (shPre data need x (k + 1)).length c') w.heap.size (by have := HS.out; simp; omega)).trans bR5
        have bS6 := box2_set b5 (.slice (some ⟨g', 0, none⟩) (shPre data need x (k + 1)).length c')
        have hB6 := hB5.setCell (p := ⟨S, 1, none⟩) (by have := HS.out; simp; omega) (.slice (some ⟨g', 0, none⟩) (shPre data need x (k + 1)).length c')
        clear sA hg hf b5 q1 q2 bR5 hB5 ho bR bS s1 hown hb
        go_wp2_with fail
        exact ⟨⟨k + 1, g', c', by omega, by go_num, bR6, bS6, ho6, hne', hB6⟩, by simp [intOf]; omega⟩
    · obtain rfl : k = C := by omega
      have hin : ¬ p < data.length := fun hh => hlt (hkl.2 hh)
      have t1 : decide ((p : Int) < (data.length : Int)) = false := by simp; omega
      obtain ⟨s0, _, _, _⟩ := box2 bS
      obtain ⟨r0, r1, r2, r3⟩ := box2 bR
      obtain ⟨k1, k2, k3, k4, k5⟩ := hown.parts
      have HPL := Lib.hid hpl
      have HKL := Lib.hid hkl
      clear hpl hkl hown
      go_wp2_with fail
      have hgR : g ≠ w.heap.size := by omega
      obtain ⟨V, hV⟩ : ∃ V, V = (wr.setCell ⟨w.heap.size, 0, none⟩ (.int .i64 x)).setCell ⟨w.heap.size, 1, none⟩ (.slice (some ⟨g, 0, none⟩) (shPre data need x k).length cp) := ⟨_, rfl⟩
      have bV : V.heap[w.heap.size]? = some (.cells #[.int .i64 x, .slice (some ⟨g, 0, none⟩) (shPre data need x k).length cp] 30 (0, 0)) := by
        rw [hV]; exact box2_set (box2_set0 bR _) _
      have hVb : Below w.heap.size w V := by
        rw [hV]; exact (hb.setCell (p := ⟨w.heap.size, 0, none⟩) (Nat.le_refl _) _).setCell (p := ⟨w.heap.size, 1, none⟩) (Nat.le_refl _) _
      have hVw : Wr V g (shPre data need x k) := by
        rw [hV]; exact (k5.block (Below.heap_setCell _ _ _ _ hgR)).block (Below.heap_setCell _ _ _ _ hgR)
      obtain ⟨v0, v1, _, _⟩ := box2 bV
      rw [← hV]
      clear hV bV
      refine bodyPost_ret (v := .agg #[.int .i64 x, .slice (some ⟨g, 0, none⟩) (shPre data need x k).length cp]) (by simp [results, Try.results54, go_sem, v0, v1]) rfl ?_
      exact ⟨g, cp, by omega, by rw [HVA.out], by rw [← HVA.out]; exact hVw, by rw [← HVA.out]; exact k3, k4, hVb⟩
end Go.Proofs.Ytfkmiflddpjllaa
