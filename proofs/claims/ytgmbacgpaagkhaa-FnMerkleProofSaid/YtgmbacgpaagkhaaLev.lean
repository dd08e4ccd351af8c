/- The levels of a tree, enumerated by the program. Conditions: one to sixteen digests. -/
import Derived.Test.YtgmbacgpaagkhaaUp
import Derived.Test.YtgmbacgpaagkhaaRange
namespace Go.Proofs.Ytgmbacgpaagkhaa
open Go.RowKit Go.Shelf
set_option linter.unusedVariables false
set_option linter.unusedSimpArgs false
attribute [local go_sem] Oper.semAt_some

theorem below_grown {w w' : World} (h : Below w.heap.size w w') : w.grownBy w' none := ⟨h.os, h.tape, h.output, h.size, fun k hk _ => h.block k hk⟩
theorem grown_none {w w' : World} (h : w.grownBy w' none) : Below w.heap.size w w' := ⟨h.os, h.tape, h.output, h.size, fun k hk => h.block k hk (by simp)⟩
def lev (zs : List Int) : Nat → List Int
  | 0 => zs
  | k + 1 => Dag.up (lev zs k)
theorem digs {l : List Int} (h : allIn 0 990 l = true) : ∀ a ∈ l, Dag.dig a := fun a ha => allIn_mem h ha
theorem digs' {l : List Int} (h : ∀ a ∈ l, Dag.dig a) : allIn 0 990 l = true := by
  simp only [allIn, List.all_eq_true, decide_eq_true_eq]; exact h
theorem lev_in {zs : List Int} (h : allIn 0 990 zs = true) : ∀ k, allIn 0 990 (lev zs k) = true
  | 0 => h
  | k + 1 => digs' (Dag.up_dig _ (digs (lev_in h k)))
theorem lev_len {zs : List Int} (h1 : 1 ≤ zs.length) (h2 : zs.length ≤ 16) : ∀ k, 1 ≤ (lev zs k).length ∧ (lev zs k).length ≤ 16
  | 0 => ⟨h1, h2⟩
  | k + 1 => by have := lev_len h1 h2 k; unfold lev; rw [Dag.up_len]; omega
abbrev Lv := Nat × Nat × List Int
def encL (x : Lv) : Array Value := #[.slice (some ⟨x.1, 0, none⟩) x.2.2.length x.2.1]
def LevRd (zs : List Int) (pre : List Lv) (x : Lv) (X W : World) : Prop :=
  x.2.2 = lev zs pre.length ∧ X.heap.size ≤ x.1 ∧ Wr W x.1 x.2.2 ∧ ∀ j, j < pre.length → 1 < (lev zs j).length
def LevEnd (zs : List Int) (xs : List Lv) : Prop := 1 ≤ xs.length ∧ (∀ j, j + 1 < xs.length → 1 < (lev zs j).length) ∧ (lev zs (xs.length - 1)).length ≤ 1
/-- The block of x, if it holds cells, is kept. -/
def KeepL (x : Lv) (W W' : World) : Prop := ∀ o : Obj, W.heap[x.1]? = some o → o.isCells = true → W'.heap[x.1]? = some o
theorem KeepL.wr {x : Lv} {W W' : World} {l : List Int} (h : KeepL x W W') (hw : Wr W x.1 l) : Wr W' x.1 l := by
  obtain ⟨cs, t, hh, hr⟩ := hw
  exact ⟨cs, t, h _ hh rfl, hr⟩
theorem KeepL.of {x : Lv} {W W' : World} (h : W'.heap[x.1]? = W.heap[x.1]?) : KeepL x W W' := fun o ho _ => h.trans ho
theorem KeepL.put (x : Lv) (W : World) (l : Nat) (o o' : Obj) (ho : W.heap[l]? = some o) (hc : o.isCells = false) : KeepL x W (W.putObj l o') := fun q hq hqc => by
  by_cases e : x.1 = l
  · rw [e, ho] at hq; cases hq; rw [hc] at hqc; cases hqc
  · exact (World.putObj_heap_other e).trans hq
def sLen : Value → Nat
  | .slice _ n _ => n
  | _ => 0

theorem eq_nil (b off n c : Nat) (w : World) : (binOp .eql 22 (.slice (some ⟨b, off, none⟩) n c) (.slice none 0 0)).run Try.prog w = .ok (.bool false) w := by kernel_rfl

set_option maxHeartbeats 1000000 in
theorem clone_any (A : Option Addr) (c : Nat) (l : List Int) (w : World) (h : Sl w w.heap.size A l) (h1 : 1 ≤ l.length) (h2 : l.length ≤ 1000) :
    Calls Try.prog 42 #[.slice A l.length c] w (FreshI l w) := by
  obtain ⟨b, off, rfl, hb, hc⟩ := h (by intro e; rw [e] at h1; simp at h1)
  obtain ⟨i0, hi, hz0, hz1, hz2⟩ := info_parts info_int
  have hown := OwnI.made w w.heap.size (Nat.le_refl _)
  have hB0 : Below w.heap.size w (w.alloc (.cells #[] 3)) := (Below.refl _ _).alloc (Nat.le_refl _) _
  have hnil := eq_nil b off l.length c
  go_enter Try.func42, Try.ntmps42
  go_wp2_with (at_builtin; refine wpList_app rfl _ _ 22 rfl w.heap.size 3 i0 (.int .i64 0) 1 8 Try.underlying22 hi hz0 hz1 hz2 rfl (by decide) w.heap.size 0 0 [] rfl hown ⟨b, off, none⟩ l.length c (l.map (Value.int .i64)) rfl (by simp) ?c1 ?c2 ?c3 ?c4 ?c5 ?_)
  case c1 =>
    intro j u hu
    simp only [List.getElem?_map, Option.map_eq_some_iff] at hu
    obtain ⟨v, hv, rfl⟩ := hu
    obtain ⟨hj, rfl⟩ := List.getElem?_eq_some_iff.1 hv
    have := (hB0.cell (p := ⟨b, off + j, none⟩) hb).trans (hc j hj)
    rw [nth_lt hj] at this
    by_cases hz : j = 0
    · subst hz; simpa [Addr.add] using this
    · simpa [Addr.add, hz] using this
  case c2 => intro u hu; simp only [List.mem_map] at hu; obtain ⟨v, _, rfl⟩ := hu; rfl
  case c3 => simp only [maxLen]; omega
  case c4 => omega
  case c5 => simp
  intro g' c' w' h3 h4 h5
  have hown' : OwnI w' w.heap.size g' c' l := by unfold OwnI; simpa using h3
  have hb' : Below w.heap.size w w' := hB0.grown h4 (by simp) (fun kk e => by injection e with e; omega)
  clear h3 h4 h5 hown hB0
  go_wp2_with fail
  go_ret
  exact hown'.fresh hb'

set_option maxRecDepth 100000 in
set_option maxHeartbeats 2000000 in
theorem levels_seq (n : Nat) (hn : 2 ≤ n) (Bs c : Nat) (A : Option Addr) (zs : List Int) (hz : allIn 0 990 zs = true) (h1 : 1 ≤ zs.length) (h16 : zs.length ≤ 16) (w : World) (hBs : Boxed w Bs 22 (.slice A zs.length c)) (hlt : Bs < w.heap.size) (hI : Sl w w.heap.size A zs) :
    SeqX Fence.wide n Try.prog 41 #[.pointer (some ⟨Bs, 0, none⟩)] encL (LevRd zs) none KeepL (LevEnd zs) w := by
  intro l J Jx W hW hJ hJx hY h0
  refine callsIn_of_wp Try.func41 rfl trivial ?_ rfl
  simp only [Try.ntmps41, List.size_toArray, List.length_cons, List.length_nil, Nat.reduceAdd, Nat.reduceSub, Array.replicate_succ, Array.replicate_zero, List.push_toArray, List.append_toArray, List.nil_append, List.cons_append]
  have hw : ∀ f, Fence.wide.fn f := fun _ => trivial
  have hn1 : 1 ≤ n := by omega
  have hcl := Boxed.cell (show Boxed W Bs 22 (.slice A zs.length c) from (hW.block Bs hlt).trans hBs)
  have hIW : Sl W W.heap.size A zs := (hI.below hW).more hW.size
  gi_wp2_with (gi_at_call 42; refine (callsIn_wide.2 (clone_any _ _ zs _ hIW h1 (by omega))).mono ?_; rintro e w1 ⟨g1, c1, hg1, rfl, u1, hc1, hm1, hb1⟩)
  gi_loopw [3] (fun v wr => ∃ (pre : List Lv) (X : World) (g cp : Nat), v = .slice (some ⟨g, 0, none⟩) (lev zs pre.length).length cp ∧ J pre X ∧ X.grownBy wr none ∧ X.heap.size ≤ g ∧ Wr wr g (lev zs pre.length) ∧ ∀ j, j < pre.length → 1 < (lev zs j).length) (fun v _ => sLen v)
  case atStart => exact ⟨[], W, g1, c1, rfl, h0, below_grown hb1, hg1, u1, fun j hj => absurd hj (by simp)⟩
  case round =>
    obtain ⟨pre, X, g, cp, rfl, hJX, hgX, hgg, hwr, hall⟩ := hrel
    obtain ⟨fn, tmps, assign, body, hy, hR⟩ := hY pre (g, cp, lev zs pre.length) X wr hJX hgX ⟨rfl, hgg, hwr, hall⟩
    obtain ⟨hl1, hl2⟩ := lev_len h1 h16 pre.length
    have HIN := Lib.hid (lev_in hz pre.length)
    simp only [encL] at hy
    obtain ⟨L, hL⟩ : ∃ L, L = lev zs pre.length := ⟨_, rfl⟩
    have hup : Dag.up L = lev zs (pre ++ [(g, cp, L)]).length := by rw [hL]; simp [lev]
    rw [← hL] at hy hR hwr hl1 hl2 HIN ⊢
    have HL := Lib.hid hL
    have HUP := Lib.hid hup
    clear hL hup
    gi_wp2
    refine hR.mono ?_
    rintro e W3 (⟨rfl, hJ3, hk3⟩ | ⟨rfl, hJx3⟩)
    · have hwr3 : Wr W3 g L := hk3.wr hwr
      by_cases hlen : 1 < L.length
      · have t1 : decide ((1 : Int) < (L.length : Int)) = true := by simp; omega
        have t1' : decide (1 < L.length) = true := by simp; omega
        gi_wp2_with (gi_at_call 43; refine (callsIn_wide.2 (above_any _ _ L _ hwr3.sl' HIN.out (by omega))).mono ?_; rintro e w4 ⟨g4, c4, hg4, rfl, u4, hc4, hm4, hb4⟩)
        go_roundw
        case rel =>
          exact ⟨pre ++ [(g, cp, L)], W3, g4, c4, by rw [← HUP.out], hJ3, below_grown hb4, hg4, by rw [← HUP.out]; exact u4, fun j hj => by
            by_cases e : j = pre.length
            · rw [e, ← HL.out]; exact hlen
            · exact hall j (by simp at hj; omega)⟩
        case measure => simp only [sLen]; rw [Dag.up_len]; omega
      · have t1 : decide ((1 : Int) < (L.length : Int)) = false := by simp; omega
        have t1' : decide (1 < L.length) = false := by simp; omega
        gi_wp2
        go_end0
        exact ⟨⟨_, rfl⟩, .inl ⟨_, ⟨by simp, fun j hj => hall j (by simp at hj; omega), by simp only [List.length_append, List.length_cons, List.length_nil, Nat.zero_add, Nat.add_sub_cancel]; rw [← HL.out]; omega⟩, hJ3⟩⟩
    · gi_wp2
      go_end0
      exact ⟨⟨_, rfl⟩, .inr ⟨_, hJx3⟩⟩
end Go.Proofs.Ytgmbacgpaagkhaa
