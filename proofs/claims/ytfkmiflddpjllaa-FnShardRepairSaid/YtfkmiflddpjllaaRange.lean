/- A range over an iterator that yields memory of its own, or writes a variable that it has captured: the caller's law. Conditions: the loop stands in no round of another. -/
import Derived.RangeFuncNested
import Derived.RangeFuncBound
import Derived.RangeFuncCalls
import Derived.RangeFuncLeaves
import Derived.Shelf.Abstract
import Derived.Shelf.RegionOpen
import Derived.OwnWalkIn
import Derived.TacticsInMore
import Derived.LoopNIn
import Derived.LoopIn
namespace Go.Proofs.Ytfkmiflddpjllaa
open Go.RowKit
set_option linter.unusedVariables false

/-- What the iterator and the loop's book-keeping may do between two rounds: new blocks, the iterator's own block, records laid since the loop began. -/
def StepX (B : Nat) (row : Option Nat) (X Y : World) : Prop :=
  X.grownBy Y row ∨ ∃ l o o', B ≤ l ∧ X.heap[l]? = some o ∧ o.isCells = false ∧ Y = X.putObj l o'

/-- The iterator g yields x where Rd says so, and keeps its word whatever the loop's body does that keeps Kp. -/
def SeqX {α : Type} (F : Fence) (n : Nat) (P : Program) (g : Nat) (lb : Array Value) (encs : α → Array Value) (Rd : List α → α → World → World → Prop) (row : Option Nat) (Kp : α → World → World → Prop) (S : List α → Prop) (w : World) : Prop :=
  ∀ (l : Nat) (J Jx : List α → World → Prop) (W : World), Below w.heap.size w W →
    (∀ s X Y, J s X → X.grownBy Y row → J s Y) → (∀ s X Y, Jx s X → X.grownBy Y row → Jx s Y) →
    (∀ pre x X W1, J pre X → X.grownBy W1 row → Rd pre x X W1 → YieldAt F (n - 1) P l (encs x) W1 fun e W' =>
      (e = .returned (.bool true) ∧ J (pre ++ [x]) W' ∧ Kp x W1 W') ∨ (e = .returned (.bool false) ∧ Jx (pre ++ [x]) W')) →
    J [] W →
    CallsIn F n P g (#[.func (.yield l) #[] #[]] ++ lb) W fun e W' => (∃ v, e = .returned v) ∧ ((∃ xs, S xs ∧ J xs W') ∨ (∃ pre, Jx pre W'))

section
variable {F : Fence} {n : Nat} {P : Program}

theorem kept_obj {X Y : World} {row : Option Nat} (h : X.grownBy Y row) {k : Nat} {o : Obj} (hk : X.heap[k]? = some o) (hne : row ≠ some k) : Y.heap[k]? = some o :=
  (h.block k (Array.getElem?_eq_some_iff.1 hk).1 (fun e => hne e.symm)).trans hk

theorem range_x {α : Type} {g : Operand} {ps : Array Tmp} {assign body : Code} {Q : Exit → Act → World → Prop} {a : Act} {w : World}
    (hro : F.round = none) (h1 : 1 ≤ n) {gf : Nat} {lb : Array Value} (hg : a.eval g = .func (.func gf) #[] lb) (hFg : F.fn gf) (eg : ∀ args w, (callFunc gf args).run P w = .ok (.enter gf args) w)
    {encs : α → Array Value} {Rd : List α → α → World → World → Prop} {row : Option Nat} {Kp : α → World → World → Prop} {S : List α → Prop} (hseq : SeqX F (n - 1) P gf lb encs Rd row Kp S w)
    (hrow : ∀ r, row = some r → r < w.heap.size) (hKt : ∀ {x : α} {A B C : World}, Kp x A B → Kp x B C → Kp x A C)
    (hKb : ∀ (x : α) (W : World) (l : Nat) (o o' : Obj), w.heap.size ≤ l → W.heap[l]? = some o → o.isCells = false → Kp x W (W.putObj l o')) (hps : ∀ x, (encs x).size = ps.size)
    (I : List α → World → Prop) (Ix : Code → List α → World → Prop) (hI : ∀ s X Y, I s X → StepX w.heap.size row X Y → I s Y) (hIx : ∀ c s X Y, Ix c s X → StepX w.heap.size row X Y → Ix c s Y)
    (hRd : ∀ s x Z X l o o', Rd s x Z X → w.heap.size ≤ l → X.heap[l]? = some o → o.isCells = false → Rd s x Z (X.putObj l o')) (h0 : I [] w) (a₁ : α → Act)
    (hassign : ∀ (l : Nat) (x : α) (W : World) (K : Act → World → Prop), K (a₁ x) W →
      assign.wpIn (F.inRound l) (n - 1 - 1) P (Exit.then K (fun _ _ _ => False)) { tmps := (ps.zip (encs x)).foldl (fun t (p, v) => t.setIfInBounds p v) a.tmps, defers := [] } W)
    (hbody : ∀ (l : Nat) (pre : List α) (x : α) (X W : World), I pre X → I pre W → X.heap.size ≤ W.heap.size → (∀ k o, X.heap[k]? = some o → o.isCells = true → row ≠ some k → W.heap[k]? = some o) → Rd pre x X W → body.wpIn (F.inRound l) (n - 1 - 1) P (ownPostG w.heap.size (Kp x) I Ix (pre ++ [x]) W) (a₁ x) W)
    (hdone : ∀ (D : Nat) (xs : List α) (W : World), w.heap.size ≤ D → S xs → I xs W → W.heap[D]? = some (.deferred (some [])) → Q .normal { a with defers := { target := .collected D, args := #[] } :: a.defers } W)
    (hstop : ∀ (D : Nat) (c : Code) (pre : List α) (W : World), w.heap.size ≤ D → Ix c pre W → W.heap[D]? = some (.deferred (some [])) → c.wpIn F n P Q { a with defers := { target := .collected D, args := #[] } :: a.defers } W) :
    (Code.rangeFunc g ps assign body).wpIn F n P Q a w := by
  have hput : ∀ {s : List α} {X : World} {l : Nat} {o : Obj} (o' : Obj), I s X → w.heap.size ≤ l → X.heap[l]? = some o → o.isCells = false → I s (X.putObj l o') :=
    fun o' hi hl ho hc => hI _ _ _ hi (.inr ⟨_, _, o', hl, ho, hc, rfl⟩)
  have hputx : ∀ {c : Code} {s : List α} {X : World} {l : Nat} {o : Obj} (o' : Obj), Ix c s X → w.heap.size ≤ l → X.heap[l]? = some o → o.isCells = false → Ix c s (X.putObj l o') :=
    fun o' hi hl ho hc => hIx _ _ _ _ hi (.inr ⟨_, _, o', hl, ho, hc, rfl⟩)
  have hr1 : row ≠ some w.heap.size := fun e => by have := hrow _ e; omega
  have hr2 : row ≠ some (w.heap.size + 1) := fun e => by have := hrow _ e; omega
  refine wpIn_rangeFunc fun fn hfn => ?_
  rw [hro]
  let rc : LoopState → Option Code → Loop := fun st pe => { state := st, pending := pe, fn, tmps := a.tmps, params := ps, assign, body, defers := w.heap.size }
  let Bk : World → LoopState → Option Code → Prop := fun W st pe => W.heap[w.heap.size + 1]? = some (.loop (rc st pe)) ∧ W.heap[w.heap.size]? = some (.deferred (some []))
  have hBk : ∀ X Y st pe, Bk X st pe → X.grownBy Y row → Bk Y st pe := fun X Y st pe h k => ⟨kept_obj k h.1 hr2, kept_obj k h.2 hr1⟩
  have hL1 : ((w.alloc (.deferred (some []))).alloc (.loop (rc .ready none))).heap[w.heap.size + 1]? = some (.loop (rc .ready none)) := by
    have := World.alloc_heap_new (w.alloc (.deferred (some []))) (.loop (rc .ready none)); rwa [World.size_alloc] at this
  have hD1 : ((w.alloc (.deferred (some []))).alloc (.loop (rc .ready none))).heap[w.heap.size]? = some (.deferred (some [])) := (Below.heap_alloc _ _ _ (by simp)).trans (World.alloc_heap_new w _)
  have hI1 : I [] ((w.alloc (.deferred (some []))).alloc (.loop (rc .ready none))) := hI _ _ _ (hI _ _ _ h0 (.inl (World.grownBy_alloc _ _ _))) (.inl (World.grownBy_alloc _ _ _))
  have hb1 : Below w.heap.size w ((w.alloc (.deferred (some []))).alloc (.loop (rc .ready none))) := ((Below.refl _ w).alloc (Nat.le_refl _) _).alloc (by simp) _
  refine ⟨w.heap.size + 1, [{ target := .collected w.heap.size, args := #[] }], _, { target := .fn (.func gf) lb, args := #[.func (.yield (w.heap.size + 1)) #[] #[]] }, _, gf, #[.func (.yield (w.heap.size + 1)) #[] #[]] ++ lb, _,
    run_enterLoop_outer _ _ _ _ _, by simp only [resolve, hg]; simp [go_sem]; rfl, ?_, by simp [invoke, go_sem, eg]; rfl, fun _ => h1, ?_⟩
  · intro f' hf'
    simp [Target.leads] at hf'
    subst hf'
    exact hFg
  refine (hseq (w.heap.size + 1) (fun pre W => I pre W ∧ Bk W .ready none) (fun pre W => ∃ c, Ix c pre W ∧ Bk W .done (some c)) _ hb1
    (fun s X Y h k => ⟨hI s X Y h.1 (.inl k), hBk _ _ _ _ h.2 k⟩) (fun s X Y ⟨c, h, h'⟩ k => ⟨c, hIx c s X Y h (.inl k), hBk _ _ _ _ h' k⟩) ?_ ⟨hI1, hL1, hD1⟩).mono ?_
  · rintro pre x X W ⟨hiX, hlX, hdX⟩ hgX hx
    have hi := hI _ _ _ hiX (.inl hgX)
    obtain ⟨hl, hd⟩ := hBk _ _ _ _ ⟨hlX, hdX⟩ hgX
    have hlt : w.heap.size + 1 < W.heap.size := (Array.getElem?_eq_some_iff.1 hl).1
    refine ⟨fn, _, assign, body, run_yield hl (hps x), roundIn_of_wpIn hfn (hassign _ x W _ ⟨_, run_beginRound hl rfl, ?_⟩)⟩
    have hlb : (W.putObj (w.heap.size + 1) (.loop (rc .busy none))).heap[w.heap.size + 1]? = some (.loop (rc .busy none)) := World.putObj_heap_same hlt
    have hdb : (W.putObj (w.heap.size + 1) (.loop (rc .busy none))).heap[w.heap.size]? = some (.deferred (some [])) := (World.putObj_heap_other (by omega)).trans hd
    have hkb : Kp x W (W.putObj (w.heap.size + 1) (.loop (rc .busy none))) := hKb _ _ _ _ _ (by omega) hl rfl
    have hend : ∀ (jump : Option Code) (W3 : World), KeepsFrom w.heap.size (W.putObj (w.heap.size + 1) (.loop (rc .busy none))) W3 →
        (Instr.endRound (w.heap.size + 1) jump).run P W3 = .ok (.bool jump.isNone) (W3.putObj (w.heap.size + 1) (.loop (rc (if jump.isNone then .ready else .done) jump))) ∧
        W3.heap[w.heap.size + 1]? = some (.loop (rc .busy none)) ∧ Bk (W3.putObj (w.heap.size + 1) (.loop (rc (if jump.isNone then .ready else .done) jump))) (if jump.isNone then .ready else .done) jump := fun jump W3 hk => by
      have hl3 := hk.same _ _ (by omega) hlb rfl
      exact ⟨run_endRound jump hl3, hl3, World.putObj_heap_same (Array.getElem?_eq_some_iff.1 hl3).1, (World.putObj_heap_other (by omega)).trans (hk.same _ _ (Nat.le_refl _) hdb rfl)⟩
    refine wpIn_mono (hbody _ pre x X _ hiX (hput _ hi (by omega) hl rfl) (by rw [World.putObj_size]; exact hgX.size) (fun k o hk ho hr => ?_) (hRd _ _ _ _ _ _ _ hx (by omega) hl rfl)) fun e a3 W3 hp => ?_
    · have hk1 := kept_obj hgX hk hr
      by_cases e : k = w.heap.size + 1
      · subst e; rw [hl] at hk1; cases hk1; cases ho
      · exact (World.putObj_heap_other e).trans hk1
    have hleft : ∀ c : Code, KeepsFrom w.heap.size (W.putObj (w.heap.size + 1) (.loop (rc .busy none))) W3 → Ix c (pre ++ [x]) W3 →
        ∃ v W4, (Instr.endRound (w.heap.size + 1) (some c)).run P W3 = .ok v W4 ∧ ((Ending.returned v = .returned (.bool true) ∧ (I (pre ++ [x]) W4 ∧ Bk W4 .ready none) ∧ Kp x W W4) ∨ (Ending.returned v = .returned (.bool false) ∧ ∃ c, Ix c (pre ++ [x]) W4 ∧ Bk W4 .done (some c))) := fun c hk hi3 => by
      obtain ⟨q1, q2, q3⟩ := hend (some c) W3 hk
      exact ⟨_, _, q1, .inr ⟨rfl, c, hputx _ hi3 (by omega) q2 rfl, q3⟩⟩
    cases e with
    | normal =>
      obtain ⟨hk, hkp, hi3⟩ := hp
      obtain ⟨q1, q2, q3⟩ := hend none W3 hk
      exact ⟨_, _, q1, .inl ⟨rfl, ⟨hput _ hi3 (by omega) q2 rfl, q3⟩, hKt (hKt hkb hkp) (hKb _ _ _ _ _ (by omega) q2 rfl)⟩⟩
    | ret => exact hleft .ret hp.1 hp.2
    | exit id => exact hleft (.exit id) hp.1 hp.2
    | goto t => exact hleft (.goto t) hp.1 hp.2
    | panic ch => exact hp.elim
    | outgrown => exact hp.elim
  · rintro e W2 ⟨⟨v, rfl⟩, (⟨xs, hS, hi, hl, hd⟩ | ⟨pre, c, hi, hl, hd⟩)⟩
    · exact ⟨none, _, run_endLoop hl (by simp [rc]), hdone _ xs _ (Nat.le_refl _) hS (hput _ hi (by omega) hl rfl) ((World.putObj_heap_other (by omega)).trans hd)⟩
    · exact ⟨some c, _, run_endLoop hl (by simp [rc]), hstop _ c pre _ (Nat.le_refl _) (hputx _ hi (by omega) hl rfl) ((World.putObj_heap_other (by omega)).trans hd)⟩
theorem wpAnyIn_round (l : Nat) {md : Region.Mode} {ops : Array Oper} {Q : Exit → Act → World → Prop} (hnd : ∀ (i : Nat) (o : Oper), ops[i]? = some o → ∀ c : Call, o.op ≠ Op.defer c) :
    ∀ (fuel : Nat) (listed : Array Bool) (a : Act) (w : World), wpAnyIn F.plain n P md ops Q fuel listed a w → wpAnyIn (F.inRound l) n P md ops Q fuel listed a w
  | 0, _, _, _, h => h
  | fuel + 1, listed, a, w, h => by
    refine ⟨h.1, fun i hi => ?_⟩
    have := h.2 i hi
    unfold wpOpIn at this ⊢
    cases ho : ops[i]? with
    | none => rw [ho] at this; exact wpAnyIn_round l hnd fuel _ _ _ this
    | some o =>
      rw [ho] at this
      simp only at this ⊢
      split
      · rename_i hw
        rw [if_pos hw] at this
        have hm : ∀ (a' : Act) (w' : World), wpAnyIn F.plain n P md ops Q fuel (listed.setIfInBounds i true) a' w' → wpAnyIn (F.inRound l) n P md ops Q fuel (listed.setIfInBounds i true) a' w' := fun a' w' h => wpAnyIn_round l hnd fuel _ a' w' h
        have h3 := Oper.wpIn_mono hm this
        unfold Oper.wpIn at h3 ⊢
        refine ⟨h3.1, ?_⟩
        have h2 := h3.2
        rw [show (F.inRound l).round = some l from rfl, Oper.semAt_eq _ _ _ (hnd i o ho)]
        rw [show F.plain.round = none from rfl, Oper.semAt_none] at h2
        generalize (execOp a.eval o).run P w = r at h2 ⊢
        cases r with
        | ok x w' => cases x <;> exact h2
        | halt x w' => cases x <;> exact h2
      · rename_i hw
        rw [if_neg hw] at this
        exact ⟨this.1, wpAnyIn_round l hnd fuel _ _ _ this.2⟩
def noDefer (ops : Array Oper) : Bool := ops.toList.all fun o => match o.op with
  | .defer _ => false
  | _ => true
theorem noDefer_spec {ops : Array Oper} (h : noDefer ops = true) : ∀ (i : Nat) (o : Oper), ops[i]? = some o → ∀ c : Call, o.op ≠ Op.defer c := fun i o hi c e => by
  unfold noDefer at h
  rw [List.all_eq_true] at h
  have := h o (Array.mem_toList_iff.2 (Array.mem_of_getElem? hi))
  rw [e] at this
  cases this
/-- A region that draws its order, in a round: as in no round, where nothing is deferred. -/
theorem region_round {l id : Nat} {ops : Array Oper} {Q : Exit → Act → World → Prop} {a : Act} {w : World} (hm : P.follows .mixedOrders = true) (hnd : noDefer ops = true)
    (h : wpAnyIn F.plain n P .any ops Q ops.size (Array.replicate ops.size false) a w.drew) : (Code.region id ops true).wpIn (F.inRound l) n P Q a w :=
  wpIn_region_any hm (wpAnyIn_round l (noDefer_spec hnd) _ _ _ _ h)
end
end Go.Proofs.Ytfkmiflddpjllaa
