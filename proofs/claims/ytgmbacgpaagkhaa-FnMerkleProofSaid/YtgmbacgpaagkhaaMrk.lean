/- Plain mathematics of the trees of digests modulo 991: a changed leaf changes the root, a proof leads from one leaf to one root. No condition, no program. -/
namespace Dag

def pair (a b : Int) : Int := (31 * a + 17 * b + 5) % 991
def dig (a : Int) : Prop := 0 ≤ a ∧ a ≤ 990
theorem pair_dig (a b : Int) : dig (pair a b) := by unfold dig pair; omega
theorem pair_left (a a' b : Int) (h : dig a) (h' : dig a') (e : pair a b = pair a' b) : a = a' := by unfold pair dig at *; omega
theorem pair_right (a b b' : Int) (h : dig b) (h' : dig b') (e : pair a b = pair a b') : b = b' := by unfold pair dig at *; omega

def up : List Int → List Int
  | [] => []
  | [a] => [a]
  | a :: b :: t => pair a b :: up t
theorem up_len : ∀ l : List Int, (up l).length = (l.length + 1) / 2
  | [] => rfl
  | [_] => by simp [up]
  | a :: b :: t => by simp only [up, List.length_cons, up_len t]; omega
theorem up_dig : ∀ l : List Int, (∀ a ∈ l, dig a) → ∀ a ∈ up l, dig a
  | [], _ => by simp [up]
  | [b], h => by simpa [up] using h
  | a :: b :: t, h => by
    intro c hc
    rcases List.mem_cons.1 hc with rfl | hc
    · exact pair_dig _ _
    · exact up_dig t (fun d hd => h d (by simp [hd])) c hc

/-- The levels from the leaves to the root; the fuel is a number of levels that suffices. -/
def rootN : Nat → List Int → Int
  | 0, l => l.headD 0
  | f + 1, l => if 1 < l.length then rootN f (up l) else l.headD 0

/-- The other of a pair. -/
def sib (i : Nat) : Nat := if i % 2 = 0 then i + 1 else i - 1

def proofN : Nat → List Int → Nat → List Int
  | 0, _, _ => []
  | f + 1, l, i => if 1 < l.length then (if sib i < l.length then [l.getD (sib i) 0] else []) ++ proofN f (up l) (i / 2) else []

/-- The root to which a proof leads, if it fits the size. -/
def leadN : Nat → Nat → Nat → Int → List Int → Option Int
  | 0, _, _, n, ps => if ps = [] then some n else none
  | f + 1, size, i, n, ps =>
    if 1 < size then
      if sib i < size then
        match ps with
        | [] => none
        | p :: ps => leadN f ((size + 1) / 2) (i / 2) (if i % 2 = 0 then pair n p else pair p n) ps
      else leadN f ((size + 1) / 2) (i / 2) n ps
    else if ps = [] then some n else none

/-- the parts of a level above, by index -/
theorem up_get : ∀ (l : List Int) (i : Nat), i < l.length → (up l).getD (i / 2) 0 = if sib i < l.length then (if i % 2 = 0 then pair (l.getD i 0) (l.getD (sib i) 0) else pair (l.getD (sib i) 0) (l.getD i 0)) else l.getD i 0
  | [], i, h => by simp at h
  | [a], i, h => by
    have : i = 0 := by simpa using h
    subst this; simp [up, sib]
  | a :: b :: t, i, h => by
    match i, h with
    | 0, _ => simp [up, sib]
    | 1, _ => simp [up, sib]
    | i + 2, h =>
      have ih := up_get t i (by simpa using h)
      have e1 : (i + 2) / 2 = i / 2 + 1 := by omega
      have e2 : sib (i + 2) = sib i + 2 := by unfold sib; split <;> split <;> omega
      have e3 : (i + 2) % 2 = i % 2 := by omega
      rw [e1, e2, e3]
      simpa [up] using ih

theorem half_lt {i n : Nat} (h : i < n) : i / 2 < (n + 1) / 2 := by omega

/-- Each leaf has a proof. -/
theorem lead_proof (f : Nat) : ∀ (l : List Int) (i : Nat), i < l.length → l.length ≤ 2 ^ f → leadN f l.length i (l.getD i 0) (proofN f l i) = some (rootN f l) := by
  induction f with
  | zero =>
    intro l i hi hl
    have h1 : l.length = 1 := by simp at hl; omega
    match l, h1 with
    | [a], _ =>
      have : i = 0 := by simpa using hi
      subst this; simp [leadN, proofN, rootN]
  | succ f ih =>
    intro l i hi hl
    unfold leadN proofN rootN
    by_cases h1 : 1 < l.length
    · simp only [if_pos h1]
      have ih' := ih (up l) (i / 2) (by rw [up_len]; exact half_lt hi) (by rw [up_len]; rw [Nat.pow_succ] at hl; omega)
      rw [up_len, up_get l i hi] at ih'
      by_cases h2 : sib i < l.length
      · simp only [if_pos h2] at ih' ⊢
        simpa using ih'
      · simp only [if_neg h2] at ih' ⊢
        simpa using ih'
    · have h2 : l.length = 1 := by omega
      match l, h2 with
      | [a], _ =>
        have : i = 0 := by simpa using hi
        subst this; simp

/-- Another node below leads to another root. -/
theorem lead_node (f : Nat) : ∀ (size i : Nat) (a b : Int) (ps : List Int) (r : Int), dig a → dig b → leadN f size i a ps = some r → leadN f size i b ps = some r → a = b := by
  induction f with
  | zero =>
    intro size i a b ps r _ _ h1 h2
    unfold leadN at h1 h2
    split at h1
    · rename_i h; rw [if_pos h] at h2
      injection h1 with h1; injection h2 with h2; omega
    · cases h1
  | succ f ih =>
    intro size i a b ps r ha hb h1 h2
    unfold leadN at h1 h2
    by_cases c1 : 1 < size
    · simp only [if_pos c1] at h1 h2
      by_cases c2 : sib i < size
      · simp only [if_pos c2] at h1 h2
        cases ps with
        | nil => cases h1
        | cons p ps =>
          simp only at h1 h2
          have := ih _ _ _ _ _ _ (by split <;> exact pair_dig _ _) (by split <;> exact pair_dig _ _) h1 h2
          by_cases c3 : i % 2 = 0
          · simp only [if_pos c3] at this; exact pair_left a b p ha hb this
          · simp only [if_neg c3] at this; exact pair_right p a b ha hb this
      · simp only [if_neg c2] at h1 h2
        exact ih _ _ _ _ _ _ ha hb h1 h2
    · simp only [if_neg c1] at h1 h2
      split at h1
      · rename_i h; rw [if_pos h] at h2
        injection h1 with h1; injection h2 with h2; omega
      · cases h1

/-- A proof that fits has the length that its place asks: no other length fits. -/
def fitN : Nat → Nat → Nat → Nat
  | 0, _, _ => 0
  | f + 1, size, i => if 1 < size then (if sib i < size then 1 else 0) + fitN f ((size + 1) / 2) (i / 2) else 0
theorem fit_le (f : Nat) : ∀ size i, fitN f size i ≤ f := by
  induction f with
  | zero => intro _ _; simp [fitN]
  | succ f ih => intro size i; unfold fitN; have := ih ((size + 1) / 2) (i / 2); split <;> (try split) <;> omega
theorem lead_fit (f : Nat) : ∀ (size i : Nat) (a : Int) (ps : List Int), ps.length = fitN f size i ↔ (leadN f size i a ps).isSome = true := by
  induction f with
  | zero => intro size i a ps; unfold leadN fitN; cases ps <;> simp
  | succ f ih =>
    intro size i a ps
    unfold leadN fitN
    by_cases c1 : 1 < size
    · simp only [if_pos c1]
      by_cases c2 : sib i < size
      · simp only [if_pos c2]
        cases ps with
        | nil => simp; omega
        | cons p ps =>
          simp only [List.length_cons]
          rw [← ih]
          omega
      · simp only [if_neg c2]
        rw [← ih]; omega
    · simp only [if_neg c1]
      cases ps <;> simp

/-- A changed leaf changes the root. -/
theorem up_ne : ∀ (l l' : List Int) (k : Nat), l.length = l'.length → (∀ a ∈ l, dig a) → (∀ a ∈ l', dig a) → k < l.length → (∀ j, j ≠ k → l.getD j 0 = l'.getD j 0) → l.getD k 0 ≠ l'.getD k 0 →
    (∀ j, j ≠ k / 2 → (up l).getD j 0 = (up l').getD j 0) ∧ (up l).getD (k / 2) 0 ≠ (up l').getD (k / 2) 0
  | [], _, k, _, _, _, h, _, _ => by simp at h
  | [a], [a'], k, _, _, _, h, h1, h2 => by
    have : k = 0 := by simpa using h
    subst this
    refine ⟨fun j hj => ?_, by simpa [up] using h2⟩
    have := h1 j (by omega)
    simpa [up] using this
  | [a], [], k, h, _, _, _, _, _ => by simp at h
  | [a], _ :: _ :: _, k, h, _, _, _, _, _ => by simp at h
  | a :: b :: t, [], k, h, _, _, _, _, _ => by simp at h
  | a :: b :: t, [a'], k, h, _, _, _, _, _ => by simp at h
  | a :: b :: t, a' :: b' :: t', k, hl, hd, hd', hk, h1, h2 => by
    have da := hd a (by simp); have db := hd b (by simp)
    have da' := hd' a' (by simp); have db' := hd' b' (by simp)
    match k, hk with
    | 0, _ =>
      have e1 : b = b' := by simpa using h1 1 (by omega)
      have ht : t = t' := by
        apply List.ext_getElem (by simpa using hl)
        intro j hj hj'
        have := h1 (j + 2) (by omega)
        simpa [hj, hj'] using this
      subst e1; subst ht
      refine ⟨fun j hj => ?_, ?_⟩
      · match j with
        | 0 => omega
        | j + 1 => simp [up]
      · simp only [up, Nat.zero_div]
        intro h
        have h : pair a b = pair a' b := by simpa using h
        exact h2 (by simpa using pair_left _ _ _ da da' h)
    | 1, _ =>
      have e1 : a = a' := by simpa using h1 0 (by omega)
      have ht : t = t' := by
        apply List.ext_getElem (by simpa using hl)
        intro j hj hj'
        have := h1 (j + 2) (by omega)
        simpa [hj, hj'] using this
      subst e1; subst ht
      refine ⟨fun j hj => ?_, ?_⟩
      · match j with
        | 0 => omega
        | j + 1 => simp [up]
      · simp only [up]
        intro h
        have h : pair a b = pair a b' := by simpa using h
        exact h2 (by simpa using pair_right _ _ _ db db' h)
    | k + 2, hk =>
      have e1 : a = a' := by simpa using h1 0 (by omega)
      have e2 : b = b' := by simpa using h1 1 (by omega)
      subst e1; subst e2
      have ih := up_ne t t' k (by simpa using hl) (fun c hc => hd c (by simp [hc])) (fun c hc => hd' c (by simp [hc])) (by simpa using hk)
        (fun j hj => by have := h1 (j + 2) (by omega); simpa using this) (by simpa using h2)
      have e3 : (k + 2) / 2 = k / 2 + 1 := by omega
      rw [e3]
      refine ⟨fun j hj => ?_, by simpa [up] using ih.2⟩
      match j with
      | 0 => simp [up]
      | j + 1 => have := ih.1 j (by omega); simpa [up] using this

theorem root_ne (f : Nat) : ∀ (l l' : List Int) (k : Nat), l.length = l'.length → l.length ≤ 2 ^ f → (∀ a ∈ l, dig a) → (∀ a ∈ l', dig a) → k < l.length → (∀ j, j ≠ k → l.getD j 0 = l'.getD j 0) → l.getD k 0 ≠ l'.getD k 0 →
    rootN f l ≠ rootN f l' := by
  induction f with
  | zero =>
    intro l l' k hl h0 _ _ hk _ h2
    have h1 : l.length = 1 := by simp at h0; omega
    match l, l', h1, hl with
    | [a], [a'], _, _ =>
      have : k = 0 := by simpa using hk
      subst this; simpa [rootN] using h2
  | succ f ih =>
    intro l l' k hl h0 hd hd' hk h1 h2
    unfold rootN
    rw [← hl]
    by_cases c : 1 < l.length
    · rw [if_pos c, if_pos c]
      have := up_ne l l' k hl hd hd' hk h1 h2
      refine ih (up l) (up l') (k / 2) (by rw [up_len, up_len, hl]) (by rw [up_len]; rw [Nat.pow_succ] at h0; omega) (up_dig l hd) (up_dig l' hd') (by rw [up_len]; exact half_lt hk) this.1 this.2
    · rw [if_neg c, if_neg c]
      have h3 : l.length = 1 := by omega
      match l, l', h3, hl with
      | [a], [a'], _, _ =>
        have : k = 0 := by simpa using hk
        subst this; simpa using h2

theorem root_dig (f : Nat) : ∀ l : List Int, l ≠ [] → (∀ a ∈ l, dig a) → dig (rootN f l) := by
  induction f with
  | zero => intro l hne h; cases l with
    | nil => simp at hne
    | cons a t => exact h a (by simp)
  | succ f ih =>
    intro l hne h
    unfold rootN
    split
    · exact ih (up l) (by intro e; have := up_len l; rw [e] at this; simp at this; omega) (up_dig l h)
    · cases l with
      | nil => simp at hne
      | cons a t => exact h a (by simp)
theorem proof_dig (f : Nat) : ∀ (l : List Int) (i : Nat), (∀ a ∈ l, dig a) → ∀ a ∈ proofN f l i, dig a := by
  induction f with
  | zero => intro l i _; simp [proofN]
  | succ f ih =>
    intro l i h a ha
    unfold proofN at ha
    split at ha
    · rcases List.mem_append.1 ha with ha | ha
      · split at ha
        · rename_i hs
          simp at ha
          subst ha
          rw [List.getElem?_eq_getElem hs]
          exact h _ (by simp)
        · simp at ha
      · exact ih (up l) (i / 2) (up_dig l h) a ha
    · simp at ha

end Dag
