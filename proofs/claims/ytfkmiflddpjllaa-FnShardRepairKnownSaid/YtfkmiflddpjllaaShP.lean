/- Plain mathematics of shards: what joins, joins to one list of symbols. No condition. -/
import Derived.Test.YtfkmiflddpjllaaVal
namespace Go.Proofs.Ytfkmiflddpjllaa
set_option linter.unusedVariables false
set_option linter.unusedSimpArgs false

/-- A shard: its number and its values. -/
abbrev Sh := Int × List Int
def num_ (l : List Sh) (j : Nat) : Int := (l.getD j (0, [])).1
def val_ (l : List Sh) (j : Nat) : List Int := (l.getD j (0, [])).2
theorem num_lt {l : List Sh} {j : Nat} (h : j < l.length) : num_ l j = l[j].1 := by simp [num_, h]
theorem val_lt {l : List Sh} {j : Nat} (h : j < l.length) : val_ l j = l[j].2 := by simp [val_, h]
theorem sh_ext {a b : List Sh} (hn : a.length = b.length) (h : ∀ j, j < a.length → num_ a j = num_ b j ∧ val_ a j = val_ b j) : a = b := by
  apply List.ext_getElem hn
  intro j h1 h2
  have := h j h1
  rw [num_lt h1, num_lt h2, val_lt h1, val_lt h2] at this
  exact Prod.ext this.1 this.2
/-- The number of columns. -/
def cols (size need : Nat) : Nat := (size + need - 1) / need
theorem cols_le {size need c : Nat} (hn : 0 < need) : c < cols size need ↔ c * need < size := by
  unfold cols
  rw [Nat.lt_div_iff_mul_lt hn]
  omega
theorem cols_ge {size need : Nat} (hn : 0 < need) : size ≤ cols size need * need := by
  rcases Nat.lt_or_ge (cols size need * need) size with h | h
  · exact absurd ((cols_le (size := size) (c := cols size need) hn).2 h) (Nat.lt_irrefl _)
  · exact h
theorem cols_12 {size need : Nat} (hn : 0 < need) (hs : size ≤ 12) : cols size need ≤ 12 := by
  by_cases h : cols size need ≤ 12
  · exact h
  · have h1 := (cols_le (size := size) (need := need) (c := 12) hn).1 (by omega)
    have : 12 * 1 ≤ 12 * need := Nat.mul_le_mul_left _ hn
    omega
/-- The values of a shard. -/
def shVals (data : List Int) (need : Nat) (x : Int) : List Int := (List.range (cols data.length need)).map fun c => Dag.ev (col data need c) x
theorem shVals_len (data : List Int) (need : Nat) (x : Int) : (shVals data need x).length = cols data.length need := by simp [shVals]
theorem shVals_nth (data : List Int) (need : Nat) (x : Int) {c : Nat} (h : c < cols data.length need) : nth (shVals data need x) c = Dag.ev (col data need c) x := by simp [nth, shVals, h]
theorem shVals_in (data : List Int) (need : Nat) (x : Int) : allIn 0 250 (shVals data need x) = true := by
  simp only [allIn, shVals, List.all_map, List.all_eq_true, Function.comp, decide_eq_true_eq]
  intro c _
  have := Dag.ev_range (col data need c) x; omega
/-- The data can be encoded. -/
def dataB (data : List Int) (need : Int) : Bool := decide (1 ≤ data.length ∧ data.length ≤ 12) && allIn 0 250 data && decide (1 ≤ need ∧ need ≤ 8)
theorem dataB_true {data : List Int} {need : Int} (h1 : 1 ≤ data.length) (h2 : data.length ≤ 12) (h3 : allIn 0 250 data = true) (h4 : 1 ≤ need) (h5 : need ≤ 8) : dataB data need = true := by
  simp only [dataB, Bool.and_eq_true, decide_eq_true_eq]; exact ⟨⟨⟨h1, h2⟩, h3⟩, h4, h5⟩
theorem dataB_parts {data : List Int} {need : Int} (h : dataB data need = true) : 1 ≤ data.length ∧ data.length ≤ 12 ∧ allIn 0 250 data = true ∧ 1 ≤ need ∧ need ≤ 8 := by
  simp only [dataB, Bool.and_eq_true, decide_eq_true_eq] at h; exact ⟨h.1.1.1, h.1.1.2, h.1.2, h.2.1, h.2.2⟩
theorem dataB_false {data : List Int} {need : Int} (h : ¬ (1 ≤ data.length ∧ data.length ≤ 12) ∨ allIn 0 250 data = false ∨ ¬ (1 ≤ need ∧ need ≤ 8)) : dataB data need = false := by
  cases e : dataB data need with
  | false => rfl
  | true =>
    obtain ⟨h1, h2, h3, h4, h5⟩ := dataB_parts e
    rcases h with h | h | h
    · exact absurd ⟨h1, h2⟩ h
    · rw [h3] at h; cases h
    · exact absurd ⟨h4, h5⟩ h
/-- The shards. -/
def shards (data : List Int) (need n : Nat) : List Sh := (List.range n).map fun (i : Nat) => ((i : Int) + 1, shVals data need ((i : Int) + 1))
theorem shards_succ (data : List Int) (need n : Nat) : shards data need (n + 1) = shards data need n ++ [((n : Int) + 1, shVals data need ((n : Int) + 1))] := by simp [shards, List.range_succ]
theorem shards_len (data : List Int) (need n : Nat) : (shards data need n).length = n := by simp [shards]
theorem shards_num (data : List Int) (need n : Nat) {j : Nat} (h : j < n) : num_ (shards data need n) j = (j : Int) + 1 := by simp [num_, shards, h]
theorem shards_val (data : List Int) (need n : Nat) {j : Nat} (h : j < n) : val_ (shards data need n) j = shVals data need ((j : Int) + 1) := by simp [val_, shards, h]
def makeB (data : List Int) (need many : Int) : Bool := dataB data need && decide (need ≤ many ∧ many ≤ 8)
def makeV (data : List Int) (need many : Int) : List Sh := if makeB data need many = true then shards data need.toNat many.toNat else []
theorem makeB_parts {data : List Int} {need many : Int} (h : makeB data need many = true) : 1 ≤ data.length ∧ data.length ≤ 12 ∧ allIn 0 250 data = true ∧ 1 ≤ need ∧ need ≤ 8 ∧ need ≤ many ∧ many ≤ 8 := by
  simp only [makeB, Bool.and_eq_true, decide_eq_true_eq] at h
  obtain ⟨h1, h2, h3, h4, h5⟩ := dataB_parts h.1
  exact ⟨h1, h2, h3, h4, h5, h.2.1, h.2.2⟩
theorem makeV_yes {data : List Int} {need many : Int} (h : makeB data need many = true) : makeV data need many = shards data need.toNat many.toNat := if_pos h
theorem makeV_no {data : List Int} {need many : Int} (h : ¬ makeB data need many = true) : makeV data need many = [] := if_neg h

/-- The first k shards are valid. -/
def SG (size need : Nat) (l : List Sh) (k : Nat) : Prop := ∀ j, j < k → 1 ≤ num_ l j ∧ num_ l j ≤ 8 ∧ (val_ l j).length = cols size need ∧ allIn 0 250 (val_ l j) = true ∧ ∀ i, i < j → num_ l i ≠ num_ l j
instance (size need : Nat) (l : List Sh) (k : Nat) : Decidable (SG size need l k) := by unfold SG; infer_instance
def shardsB (size need : Int) (l : List Sh) : Bool := decide (1 ≤ size ∧ size ≤ 12 ∧ 1 ≤ need ∧ need ≤ 8 ∧ need ≤ l.length ∧ l.length ≤ 8) && decide (SG size.toNat need.toNat l l.length)
theorem shardsB_parts {size need : Int} {l : List Sh} (h : shardsB size need l = true) : 1 ≤ size ∧ size ≤ 12 ∧ 1 ≤ need ∧ need ≤ 8 ∧ need ≤ l.length ∧ l.length ≤ 8 ∧ SG size.toNat need.toNat l l.length := by
  simp only [shardsB, Bool.and_eq_true, decide_eq_true_eq] at h
  obtain ⟨⟨h1, h2, h3, h4, h5, h6⟩, h7⟩ := h
  exact ⟨h1, h2, h3, h4, h5, h6, h7⟩
theorem shardsB_true {size need : Int} {l : List Sh} (h1 : 1 ≤ size) (h2 : size ≤ 12) (h3 : 1 ≤ need) (h4 : need ≤ 8) (h5 : need ≤ l.length) (h6 : l.length ≤ 8) (h7 : SG size.toNat need.toNat l l.length) : shardsB size need l = true := by
  simp only [shardsB, Bool.and_eq_true, decide_eq_true_eq]; exact ⟨⟨h1, h2, h3, h4, h5, h6⟩, h7⟩
theorem shardsB_head {size need : Int} {l : List Sh} (h : ¬ (1 ≤ size ∧ size ≤ 12 ∧ 1 ≤ need ∧ need ≤ 8 ∧ need ≤ l.length ∧ l.length ≤ 8)) : shardsB size need l = false := by
  unfold shardsB; rw [decide_eq_false h]; rfl
theorem shardsB_at {size need : Int} {l : List Sh} (k : Nat) (hk : k < l.length) (h : ¬ (1 ≤ num_ l k ∧ num_ l k ≤ 8 ∧ (val_ l k).length = cols size.toNat need.toNat ∧ allIn 0 250 (val_ l k) = true ∧ ∀ i, i < k → num_ l i ≠ num_ l k)) : shardsB size need l = false := by
  unfold shardsB; rw [decide_eq_false (p := SG size.toNat need.toNat l l.length) (fun g => h (g k hk))]; simp

theorem SG.apart {size need : Nat} {l : List Sh} {n : Nat} (h : SG size need l n) : Dag.Apart n (num_ l) := by
  intro i j hij hj
  have h1 := h i (by omega)
  have h2 := h j hj
  have h3 := h2.2.2.2.2 i hij
  omega
/-- The padding is empty, and all shards belong to the symbols. -/
def padB (size : Nat) (all : List Int) : Bool := (all.drop size).all fun x => decide (x = 0)
def fitB (need : Nat) (l : List Sh) (data : List Int) : Bool := decide (∀ i, i < l.length → shVals data need (num_ l i) = val_ l i)
def JoinSh (size need : Int) (l : List Sh) (out : List Int) (ok : Bool) : Prop :=
  (shardsB size need l = false ∧ out = [] ∧ ok = false) ∨
  (shardsB size need l = true ∧ ∃ all : List Int, all.length = cols size.toNat need.toNat * need.toNat ∧ allIn 0 250 all = true ∧
    (∀ c, c < cols size.toNat need.toNat → ∀ i, i < need.toNat → Dag.ev (col all need.toNat c) (num_ l i) = nth (val_ l i) c) ∧
    (((padB size.toNat all && fitB need.toNat l (all.take size.toNat)) = true ∧ out = all.take size.toNat ∧ ok = true) ∨ ((padB size.toNat all && fitB need.toNat l (all.take size.toNat)) = false ∧ out = [] ∧ ok = false)))

theorem col_len {all : List Int} {need C c : Nat} (h : all.length = C * need) (hc : c < C) : (col all need c).length = need := by
  have h1 : (c + 1) * need ≤ C * need := Nat.mul_le_mul_right _ hc
  rw [Nat.add_mul] at h1
  simp [col, h]; omega
theorem col_in {all : List Int} (h : allIn 0 250 all = true) (need c : Nat) : allIn 0 250 (col all need c) = true := by
  simp only [allIn, List.all_eq_true, decide_eq_true_eq] at h ⊢
  intro x hx
  exact h x (List.mem_of_mem_drop (List.mem_of_mem_take hx))
theorem col_nth (all : List Int) (need c r : Nat) (hr : r < need) : nth (col all need c) r = nth all (c * need + r) := by simp [col, nth, hr]
theorem cols_ext {a b : List Int} {need C : Nat} (ha : a.length = C * need) (hb : b.length = C * need) (h : ∀ c, c < C → col a need c = col b need c) : a = b := by
  apply List.ext_getElem (by omega)
  intro j h1 h2
  have hn : 0 < need := by
    rcases Nat.eq_zero_or_pos need with e | e
    · rw [e] at ha; simp at ha; rw [ha] at h1; simp at h1
    · exact e
  have hc : j / need < C := by rw [Nat.div_lt_iff_lt_mul hn]; omega
  have hr : j % need < need := Nat.mod_lt _ hn
  have e : j / need * need + j % need = j := Nat.div_add_mod' j need
  have := congrArg (fun l => nth l (j % need)) (h _ hc)
  simp only [col_nth _ _ _ _ hr, e] at this
  rwa [nth_lt h1, nth_lt h2] at this
theorem sy251 {l : List Int} (h : allIn 0 250 l = true) : ∀ c ∈ l, 0 ≤ c ∧ c < 251 := fun c hc => by have := allIn_mem h hc; omega
/-- Two lists of symbols with the same values in the first need numbers are one. -/
theorem all_one {size need : Nat} {l : List Sh} {n : Nat} (h : SG size need l n) (hn : need ≤ n) {C : Nat} {a b : List Int} (ha : a.length = C * need) (hb : b.length = C * need) (ra : allIn 0 250 a = true) (rb : allIn 0 250 b = true)
    (e : ∀ c, c < C → ∀ i, i < need → Dag.ev (col a need c) (num_ l i) = Dag.ev (col b need c) (num_ l i)) : a = b :=
  cols_ext ha hb fun c hc => Dag.unique ((List.range need).map (num_ l)) _ _ (by rw [col_len ha hc, col_len hb hc]) (by rw [col_len ha hc]; simp)
    (Dag.apart_pairwise h.apart need hn) (sy251 (col_in ra _ _)) (sy251 (col_in rb _ _)) fun x hx => by
      simp only [List.mem_map, List.mem_range] at hx
      obtain ⟨i, hi, rfl⟩ := hx
      exact e c hc i hi
theorem JoinSh.one {size need : Int} {l : List Sh} {o o' : List Int} {b b' : Bool} (h : JoinSh size need l o b) (h' : JoinSh size need l o' b') : o = o' ∧ b = b' := by
  rcases h with ⟨h1, h2, h3⟩ | ⟨h1, a, hl, hr, he, hh⟩ <;> rcases h' with ⟨k1, k2, k3⟩ | ⟨k1, d, kl, kr, ke, kk⟩
  · exact ⟨h2.trans k2.symm, h3.trans k3.symm⟩
  · rw [h1] at k1; cases k1
  · rw [h1] at k1; cases k1
  · obtain ⟨_, _, _, _, p5, _, p7⟩ := shardsB_parts h1
    have e := all_one p7 (by omega) hl kl hr kr (fun c hc i hi => by rw [he c hc i hi, ke c hc i hi])
    subst e
    rcases hh with ⟨a1, a2, a3⟩ | ⟨a1, a2, a3⟩ <;> rcases kk with ⟨c1, c2, c3⟩ | ⟨c1, c2, c3⟩
    · exact ⟨a2.trans c2.symm, a3.trans c3.symm⟩
    · rw [a1] at c1; cases c1
    · rw [a1] at c1; cases c1
    · exact ⟨a2.trans c2.symm, a3.trans c3.symm⟩

theorem ev_zeros (k : Nat) (x : Int) : Dag.ev (List.replicate k 0) x = 0 := by
  induction k with
  | zero => rfl
  | succ k ih => simp only [List.replicate_succ, Dag.ev, ih]; simp
theorem ev_pad (l : List Int) (k : Nat) (x : Int) : Dag.ev (l ++ List.replicate k 0) x = Dag.ev l x := by
  induction l with
  | nil => simp only [List.nil_append, ev_zeros, Dag.ev]
  | cons c t ih => simp only [List.cons_append, Dag.ev, ih]
theorem col_pad (data : List Int) (need k c : Nat) : ∃ m, col (data ++ List.replicate k 0) need c = col data need c ++ List.replicate m 0 := by
  unfold col
  rw [List.drop_append, List.drop_replicate, List.take_append, List.take_replicate]
  exact ⟨_, rfl⟩
theorem ev_col_pad (data : List Int) (need k c : Nat) (x : Int) : Dag.ev (col (data ++ List.replicate k 0) need c) x = Dag.ev (col data need c) x := by
  obtain ⟨m, hm⟩ := col_pad data need k c
  rw [hm, ev_pad]
theorem take_pad (size : Nat) (all : List Int) (h : padB size all = true) : all = all.take size ++ List.replicate (all.length - size) 0 := by
  have e : all.drop size = List.replicate (all.length - size) 0 := by
    apply List.eq_replicate_iff.2
    refine ⟨by simp, fun b hb => ?_⟩
    simp only [padB, List.all_eq_true, decide_eq_true_eq] at h
    exact h b hb
  rw [← e, List.take_append_drop]
theorem padB_zeros (data : List Int) (k : Nat) : padB data.length (data ++ List.replicate k 0) = true := by
  simp only [padB, List.drop_left, List.all_replicate, decide_true]
  cases k <;> simp
theorem allIn_pad {data : List Int} (h : allIn 0 250 data = true) (k : Nat) : allIn 0 250 (data ++ List.replicate k 0) = true := by
  unfold allIn at h ⊢
  rw [List.all_append, h, List.all_replicate]
  cases k <;> simp
theorem fitB_true {need : Nat} {l : List Sh} {data : List Int} (h : ∀ i, i < l.length → shVals data need (num_ l i) = val_ l i) : fitB need l data = true := by simpa [fitB] using h
theorem fitB_get {need : Nat} {l : List Sh} {data : List Int} (h : fitB need l data = true) : ∀ i, i < l.length → shVals data need (num_ l i) = val_ l i := by simpa [fitB] using h
theorem fitB_false {need : Nat} {l : List Sh} {data : List Int} (k : Nat) (hk : k < l.length) (h : shVals data need (num_ l k) ≠ val_ l k) : fitB need l data = false := by
  cases e : fitB need l data with
  | false => rfl
  | true => exact absurd (fitB_get e k hk) h
/-- Shards of symbols join to these symbols. -/
theorem JoinSh.of {size need : Int} {l : List Sh} (h : shardsB size need l = true) {data : List Int} (hd : data.length = size.toNat) (hr : allIn 0 250 data = true) (hv : ∀ i, i < l.length → shVals data need.toNat (num_ l i) = val_ l i) : JoinSh size need l data true := by
  obtain ⟨q1, q2, q3, q4, q5, q6, q7⟩ := shardsB_parts h
  have hg := cols_ge (size := size.toNat) (need := need.toNat) (by omega)
  have ht : (data ++ List.replicate (cols size.toNat need.toNat * need.toNat - size.toNat) 0).take size.toNat = data := by rw [← hd]; simp
  refine .inr ⟨h, data ++ List.replicate (cols size.toNat need.toNat * need.toNat - size.toNat) 0, by simp [hd]; omega, allIn_pad hr _, fun c hc i hi => ?_, .inl ⟨?_, ht.symm, rfl⟩⟩
  · rw [ev_col_pad, ← hv i (by omega), shVals_nth _ _ _ (by rw [hd]; exact hc)]
  · rw [ht, fitB_true hv, ← hd, padB_zeros]; rfl
/-- What joins belongs to the symbols. -/
theorem JoinSh.said {size need : Int} {l : List Sh} {out : List Int} (h : JoinSh size need l out true) : shardsB size need l = true ∧ out.length = size.toNat ∧ allIn 0 250 out = true ∧ ∀ i, i < l.length → shVals out need.toNat (num_ l i) = val_ l i := by
  rcases h with ⟨_, _, h3⟩ | ⟨h1, all, hl, hr, he, ⟨h2, h3, _⟩ | ⟨_, _, h3⟩⟩
  · cases h3
  · simp only [Bool.and_eq_true] at h2
    obtain ⟨q1, q2, q3, q4, q5, q6, q7⟩ := shardsB_parts h1
    have hg := cols_ge (size := size.toNat) (need := need.toNat) (by omega)
    subst h3
    refine ⟨h1, by simp; omega, ?_, fitB_get h2.2⟩
    simp only [allIn, List.all_eq_true, decide_eq_true_eq] at hr ⊢
    exact fun x hx => hr x (List.mem_of_mem_take hx)
  · cases h3
end Go.Proofs.Ytfkmiflddpjllaa
