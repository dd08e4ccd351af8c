/- Plain mathematics of the laws of shards: some shards join, too few do not, a wrong one is detected, twice the symbols make twice the shards. No condition. -/
import Derived.Test.YthdbbllcckimbaaShP
namespace Go.Proofs.Ythdbbllcckimbaa
set_option linter.unusedVariables false
set_option linter.unusedSimpArgs false

/-- Shards with chosen numbers. -/
def sel (data : List Int) (need : Nat) (σ : Nat → Nat) (n : Nat) : List Sh := (List.range n).map fun (i : Nat) => (((σ i : Nat) : Int) + 1, shVals data need (((σ i : Nat) : Int) + 1))
theorem sel_len (data : List Int) (need : Nat) (σ : Nat → Nat) (n : Nat) : (sel data need σ n).length = n := by simp [sel]
theorem sel_succ (data : List Int) (need : Nat) (σ : Nat → Nat) (n : Nat) : sel data need σ n ++ [(((σ n : Nat) : Int) + 1, shVals data need (((σ n : Nat) : Int) + 1))] = sel data need σ (n + 1) := by simp [sel, List.range_succ]
theorem sel_num (data : List Int) (need : Nat) (σ : Nat → Nat) {n j : Nat} (h : j < n) : num_ (sel data need σ n) j = ((σ j : Nat) : Int) + 1 := by simp [num_, sel, h]
theorem sel_val (data : List Int) (need : Nat) (σ : Nat → Nat) {n j : Nat} (h : j < n) : val_ (sel data need σ n) j = shVals data need (((σ j : Nat) : Int) + 1) := by simp [val_, sel, h]
theorem sel_joins {data : List Int} {need n : Nat} {σ : Nat → Nat} (h : dataB data need = true) (hn : need ≤ n) (h8 : n ≤ 8) (hσ : ∀ i, i < n → σ i < 8) (hinj : ∀ i j, i < j → j < n → σ i ≠ σ j) {out : List Int} {ok : Bool}
    (hj : JoinSh (data.length : Int) (need : Int) (sel data need σ n) out ok) : out = data ∧ ok = true := by
  obtain ⟨d1, d2, d3, d4, d5⟩ := dataB_parts h
  have hb : shardsB (data.length : Int) (need : Int) (sel data need σ n) = true := by
    refine shardsB_true (by omega) (by omega) d4 d5 (by rw [sel_len]; omega) (by rw [sel_len]; omega) ?_
    rw [sel_len]
    intro j hj
    rw [sel_num _ _ _ hj, sel_val _ _ _ hj]
    have := hσ j hj
    refine ⟨by omega, by omega, by rw [shVals_len, Int.toNat_natCast, Int.toNat_natCast], shVals_in _ _ _, fun i hi => ?_⟩
    rw [sel_num _ _ _ (show i < n by omega)]
    have := hinj i j hi hj
    omega
  exact hj.one (JoinSh.of hb (by simp) d3 fun i hi => by
    rw [sel_len] at hi
    rw [sel_num _ _ _ hi, sel_val _ _ _ hi, Int.toNat_natCast])
theorem few_fails {size need : Int} {l : List Sh} (h : (l.length : Int) < need) {out : List Int} {ok : Bool} (hj : JoinSh size need l out ok) : ok = false := by
  have : JoinSh size need l [] false := .inl ⟨shardsB_head (fun g => by omega), rfl, rfl⟩
  exact (hj.one this).2
theorem vals_one {a b : List Int} {need : Nat} (hn : 0 < need) (hl : a.length = b.length) (ra : allIn 0 250 a = true) (rb : allIn 0 250 b = true) (xs : List Int) (hxs : need ≤ xs.length) (hp : xs.Pairwise (fun x y => (y - x) % 251 ≠ 0))
    (h : ∀ x ∈ xs, shVals a need x = shVals b need x) : a = b := by
  apply List.ext_getElem hl
  intro j h1 h2
  have hr : j % need < need := Nat.mod_lt _ hn
  have e : j / need * need + j % need = j := Nat.div_add_mod' j need
  have hc : j / need < cols a.length need := (cols_le hn).2 (by omega)
  have hcb : j / need < cols b.length need := by rw [← hl]; exact hc
  have hcol : col a need (j / need) = col b need (j / need) := by
    refine Dag.unique xs _ _ (by simp [col, hl]) ?_ hp (sy251 (col_in ra _ _)) (sy251 (col_in rb _ _)) fun x hx => ?_
    · have : (col a need (j / need)).length ≤ need := by simp [col]; omega
      omega
    · have hh : nth (shVals a need x) (j / need) = nth (shVals b need x) (j / need) := by rw [h x hx]
      rwa [shVals_nth _ _ _ hc, shVals_nth _ _ _ hcb] at hh
  have this : nth (col a need (j / need)) (j % need) = nth (col b need (j / need)) (j % need) := by rw [hcol]
  rw [col_nth _ _ _ _ hr, col_nth _ _ _ _ hr, e] at this
  rwa [nth_lt h1, nth_lt h2] at this
/-- A wrong shard among one too many is detected. -/
theorem wrong_fails {data : List Int} {need : Nat} (h : dataB data need = true) (h8 : need + 1 ≤ 8) (k : Nat) (hk : k < need + 1) (vs : List Int) (hv : vs ≠ shVals data need ((k : Int) + 1)) {out : List Int} {ok : Bool}
    (hj : JoinSh (data.length : Int) (need : Int) ((shards data need (need + 1)).set k ((k : Int) + 1, vs)) out ok) : ok = false := by
  obtain ⟨d1, d2, d3, d4, d5⟩ := dataB_parts h
  cases ok with
  | false => rfl
  | true =>
    exfalso
    obtain ⟨hb, hol, hor, hof⟩ := hj.said
    simp only [Int.toNat_natCast] at hol hof
    have hL : (shards data need (need + 1)).length = need + 1 := shards_len _ _ _
    have hnum : ∀ i, i < need + 1 → num_ ((shards data need (need + 1)).set k ((k : Int) + 1, vs)) i = (i : Int) + 1 := fun i hi => by
      by_cases e : i = k
      · subst e; simp [num_, hL, hi]
      · have : num_ ((shards data need (need + 1)).set k ((k : Int) + 1, vs)) i = num_ (shards data need (need + 1)) i := by
          simp [num_, List.getElem?_set_ne (fun h => e h.symm)]
        rw [this, shards_num _ _ _ hi]
    have hvne : ∀ i, i < need + 1 → i ≠ k → val_ ((shards data need (need + 1)).set k ((k : Int) + 1, vs)) i = shVals data need ((i : Int) + 1) := fun i hi e => by
      have : val_ ((shards data need (need + 1)).set k ((k : Int) + 1, vs)) i = val_ (shards data need (need + 1)) i := by
        simp [val_, List.getElem?_set_ne (fun h => e h.symm)]
      rw [this, shards_val _ _ _ hi]
    have hvk : val_ ((shards data need (need + 1)).set k ((k : Int) + 1, vs)) k = vs := by simp [val_, hL, hk]
    have hlen : ((shards data need (need + 1)).set k ((k : Int) + 1, vs)).length = need + 1 := by rw [List.length_set, hL]
    have e : out = data := by
      refine vals_one (need := need) (by omega) hol hor d3 (((List.range (need + 1)).eraseIdx k).map fun (i : Nat) => (i : Int) + 1) (by simp [List.length_eraseIdx, hk]) ?_ ?_
      · have hp : ((List.range (need + 1)).map fun (i : Nat) => (i : Int) + 1).Pairwise (fun x y => (y - x) % 251 ≠ 0) := by
          rw [List.pairwise_map]
          refine List.Pairwise.imp_of_mem ?_ List.pairwise_lt_range
          intro a b ha hb hab
          have := List.mem_range.1 hb
          omega
        exact hp.sublist ((List.eraseIdx_sublist _ _).map _)
      · intro x hx
        simp only [List.mem_map] at hx
        obtain ⟨i, hi, rfl⟩ := hx
        rw [List.mem_eraseIdx_iff_getElem] at hi
        obtain ⟨j, hj', hjk, hji⟩ := hi
        simp only [List.getElem_range] at hji
        subst hji
        have hj2 : j < need + 1 := by simpa using hj'
        have h1 := hof j (by rw [hlen]; exact hj2)
        rwa [hnum j hj2, hvne j hj2 hjk] at h1
    have h2 := hof k (by rw [hlen]; exact hk)
    rw [hnum k hk, hvk, e] at h2
    exact hv h2.symm
/-- Twice the symbols. -/
def dbl (l : List Int) : List Int := l.map fun c => 2 * c % 251
theorem dbl_len (l : List Int) : (dbl l).length = l.length := by simp [dbl]
theorem dbl_in (l : List Int) : allIn 0 250 (dbl l) = true := by
  simp only [allIn, dbl, List.all_map, List.all_eq_true, Function.comp, decide_eq_true_eq]; intro x _; omega
theorem dbl_ev (cs : List Int) (x : Int) : Dag.ev (dbl cs) x = 2 * Dag.ev cs x % 251 := by
  induction cs with
  | nil => simp [dbl, Dag.ev]
  | cons c t ih =>
    simp only [dbl, List.map_cons, Dag.ev] at ih ⊢
    rw [ih]
    have e1 := Dag.mm (2 * Dag.ev t x) x
    rw [Int.mul_assoc] at e1
    omega
theorem dbl_col (data : List Int) (need c : Nat) : col (dbl data) need c = dbl (col data need c) := by
  simp [col, dbl, List.map_take, List.map_drop]
theorem dbl_vals (data : List Int) (need : Nat) (x : Int) {c : Nat} (hc : c < cols data.length need) : nth (shVals (dbl data) need x) c = 2 * nth (shVals data need x) c % 251 := by
  rw [shVals_nth _ _ _ (by rw [dbl_len]; exact hc), shVals_nth _ _ _ hc, dbl_col, dbl_ev]
theorem dbl_succ {l : List Int} {k : Nat} (h : k < l.length) : dbl (l.take k) ++ [2 * nth l k % 251] = dbl (l.take (k + 1)) := by
  simp only [dbl]
  rw [nth_lt h, List.take_succ_eq_append_getElem h, List.map_append]
  rfl
end Go.Proofs.Ythdbbllcckimbaa
