/- Plain mathematics of the parts of some members: they join to the coin; with a wrong one they do not. No condition. -/
import Derived.Test.YthdbbllcckimbaaCoinO
namespace Go.Proofs.Ythdbbllcckimbaa
set_option linter.unusedVariables false
set_option linter.unusedSimpArgs false

def turn (n len F M : Nat) : List Nat := (List.range n).filter fun i => decide ((i + F) % len < M)
theorem partsL_eq (sh : List Int) (k : Int) (F M n : Nat) : partsL sh k F M n = (turn n sh.length F M).map fun (i : Nat) => ((i : Int), nth sh i * k % 251) := by
  induction n with
  | zero => rfl
  | succ n ih =>
    have e : ((n : Int) + (F : Int)) % (sh.length : Int) = (((n + F) % sh.length : Nat) : Int) := by simp
    unfold turn at ih ⊢
    rw [partsL, List.range_succ, List.filter_append, List.map_append, ← ih, e]
    by_cases h : (n + F) % sh.length < M
    · rw [if_pos (by omega)]; simp [h]
    · rw [if_neg (by omega)]; simp [h]
theorem turn7 : ∀ n : Fin 8, ∀ f : Fin 8, ∀ m : Fin 9, f.val < n.val → m.val ≤ n.val → ((List.range n.val).filter fun i => decide ((i + f.val) % n.val < m.val)).length = m.val := by decide +kernel
theorem turn_len {n F M : Nat} (h1 : 1 ≤ n) (h7 : n ≤ 7) (hM : M ≤ n) : (turn n n F M).length = M := by
  have h := turn7 ⟨n, by omega⟩ ⟨F % n, by have := Nat.mod_lt F h1; omega⟩ ⟨M, by omega⟩ (Nat.mod_lt F h1) hM
  simp only [Nat.add_mod_mod] at h
  exact h
theorem partsL_count {sh : List Int} {k : Int} {F M : Nat} (h1 : 1 ≤ sh.length) (h7 : sh.length ≤ 7) (hM : M ≤ sh.length) : (partsL sh k F M sh.length).length = M := by
  rw [partsL_eq, List.length_map, turn_len h1 h7 hM]
theorem partsL_at {sh : List Int} {k : Int} {F M n : Nat} {j : Nat} (hj : j < (partsL sh k F M n).length) : ∃ i, i < n ∧ fst_ (partsL sh k F M n) j = (i : Int) ∧ snd_ (partsL sh k F M n) j = nth sh i * k % 251 := by
  rw [partsL_eq] at hj ⊢
  have hj' : j < (turn n sh.length F M).length := by simpa using hj
  refine ⟨(turn n sh.length F M)[j], ?_, ?_, ?_⟩
  · have := List.getElem_mem hj'
    simp only [turn, List.mem_filter, List.mem_range] at this
    exact this.1
  · simp [fst_, hj']
  · simp [snd_, hj']
theorem partsL_lt {sh : List Int} {k : Int} {F M n : Nat} {i j : Nat} (hij : i < j) (hj : j < (partsL sh k F M n).length) : fst_ (partsL sh k F M n) i < fst_ (partsL sh k F M n) j := by
  rw [partsL_eq] at hj ⊢
  have hj' : j < (turn n sh.length F M).length := by simpa using hj
  have hp : (turn n sh.length F M).Pairwise (· < ·) := List.Pairwise.filter _ List.pairwise_lt_range
  have := List.pairwise_iff_getElem.1 hp i j (by omega) hj' hij
  have hi' : i < (turn n sh.length F M).length := by omega
  simp only [fst_, List.getD_eq_getElem?_getD, List.getElem?_map, List.getElem?_eq_getElem hj', List.getElem?_eq_getElem hi', Option.map_some, Option.getD_some]
  omega
theorem partsL_PG {sh : List Int} {k : Int} {F M n : Nat} (hn : n ≤ 7) : PG (partsL sh k F M n) (partsL sh k F M n).length := fun j hj => by
  obtain ⟨i, hi, h1, h2⟩ := partsL_at hj
  refine ⟨by omega, by omega, by omega, by omega, fun h0 => partsL_lt (by omega) hj⟩
theorem shares_nth (cs : List Int) {n i : Nat} (h : i < n) : nth (shares cs n) i = Dag.ev cs ((i : Int) + 1) := by simp [nth, shares, h]
theorem shares_in (cs : List Int) (n : Nat) : allIn 0 250 (shares cs n) = true := by
  refine allIn_true fun j hj => ?_
  rw [shares_len] at hj
  rw [shares_nth cs hj]
  have := Dag.ev_range cs ((j : Int) + 1); omega
theorem partsL_fit {cs : List Int} {k : Int} {F M n : Nat} : ∀ j, j < (partsL (shares cs n) k F M n).length → Dag.ev (scale cs k) (fst_ (partsL (shares cs n) k F M n) j + 1) = snd_ (partsL (shares cs n) k F M n) j := fun j hj => by
  obtain ⟨i, hi, h1, h2⟩ := partsL_at hj
  rw [h1, h2, scale_ev, shares_nth cs hi]
/-- Enough parts join to the coin. -/
theorem coin_joins {cs : List Int} {k : Int} {F M n : Nat} (h1 : 1 ≤ cs.length) (hcn : cs.length ≤ n) (h7 : n ≤ 7) (hM : cs.length ≤ M) (hMn : M ≤ n) {v : Int} {b : Bool}
    (h : JoinIs cs.length (partsL (shares cs n) k F M n) v b) : v = Dag.ev cs 0 * k % 251 ∧ b = true := by
  have hc : (partsL (shares cs n) k F M n).length = M := by
    have := partsL_count (sh := shares cs n) (k := k) (F := F) (M := M) (by rw [shares_len]; omega) (by rw [shares_len]; omega) (by rw [shares_len]; omega)
    rwa [shares_len] at this
  have hb : partsB cs.length (partsL (shares cs n) k F M n) = true := partsB_true (by omega) (by omega) (by rw [hc]; omega) (partsL_PG h7)
  have := JoinIs.of hb (by rw [scale_len]) (scale_in cs k) partsL_fit
  rw [scale_ev] at this
  exact h.one this
/-- Too few do not. -/
theorem coin_few {cs : List Int} {k : Int} {F M n : Nat} (h1 : 1 ≤ n) (h7 : n ≤ 7) (hM : M < cs.length) (hMn : M ≤ n) {v : Int} {b : Bool}
    (h : JoinIs cs.length (partsL (shares cs n) k F M n) v b) : b = false := by
  have hc : (partsL (shares cs n) k F M n).length = M := by
    have := partsL_count (sh := shares cs n) (k := k) (F := F) (M := M) (by rw [shares_len]; omega) (by rw [shares_len]; omega) (by rw [shares_len]; omega)
    rwa [shares_len] at this
  exact (h.one (.inl ⟨partsB_need (by rw [hc]; omega), rfl, rfl⟩)).2
theorem ev_at0 {l : List Int} (h1 : 1 ≤ l.length) (h : allIn 0 250 l = true) : Dag.ev l 0 = nth l 0 := by
  cases l with
  | nil => simp at h1
  | cons c t => rw [ev_zero h]; rfl
theorem fst_set (l : List (Int × Int)) (k j : Nat) (y : Int) : fst_ (l.set k (fst_ l k, y)) j = fst_ l j := by
  by_cases hk : k < l.length
  · by_cases e : k = j
    · subst e; simp [fst_, hk]
    · simp [fst_, e]
  · rw [List.set_eq_of_length_le (by omega)]
theorem snd_set (l : List (Int × Int)) (k j : Nat) (y : Int) (hk : k < l.length) : snd_ (l.set k (fst_ l k, y)) j = if j = k then y else snd_ l j := by
  by_cases e : k = j
  · subst e; simp [snd_, hk]
  · simp [snd_, e, Ne.symm e]
/-- A wrong part among one too many is detected. -/
theorem coin_wrong {ps : List (Int × Int)} {need : Nat} (hg : PG ps ps.length) (hl : ps.length = need + 1) {cs : List Int} (hcl : cs.length = need) (hcr : allIn 0 250 cs = true) (hf : ∀ j, j < ps.length → Dag.ev cs (fst_ ps j + 1) = snd_ ps j)
    (k : Nat) (hk : k < ps.length) (y : Int) (hy : y ≠ snd_ ps k) {v : Int} {b : Bool} (h : JoinIs need (ps.set k (fst_ ps k, y)) v b) : b = false := by
  cases b with
  | false => rfl
  | true =>
    exfalso
    obtain ⟨hb, ds, hdl, hdr, hdf, _⟩ := h.said
    have hfk := hdf k (by simp; exact hk)
    rw [fst_set, snd_set _ _ _ _ hk, if_pos rfl] at hfk
    have e : cs = ds := by
      refine Dag.unique (((List.range ps.length).eraseIdx k).map fun i => fst_ ps i + 1) cs ds (by omega) ?_ ?_ (in251 hcr) (in251 hdr) ?_
      · simp [List.length_eraseIdx, hk]; omega
      · exact ((Dag.apart_pairwise (x := fun i => fst_ ps i + 1) hg.apart ps.length (Nat.le_refl _)).sublist ((List.eraseIdx_sublist _ _).map _))
      · intro x hx
        simp only [List.mem_map] at hx
        obtain ⟨i, hi, rfl⟩ := hx
        rw [List.mem_eraseIdx_iff_getElem] at hi
        obtain ⟨j, hj, hjk, hji⟩ := hi
        simp only [List.getElem_range] at hji
        subst hji
        have hj' : j < ps.length := by simpa using hj
        have h1 := hdf j (by simpa using hj')
        rw [fst_set, snd_set _ _ _ _ hk, if_neg hjk] at h1
        rw [hf j hj', h1]
    rw [← e, hf k hk] at hfk
    exact hy hfk.symm
end Go.Proofs.Ythdbbllcckimbaa
