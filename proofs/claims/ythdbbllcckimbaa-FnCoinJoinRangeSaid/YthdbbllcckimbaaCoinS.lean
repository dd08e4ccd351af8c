/- Plain mathematics: what the reference joins of parts as of shards. No condition. -/
import Derived.Test.YthdbbllcckimbaaShJ
import Derived.Test.YthdbbllcckimbaaCoinP
namespace Go.Proofs.Ythdbbllcckimbaa
set_option linter.unusedVariables false
set_option linter.unusedSimpArgs false

/-- The parts as shards. -/
def shOf (ps : List (Int × Int)) (n : Nat) : List Sh := (List.range n).map fun i => (fst_ ps i + 1, [snd_ ps i])
theorem shOf_len (ps : List (Int × Int)) (n : Nat) : (shOf ps n).length = n := by simp [shOf]
theorem shOf_succ (ps : List (Int × Int)) (n : Nat) : shOf ps n ++ [(fst_ ps n + 1, [snd_ ps n])] = shOf ps (n + 1) := by simp [shOf, List.range_succ]
theorem shOf_num (ps : List (Int × Int)) {n i : Nat} (h : i < n) : num_ (shOf ps n) i = fst_ ps i + 1 := by simp [num_, shOf, h]
theorem shOf_val (ps : List (Int × Int)) {n i : Nat} (h : i < n) : val_ (shOf ps n) i = [snd_ ps i] := by simp [val_, shOf, h]
theorem cols_one {n : Nat} (h : 1 ≤ n) : cols n n = 1 := by
  unfold cols; rw [Nat.div_eq_of_lt_le] <;> omega
theorem shOf_SG {ps : List (Int × Int)} {need : Nat} (h : PG ps ps.length) (hn : 1 ≤ need) : SG need need (shOf ps ps.length) ps.length := fun j hj => by
  have hj' := h j hj
  rw [shOf_num ps hj, shOf_val ps hj]
  refine ⟨by omega, by omega, by rw [cols_one hn]; rfl, allIn_true fun i hi => ?_, fun i hi => ?_⟩
  · simp only [List.length_cons, List.length_nil] at hi
    obtain rfl : i = 0 := by omega
    simp [nth]; omega
  · rw [shOf_num ps (show i < ps.length by omega)]
    have := h.mono j i hi hj; omega
theorem shOf_vals {all : List Int} {need : Nat} (hl : all.length = need) (hn : 1 ≤ need) (x : Int) : shVals all need x = [Dag.ev all x] := by
  unfold shVals
  rw [hl, cols_one hn]
  have : List.take need all = all := List.take_of_length_le (by omega)
  simp [col, this]
/-- What joins as shards, joins as parts. -/
theorem JoinIs.shards {need : Nat} {ps : List (Int × Int)} (h : partsB need ps = true) {out : List Int} {ok : Bool} (hj : JoinSh need need (shOf ps ps.length) out ok) : JoinIs need ps (if ok = true then nth out 0 else 0) ok ∧ (ok = true → 1 ≤ out.length) := by
  obtain ⟨p1, p2, p3, p4⟩ := partsB_parts h
  have hn : 1 ≤ need := by omega
  have hpl := p4.le
  have hsb : shardsB (need : Int) (need : Int) (shOf ps ps.length) = true := by
    refine shardsB_true (by omega) (by omega) (by omega) (by omega) (by rw [shOf_len]; omega) (by rw [shOf_len]; omega) ?_
    rw [shOf_len]; simpa using shOf_SG p4 hn
  rcases hj with ⟨k1, _⟩ | ⟨_, all, hal, har, hae, hh⟩
  · rw [hsb] at k1; cases k1
  · simp only [Int.toNat_natCast] at hal hae hh
    rw [cols_one hn, Nat.one_mul] at hal
    have htk : all.take need = all := List.take_of_length_le (by omega)
    rw [htk] at hh
    have hev : ∀ i, i < need → Dag.ev all (fst_ ps i + 1) = snd_ ps i := fun i hi => by
      have := hae 0 (by rw [cols_one hn]; omega) i hi
      rw [shOf_num ps (by omega), shOf_val ps (by omega)] at this
      simpa [col, nth, ← hal] using this
    have hpad : padB need all = true := padB_true fun j h1 h2 => absurd h2 (by omega)
    have hfit : fitB need (shOf ps ps.length) all = fitsB all ps := by
      unfold fitB fitsB
      rw [shOf_len]
      congr 1
      apply propext
      constructor
      · intro q i hi
        have := q i hi
        rw [shOf_num ps hi, shOf_val ps hi, shOf_vals hal hn] at this
        simpa using this
      · intro q i hi
        rw [shOf_num ps hi, shOf_val ps hi, shOf_vals hal hn, q i hi]
    rw [hpad, hfit, Bool.true_and] at hh
    have h0 : Dag.ev all 0 = nth all 0 := by
      cases all with
      | nil => simp at hal; omega
      | cons c t => rw [ev_zero har]; rfl
    rcases hh with ⟨a1, a2, a3⟩ | ⟨a1, a2, a3⟩
    · subst a2 a3
      refine ⟨.inr ⟨h, out, by rw [hal], har, fun i hi => hev i (by omega), .inl ⟨a1, by simp [h0], rfl⟩⟩, fun _ => by omega⟩
    · subst a2 a3
      exact ⟨.inr ⟨h, all, by rw [hal], har, fun i hi => hev i (by omega), .inr ⟨a1, by simp, rfl⟩⟩, fun h => by cases h⟩
end Go.Proofs.Ythdbbllcckimbaa
