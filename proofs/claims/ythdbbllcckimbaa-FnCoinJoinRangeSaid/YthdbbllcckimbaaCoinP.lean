/- Plain mathematics of joined parts of a coin: what joins, joins to one number. No condition. -/
import Derived.Test.YthdbbllcckimbaaParts
import Derived.Test.YthdbbllcckimbaaDeal
namespace Go.Proofs.Ythdbbllcckimbaa
set_option linter.unusedVariables false
set_option linter.unusedSimpArgs false

/-- The first k parts are valid. -/
def PG (ps : List (Int × Int)) (k : Nat) : Prop := ∀ j, j < k → 0 ≤ fst_ ps j ∧ fst_ ps j ≤ 6 ∧ 0 ≤ snd_ ps j ∧ snd_ ps j ≤ 250 ∧ (0 < j → fst_ ps (j - 1) < fst_ ps j)
instance (ps : List (Int × Int)) (k : Nat) : Decidable (PG ps k) := by unfold PG; infer_instance
def partsB (need : Int) (ps : List (Int × Int)) : Bool := decide (1 ≤ need ∧ need ≤ 7 ∧ need ≤ ps.length) && decide (PG ps ps.length)
theorem partsB_true {need : Int} {ps : List (Int × Int)} (h1 : 1 ≤ need) (h2 : need ≤ 7) (h3 : need ≤ ps.length) (h : PG ps ps.length) : partsB need ps = true := by
  simp only [partsB, Bool.and_eq_true, decide_eq_true_eq]; exact ⟨⟨h1, h2, h3⟩, h⟩
theorem partsB_need {need : Int} {ps : List (Int × Int)} (h : ¬ (1 ≤ need ∧ need ≤ 7 ∧ need ≤ ps.length)) : partsB need ps = false := by
  unfold partsB; rw [decide_eq_false h]; rfl
theorem partsB_at {need : Int} {ps : List (Int × Int)} (k : Nat) (hk : k < ps.length) (h : ¬ (0 ≤ fst_ ps k ∧ fst_ ps k ≤ 6 ∧ 0 ≤ snd_ ps k ∧ snd_ ps k ≤ 250 ∧ (0 < k → fst_ ps (k - 1) < fst_ ps k))) : partsB need ps = false := by
  unfold partsB; rw [decide_eq_false (p := PG ps ps.length) (fun g => h (g k hk))]; simp
theorem partsB_parts {need : Int} {ps : List (Int × Int)} (h : partsB need ps = true) : 1 ≤ need ∧ need ≤ 7 ∧ need ≤ ps.length ∧ PG ps ps.length := by
  simp only [partsB, Bool.and_eq_true, decide_eq_true_eq] at h; exact ⟨h.1.1, h.1.2.1, h.1.2.2, h.2⟩
theorem PG.mono {ps : List (Int × Int)} {n : Nat} (h : PG ps n) : ∀ j i, i < j → j < n → fst_ ps i < fst_ ps j
  | 0, i, hi, _ => by omega
  | j + 1, i, hi, hj => by
    have h1 := (h (j + 1) hj).2.2.2.2 (by omega)
    simp only [Nat.add_sub_cancel] at h1
    by_cases e : i = j
    · rw [e]; exact h1
    · have := PG.mono h j i (by omega) (by omega); omega
theorem PG.le {ps : List (Int × Int)} {n : Nat} (h : PG ps n) : n ≤ 7 := by
  have : ∀ j, j < n → (j : Int) ≤ fst_ ps j := by
    intro j
    induction j with
    | zero => intro hj; exact (h 0 hj).1
    | succ j ih => intro hj; have := ih (by omega); have := h.mono (j + 1) j (by omega) hj; omega
  by_cases e : n ≤ 7
  · exact e
  · have h1 := this 7 (by omega); have h2 := h 7 (by omega); omega
/-- The numbers at which the parts are values. -/
def nums (ps : List (Int × Int)) (n : Nat) : List Int := (List.range n).map fun i => fst_ ps i + 1
def vals (ps : List (Int × Int)) (n : Nat) : List Int := (List.range n).map fun i => snd_ ps i
theorem nums_len (ps : List (Int × Int)) (n : Nat) : (nums ps n).length = n := by simp [nums]
theorem vals_len (ps : List (Int × Int)) (n : Nat) : (vals ps n).length = n := by simp [vals]
theorem nums_nth (ps : List (Int × Int)) {n i : Nat} (h : i < n) : nth (nums ps n) i = fst_ ps i + 1 := by simp [nth, nums, h]
theorem vals_nth (ps : List (Int × Int)) {n i : Nat} (h : i < n) : nth (vals ps n) i = snd_ ps i := by simp [nth, vals, h]
theorem nums_succ (ps : List (Int × Int)) (n : Nat) : nums ps (n + 1) = nums ps n ++ [fst_ ps n + 1] := by simp [nums, List.range_succ]
theorem vals_succ (ps : List (Int × Int)) (n : Nat) : vals ps (n + 1) = vals ps n ++ [snd_ ps n] := by simp [vals, List.range_succ]
theorem PG.apart {ps : List (Int × Int)} {n : Nat} (h : PG ps n) : Dag.Apart n (fun i => fst_ ps i + 1) := by
  intro i j hij hj
  have h1 := h.mono j i hij hj
  have h2 := h i (by omega)
  have h3 := h j hj
  show (fst_ ps j + 1 - (fst_ ps i + 1)) % 251 ≠ 0
  omega
theorem PG.pair {ps : List (Int × Int)} {n m : Nat} (h : PG ps n) (hm : m ≤ n) : (nums ps m).Pairwise (fun x y => (y - x) % 251 ≠ 0) :=
  Dag.apart_pairwise (x := fun i => fst_ ps i + 1) h.apart m hm
theorem PG.apart' {ps : List (Int × Int)} {n m : Nat} (h : PG ps n) (hm : m ≤ n) : Dag.Apart m (nth (nums ps m)) := by
  intro i j hij hj
  rw [nums_nth ps hj, nums_nth ps (show i < m by omega)]
  exact h.apart i j hij (by omega)
theorem PG.nums_in {ps : List (Int × Int)} {n m : Nat} (h : PG ps n) (hm : m ≤ n) : allIn 1 8 (nums ps m) = true :=
  allIn_true fun j hj => by rw [nums_len] at hj; rw [nums_nth ps hj]; have := h j (by omega); omega
theorem PG.vals_in {ps : List (Int × Int)} {n m : Nat} (h : PG ps n) (hm : m ≤ n) : allIn 0 250 (vals ps m) = true :=
  allIn_true fun j hj => by rw [vals_len] at hj; rw [vals_nth ps hj]; have := h j (by omega); omega

/-- All parts are values of the polynomial. -/
def fitsB (cs : List Int) (ps : List (Int × Int)) : Bool := decide (∀ i, i < ps.length → Dag.ev cs (fst_ ps i + 1) = snd_ ps i)
/-- What joins the parts. -/
def JoinIs (need : Int) (ps : List (Int × Int)) (v : Int) (b : Bool) : Prop :=
  (partsB need ps = false ∧ v = 0 ∧ b = false) ∨
  (partsB need ps = true ∧ ∃ cs : List Int, (cs.length : Int) = need ∧ allIn 0 250 cs = true ∧ (∀ i, i < cs.length → Dag.ev cs (fst_ ps i + 1) = snd_ ps i) ∧
    ((fitsB cs ps = true ∧ v = Dag.ev cs 0 ∧ b = true) ∨ (fitsB cs ps = false ∧ v = 0 ∧ b = false)))
theorem in251 {l : List Int} (h : allIn 0 250 l = true) : ∀ c ∈ l, 0 ≤ c ∧ c < 251 := fun c hc => by have := allIn_mem h hc; omega
theorem same_poly {need : Nat} {ps : List (Int × Int)} {n : Nat} (h : PG ps n) (hn : need ≤ n) {cs ds : List Int} (hc : cs.length = need) (hd : ds.length = need) (rc : allIn 0 250 cs = true) (rd : allIn 0 250 ds = true)
    (e : ∀ i, i < need → Dag.ev cs (fst_ ps i + 1) = Dag.ev ds (fst_ ps i + 1)) : cs = ds :=
  Dag.unique (nums ps need) cs ds (by omega) (by rw [nums_len]; omega) (h.pair hn) (in251 rc) (in251 rd) fun x hx => by
    simp only [nums, List.mem_map, List.mem_range] at hx
    obtain ⟨i, hi, rfl⟩ := hx
    exact e i hi
theorem JoinIs.one {need : Int} {ps : List (Int × Int)} {v v' : Int} {b b' : Bool} (h : JoinIs need ps v b) (h' : JoinIs need ps v' b') : v = v' ∧ b = b' := by
  rcases h with ⟨h1, h2, h3⟩ | ⟨h1, cs, hl, hr, he, hh⟩ <;> rcases h' with ⟨k1, k2, k3⟩ | ⟨k1, ds, kl, kr, ke, kk⟩
  · exact ⟨h2.trans k2.symm, h3.trans k3.symm⟩
  · rw [h1] at k1; cases k1
  · rw [h1] at k1; cases k1
  · obtain ⟨_, _, p3, p4⟩ := partsB_parts h1
    have e := same_poly (need := cs.length) p4 (by omega) rfl (by omega) hr kr (fun i hi => by rw [he i hi, ke i (by omega)])
    subst e
    rcases hh with ⟨a1, a2, a3⟩ | ⟨a1, a2, a3⟩ <;> rcases kk with ⟨c1, c2, c3⟩ | ⟨c1, c2, c3⟩
    · exact ⟨a2.trans c2.symm, a3.trans c3.symm⟩
    · rw [a1] at c1; cases c1
    · rw [a1] at c1; cases c1
    · exact ⟨a2.trans c2.symm, a3.trans c3.symm⟩
theorem fitsB_true {cs : List Int} {ps : List (Int × Int)} (h : ∀ i, i < ps.length → Dag.ev cs (fst_ ps i + 1) = snd_ ps i) : fitsB cs ps = true := by simpa [fitsB] using h
theorem fitsB_get {cs : List Int} {ps : List (Int × Int)} (h : fitsB cs ps = true) : ∀ i, i < ps.length → Dag.ev cs (fst_ ps i + 1) = snd_ ps i := by simpa [fitsB] using h
theorem fitsB_false {cs : List Int} {ps : List (Int × Int)} (k : Nat) (hk : k < ps.length) (h : Dag.ev cs (fst_ ps k + 1) ≠ snd_ ps k) : fitsB cs ps = false := by
  cases e : fitsB cs ps with
  | false => rfl
  | true => exact absurd (fitsB_get e k hk) h
/-- Parts of one polynomial join to its value at 0. -/
theorem JoinIs.of {need : Int} {ps : List (Int × Int)} (h : partsB need ps = true) {cs : List Int} (hl : (cs.length : Int) = need) (hr : allIn 0 250 cs = true) (hf : ∀ i, i < ps.length → Dag.ev cs (fst_ ps i + 1) = snd_ ps i) : JoinIs need ps (Dag.ev cs 0) true := by
  obtain ⟨_, _, p3, _⟩ := partsB_parts h
  exact .inr ⟨h, cs, hl, hr, fun i hi => hf i (by omega), .inl ⟨fitsB_true hf, rfl, rfl⟩⟩
theorem JoinIs.range {need : Int} {ps : List (Int × Int)} {v : Int} {b : Bool} (h : JoinIs need ps v b) : 0 ≤ v ∧ v ≤ 250 := by
  rcases h with ⟨_, rfl, _⟩ | ⟨_, cs, _, _, _, ⟨_, rfl, _⟩ | ⟨_, rfl, _⟩⟩
  · exact ⟨Int.le_refl _, by omega⟩
  · have := Dag.ev_range cs 0; omega
  · exact ⟨Int.le_refl _, by omega⟩
theorem JoinIs.said {need : Int} {ps : List (Int × Int)} {v : Int} (h : JoinIs need ps v true) : partsB need ps = true ∧ ∃ cs : List Int, (cs.length : Int) = need ∧ allIn 0 250 cs = true ∧ (∀ i, i < ps.length → Dag.ev cs (fst_ ps i + 1) = snd_ ps i) ∧ v = Dag.ev cs 0 := by
  rcases h with ⟨_, _, h3⟩ | ⟨h1, cs, hl, hr, he, ⟨h2, h3, _⟩ | ⟨_, _, h3⟩⟩
  · cases h3
  · exact ⟨h1, cs, hl, hr, fitsB_get h2, h3⟩
  · cases h3
/-- A polynomial times a number. -/
def scale (cs : List Int) (k : Int) : List Int := cs.map fun c => c * k % 251
theorem scale_len (cs : List Int) (k : Int) : (scale cs k).length = cs.length := by simp [scale]
theorem scale_in (cs : List Int) (k : Int) : allIn 0 250 (scale cs k) = true := by
  simp only [allIn, scale, List.all_map, List.all_eq_true, Function.comp, decide_eq_true_eq]; intro x _; omega
theorem scale_ev (cs : List Int) (k x : Int) : Dag.ev (scale cs k) x = Dag.ev cs x * k % 251 := by
  induction cs with
  | nil => simp [scale, Dag.ev]
  | cons c t ih =>
    simp only [scale, List.map_cons, Dag.ev] at ih ⊢
    rw [ih, Dag.mm, Int.add_mul]
    have e1 := Dag.mm (Dag.ev t x * k) x
    have e2 : Dag.ev t x * k * x = Dag.ev t x * x * k := by rw [Int.mul_assoc, Int.mul_comm k x, ← Int.mul_assoc]
    rw [e2] at e1
    omega
theorem ev_zero {c : Int} {t : List Int} (h : allIn 0 250 (c :: t) = true) : Dag.ev (c :: t) 0 = c := by
  have := allIn_mem h (x := c) (by simp)
  simp only [Dag.ev, Int.mul_zero, Int.zero_add]; omega
end Go.Proofs.Ythdbbllcckimbaa
