/- Plain mathematics of the field of 251 numbers: polynomials with as many different roots as coefficients vanish, elimination keeps solutions. No condition, no program. -/
namespace Dag

/-! ### arithmetic modulo 251 -/
theorem mm (a b : Int) : (a % 251 * b) % 251 = (a * b) % 251 := by rw [Int.mul_emod, Int.emod_emod, ← Int.mul_emod]
theorem mm' (a b : Int) : (a * (b % 251)) % 251 = (a * b) % 251 := by rw [Int.mul_emod, Int.emod_emod, ← Int.mul_emod]
theorem am (a b : Int) : (a % 251 + b) % 251 = (a + b) % 251 := by omega
theorem zero_mul_mod {a : Int} (b : Int) (h : a % 251 = 0) : (a * b) % 251 = 0 := by rw [← mm, h]; simp
theorem mul_zero_mod {b : Int} (a : Int) (h : b % 251 = 0) : (a * b) % 251 = 0 := by rw [← mm', h]; simp

/-- The inverse by the power with exponent 249: the reference's loop. -/
def pwm (b : Int) : Nat → Int
  | 0 => 1
  | n + 1 => pwm b n * b % 251

/-- The inverse by squaring: the program's loop. -/
def invLoop : Nat → Int → Int → Nat → Int
  | 0, _, r, _ => r
  | f + 1, v, r, n => if n = 0 then r else invLoop f (v * v % 251) (if n % 2 = 1 then r * v % 251 else r) (n / 2)
def inv (v : Int) : Int := invLoop 8 v 1 249

theorem inv_nat : ∀ v : Fin 251, v.val ≠ 0 → ((v.val : Int) * inv v.val) % 251 = 1 ∧ 0 ≤ inv v.val ∧ inv v.val < 251 := by decide +kernel
theorem inv_ok (v : Int) (h0 : 0 < v) (h1 : v < 251) : (v * inv v) % 251 = 1 ∧ 0 ≤ inv v ∧ inv v < 251 := by
  obtain ⟨n, rfl⟩ := Int.eq_ofNat_of_zero_le (Int.le_of_lt h0)
  exact inv_nat ⟨n, by omega⟩ (by simp; omega)
theorem pw_nat : ∀ v : Fin 251, v.val ≠ 0 → ((v.val : Int) * pwm v.val 249) % 251 = 1 := by decide +kernel
theorem pw_ok (v : Int) (h0 : 0 < v) (h1 : v < 251) : (v * pwm v 249) % 251 = 1 := by
  obtain ⟨n, rfl⟩ := Int.eq_ofNat_of_zero_le (Int.le_of_lt h0)
  exact pw_nat ⟨n, by omega⟩ (by simp; omega)
theorem pwm_range (b : Int) (n : Nat) : 0 ≤ pwm b n ∧ pwm b n < 251 := by
  cases n <;> simp only [pwm] <;> omega

/-- 251 is prime. -/
theorem prime (a b : Int) (h : (a * b) % 251 = 0) : a % 251 = 0 ∨ b % 251 = 0 := by
  by_cases ha : a % 251 = 0
  · exact .inl ha
  · refine .inr ?_
    have h1 := inv_ok (a % 251) (by omega) (by omega)
    have h2 : (a % 251 * inv (a % 251) * b) % 251 = 0 := by
      rw [Int.mul_assoc, Int.mul_comm (inv _), ← Int.mul_assoc]
      apply zero_mul_mod
      rw [mm]; exact h
    rw [← mm, h1.1] at h2
    simpa using h2

/-! ### polynomials -/
def pv : List Int → Int → Int
  | [], _ => 0
  | c :: t, x => c + x * pv t x

/-- Horner's rule with a remainder at each step: the program's loop, from the last coefficient. -/
def ev : List Int → Int → Int
  | [], _ => 0
  | c :: t, x => (ev t x * x + c) % 251

theorem ev_eq (cs : List Int) (x : Int) : ev cs x = pv cs x % 251 := by
  induction cs with
  | nil => rfl
  | cons c t ih =>
    simp only [ev, pv, ih]
    rw [Int.add_comm, ← Int.add_emod_emod, mm, Int.add_emod_emod, Int.mul_comm]
theorem ev_range (cs : List Int) (x : Int) : 0 ≤ ev cs x ∧ ev cs x < 251 := by
  cases cs <;> simp only [ev] <;> omega

/-- Synthetic division. -/
def sd (a : Int) : List Int → List Int
  | [] => []
  | [_] => []
  | _ :: d :: t => pv (d :: t) a :: sd a (d :: t)
theorem sd_len (a : Int) (cs : List Int) : (sd a cs).length = cs.length - 1 := by
  induction cs with
  | nil => rfl
  | cons c t ih => cases t with
    | nil => rfl
    | cons d t => simp only [sd, List.length_cons, ih]; simp
theorem sd_pv (a x : Int) (cs : List Int) : pv cs x = pv cs a + (x - a) * pv (sd a cs) x := by
  induction cs with
  | nil => simp [pv, sd]
  | cons c t ih => cases t with
    | nil => simp [pv, sd]
    | cons d t =>
      simp only [sd]
      rw [show pv (c :: d :: t) x = c + x * pv (d :: t) x from rfl, show pv (c :: d :: t) a = c + a * pv (d :: t) a from rfl,
        show pv (pv (d :: t) a :: sd a (d :: t)) x = pv (d :: t) a + x * pv (sd a (d :: t)) x from rfl, ih]
      generalize pv (d :: t) a = u
      generalize pv (sd a (d :: t)) x = v
      simp only [Int.mul_add, Int.sub_mul]
      have e1 : x * (x * v - a * v) = x * (x * v) - x * (a * v) := Int.mul_sub _ _ _
      have e2 : a * (x * v) = x * (a * v) := Int.mul_left_comm _ _ _
      omega
theorem sd_zero (a : Int) (cs : List Int) (h : pv cs a % 251 = 0) (hq : ∀ c ∈ sd a cs, c % 251 = 0) : ∀ c ∈ cs, c % 251 = 0 := by
  induction cs with
  | nil => simp
  | cons c t ih => cases t with
    | nil => simpa [pv] using h
    | cons d t =>
      have h1 : pv (d :: t) a % 251 = 0 := hq _ (by simp [sd])
      have h2 : ∀ c ∈ sd a (d :: t), c % 251 = 0 := fun c hc => hq c (by simp [sd, hc])
      intro e he
      rcases List.mem_cons.1 he with rfl | he
      · have h3 : pv (e :: d :: t) a = e + a * pv (d :: t) a := rfl
        have h4 := mul_zero_mod a h1
        omega
      · exact ih h1 h2 e he

/-- A polynomial with at least as many different roots as coefficients vanishes. -/
theorem roots : ∀ (xs cs : List Int), cs.length ≤ xs.length → xs.Pairwise (fun x y => (y - x) % 251 ≠ 0) → (∀ x ∈ xs, pv cs x % 251 = 0) → ∀ c ∈ cs, c % 251 = 0 := by
  intro xs
  induction xs with
  | nil => intro cs h _ _; simp at h; simp [h]
  | cons a xs ih =>
    intro cs hl hp hr
    obtain ⟨hd, hp'⟩ := List.pairwise_cons.1 hp
    have ha := hr a (by simp)
    refine sd_zero a cs ha (ih (sd a cs) (by rw [sd_len]; simp at hl; omega) hp' fun x hx => ?_)
    have hx0 := hr x (by simp [hx])
    rw [sd_pv a x cs] at hx0
    rcases prime (x - a) (pv (sd a cs) x) (by omega) with h | h
    · exact absurd h (hd x hx)
    · exact h

theorem pv_sub (cs : List Int) : ∀ (ds : List Int) (x : Int), cs.length = ds.length → pv (List.zipWith (· - ·) cs ds) x = pv cs x - pv ds x := by
  induction cs with
  | nil => intro ds x h; cases ds <;> simp_all [pv]
  | cons c t ih =>
    intro ds x h
    cases ds with
    | nil => simp at h
    | cons d u =>
      simp only [List.zipWith_cons_cons, pv, ih u x (by simpa using h), Int.mul_sub]
      omega

/-- Two polynomials that agree at as many different numbers as they have coefficients are one. -/
theorem unique (xs cs ds : List Int) (hl : cs.length = ds.length) (hn : cs.length ≤ xs.length) (hp : xs.Pairwise (fun x y => (y - x) % 251 ≠ 0))
    (hc : ∀ c ∈ cs, 0 ≤ c ∧ c < 251) (hd : ∀ c ∈ ds, 0 ≤ c ∧ c < 251) (he : ∀ x ∈ xs, ev cs x = ev ds x) : cs = ds := by
  have h := roots xs (List.zipWith (· - ·) cs ds) (by simp; omega) hp (fun x hx => by
    rw [pv_sub cs ds x hl]
    have := he x hx
    rw [ev_eq, ev_eq] at this
    omega)
  clear he hn hp
  induction cs generalizing ds with
  | nil => cases ds <;> simp_all
  | cons c t ih =>
    cases ds with
    | nil => simp at hl
    | cons d u =>
      have h0 := h (c - d) (by simp)
      have h1 := hc c (by simp)
      have h2 := hd d (by simp)
      have e : c = d := by omega
      rw [e, ih u (by simpa using hl) (fun x hx => hc x (by simp [hx])) (fun x hx => hd x (by simp [hx])) (fun x hx => h x (by simp [hx]))]

/-! ### elimination -/
def dot : Nat → (Nat → Int) → (Nat → Int) → Int
  | 0, _, _ => 0
  | m + 1, r, c => dot m r c + r m * c m

theorem dot_front (m : Nat) (r c : Nat → Int) : dot (m + 1) r c = r 0 * c 0 + dot m (fun j => r (j + 1)) (fun j => c (j + 1)) := by
  induction m with
  | zero => simp [dot]
  | succ m ih => rw [dot, ih, dot]; omega
theorem dot_congr (m : Nat) (r r' c c' : Nat → Int) (h : ∀ j, j < m → r j = r' j) (h' : ∀ j, j < m → c j = c' j) : dot m r c = dot m r' c' := by
  induction m with
  | zero => rfl
  | succ m ih => rw [dot, dot, ih (fun j hj => h j (by omega)) (fun j hj => h' j (by omega)), h m (by omega), h' m (by omega)]
/-- Congruent rows have congruent products. -/
theorem dot_mod (m : Nat) (r r' c : Nat → Int) (h : ∀ j, j < m → r j % 251 = r' j % 251) : dot m r c % 251 = dot m r' c % 251 := by
  induction m with
  | zero => rfl
  | succ m ih =>
    have e : (r m * c m) % 251 = (r' m * c m) % 251 := by rw [← mm, h m (by omega), mm]
    have := ih (fun j hj => h j (by omega))
    rw [dot, dot]
    omega
theorem dot_scale (m : Nat) (s : Int) (r c : Nat → Int) : dot m (fun j => r j * s) c = s * dot m r c := by
  induction m with
  | zero => simp [dot]
  | succ m ih =>
    rw [dot, dot, ih, Int.mul_add]
    have : r m * s * c m = s * (r m * c m) := by rw [Int.mul_comm (r m) s, Int.mul_assoc]
    omega
theorem dot_add (m : Nat) (f : Int) (r q c : Nat → Int) : dot m (fun j => r j + f * q j) c = dot m r c + f * dot m q c := by
  induction m with
  | zero => simp [dot]
  | succ m ih =>
    rw [dot, dot, dot, ih, Int.mul_add, Int.add_mul, Int.mul_assoc]
    omega
theorem dot_unit (m k : Nat) (c : Nat → Int) (r : Nat → Int) (h : ∀ j, j < m → r j = if k = j then 1 else 0) : dot m r c = if k < m then c k else 0 := by
  induction m with
  | zero => simp [dot]
  | succ m ih =>
    rw [dot, ih (fun j hj => h j (by omega)), h m (by omega)]
    by_cases h1 : k < m
    · rw [if_pos h1, if_neg (by omega), if_pos (by omega)]; simp
    · by_cases h2 : k = m
      · subst h2; simp
      · rw [if_neg h1, if_neg h2, if_neg (by omega)]; simp

/-- Powers and polynomials. -/
theorem pwm_succ' (x : Int) (j : Nat) : pwm x (j + 1) % 251 = (x * pwm x j) % 251 := by
  simp only [pwm, Int.emod_emod]; rw [Int.mul_comm]
theorem dot_pw (m : Nat) (x : Int) (c : Nat → Int) : dot m (pwm x) c % 251 = pv ((List.range m).map c) x % 251 := by
  induction m generalizing c with
  | zero => rfl
  | succ m ih =>
    rw [dot_front, List.range_succ_eq_map, List.map_cons, pv, List.map_map]
    have h1 : dot m (fun j => pwm x (j + 1)) (fun j => c (j + 1)) % 251 = (x * dot m (pwm x) (fun j => c (j + 1))) % 251 := by
      rw [← dot_scale]
      exact dot_mod _ _ _ _ fun j _ => by rw [pwm_succ', Int.mul_comm]
    have h2 := ih (fun j => c (j + 1))
    have h3 : (x * dot m (pwm x) (fun j => c (j + 1))) % 251 = (x * pv ((List.range m).map (c ∘ Nat.succ)) x) % 251 := by
      rw [← mm', h2, mm']; rfl
    have h4 : pwm x 0 = 1 := rfl
    rw [h4]
    omega

/-- What holds of the equations when p columns have been done. -/
structure Elim (n : Nat) (x v : Nat → Int) (p : Nat) (R : Nat → Nat → Int) (V : Nat → Int) : Prop where
  rr : ∀ i, i < n → ∀ j, j < n → 0 ≤ R i j ∧ R i j < 251
  rv : ∀ i, i < n → 0 ≤ V i ∧ V i < 251
  unit : ∀ i, i < n → ∀ j, j < p → R i j = if i = j then 1 else 0
  sol : ∀ m, p ≤ m → m ≤ n → ∀ (c : Nat → Int) (t : Int), (∀ i, i < m → (dot m (R i) c - t * V i) % 251 = 0) → ∀ i, i < m → (dot m (pwm (x i)) c - t * v i) % 251 = 0

theorem elim_start (n : Nat) (x v : Nat → Int) (hv : ∀ i, i < n → 0 ≤ v i ∧ v i < 251) : Elim n x v 0 (fun i j => pwm (x i) j) v :=
  ⟨fun i _ j _ => pwm_range _ _, hv, fun _ _ j hj => absurd hj (by omega), fun _ _ _ _ _ h => h⟩

def Apart (n : Nat) (x : Nat → Int) : Prop := ∀ i j, i < j → j < n → (x j - x i) % 251 ≠ 0

theorem apart_pairwise {n : Nat} {x : Nat → Int} (h : Apart n x) (m : Nat) (hm : m ≤ n) : ((List.range m).map x).Pairwise (fun a b => (b - a) % 251 ≠ 0) := by
  rw [List.pairwise_map]
  exact (List.pairwise_lt_range (n := m)).imp_of_mem fun {a b} _ hb hab => h a b hab (by have := List.mem_range.1 hb; omega)

/-- No pivot is 0. -/
theorem pivot {n : Nat} {x v : Nat → Int} {p : Nat} {R : Nat → Nat → Int} {V : Nat → Int} (h : Elim n x v p R V) (hx : Apart n x) (hp : p < n) : 0 < R p p := by
  have h0 := h.rr p hp p hp
  rcases Int.lt_or_eq_of_le h0.1 with h1 | h1
  · exact h1
  exfalso
  let c : Nat → Int := fun j => if j = p then 1 else - R j p
  have hs := h.sol (p + 1) (by omega) (by omega) c 0 (fun i hi => by
    rw [dot]
    have hc : c p = 1 := if_pos rfl
    rw [hc, dot_unit p i c (R i) (fun j hj => h.unit i (by omega) j hj)]
    by_cases hip : i < p
    · rw [if_pos hip, show c i = - R i p from if_neg (by omega)]; simp; omega
    · have : i = p := by omega
      subst this
      rw [if_neg (by omega), ← h1]; simp)
  have hr := roots ((List.range (p + 1)).map x) ((List.range (p + 1)).map c) (by simp) (apart_pairwise hx _ (by omega)) (fun y hy => by
    obtain ⟨i, hi, rfl⟩ := List.mem_map.1 hy
    rw [← dot_pw]
    have := hs i (List.mem_range.1 hi)
    simpa using this)
  have := hr (c p) (List.mem_map.2 ⟨p, by simp, rfl⟩)
  rw [show c p = 1 from if_pos rfl] at this
  omega

/-- One column of elimination. -/
def stepR (R : Nat → Nat → Int) (p : Nat) (s : Int) (i j : Nat) : Int := if i = p then R p j * s % 251 else (R i j + (251 - R i p) * (R p j * s % 251)) % 251
def stepV (R : Nat → Nat → Int) (V : Nat → Int) (p : Nat) (s : Int) (i : Nat) : Int := if i = p then V p * s % 251 else (V i + (251 - R i p) * (V p * s % 251)) % 251

theorem step_range (R : Nat → Nat → Int) (p : Nat) (s : Int) (i j : Nat) : 0 ≤ stepR R p s i j ∧ stepR R p s i j < 251 := by
  unfold stepR; split <;> omega
theorem stepV_range (R : Nat → Nat → Int) (V : Nat → Int) (p : Nat) (s : Int) (i : Nat) : 0 ≤ stepV R V p s i ∧ stepV R V p s i < 251 := by
  unfold stepV; split <;> omega

theorem elim_step {n : Nat} {x v : Nat → Int} {p : Nat} {R : Nat → Nat → Int} {V : Nat → Int} (h : Elim n x v p R V) (hp : p < n) (s : Int) (hs : (R p p * s) % 251 = 1) :
    Elim n x v (p + 1) (stepR R p s) (stepV R V p s) := by
  refine ⟨fun i _ j _ => step_range .., fun i _ => stepV_range .., fun i hi j hj => ?_, fun m hm hmn c t hh => ?_⟩
  · by_cases hjp : j = p
    · subst hjp
      unfold stepR
      rw [hs]
      by_cases hij : i = j
      · simp [hij]
      · rw [if_neg hij, if_neg hij]
        simp
        omega
    · have hjp' : j < p := by omega
      have e1 := h.unit i hi j hjp'
      have e2 : R p j = 0 := by rw [h.unit p hp j hjp', if_neg (by omega)]
      unfold stepR
      rw [e1, e2]
      by_cases hij : i = p
      · rw [if_pos hij, if_neg (by omega)]; simp
      · rw [if_neg hij]
        split <;> simp
  · refine h.sol m (by omega) hmn c t ?_
    have hpm : p < m := by omega
    -- the functional of the pivot's row
    have hP := hh p hpm
    have hP1 : (dot m (stepR R p s p) c - t * stepV R V p s p) % 251 = (s * (dot m (R p) c - t * V p)) % 251 := by
      have e1 : dot m (stepR R p s p) c % 251 = (s * dot m (R p) c) % 251 := by
        rw [← dot_scale]
        exact dot_mod _ _ _ _ fun j _ => by simp [stepR]
      have e2 : (t * stepV R V p s p) % 251 = (s * (t * V p)) % 251 := by
        unfold stepV; rw [if_pos rfl, mm', ← Int.mul_assoc, Int.mul_comm (t * V p) s]
      rw [Int.mul_sub]
      omega
    have hpz : (dot m (R p) c - t * V p) % 251 = 0 := by
      rw [hP1] at hP
      rcases prime _ _ hP with h1 | h1
      · exfalso
        have := mul_zero_mod (R p p) h1
        omega
      · exact h1
    intro i hi
    by_cases hip : i = p
    · subst hip; exact hpz
    · have hI := hh i hi
      have e1 : dot m (stepR R p s i) c % 251 = (dot m (R i) c + (251 - R i p) * (s * dot m (R p) c)) % 251 := by
        rw [← dot_scale, ← dot_add]
        exact dot_mod _ _ _ _ fun j _ => by
          unfold stepR
          rw [if_neg hip, Int.emod_emod]
          have := mm' (251 - R i p) (R p j * s)
          omega
      have e2 : (t * stepV R V p s i) % 251 = (t * V i + (251 - R i p) * (s * (t * V p))) % 251 := by
        unfold stepV; rw [if_neg hip, mm', Int.mul_add]
        have a1 : (t * ((251 - R i p) * (V p * s % 251))) % 251 = ((251 - R i p) * (s * (t * V p))) % 251 := by
          rw [Int.mul_left_comm, ← mm', mm' t, mm', Int.mul_comm (V p) s, Int.mul_left_comm t]
        omega
      have e3 : ((251 - R i p) * (s * (dot m (R p) c - t * V p))) % 251 = 0 := mul_zero_mod _ (mul_zero_mod _ hpz)
      rw [Int.mul_sub, Int.mul_sub] at e3
      omega

/-- What elimination ends with solves the equations. -/
theorem elim_end {n : Nat} {x v : Nat → Int} {R : Nat → Nat → Int} {V : Nat → Int} (h : Elim n x v n R V) (hv : ∀ i, i < n → 0 ≤ v i ∧ v i < 251) : ∀ i, i < n → ev ((List.range n).map V) (x i) = v i := by
  intro i hi
  have := h.sol n (Nat.le_refl _) (Nat.le_refl _) V 1 (fun k hk => by
    rw [dot_unit n k V (R k) (fun j hj => h.unit k hk j hj), if_pos hk]; simp) i hi
  rw [ev_eq, ← dot_pw]
  have := hv i hi
  omega

end Dag
