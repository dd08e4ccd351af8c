/- The reference's elimination solves the equations of a column. Conditions: at most eight different numbers, symbols. -/
import Derived.Test.YtfkmiflddpjllaaShM
import Derived.Test.YtfkmiflddpjllaaGrid
import Derived.StillTailTactics
namespace Go.Proofs.Ytfkmiflddpjllaa
open Go.RowKit
set_option linter.unusedVariables false
set_option linter.unusedSimpArgs false
set_option maxRecDepth 4000

/-- The equations. -/
def eqs (l : List Sh) (need column i j : Nat) : Int := if j < need then Dag.pwm (num_ l i) j else nth (val_ l i) column
theorem eqs_lt (l : List Sh) {need column i j : Nat} (h : j < need) : eqs l need column i j = Dag.pwm (num_ l i) j := if_pos h
theorem eqs_at (l : List Sh) (need column i : Nat) : eqs l need column i need = nth (val_ l i) column := if_neg (by omega)
def InM (n : Nat) (G : Nat → Nat → Int) : Prop := ∀ i j, i < n → j ≤ n → 0 ≤ G i j ∧ G i j ≤ 250
def scR (G : Nat → Nat → Int) (p : Nat) (s : Int) (j : Nat) : Int := G p j * s % 251
def nxR (G : Nat → Nat → Int) (p : Nat) (s : Int) (r j : Nat) : Int := (G r j + (251 - G r p) * scR G p s j) % 251
theorem scR_in (G : Nat → Nat → Int) (p : Nat) (s : Int) (j : Nat) : 0 ≤ scR G p s j ∧ scR G p s j ≤ 250 := by unfold scR; omega
def elR (G : Nat → Nat → Int) (p : Nat) (s : Int) (r i j : Nat) : Int := if i = p then scR G p s j else if i < r then nxR G p s i j else G i j
theorem elR_in {n : Nat} {G : Nat → Nat → Int} (h : InM n G) (p : Nat) (s : Int) (r : Nat) : InM n (elR G p s r) := fun i j hi hj => by
  unfold elR; split
  · exact scR_in G p s j
  · split
    · unfold nxR; omega
    · exact h i j hi hj
theorem elR_zero (G : Nat → Nat → Int) (p : Nat) (s : Int) (i j : Nat) : putR (putR G p (G p)) p (scR G p s) i j = elR G p s 0 i j := by
  unfold putR elR; by_cases e : i = p <;> simp [e]
theorem elR_skip (G : Nat → Nat → Int) (p : Nat) (s : Int) (i j : Nat) : elR G p s p i j = elR G p s (p + 1) i j := by
  unfold elR; by_cases e : i = p
  · simp [e]
  · by_cases e2 : i < p
    · simp [e, e2, Nat.lt_succ_of_lt e2]
    · simp [e, e2, show ¬ i < p + 1 by omega]
theorem elR_skip' (G : Nat → Nat → Int) {p r : Nat} (s : Int) (h : r = p) (i j : Nat) : elR G p s r i j = elR G p s (r + 1) i j := by subst h; exact elR_skip G r s i j
theorem elR_at (G : Nat → Nat → Int) {p : Nat} (s : Int) {r : Nat} (j : Nat) (h : r ≠ p) : elR G p s r r j = G r j := by simp [elR, h]
theorem elR_put (G : Nat → Nat → Int) {p : Nat} (s : Int) {r : Nat} (h : r ≠ p) (i j : Nat) : putR (elR G p s r) r (nxR G p s r) i j = elR G p s (r + 1) i j := by
  unfold putR
  by_cases e : i = r
  · subst e; simp [elR, h]
  · rw [if_neg e]; unfold elR
    by_cases e1 : i = p
    · simp [e1]
    · by_cases e2 : i < r
      · simp [e1, e2, Nat.lt_succ_of_lt e2]
      · simp [e1, e2, show ¬ i < r + 1 by omega]
theorem elR_elim {n : Nat} {x v : Nat → Int} {p : Nat} {G : Nat → Nat → Int} (h : Dag.Elim n x v p G (fun i => G i n)) (hp : p < n) (s : Int) (hs : (G p p * s) % 251 = 1) : Dag.Elim n x v (p + 1) (elR G p s n) (fun i => elR G p s n i n) :=
  elim_as (Dag.elim_step h hp s hs) (by omega) (fun i j hi hj => by simp [Dag.stepR, elR, scR, nxR, hi]) (fun i hi => by simp [Dag.stepV, elR, scR, nxR, hi])
theorem eqs_elim (l : List Sh) (need column : Nat) (hv : ∀ i, i < need → 0 ≤ nth (val_ l i) column ∧ nth (val_ l i) column ≤ 250) : Dag.Elim need (num_ l) (fun i => nth (val_ l i) column) 0 (eqs l need column) (fun i => eqs l need column i need) :=
  elim_as (Dag.elim_start need (num_ l) _ (fun i hi => by have := hv i hi; exact ⟨this.1, by omega⟩)) (Nat.zero_le _) (fun i j hi hj => (eqs_lt l hj).symm) (fun i hi => (eqs_at l need column i).symm)
theorem eqs_in (l : List Sh) (need column : Nat) (hv : ∀ i, i < need → 0 ≤ nth (val_ l i) column ∧ nth (val_ l i) column ≤ 250) : InM need (eqs l need column) := fun i j hi hj => by
  unfold eqs; split
  · have := Dag.pwm_range (num_ l i) j; omega
  · exact hv i hi

def SolvePost (need column : Nat) (l : List Sh) (w : World) (e : Ending) (w' : World) : Prop :=
  ∃ cs : List Int, cs.length = need ∧ allIn 0 250 cs = true ∧ (∀ i, i < need → Dag.ev cs (num_ l i) = nth (val_ l i) column) ∧ FreshI cs w e w'

set_option maxHeartbeats 8000000 in
theorem solve_any (need column : Nat) (A : Option Addr) (c : Nat) (l : List Sh) (w : World) (h : ShL w w.heap.size A l) (h1 : 1 ≤ need) (h8 : need ≤ 8) (hn : need ≤ l.length) (hl : l.length ≤ 8) (hcol : column ≤ 12)
    (hnum : ∀ i, i < l.length → 1 ≤ num_ l i ∧ num_ l i ≤ 8) (hval : ∀ i, i < l.length → column < (val_ l i).length ∧ allIn 0 250 (val_ l i) = true) (hap : Dag.Apart need (num_ l)) :
    Calls Try.prog 61 #[.int .i64 need, .slice A l.length c, .int .i64 column] w (SolvePost need column l w) := by
  have HNUM := Lib.hid hnum
  have HVAL := Lib.hid hval
  have HV : Hid (∀ i, i < need → 0 ≤ nth (val_ l i) column ∧ nth (val_ l i) column ≤ 250) := by
    unfold Hid; intro i hi; exact allIn_get (hval i (by omega)).2 (hval i (by omega)).1
  have HAP := Lib.hid hap
  clear hnum hval hap
  have hR0 := RowsF.made w w.heap.size (need + 1) (eqs l need column) (Nat.le_refl _)
  have hB0 : Below w.heap.size w (w.alloc (.cells #[] 26)) := (Below.refl _ _).alloc (Nat.le_refl _) _
  go_enter Try.func61, Try.ntmps61
  go_wp2_with fail
  go_loopw [7, 8, 9, 10] (fun r i _ _ wr => ∃ k g cg : Nat, k ≤ need ∧ i = .int .i64 k ∧ r = .slice (some ⟨g, 0, none⟩) k cg ∧ RowsF wr w.heap.size g cg (need + 1) k (eqs l need column) ∧ Below w.heap.size w wr) (fun _ i _ _ _ => need - (intOf i).toNat)
  case atStart => exact ⟨0, w.heap.size, 0, Nat.zero_le _, rfl, rfl, hR0, hB0⟩
  case round =>
    clear hR0 hB0
    obtain ⟨k, g, cg, hk, rfl, rfl, hrows, hb⟩ := hrel
    by_cases hlt : k < need
    · obtain ⟨b, off, A', c', rfl, hbl, hc1, hc2, hcc, hsl⟩ := h.at_ (k := k) (by omega)
      obtain ⟨x0, x1⟩ := HNUM.out k (by omega)
      obtain ⟨v0, v1⟩ := HVAL.out k (by omega)
      have HSL := Lib.hid hsl
      have HC1 := Lib.hid hc1
      have HC2 := Lib.hid hc2
      clear hsl hc1 hc2
      have ho0 := OwnI.made wr wr.heap.size (Nat.le_refl _)
      have hb0 : Below wr.heap.size wr (wr.alloc (.cells #[] 3)) := (Below.refl _ _).alloc (Nat.le_refl _) _
      have hgw := hb.size
      go_wp2_with fail
      obtain ⟨W, hW⟩ : ∃ W, W = wr := ⟨_, rfl⟩
      rw [← hW] at ho0 hb0 hrows hb hgw ⊢
      clear hW
      go_loopw [9, 10] (fun r i wx => ∃ m q cq : Nat, m ≤ need ∧ i = .int .i64 m ∧ r = .slice (some ⟨q, 0, none⟩) (rowL m (eqs l need column k)).length cq ∧ OwnI wx W.heap.size q cq (rowL m (eqs l need column k)) ∧ Below W.heap.size W wx) (fun _ i _ => need - (intOf i).toNat)
      case atStart => exact ⟨0, W.heap.size, 0, Nat.zero_le _, rfl, by simp [rowL], ho0, hb0⟩
      case round =>
        clear ho0 hb0
        obtain ⟨m, q, cq, hm, rfl, rfl, hown, hbx⟩ := hrel
        have hrl := rowL_len m (eqs l need column k)
        have hc1 : wr.cell? ⟨b, off + k * 2, none⟩ = some (.int .i64 (num_ l k)) := ((hb.trans (hbx.mono hgw)).cell (p := ⟨b, off + k * 2, none⟩) hbl).trans HC1.out
        have hqx := hown.parts.1
        by_cases hlm : m < need
        · have HT : Hid (rowL m (eqs l need column k) ++ [Dag.pwm (num_ l k) m] = rowL (m + 1) (eqs l need column k)) := by
            unfold Hid; rw [← rowL_succ, eqs_lt l hlm]
          have hr8 : (rowL m (eqs l need column k)).length ≤ 8 := by omega
          have HRL := Lib.hid hrl
          clear hrl
          have hklt : k < l.length := by omega
          go_wp2_with (first
            | (go_at_call 67; refine (pow_any (num_ l k) m _ (by omega) (by omega) (by omega)).mono ?_; rintro e w1 ⟨rfl, rfl⟩)
            | (at_builtin; refine wpList_one rfl _ _ rfl W.heap.size q cq _ _ _ HT.out rfl _ rfl (by simp) hown (by omega) hbx.size ?_))
          intro q' cq' w5 ho hg hf
          have hb5 : Below W.heap.size W w5 := hbx.grown hg hbx.size (fun kk e => by injection e with e; omega)
          clear hown hbx hg hf HT hc1
          go_wp2_with fail
          exact ⟨⟨m + 1, q', cq', by omega, by go_num, rfl, ho, hb5⟩, by simp [intOf]; omega⟩
        · obtain rfl : m = need := by omega
          have HT : Hid (rowL m (eqs l m column k) ++ [nth (val_ l k) column] = rowL (m + 1) (eqs l m column k)) := by
            unfold Hid; rw [← rowL_succ, eqs_at l]
          have hr8 : (rowL m (eqs l m column k)).length ≤ 8 := by omega
          have HRL := Lib.hid hrl
          clear hrl
          have hklt : k < l.length := by omega
          obtain ⟨b2, off2, rfl, hbl2, hcv⟩ := HSL.out.at_ v0
          have hc2 : wr.cell? ⟨b, off + k * 2 + 1, none⟩ = some (.slice (some ⟨b2, off2, none⟩) (val_ l k).length c') := ((hb.trans (hbx.mono hgw)).cell (p := ⟨b, off + k * 2 + 1, none⟩) hbl).trans HC2.out
          have hc3 : wr.cell? ⟨b2, off2 + column, none⟩ = some (.int .i64 (nth (val_ l k) column)) := ((hb.trans (hbx.mono hgw)).cell (p := ⟨b2, off2 + column, none⟩) hbl2).trans hcv
          clear hcv hc1
          have hgo := hrows.own
          go_wp2_with (at_builtin; refine wpList_one rfl _ _ rfl W.heap.size q cq _ _ _ HT.out rfl _ rfl (by simp) hown (by omega) hbx.size ?_)
          intro q' cq' w5 ho hg hf
          have hb5 : Below W.heap.size W w5 := hbx.grown hg hbx.size (fun kk e => by injection e with e; omega)
          have hrows5 := hrows.below hb5
          have hw5 := ho.parts.2.2.2.2
          have hq5 := ho.parts.1
          have hB5 : Below w.heap.size w w5 := hb.trans (hb5.mono hgw)
          have HRE := Lib.hid (rowL_len (m + 1) (eqs l m column k))
          rw [HRE.out]
          clear hown hbx hg hf HT hc2 hc3 ho
          go_wp2_with (at_builtin; refine wpList_row rfl _ _ rfl w.heap.size g cg (m + 1) k (eqs l m column) q' cq' rfl _ rfl (by simp) hrows5 (by omega) hB5.size (by omega) (by omega) hw5 ?_)
          intro g' cg' w6 hrows6 hg6
          have hB6 : Below w.heap.size w w6 := hB5.grown hg6 hB5.size (fun kk e => by injection e with e; omega)
          clear hrows5 hrows hg6 hB5 hb5
          go_wp2_with fail
          exact ⟨⟨k + 1, g', cg', by omega, by go_num, rfl, hrows6, hB6⟩, by simp [intOf]; omega⟩
    · obtain rfl : k = need := by omega
      have HEL := Lib.hid (eqs_elim l k column HV.out)
      have hin := eqs_in l k column HV.out
      obtain ⟨G, hG⟩ : ∃ G, G = eqs l k column := ⟨_, rfl⟩
      rw [← hG] at HEL hin hrows
      clear hG
      have hgo := hrows.own.1
      go_wp2_with fail
      go_loopw [11, 12, 13, 14, 15, 16, 17, 18, 19, 20] (fun i _ _ _ _ _ _ _ _ _ wx => ∃ (p : Nat) (G : Nat → Nat → Int), p ≤ k ∧ i = .int .i64 p ∧ Dag.Elim k (num_ l) (fun i => nth (val_ l i) column) p G (fun i => G i k) ∧ InM k G ∧ RowsF wx w.heap.size g cg (k + 1) k G ∧ Below w.heap.size w wx) (fun i _ _ _ _ _ _ _ _ _ _ => k - (intOf i).toNat)
      case atStart => exact ⟨0, G, Nat.zero_le _, rfl, HEL.out, hin, hrows, hb⟩
      case round =>
        clear HEL hin hrows hb G
        obtain ⟨p, G, hp, rfl, hel, hin, hrows, hb⟩ := hrel
        by_cases hlt : p < k
        · obtain ⟨b, cb, hb0, hbg, hblt, hwb, hcg, hfg⟩ := hrows.at_ hlt
          have hpos := Dag.pivot hel HAP.out hlt
          obtain ⟨g0, g1⟩ := hin p p hlt (by omega)
          have hcp := hwb.cell (j := p) (by rw [rowL_len]; omega)
          rw [rowL_nth _ _ (by omega)] at hcp
          have hz : (G p p == 0) = false := by simp; omega
          have HEL := Lib.hid hel
          have HIV := Lib.hid (Dag.pw_ok (G p p) hpos (by omega))
          obtain ⟨s, hs⟩ : ∃ s, s = Dag.pwm (G p p) 249 := ⟨_, rfl⟩
          have hsr := Dag.pwm_range (G p p) 249
          rw [← hs] at HIV hsr
          obtain ⟨s0, s1⟩ := hsr
          have HS := Lib.hid hs
          clear hel hs
          have hrows1 := hrows.set (cb := cb) hlt hb0 hbg hwb
          have hwb1 := hwb.block (w' := wr.setCell ⟨g, p, none⟩ (.slice (some ⟨b, 0, none⟩) (k + 1) cb)) (Below.heap_setCell _ _ _ _ hbg)
          have hb1 : Below w.heap.size w (wr.setCell ⟨g, p, none⟩ (.slice (some ⟨b, 0, none⟩) (k + 1) cb)) := hb.setCell (p := ⟨g, p, none⟩) hgo _
          have hcp1 : (wr.setCell ⟨g, p, none⟩ (.slice (some ⟨b, 0, none⟩) (k + 1) cb)).cell? ⟨b, p, none⟩ = some (.int .i64 (G p p)) := by
            have := hwb1.cell (j := p) (by rw [rowL_len]; omega)
            rwa [rowL_nth _ _ (by omega)] at this
          clear hrows
          go_wp2_with fail
          go_loopw [12] (fun a wx => a = .int .i64 p ∧ wx = wr) (fun _ _ => 0)
          case atStart => exact ⟨rfl, rfl⟩
          case round =>
            obtain ⟨rfl, rfl⟩ := hrel
            go_wp2_with (go_at_call 67; refine (pow_any (G p p) 249 _ (by omega) (by omega) (by omega)).mono ?_; rintro e w1 ⟨rfl, rfl⟩; rw [← HS.out])
            obtain ⟨W, hW⟩ : ∃ W, W = wr.setCell ⟨g, p, none⟩ (.slice (some ⟨b, 0, none⟩) (k + 1) cb) := ⟨_, rfl⟩
            rw [← hW] at hrows1 hwb1 hb1 ⊢
            have hsz : wr.heap.size = W.heap.size := by rw [hW]; simp [World.setCell]
            rw [hsz]
            clear hsz hW hcp hcp1 hcg hfg hwb hb
            have hblt1 := hwb1.lt
            have hgw := hb1.size
            have ho0 := OwnI.made W W.heap.size (Nat.le_refl _)
            have hx0 : Below W.heap.size W (W.alloc (.cells #[] 3)) := (Below.refl _ _).alloc (Nat.le_refl _) _
            go_loopw [15, 16] (fun r i wx => ∃ m q cq : Nat, m ≤ k + 1 ∧ i = .int .i64 m ∧ r = .slice (some ⟨q, 0, none⟩) (rowL m (scR G p s)).length cq ∧ OwnI wx W.heap.size q cq (rowL m (scR G p s)) ∧ Below W.heap.size W wx) (fun _ i _ => k + 1 - (intOf i).toNat)
            case atStart => exact ⟨0, W.heap.size, 0, Nat.zero_le _, rfl, by simp [rowL], ho0, hx0⟩
            case round =>
              clear ho0 hx0
              obtain ⟨m, q, cq, hm, rfl, rfl, hown, hbx⟩ := hrel
              have hrl := rowL_len m (scR G p s)
              have hqx := hown.parts.1
              by_cases hlm : m ≤ k
              · have hcm := (hwb1.below hbx hblt1).cell (j := m) (by rw [rowL_len]; omega)
                rw [rowL_nth _ _ (by omega)] at hcm
                obtain ⟨u0, u1⟩ := hin p m hlt hlm
                have m0 : 0 ≤ G p m * s := Int.mul_nonneg u0 s0
                have m1 : G p m * s ≤ 250 * 250 := Int.mul_le_mul u1 (by omega) s0 (by omega)
                have HT : Hid (rowL m (scR G p s) ++ [G p m * s % 251] = rowL (m + 1) (scR G p s)) := by
                  unfold Hid; rw [← rowL_succ]; rfl
                have hr8 : (rowL m (scR G p s)).length ≤ 9 := by omega
                have HRL := Lib.hid hrl
                clear hrl
                go_wp2_with (at_builtin; refine wpList_one rfl _ _ rfl W.heap.size q cq _ _ _ HT.out rfl _ rfl (by simp) hown (by omega) hbx.size ?_)
                intro q' cq' w5 ho hg hf
                have hb5 : Below W.heap.size W w5 := hbx.grown hg hbx.size (fun kk e => by injection e with e; omega)
                clear hown hbx hg hf HT hcm
                go_wp2_with fail
                exact ⟨⟨m + 1, q', cq', by omega, by go_num, rfl, ho, hb5⟩, by simp [intOf]; omega⟩
              · have hmk : m = k + 1 := by omega
                have hlm' : decide ((m : Int) ≤ (k : Int)) = false := by simp only [decide_eq_false_iff_not]; omega
                have hw5 := hown.parts.2.2.2.2
                rw [hmk] at hw5
                have hrows5 := hrows1.below hbx
                obtain ⟨b9, cb9, _, _, _, _, hcg, hfg⟩ := hrows5.at_ hlt
                have hB5 : Below w.heap.size w wr := hb1.trans (hbx.mono hgw)
                have hqg : q ≠ g := by have := hrows1.own.2; omega
                have hrows6 := (hrows5.set (cb := cq) hlt (by omega) hqg hw5).as (fun i j _ _ => elR_zero G p s i j)
                have hw6 := hw5.block (w' := wr.setCell ⟨g, p, none⟩ (.slice (some ⟨q, 0, none⟩) (k + 1) cq)) (Below.heap_setCell _ _ _ _ hqg)
                have hB6 : Below w.heap.size w (wr.setCell ⟨g, p, none⟩ (.slice (some ⟨q, 0, none⟩) (k + 1) cq)) := hB5.setCell (p := ⟨g, p, none⟩) hgo _
                rw [hrl.trans hmk]
                have HMK := Lib.hid hmk
                clear hmk
                clear hown hrows5 hB5 hw5 hrl hbx hrows1 hwb1 hb1
                go_wp2_with fail
                obtain ⟨W6, hW6⟩ : ∃ W, W = wr.setCell ⟨g, p, none⟩ (.slice (some ⟨q, 0, none⟩) (k + 1) cq) := ⟨_, rfl⟩
                rw [← hW6] at hrows6 hw6 hB6 ⊢
                clear hW6 hcg hfg
                have hq0 : w.heap.size ≤ q := by omega
                have hqg0 := hqg
                go_loopw [17, 18, 19, 20] (fun i _ _ _ wx => ∃ r : Nat, r ≤ k ∧ i = .int .i64 r ∧ RowsF wx w.heap.size g cg (k + 1) k (elR G p s r) ∧ Wr wx q (rowL (k + 1) (scR G p s)) ∧ Below w.heap.size w wx) (fun i _ _ _ _ => k - (intOf i).toNat)
                case atStart => exact ⟨0, Nat.zero_le _, rfl, hrows6, hw6, hB6⟩
                case round =>
                  clear hrows6 hw6 hB6
                  obtain ⟨r, hr, rfl, hrows, hwq, hb⟩ := hrel
                  by_cases hlr : r < k
                  · by_cases hrp : r = p
                    · have hrows3 := hrows.as (fun i j _ _ => elR_skip' G s hrp i j)
                      have t2 : ((r : Int) == (p : Int)) = true := by simp; omega
                      have t3 : decide ((r : Int) = (p : Int)) = true := by simp; omega
                      have HRP := Lib.hid hrp
                      clear hrp hrows
                      go_wp2_with fail
                      exact ⟨⟨r + 1, by omega, by go_num, hrows3, hwq, hb⟩, by simp [intOf]; omega⟩
                    · have t2 : ((r : Int) == (p : Int)) = false := by simp; omega
                      have t3 : decide ((r : Int) = (p : Int)) = false := by simp; omega
                      have HRP := Lib.hid hrp
                      obtain ⟨b', cb', hb0', hbg', hblt', hwb', hcg', hfg'⟩ := hrows.at_ hlr
                      rw [rowL_as (fun j _ => elR_at G s j hrp)] at hwb'
                      clear hrp
                      have hcp := hwb'.cell (j := p) (by rw [rowL_len]; omega)
                      rw [rowL_nth _ _ (by omega)] at hcp
                      have ho0 := OwnI.made wr wr.heap.size (Nat.le_refl _)
                      have hx0 : Below wr.heap.size wr (wr.alloc (.cells #[] 3)) := (Below.refl _ _).alloc (Nat.le_refl _) _
                      have hgw := hb.size
                      have hqlt := hwq.lt
                      obtain ⟨f0, f1⟩ := hin r p hlr (by omega)
                      go_wp2_with fail
                      obtain ⟨W, hW⟩ : ∃ W, W = wr := ⟨_, rfl⟩
                      rw [← hW] at ho0 hx0 hrows hb hgw hqlt hwq hwb' hblt' hcg' ⊢
                      clear hW hcp hfg'
                      go_loopw [19, 20] (fun r_ i wx => ∃ m q cq : Nat, m ≤ k + 1 ∧ i = .int .i64 m ∧ r_ = .slice (some ⟨q, 0, none⟩) (rowL m (nxR G p s r)).length cq ∧ OwnI wx W.heap.size q cq (rowL m (nxR G p s r)) ∧ Below W.heap.size W wx) (fun _ i _ => k + 1 - (intOf i).toNat)
                      case atStart => exact ⟨0, W.heap.size, 0, Nat.zero_le _, rfl, by simp [rowL], ho0, hx0⟩
                      case round =>
                        clear ho0 hx0
                        obtain ⟨m, q', cq', hm, rfl, rfl, hown, hbx⟩ := hrel
                        have hrl := rowL_len m (nxR G p s r)
                        have hqx := hown.parts.1
                        by_cases hlm : m ≤ k
                        · have hcm := (hwb'.below hbx hblt').cell (j := m) (by rw [rowL_len]; omega)
                          rw [rowL_nth _ _ (by omega)] at hcm
                          have hcs := (hwq.below hbx hqlt).cell (j := m) (by rw [rowL_len]; omega)
                          rw [rowL_nth _ _ (by omega)] at hcs
                          have hcg2 := (hbx.cell (p := ⟨g, r, none⟩) hrows.own.2).trans hcg'
                          obtain ⟨u0, u1⟩ := hin r m hlr hlm
                          obtain ⟨y0, y1⟩ := scR_in G p s m
                          have HT : Hid (rowL m (nxR G p s r) ++ [(G r m + (251 - G r p) * scR G p s m) % 251] = rowL (m + 1) (nxR G p s r)) := by
                            unfold Hid; rw [← rowL_succ]; rfl
                          obtain ⟨y, hy⟩ : ∃ y, y = scR G p s m := ⟨_, rfl⟩
                          rw [← hy] at hcs y0 y1 HT
                          clear hy
                          have z0 : 0 ≤ (251 - G r p) * y := Int.mul_nonneg (by omega) y0
                          have z1 : (251 - G r p) * y ≤ 251 * 250 := Int.mul_le_mul (by omega) y1 y0 (by omega)
                          have a3 : IntKind.i64.wrap ((251 - G r p) * y) = (251 - G r p) * y := IntWalk.i64_in _ (by omega)
                          have a4 : IntKind.i64.wrap (251 - G r p) = 251 - G r p := IntWalk.i64_in _ (by omega)
                          have a5 : IntKind.i64.wrap (G r m + (251 - G r p) * y) = G r m + (251 - G r p) * y := IntWalk.i64_in _ (by omega)
                          have a6 : (G r m + (251 - G r p) * y).tmod 251 = (G r m + (251 - G r p) * y) % 251 := Int.tmod_eq_emod_of_nonneg (by omega)
                          have hr8 : (rowL m (nxR G p s r)).length ≤ 9 := by omega
                          have HRL := Lib.hid hrl
                          clear hrl
                          have j2 : (m : Int) < ((k + 1 : Nat) : Int) := by omega
                          have j2' : (m : Int) < (k : Int) + 1 := by omega
                          have j3 : (0 : Int) ≤ (m : Int) := by omega
                          have j4 : (r : Int) < (k : Int) := by omega
                          have j5 : (0 : Int) ≤ (r : Int) := by omega
                          go_wp2_with fail
                          obtain ⟨V, hV⟩ : ∃ V, V = wr := ⟨_, rfl⟩
                          rw [← hV] at hown hbx hcm hcs hcg2 ⊢
                          clear hV
                          -- region by gen_sol.py
                          refine wp_region_any (by kernel_rfl) ?_
                          refine wpAny_take (i := 0) (v := ?_) rfl (by kernel_rfl) (by kernel_rfl) (by kernel_rfl) (fun _ _ _ h => h) (Or.inl ⟨by kernel_rfl, ?_⟩) ?_
                          rotate_left
                          · intro w'; go_simp; try with_reducible rfl
                          refine wpAny_take (i := 1) (v := ?_) rfl (by kernel_rfl) (by kernel_rfl) (by kernel_rfl) (fun _ _ _ h => h) (Or.inl ⟨by kernel_rfl, ?_⟩) ?_
                          rotate_left
                          · intro w'; go_simp; try with_reducible rfl
                          refine wpAny_take (i := 2) (v := ?_) rfl (by kernel_rfl) (by kernel_rfl) (by kernel_rfl) (fun _ _ _ h => h) (Or.inl ⟨by kernel_rfl, ?_⟩) ?_
                          rotate_left
                          · intro w'; go_simp; try with_reducible rfl
                          refine wpAny_take (i := 3) (v := ?_) rfl (by kernel_rfl) (by kernel_rfl) (by kernel_rfl) (fun _ _ _ h => h) (Or.inl ⟨by kernel_rfl, ?_⟩) ?_
                          rotate_left
                          · intro w'; go_simp; try with_reducible rfl
                          refine wpAny_take (i := 5) (v := ?_) rfl (by kernel_rfl) (by kernel_rfl) (by kernel_rfl) (fun _ _ _ h => h) (Or.inl ⟨by kernel_rfl, ?_⟩) ?_
                          rotate_left
                          · intro w'; go_simp; try with_reducible rfl
                          refine wpAny_take (i := 8) (v := ?_) rfl (by kernel_rfl) (by kernel_rfl) (by kernel_rfl) (fun _ _ _ h => h) (Or.inl ⟨by kernel_rfl, ?_⟩) ?_
                          rotate_left
                          · intro w'; go_simp; try with_reducible rfl
                          refine wpAny_take (i := 9) (v := ?_) rfl (by kernel_rfl) (by kernel_rfl) (by kernel_rfl) (fun _ _ _ h => h) (Or.inl ⟨by kernel_rfl, ?_⟩) ?_
                          rotate_left
                          · intro w'; go_simp; try with_reducible rfl
                          refine wpAny_take (i := 10) (v := ?_) rfl (by kernel_rfl) (by kernel_rfl) (by kernel_rfl) (fun _ _ _ h => h) (Or.inl ⟨by kernel_rfl, ?_⟩) ?_
                          rotate_left
                          · intro w'; go_simp; try with_reducible rfl
                          refine wpAny_take (i := 11) (v := ?_) rfl (by kernel_rfl) (by kernel_rfl) (by kernel_rfl) (fun _ _ _ h => h) (Or.inl ⟨by kernel_rfl, ?_⟩) ?_
                          rotate_left
                          · intro w'; go_simp; try with_reducible rfl
                          refine wpAny_take (i := 12) (v := ?_) rfl (by kernel_rfl) (by kernel_rfl) (by kernel_rfl) (fun _ _ _ h => h) (Or.inl ⟨by kernel_rfl, ?_⟩) ?_
                          rotate_left
                          · intro w'; go_simp; try with_reducible rfl
                          refine wpAny_ready (rs := [4, 13]) (by kernel_rfl) (by simp) ?_
                          refine AllReady.cons rfl (fun K hK => ?_) (AllReady.cons rfl (fun K hK => ?_) AllReady.nil)
                          · skip
                            go_simp
                            refine hK _ _ ?_
                            clear hK K
                            refine wpAny_take (i := 6) (v := ?_) rfl (by kernel_rfl) (by kernel_rfl) (by kernel_rfl) (fun _ _ _ h => h) (Or.inl ⟨by kernel_rfl, ?_⟩) ?_
                            rotate_left
                            · intro w'; go_simp; try with_reducible rfl
                            refine wpAny_ready (rs := [7, 13]) (by kernel_rfl) (by simp) ?_
                            refine AllReady.cons rfl (fun K hK => ?_) (AllReady.cons rfl (fun K hK => ?_) AllReady.nil)
                            · skip
                              go_simp
                              refine hK _ _ ?_
                              clear hK K
                              refine wpAny_ready (rs := [13]) (by kernel_rfl) (by simp) ?_
                              refine AllReady.cons rfl (fun K hK => ?_) AllReady.nil
                              go_simp
                              refine hK _ _ ?_
                              clear hK K
                              refine wpAny_take (i := 14) (v := ?_) rfl (by kernel_rfl) (by kernel_rfl) (by kernel_rfl) (fun _ _ _ h => h) (Or.inl ⟨by kernel_rfl, ?_⟩) ?_
                              rotate_left
                              · intro w'; go_simp; try with_reducible rfl
                              refine wpAny_take (i := 15) (v := ?_) rfl (by kernel_rfl) (by kernel_rfl) (by kernel_rfl) (fun _ _ _ h => h) (Or.inl ⟨by kernel_rfl, ?_⟩) ?_
                              rotate_left
                              · intro w'; go_simp; try with_reducible rfl
                              refine wpAny_take (i := 16) (v := ?_) rfl (by kernel_rfl) (by kernel_rfl) (by kernel_rfl) (fun _ _ _ h => h) (Or.inl ⟨by kernel_rfl, ?_⟩) ?_
                              rotate_left
                              · intro w'; go_simp; try with_reducible rfl
                              refine wpAny_ready (rs := [17]) (by kernel_rfl) (by simp) ?_
                              refine AllReady.cons rfl (fun K hK => ?_) AllReady.nil
                              go_simp
                              refine hK _ _ ?_
                              clear hK K
                              refine wpAny_ready (rs := [18]) (by kernel_rfl) (by simp) ?_
                              refine AllReady.cons rfl (fun K hK => ?_) AllReady.nil
                              refine step_one rfl (.tmp 132) (.tmp 149) rfl W.heap.size q' cq' _ _ _ HT.out (by simp [Act.eval, Act.put]) V.heap.size (by simp [Act.eval, Act.put]) (heap_alloc_new _ _) (OwnI.alloc (w := V.drew) hown _) (by omega) (by have := hbx.size; simp; omega) ?_
                              intro q'' cq'' w5 ho hg hf
                              have hb5 : Below W.heap.size W w5 := (below_drew (w' := V) hbx).grown (unalloc (w := V.drew) _ hg) hbx.size (fun kk e => by injection e with e; omega)
                              refine hK _ _ ?_
                              clear hK K
                              refine wpAny_take (i := 19) (v := ?_) rfl (by kernel_rfl) (by kernel_rfl) (by kernel_rfl) (fun _ _ _ h => h) (Or.inl ⟨by kernel_rfl, ?_⟩) ?_
                              rotate_left
                              · intro w'; go_simp; try with_reducible rfl
                              refine wpAny_done (by kernel_rfl) ?_ _
                              clear hown hbx hg hf HT hcm hcs hcg2
                              go_wp2_with fail
                              exact ⟨⟨m + 1, q'', cq'', by omega, by go_num, rfl, ho, hb5⟩, by simp [intOf]; omega⟩
                            · skip
                              go_simp
                              refine hK _ _ ?_
                              clear hK K
                              refine wpAny_take (i := 14) (v := ?_) rfl (by kernel_rfl) (by kernel_rfl) (by kernel_rfl) (fun _ _ _ h => h) (Or.inl ⟨by kernel_rfl, ?_⟩) ?_
                              rotate_left
                              · intro w'; go_simp; try with_reducible rfl
                              refine wpAny_ready (rs := [7]) (by kernel_rfl) (by simp) ?_
                              refine AllReady.cons rfl (fun K hK => ?_) AllReady.nil
                              go_simp
                              refine hK _ _ ?_
                              clear hK K
                              refine wpAny_take (i := 15) (v := ?_) rfl (by kernel_rfl) (by kernel_rfl) (by kernel_rfl) (fun _ _ _ h => h) (Or.inl ⟨by kernel_rfl, ?_⟩) ?_
                              rotate_left
                              · intro w'; go_simp; try with_reducible rfl
                              refine wpAny_take (i := 16) (v := ?_) rfl (by kernel_rfl) (by kernel_rfl) (by kernel_rfl) (fun _ _ _ h => h) (Or.inl ⟨by kernel_rfl, ?_⟩) ?_
                              rotate_left
                              · intro w'; go_simp; try with_reducible rfl
                              refine wpAny_ready (rs := [17]) (by kernel_rfl) (by simp) ?_
                              refine AllReady.cons rfl (fun K hK => ?_) AllReady.nil
                              go_simp
                              refine hK _ _ ?_
                              clear hK K
                              refine wpAny_ready (rs := [18]) (by kernel_rfl) (by simp) ?_
                              refine AllReady.cons rfl (fun K hK => ?_) AllReady.nil
                              refine step_one rfl (.tmp 132) (.tmp 149) rfl W.heap.size q' cq' _ _ _ HT.out (by simp [Act.eval, Act.put]) V.heap.size (by simp [Act.eval, Act.put]) (heap_alloc_new _ _) (OwnI.alloc (w := V.drew) hown _) (by omega) (by have := hbx.size; simp; omega) ?_
                              intro q'' cq'' w5 ho hg hf
                              have hb5 : Below W.heap.size W w5 := (below_drew (w' := V) hbx).grown (unalloc (w := V.drew) _ hg) hbx.size (fun kk e => by injection e with e; omega)
                              refine hK _ _ ?_
                              clear hK K
                              refine wpAny_take (i := 19) (v := ?_) rfl (by kernel_rfl) (by kernel_rfl) (by kernel_rfl) (fun _ _ _ h => h) (Or.inl ⟨by kernel_rfl, ?_⟩) ?_
                              rotate_left
                              · intro w'; go_simp; try with_reducible rfl
                              refine wpAny_done (by kernel_rfl) ?_ _
                              clear hown hbx hg hf HT hcm hcs hcg2
                              go_wp2_with fail
                              exact ⟨⟨m + 1, q'', cq'', by omega, by go_num, rfl, ho, hb5⟩, by simp [intOf]; omega⟩
                          · skip
                            go_simp
                            refine hK _ _ ?_
                            clear hK K
                            refine wpAny_take (i := 14) (v := ?_) rfl (by kernel_rfl) (by kernel_rfl) (by kernel_rfl) (fun _ _ _ h => h) (Or.inl ⟨by kernel_rfl, ?_⟩) ?_
                            rotate_left
                            · intro w'; go_simp; try with_reducible rfl
                            refine wpAny_ready (rs := [4]) (by kernel_rfl) (by simp) ?_
                            refine AllReady.cons rfl (fun K hK => ?_) AllReady.nil
                            go_simp
                            refine hK _ _ ?_
                            clear hK K
                            refine wpAny_take (i := 6) (v := ?_) rfl (by kernel_rfl) (by kernel_rfl) (by kernel_rfl) (fun _ _ _ h => h) (Or.inl ⟨by kernel_rfl, ?_⟩) ?_
                            rotate_left
                            · intro w'; go_simp; try with_reducible rfl
                            refine wpAny_ready (rs := [7]) (by kernel_rfl) (by simp) ?_
                            refine AllReady.cons rfl (fun K hK => ?_) AllReady.nil
                            go_simp
                            refine hK _ _ ?_
                            clear hK K
                            refine wpAny_take (i := 15) (v := ?_) rfl (by kernel_rfl) (by kernel_rfl) (by kernel_rfl) (fun _ _ _ h => h) (Or.inl ⟨by kernel_rfl, ?_⟩) ?_
                            rotate_left
                            · intro w'; go_simp; try with_reducible rfl
                            refine wpAny_take (i := 16) (v := ?_) rfl (by kernel_rfl) (by kernel_rfl) (by kernel_rfl) (fun _ _ _ h => h) (Or.inl ⟨by kernel_rfl, ?_⟩) ?_
                            rotate_left
                            · intro w'; go_simp; try with_reducible rfl
                            refine wpAny_ready (rs := [17]) (by kernel_rfl) (by simp) ?_
                            refine AllReady.cons rfl (fun K hK => ?_) AllReady.nil
                            go_simp
                            refine hK _ _ ?_
                            clear hK K
                            refine wpAny_ready (rs := [18]) (by kernel_rfl) (by simp) ?_
                            refine AllReady.cons rfl (fun K hK => ?_) AllReady.nil
                            refine step_one rfl (.tmp 132) (.tmp 149) rfl W.heap.size q' cq' _ _ _ HT.out (by simp [Act.eval, Act.put]) V.heap.size (by simp [Act.eval, Act.put]) (heap_alloc_new _ _) (OwnI.alloc (w := V.drew) hown _) (by omega) (by have := hbx.size; simp; omega) ?_
                            intro q'' cq'' w5 ho hg hf
                            have hb5 : Below W.heap.size W w5 := (below_drew (w' := V) hbx).grown (unalloc (w := V.drew) _ hg) hbx.size (fun kk e => by injection e with e; omega)
                            refine hK _ _ ?_
                            clear hK K
                            refine wpAny_take (i := 19) (v := ?_) rfl (by kernel_rfl) (by kernel_rfl) (by kernel_rfl) (fun _ _ _ h => h) (Or.inl ⟨by kernel_rfl, ?_⟩) ?_
                            rotate_left
                            · intro w'; go_simp; try with_reducible rfl
                            refine wpAny_done (by kernel_rfl) ?_ _
                            clear hown hbx hg hf HT hcm hcs hcg2
                            go_wp2_with fail
                            exact ⟨⟨m + 1, q'', cq'', by omega, by go_num, rfl, ho, hb5⟩, by simp [intOf]; omega⟩
                          -- end of region
                        · obtain rfl : m = k + 1 := by omega
                          have hlm' : decide ((k : Int) + 1 ≤ (k : Int)) = false := by simp only [decide_eq_false_iff_not]; omega
                          have hw5 := hown.parts.2.2.2.2
                          have hrows5 := hrows.below hbx
                          obtain ⟨b9, cb9, _, _, _, _, hcg, hfg⟩ := hrows5.at_ hlr
                          have hB5 : Below w.heap.size w wr := hb.trans (hbx.mono hgw)
                          have hqg : q' ≠ g := by have := hrows.own.2; omega
                          have hrows6 := (hrows5.set (cb := cq') hlr (by omega) hqg hw5).as (fun i j _ _ => elR_put G s HRP.out i j)
                          have hwq6 := (hwq.below hbx hqlt).block (w' := wr.setCell ⟨g, r, none⟩ (.slice (some ⟨q', 0, none⟩) (k + 1) cq')) (Below.heap_setCell _ _ _ _ hqg0)
                          have hB6 : Below w.heap.size w (wr.setCell ⟨g, r, none⟩ (.slice (some ⟨q', 0, none⟩) (k + 1) cq')) := hB5.setCell (p := ⟨g, r, none⟩) hgo _
                          rw [hrl]
                          clear hown hrows5 hB5 hw5 hrl hbx hrows hwq hb
                          go_wp2_with fail
                          exact ⟨⟨r + 1, by omega, by go_num, hrows6, hwq6, hB6⟩, by simp [intOf]; omega⟩
                  · obtain rfl : r = k := by omega
                    have HE2 := Lib.hid (elR_elim HEL.out hlt s HIV.out)
                    have hin2 := elR_in hin p s r
                    go_wp2_with fail
                    exact ⟨⟨p + 1, _, by omega, by go_num, HE2.out, hin2, hrows, hb⟩, by simp [intOf]; omega⟩
        · obtain rfl : p = k := by omega
          have HEN := Lib.hid (Dag.elim_end hel (fun i hi => by have := HV.out i hi; exact ⟨this.1, by omega⟩))
          clear hel
          have ho0 := OwnI.made wr wr.heap.size (Nat.le_refl _)
          have hx0 : Below wr.heap.size wr (wr.alloc (.cells #[] 3)) := (Below.refl _ _).alloc (Nat.le_refl _) _
          have hgw := hb.size
          go_wp2_with fail
          obtain ⟨W, hW⟩ : ∃ W, W = wr := ⟨_, rfl⟩
          rw [← hW] at ho0 hx0 hrows hb hgw ⊢
          clear hW
          go_loopw [21, 22] (fun v i wx => ∃ m q cq : Nat, m ≤ p ∧ i = .int .i64 m ∧ v = .slice (some ⟨q, 0, none⟩) (rowL m (fun i => G i p)).length cq ∧ OwnI wx W.heap.size q cq (rowL m (fun i => G i p)) ∧ Below W.heap.size W wx) (fun _ i _ => p - (intOf i).toNat)
          case atStart => exact ⟨0, W.heap.size, 0, Nat.zero_le _, rfl, by simp [rowL], ho0, hx0⟩
          case round =>
            clear ho0 hx0
            obtain ⟨m, q, cq, hm, rfl, rfl, hown, hbx⟩ := hrel
            have hrl := rowL_len m (fun i => G i p)
            have hqx := hown.parts.1
            by_cases hlm : m < p
            · obtain ⟨b, cb, hb0, hbg, hblt, hwb, hcg, hfg⟩ := (hrows.below hbx).at_ hlm
              have hcm := hwb.cell (j := p) (by rw [rowL_len]; omega)
              rw [rowL_nth _ _ (by omega)] at hcm
              have HT : Hid (rowL m (fun i => G i p) ++ [G m p] = rowL (m + 1) (fun i => G i p)) := by
                unfold Hid; rw [← rowL_succ]
              have hr8 : (rowL m (fun i => G i p)).length ≤ 9 := by omega
              have HRL := Lib.hid hrl
              clear hrl
              go_wp2_with (at_builtin; refine wpList_one rfl _ _ rfl W.heap.size q cq _ _ _ HT.out rfl _ rfl (by simp) hown (by omega) hbx.size ?_)
              intro q' cq' w5 ho hg hf
              have hb5 : Below W.heap.size W w5 := hbx.grown hg hbx.size (fun kk e => by injection e with e; omega)
              clear hown hbx hg hf HT hcm
              go_wp2_with fail
              exact ⟨⟨m + 1, q', cq', by omega, by go_num, rfl, ho, hb5⟩, by simp [intOf]; omega⟩
            · obtain rfl : m = p := by omega
              obtain ⟨k1, k2, k3, k4, k5⟩ := hown.parts
              have HRL := Lib.hid hrl
              clear hrl hown
              go_wp2_with fail
              go_ret
              exact ⟨rowL m (fun i => G i m), HRL.out, allIn_true fun j hj => by rw [HRL.out] at hj; rw [rowL_nth _ _ hj]; exact hin j m hj (Nat.le_refl _), fun i hi => HEN.out i hi, q, cq, by omega, rfl, k5, k3, k4, hb.trans (hbx.mono hgw)⟩
end Go.Proofs.Ytfkmiflddpjllaa
