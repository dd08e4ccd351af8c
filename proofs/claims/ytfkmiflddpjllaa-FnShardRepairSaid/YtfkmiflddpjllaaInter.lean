/- The program's interpolation solves the equations. Conditions: at most eight different numbers, symbols. -/
import Derived.Test.YtfkmiflddpjllaaInv
import Derived.Test.YtfkmiflddpjllaaGrid
namespace Go.Proofs.Ytfkmiflddpjllaa
open Go.RowKit
set_option linter.unusedVariables false
set_option linter.unusedSimpArgs false
set_option maxRecDepth 4000

/-- What interpolation returns. -/
def InterPost (xs vs : List Int) (w : World) (e : Ending) (w' : World) : Prop :=
  ∃ cs : List Int, cs.length = vs.length ∧ allIn 0 250 cs = true ∧ (∀ i, i < vs.length → Dag.ev cs (nth xs i) = nth vs i) ∧ FreshI cs w e w'

set_option maxHeartbeats 8000000 in
theorem inter_any (A A' : Option Addr) (c c' : Nat) (xs vs : List Int) (w : World) (h : Sl w w.heap.size A xs) (h' : Sl w w.heap.size A' vs) (hn : vs.length ≤ 8) (hx : vs.length ≤ xs.length) (hc : xs.length ≤ c)
    (hxr : allIn 1 8 xs = true) (hvr : allIn 0 250 vs = true) (hap : Dag.Apart vs.length (nth xs)) :
    Calls Try.prog 49 #[.slice A xs.length c, .slice A' vs.length c'] w (InterPost xs vs w) := by
  go_enter Try.func49, Try.ntmps49
  go_wp2_with fail
  have hG0 : Grid (w.alloc (.cells Try.zeroCells76 76)) w.heap.size (fun _ _ => 0) := by
    refine ⟨Try.zeroCells76, 76, heap_alloc_new w _, by decide, fun i j hi hj => ?_⟩
    rw [show Try.zeroCells76 = Array.replicate 72 (.int .i64 0) from rfl, Array.getElem?_replicate, if_pos (by omega)]
  have hB0 : Below w.heap.size w (w.alloc (.cells Try.zeroCells76 76)) := (Below.refl _ _).alloc (Nat.le_refl _) _
  go_loopw [7, 8, 9, 10, 25, 31] (fun _ _ _ _ i _ wr => ∃ (k : Nat) (G : Nat → Nat → Int), k ≤ vs.length ∧ i = .int .i64 k ∧ Laid vs.length (nth xs) (nth vs) k 0 G ∧ Grid wr w.heap.size G ∧ Below w.heap.size w wr) (fun _ _ _ _ i _ _ => vs.length - (intOf i).toNat)
  case atStart => exact ⟨0, _, Nat.zero_le _, rfl, Laid.zero _ _ _, hG0, hB0⟩
  case round =>
    obtain ⟨k, G, hk, rfl, hlaid, hgrid, hb⟩ := hrel
    by_cases hlt : k < vs.length
    · obtain ⟨b, off, rfl, hbb, hc1⟩ := (h.below hb).at_ (k := k) (by omega)
      obtain ⟨b', off', rfl, hbb', hc2⟩ := h'.at_ hlt
      obtain ⟨x0, x1⟩ := allIn_get hxr (j := k) (by omega)
      obtain ⟨v0, v1⟩ := allIn_get hvr hlt
      go_wp2_with fail
      have HC1 := Lib.hid hc1
      have HC2 := Lib.hid hc2
      clear hc1 hc2
      go_loopw [9, 10, 31] (fun q _ i wx => ∃ (m : Nat) (G : Nat → Nat → Int), m ≤ vs.length ∧ i = .int .i64 m ∧ q = .int .i64 (Dag.pwm (nth xs k) m) ∧ Laid vs.length (nth xs) (nth vs) k m G ∧ Grid wx w.heap.size G ∧ Below w.heap.size w wx) (fun _ _ i _ => vs.length - (intOf i).toNat)
      case atStart => exact ⟨0, G, Nat.zero_le _, rfl, rfl, hlaid, hgrid, hb⟩
      case round =>
        clear hlaid hgrid hb G
        obtain ⟨m, G, hm, rfl, rfl, hlaid, hgrid, hb⟩ := hrel
        obtain ⟨r0, r1⟩ := Dag.pwm_range (nth xs k) m
        have m0 : 0 ≤ Dag.pwm (nth xs k) m * nth xs k := Int.mul_nonneg r0 (by omega)
        have m1 : Dag.pwm (nth xs k) m * nth xs k ≤ 250 * 8 := Int.mul_le_mul (by omega) x1 (by omega) (by omega)
        by_cases hlt' : m < vs.length
        · have hcell := hgrid.cell (i := k) (j := m) (by omega) (by omega)
          have hfr := hgrid.frozen (k * 9 + m)
          have hset := hgrid.set k m (Dag.pwm (nth xs k) m) (by omega) (by omega)
          have hset2 := below_set hb (Nat.le_refl _) (k * 9 + m) (.int .i64 (Dag.pwm (nth xs k) m))
          have hlaid2 := hlaid.place
          clear hgrid hb hlaid
          go_wp2_with fail
          exact ⟨⟨m + 1, _, by omega, by go_num, rfl, hlaid2, hset, hset2⟩, by simp [intOf]; omega⟩
        · obtain rfl : m = vs.length := by omega
          have hc2 : wr.cell? ⟨b', off' + k, none⟩ = some (.int .i64 (nth vs k)) := (hb.cell (p := ⟨b', off' + k, none⟩) hbb').trans HC2.out
          have k1 : (k : Int) < (vs.length : Int) := by omega
          have k2 : (k : Int) < 8 := by omega
          have k3 : (0 : Int) ≤ (k : Int) := by omega
          have hcell := hgrid.cell (i := k) (j := 8) (by omega) (by omega)
          have hfr := hgrid.frozen (k * 9 + 8)
          have hset := hgrid.set k 8 (nth vs k) (by omega) (by omega)
          have hset2 := below_set hb (Nat.le_refl _) (k * 9 + 8) (.int .i64 (nth vs k))
          have hlaid2 := hlaid.row hn v0 v1
          go_wp2_with fail
          go_region
          all_goals (go_wp2_with fail)
          exact ⟨⟨k + 1, _, by omega, by go_num, hlaid2, hset.drew, below_drew hset2⟩, by simp [intOf]; omega⟩
    · obtain rfl : k = vs.length := by omega
      have hel := hlaid.elim hn
      have hin := hlaid.1
      clear hlaid
      go_wp2_with fail
      go_loopw [11, 12, 13, 14, 15, 16, 53, 62, 79, 94] (fun _ _ _ _ _ _ i _ _ _ wx => ∃ (p : Nat) (G : Nat → Nat → Int), p ≤ vs.length ∧ i = .int .i64 p ∧ Dag.Elim vs.length (nth xs) (nth vs) p G (fun i => G i 8) ∧ InG G ∧ Grid wx w.heap.size G ∧ Below w.heap.size w wx) (fun _ _ _ _ _ _ i _ _ _ _ => vs.length - (intOf i).toNat)
      case atStart => exact ⟨0, G, Nat.zero_le _, rfl, hel, hin, hgrid, hb⟩
      case round =>
        clear hel hin hgrid hb G
        obtain ⟨p, G, hp, rfl, hel, hin, hgrid, hb⟩ := hrel
        by_cases hlt : p < vs.length
        · have hcell := hgrid.cell (i := p) (j := p) (by omega) (by omega)
          obtain ⟨g0, g1⟩ := hin p p (by omega) (by omega)
          have hpos := Dag.pivot hel hap hlt
          obtain ⟨i1, i2, i3⟩ := Dag.inv_ok (G p p) hpos (by omega)
          obtain ⟨s, hs⟩ : ∃ s, s = Dag.inv (G p p) := ⟨_, rfl⟩
          rw [← hs] at i1 i2 i3
          have HI1 := Lib.hid i1
          have HEL := Lib.hid hel
          have HS := Lib.hid hs
          clear i1 hel hs
          have k2 : (p : Int) < 8 := by omega
          have k3 : (0 : Int) ≤ (p : Int) := by omega
          go_wp2_with (go_at_call 63; refine (inverse_any (G p p) g0 (by omega) _).mono ?_; rintro e w1 ⟨rfl, rfl⟩; rw [← HS.out])
          clear hcell
          go_loopw [13, 62] (fun _ i wx => ∃ m : Nat, m ≤ 9 ∧ i = .int .i64 m ∧ Grid wx w.heap.size (scaled G p s m) ∧ Below w.heap.size w wx) (fun _ i _ => 9 - (intOf i).toNat)
          case atStart => exact ⟨0, Nat.zero_le _, rfl, hgrid.as (fun i j _ _ => scaled_zero G p s i j), hb⟩
          case round =>
            clear hgrid hb
            obtain ⟨m, hm, rfl, hgrid, hb⟩ := hrel
            by_cases hlt' : m < 9
            · have hcell := hgrid.cell (i := p) (j := m) (by omega) (by omega)
              rw [scaled_at] at hcell
              have hfr := hgrid.frozen (p * 9 + m)
              obtain ⟨q0, q1⟩ := hin p m (by omega) (by omega)
              have m0 : 0 ≤ G p m * s := Int.mul_nonneg q0 i2
              have m1 : G p m * s ≤ 250 * 250 := Int.mul_le_mul q1 (by omega) i2 (by omega)
              have hset := (hgrid.set p m (G p m * s % 251) (by omega) (by omega)).as (fun i j _ _ => scaled_put G p s m i j)
              have hset2 := below_set hb (Nat.le_refl _) (p * 9 + m) (.int .i64 (G p m * s % 251))
              have j2 : (m : Int) < 9 := by omega
              have j3 : (0 : Int) ≤ (m : Int) := by omega
              have a3 : IntKind.i64.wrap (G p m * s) = G p m * s := IntWalk.i64_in _ (by omega)
              clear hgrid hb
              go_wp2_with fail
              go_region
              all_goals (go_wp2_with fail)
              exact ⟨⟨m + 1, by omega, by go_num, hset.drew, below_drew hset2⟩, by simp [intOf]; omega⟩
            · obtain rfl : m = 9 := by omega
              have hgr2 := hgrid.as (fun i j _ hj => scaled_all G p s i j hj)
              clear hgrid
              go_wp2_with fail
              go_loopw [14, 15, 16, 79, 94] (fun _ _ _ i _ wx => ∃ q : Nat, q ≤ vs.length ∧ i = .int .i64 q ∧ Grid wx w.heap.size (part G p s q 0) ∧ Below w.heap.size w wx) (fun _ _ _ i _ _ => vs.length - (intOf i).toNat)
              case atStart => exact ⟨0, Nat.zero_le _, rfl, hgr2, hb⟩
              case round =>
                clear hgr2 hb
                obtain ⟨q, hq, rfl, hgrid, hb⟩ := hrel
                by_cases hlq : q < vs.length
                · have hcell := hgrid.cell (i := q) (j := p) (by omega) (by omega)
                  obtain ⟨f0, f1⟩ := part_in hin p s q 0 q p (by omega) (by omega)
                  have l2 : (q : Int) < 8 := by omega
                  have l3 : (0 : Int) ≤ (q : Int) := by omega
                  by_cases hqp : q = p
                  · have hskip := hgrid.as (fun i j hi hj => part_skip G hin p s q i j hi hj (.inl hqp))
                    have t2 : ((q : Int) == (p : Int)) = true := by simp; omega
                    have t3 : decide ((q : Int) = (p : Int)) = true := by simp; omega
                    have HQP := Lib.hid hqp
                    clear hqp
                    clear hgrid
                    go_wp2_with fail
                    exact ⟨⟨q + 1, by omega, by go_num, hskip, hb⟩, by simp [intOf]; omega⟩
                  · have t2 : ((q : Int) == (p : Int)) = false := by simp; omega
                    have t3 : decide ((q : Int) = (p : Int)) = false := by simp; omega
                    rw [part_at G p s q 0 p hqp (Nat.zero_le _)] at hcell f0 f1
                    have HQP := Lib.hid hqp
                    by_cases hz : G q p = 0
                    · have hskip := hgrid.as (fun i j hi hj => part_skip G hin p s q i j hi hj (.inr hz))
                      rw [hz] at hcell
                      have HZ := Lib.hid hz
                      clear hqp hz hgrid
                      go_wp2_with fail
                      exact ⟨⟨q + 1, by omega, by go_num, hskip, hb⟩, by simp [intOf]; omega⟩
                    · have t4 : (G q p == 0) = false := by simpa using hz
                      have HZ := Lib.hid hz
                      clear hqp hz
                      go_wp2_with fail
                      clear hcell
                      go_loopw [16, 94] (fun _ i wx => ∃ m : Nat, m ≤ 9 ∧ i = .int .i64 m ∧ Grid wx w.heap.size (part G p s q m) ∧ Below w.heap.size w wx) (fun _ i _ => 9 - (intOf i).toNat)
                      case atStart => exact ⟨0, Nat.zero_le _, rfl, hgrid, hb⟩
                      case round =>
                        clear hgrid hb
                        obtain ⟨m, hm, rfl, hgrid, hb⟩ := hrel
                        by_cases hlm : m < 9
                        · have hcell := hgrid.cell (i := q) (j := m) (by omega) (by omega)
                          rw [part_at G p s q m m HQP.out (Nat.le_refl _)] at hcell
                          have hcell2 := hgrid.cell (i := p) (j := m) (by omega) (by omega)
                          rw [part_piv] at hcell2
                          have hfr := hgrid.frozen (q * 9 + m)
                          obtain ⟨x0, x1⟩ := hin q m (by omega) (by omega)
                          have y0 : 0 ≤ G p m * s % 251 := by omega
                          have y1 : G p m * s % 251 ≤ 250 := by omega
                          have hset := (hgrid.set q m ((G q m + (251 - G q p) * (G p m * s % 251)) % 251) (by omega) (by omega)).as (fun i j _ _ => part_put G p s q m i j HQP.out)
                          have hset2 := below_set hb (Nat.le_refl _) (q * 9 + m) (.int .i64 ((G q m + (251 - G q p) * (G p m * s % 251)) % 251))
                          obtain ⟨y, hy⟩ : ∃ y, y = G p m * s % 251 := ⟨_, rfl⟩
                          rw [← hy] at hcell2 hset hset2 y0 y1
                          clear hy
                          have z0 : 0 ≤ (251 - G q p) * y := Int.mul_nonneg (by omega) y0
                          have z1 : (251 - G q p) * y ≤ 251 * 250 := Int.mul_le_mul (by omega) y1 y0 (by omega)
                          have j2 : (m : Int) < 9 := by omega
                          have j3 : (0 : Int) ≤ (m : Int) := by omega
                          have a3 : IntKind.i64.wrap ((251 - G q p) * y) = (251 - G q p) * y := IntWalk.i64_in _ (by omega)
                          have a4 : IntKind.i64.wrap (251 - G q p) = 251 - G q p := IntWalk.i64_in _ (by omega)
                          have a5 : IntKind.i64.wrap (G q m + (251 - G q p) * y) = G q m + (251 - G q p) * y := IntWalk.i64_in _ (by omega)
                          clear hgrid hb
                          go_wp2_with fail
                          go_region
                          all_goals (go_wp2_with fail)
                          exact ⟨⟨m + 1, by omega, by go_num, hset.drew, below_drew hset2⟩, by simp [intOf]; omega⟩
                        · obtain rfl : m = 9 := by omega
                          have hgr3 := hgrid.as (fun i j _ hj => part_row G p s q i j hj)
                          clear hgrid
                          go_wp2_with fail
                          exact ⟨⟨q + 1, by omega, by go_num, hgr3, hb⟩, by simp [intOf]; omega⟩
                · obtain rfl : q = vs.length := by omega
                  have HE2 := Lib.hid (part_elim HEL.out hlt s HI1.out)
                  have hin2 := part_in hin p s vs.length 0
                  go_wp2_with fail
                  exact ⟨⟨p + 1, _, by omega, by go_num, HE2.out, hin2, hgrid, hb⟩, by simp [intOf]; omega⟩
        · obtain rfl : p = vs.length := by omega
          have HEN := Lib.hid (Dag.elim_end hel (fun i hi => by have := allIn_get hvr hi; omega))
          clear hel
          have hmk := run_make_row' (P := Try.prog) 26 3 (.int .i64 0) 8 Try.underlying26 info_int rfl .i64 .i64 vs.length (by omega) (by omega)
          go_wp2_with fail
          obtain ⟨W, hW⟩ : ∃ W, W = wr := ⟨_, rfl⟩
          rw [← hW] at hgrid hb ⊢
          have hg0 := hgrid.block (w' := W.alloc (.cells (madeCells #[.int .i64 0] vs.length) 3)) (Below.heap_alloc _ _ _ hgrid.lt)
          have hb0 : Below w.heap.size w (W.alloc (.cells (madeCells #[.int .i64 0] vs.length) 3)) := hb.alloc hb.size _
          have hws : w.heap.size ≤ W.heap.size := hb.size
          have hne : w.heap.size ≠ W.heap.size := by have := hgrid.lt; omega
          clear hW hgrid hb hmk
          go_loopw [18, 123] (fun _ i wx => ∃ k : Nat, k ≤ vs.length ∧ i = .int .i64 k ∧ wx.rowIs W.heap.size 3 vs.length (fun j => .int .i64 (if j < k then G j 8 else 0)) ∧ Grid wx w.heap.size G ∧ Below w.heap.size w wx) (fun _ i _ => vs.length - (intOf i).toNat)
          case atStart => exact ⟨0, Nat.zero_le _, rfl, (World.rowIs_made W _ _ _).congr (fun i _ => by simp), hg0, hb0⟩
          case round =>
            clear hg0 hb0
            obtain ⟨k, hk, rfl, hrow, hgrid, hb⟩ := hrel
            by_cases hlk : k < vs.length
            · have hcell := hgrid.cell (i := k) (j := 8) (by omega) (by omega)
              have hc2 := hrow.cell hlk
              have hfr := hrow.frozen k
              have hset : (wr.setCell ⟨W.heap.size, k, none⟩ (.int .i64 (G k 8))).rowIs W.heap.size 3 vs.length (fun j => .int .i64 (if j < k + 1 then G j 8 else 0)) := (hrow.set k _).congr (fun j hj => by
                by_cases e : j = k
                · subst e; rw [if_pos rfl, if_pos (by omega)]
                · rw [if_neg e]; by_cases e2 : j < k
                  · rw [if_pos e2, if_pos (by omega)]
                  · rw [if_neg e2, if_neg (by omega)])
              have hset2 := below_set hb hws k (.int .i64 (G k 8))
              have hgr2 := hgrid.block (w' := wr.setCell ⟨W.heap.size, k, none⟩ (.int .i64 (G k 8))) (Below.heap_setCell _ _ _ _ hne)
              have j2 : (k : Int) < 8 := by omega
              have j3 : (0 : Int) ≤ (k : Int) := by omega
              clear hgrid hb hrow
              go_wp2_with fail
              exact ⟨⟨k + 1, by omega, by go_num, hset, hgr2, hset2⟩, by simp [intOf]; omega⟩
            · obtain rfl : k = vs.length := by omega
              go_wp2_with fail
              go_ret
              have hcn : ∀ j, j < vs.length → nth ((List.range vs.length).map fun i => G i 8) j = G j 8 := fun j hj => by simp [nth, hj]
              have hcl : ((List.range vs.length).map fun i => G i 8).length = vs.length := by simp
              refine ⟨(List.range vs.length).map fun i => G i 8, hcl, allIn_true fun j hj => ?_, fun i hi => HEN.out i hi, W.heap.size, vs.length, hws, by rw [hcl]; rfl, ?_, by rw [hcl]; exact Nat.le_refl _, by simp only [maxLen]; omega, hb⟩
              · rw [hcl] at hj; rw [hcn j hj]; exact hin j 8 (by omega) (by omega)
              · exact Wr.of_row (t := 3) (n := vs.length) (hrow.congr fun j hj => by rw [if_pos hj, hcn j hj]) (by rw [hcl]; exact Nat.le_refl _)
end Go.Proofs.Ytfkmiflddpjllaa
