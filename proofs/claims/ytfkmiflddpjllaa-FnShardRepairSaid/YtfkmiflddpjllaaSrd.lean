/- Shards that are drawn. Conditions: few picks before. -/
import Derived.Test.YtfkmiflddpjllaaShG
import Derived.Test.YtfkmiflddpjllaaData
import Derived.Deep.RegionHeld3
namespace Go.Proofs.Ytfkmiflddpjllaa
open Go.RowKit
set_option linter.unusedVariables false
set_option linter.unusedSimpArgs false

/-- Shards that were drawn: the reader, and a row of its own. -/
def Out (w0 : World) (gr p N go co : Nat) (L : List Sh) (H : Nat → Nat × Nat) (w : World) : Prop :=
  RdAt w w0.heap.size gr p ∧ gr < N ∧ OwnS w N go co L H ∧ w0.heap.size ≤ N ∧ N ≤ w.heap.size ∧ Below w0.heap.size w0 w
theorem Out.pick {w0 w : World} {gr p N go co : Nat} {L : List Sh} {H : Nat → Nat × Nat} (h : Out w0 gr p N go co L H w) (m : Int) (hp : p ≤ 1000) (hm : 1 ≤ m) :
    Calls Try.prog 52 #[.pointer (some ⟨gr, 0, none⟩), .int .i64 m] w fun e w' => ∃ v : Int, e = .returned (.int .i64 v) ∧ 0 ≤ v ∧ v < m ∧ Out w0 gr (p + 1) N go co L H w' ∧ w.grownBy w' (some gr) := by
  obtain ⟨h1, h2, h3, h4, h5, h6⟩ := h
  refine (pick_any m _ gr p w h1 (by omega) hm).mono ?_
  rintro e w' ⟨v, rfl, hv0, hv1, hr, hg, hs⟩
  have q := h3.parts
  exact ⟨v, rfl, hv0, hv1, ⟨hr, h2, h3.kept hg (by omega) (fun j hj => by have := (h3.at_ hj).2.2.1; omega), h4, Nat.le_trans h5 hg.size, h6.trans (grown_below hg h1.1 h6.size)⟩, hg⟩
theorem Out.drew {w0 w : World} {gr p N go co : Nat} {L : List Sh} {H : Nat → Nat × Nat} (h : Out w0 gr p N go co L H w) : Out w0 gr p N go co L H w.drew := ⟨h.1, h.2.1, h.2.2.1.drew, h.2.2.2.1, h.2.2.2.2.1, below_drew' h.2.2.2.2.2⟩
theorem Out.drewN {w0 w : World} {gr p N go co : Nat} {L : List Sh} {H : Nat → Nat × Nat} (h : Out w0 gr p N go co L H w) (n : Nat) : Out w0 gr p N go co L H (w.drewN n) := ⟨h.1, h.2.1, h.2.2.1.drewN n, h.2.2.2.1, h.2.2.2.2.1, belowN h.2.2.2.2.2 n⟩
theorem Out.keep {w0 w w' : World} {gr p N go co q : Nat} {L : List Sh} {H : Nat → Nat × Nat} (h : Out w0 gr p N go co L H w) (hg : w.grownBy w' (some q)) (hN : N ≤ q) (h1 : q ≠ go) (h2 : ∀ j, j < L.length → q ≠ (H j).1) : Out w0 gr p N go co L H w' := by
  obtain ⟨k1, k2, k3, k4, k5, k6⟩ := h
  exact ⟨k1.grown hg (fun e => by injection e; omega) (fun k e => by injection e; omega), k2, k3.kept hg h1 h2, k4, Nat.le_trans k5 hg.size, k6.trans (grown_below hg (by omega) k6.size)⟩
theorem Out.alloc {w0 w : World} {gr p N go co : Nat} {L : List Sh} {H : Nat → Nat × Nat} (h : Out w0 gr p N go co L H w) (o : Obj) : Out w0 gr p N go co L H (w.alloc o) := by
  obtain ⟨k1, k2, k3, k4, k5, k6⟩ := h
  exact ⟨k1.alloc o, k2, k3.alloc o, k4, by simp; omega, k6.alloc k6.size o⟩
theorem Out.app {w0 w w' : World} {gr p N go co go' co' : Nat} {L L' : List Sh} {H H' : Nat → Nat × Nat} (h : Out w0 gr p N go co L H w) (ho : OwnS w' N go' co' L' H') (hg : w.grownBy w' (some go)) : Out w0 gr p N go' co' L' H' w' := by
  obtain ⟨k1, k2, k3, k4, k5, k6⟩ := h
  have q := k3.parts
  exact ⟨k1.grown hg (fun e => by injection e; omega) (fun k e => by injection e; omega), k2, ho, k4, Nat.le_trans k5 hg.size, k6.trans (grown_below hg (by omega) k6.size)⟩
/-- And all shards beside it. -/
def All (N gg cg : Nat) (V : List Sh) (HG : Nat → Nat × Nat) (go : Nat) (w : World) : Prop := OwnS w N gg cg V HG ∧ go ≠ gg ∧ (∀ j, j < V.length → go ≠ (HG j).1)
theorem All.pick {N gg cg : Nat} {V : List Sh} {HG : Nat → Nat × Nat} {go gr : Nat} {w w' : World} (h : All N gg cg V HG go w) (hg : w.grownBy w' (some gr)) (hr : gr < N) : All N gg cg V HG go w' := by
  have q := h.1.parts
  exact ⟨h.1.kept hg (by omega) (fun j hj => by have := (h.1.at_ hj).2.2.1; omega), h.2⟩
theorem All.app {N gg cg : Nat} {V : List Sh} {HG : Nat → Nat × Nat} {go go' : Nat} {w w' : World} (h : All N gg cg V HG go w) (hg : w.grownBy w' (some go)) (hf : go' = go ∨ w.heap.size ≤ go') : All N gg cg V HG go' w' := by
  obtain ⟨h1, h2, h3⟩ := h
  have q := h1.parts
  refine ⟨h1.kept hg h2 h3, by rcases hf with e | e <;> omega, fun j hj => ?_⟩
  have a := (h1.at_ hj).2.2.2.2.1
  have b := h3 j hj
  rcases hf with e | e <;> omega

def ShardsDraw (w0 : World) (gr p : Nat) (e : Ending) (w' : World) : Prop :=
  ∃ (size need : Int) (g c p' : Nat) (L : List Sh), e = .returned (.tuple #[.int .i64 size, .int .i64 need, .slice (some ⟨g, 0, none⟩) L.length c]) ∧ ShL w' w'.heap.size (some ⟨g, 0, none⟩) L ∧ L.length ≤ 8 ∧
    (∀ j, j < L.length → (val_ L j).length ≤ 13) ∧ RdAt w' w0.heap.size gr p' ∧ p' ≤ p + 100 ∧ Below w0.heap.size w0 w' ∧ ∀ w'', w'.grownBy w'' (some gr) → ShL w'' w''.heap.size (some ⟨g, 0, none⟩) L
theorem tmod_nat (a b n : Nat) : (((a : Int) * 3 + (b : Int)).tmod (n : Int)) = (((a * 3 + b) % n : Nat) : Int) := by
  rw [Int.tmod_eq_emod_of_nonneg (by omega)]; simp

/-- A value is written within some block. -/
theorem Wr.poke {w : World} {b : Nat} {l : List Int} (h : Wr w b l) (u : Nat) (y : Int) : Wr (w.setCell ⟨b, u, none⟩ (.int .i64 y)) b (l.set u y) := by
  by_cases hu : u < l.length
  · exact h.set u y hu
  · rw [List.set_eq_of_length_le (by omega)]
    obtain ⟨cur, t, h1, h2, h3⟩ := h
    refine ⟨cur.setIfInBounds u (.int .i64 y), t, by simp [World.setCell, Array.getElem?_modify, h1], by simpa using h2, fun j hj => ?_⟩
    have := h3 j hj
    rw [Array.getElem?_setIfInBounds_ne (by omega)]
    exact this
theorem OwnS.poke {w : World} {B g c : Nat} {l : List Sh} {H : Nat → Nat × Nat} (h : OwnS w B g c l H) (b u : Nat) (y : Int) (hb : b ≠ g) :
    ∃ l', l'.length = l.length ∧ (∀ j, j < l.length → (val_ l' j).length = (val_ l j).length) ∧ OwnS (w.setCell ⟨b, u, none⟩ (.int .i64 y)) B g c l' H := by
  let f : Nat → Sh := fun j => (num_ l j, if (H j).1 = b then (val_ l j).set u y else val_ l j)
  have hn : ∀ j, j < l.length → num_ ((List.range l.length).map f) j = num_ l j := fun j hj => by simp [num_, hj, f]
  have hv : ∀ j, j < l.length → val_ ((List.range l.length).map f) j = if (H j).1 = b then (val_ l j).set u y else val_ l j := fun j hj => by
    simp [val_, hj, f]
  have hvl : ∀ j, j < l.length → (val_ ((List.range l.length).map f) j).length = (val_ l j).length := fun j hj => by
    rw [hv j hj]; split <;> simp
  refine ⟨(List.range l.length).map f, by simp, hvl, ?_, fun j hj => ?_⟩
  · have hc : cellsS ((List.range l.length).map f) H = cellsS l H := by
      apply List.ext_getElem?
      intro i
      by_cases hi : i < l.length * 2
      · obtain ⟨a1, a2⟩ := cellsS_get ((List.range l.length).map f) H (i / 2) (by simp; omega)
        obtain ⟨b1, b2⟩ := cellsS_get l H (i / 2) (by omega)
        rw [hn _ (by omega)] at a1
        rw [hvl _ (by omega)] at a2
        rcases Nat.mod_two_eq_zero_or_one i with e | e
        · rw [show i = i / 2 * 2 by omega, a1, b1]
        · rw [show i = i / 2 * 2 + 1 by omega, a2, b2]
      · rw [List.getElem?_eq_none (by rw [cellsS_len]; simp; omega), List.getElem?_eq_none (by rw [cellsS_len]; omega)]
    rw [hc]
    have := row_same h.1 (w' := w.setCell ⟨b, u, none⟩ (.int .i64 y)) (Below.heap_setCell _ _ _ _ (fun e => hb e.symm))
    simpa using this
  · have hj' : j < l.length := by simpa using hj
    obtain ⟨r1, r2, r3, r4⟩ := h.2 j hj'
    refine ⟨r1, r2, ?_, by rw [hvl j hj']; exact r4⟩
    rw [hv j hj']
    by_cases e : (H j).1 = b
    · rw [if_pos e, e]; rw [e] at r3; exact r3.poke u y
    · rw [if_neg e]; exact r3.block (Below.heap_setCell _ _ _ _ e)
/-- The values of shard k lie elsewhere. -/
theorem OwnS.put {w : World} {B g c : Nat} {l : List Sh} {H : Nat → Nat × Nat} (h : OwnS w B g c l H) (k : Nat) (vs : List Int) (x : Nat × Nat) (hk : k < l.length) (hb : B ≤ x.1) (hne : x.1 ≠ g) (hw : Wr w x.1 vs) (hc : vs.length ≤ x.2) :
    OwnS (w.setCell ⟨g, k * 2 + 1, none⟩ (.slice (some ⟨x.1, 0, none⟩) vs.length x.2)) B g c (l.set k (num_ l k, vs)) (putH H k x) := by
  obtain ⟨cur, h1, h2, h3, h4, h5, h6, h7⟩ := row_block h.1
  refine ⟨⟨by rw [cellsS_len], .inr ⟨g, c, cur.setIfInBounds (k * 2 + 1) (.slice (some ⟨x.1, 0, none⟩) vs.length x.2), by simp, h2, by simp [World.setCell, Array.getElem?_modify, h1], by simpa using h4, h5, by simpa using h6, ?_⟩⟩, fun j hj => ?_⟩
  · rw [Array.toList_setIfInBounds, List.take_set, List.length_set, h7, cellsS_slice l H k vs x hk]
  · have hj' : j < l.length := by simpa using hj
    rw [val_set _ _ _ _ hk]
    by_cases e : j = k
    · rw [if_pos e]; simp only [putH, if_pos e]
      exact ⟨hb, hne, hw.block (Below.heap_setCell _ _ _ _ hne), hc⟩
    · rw [if_neg e]; simp only [putH, if_neg e]
      obtain ⟨r1, r2, r3, r4⟩ := h.2 j hj'
      exact ⟨r1, r2, r3.block (Below.heap_setCell _ _ _ _ r2), r4⟩
theorem Out.set {w0 w : World} {gr p N go co : Nat} {L L' : List Sh} {H H' : Nat → Nat × Nat} (h : Out w0 gr p N go co L H w) (a : Addr) (v : Value) (ha : N ≤ a.block) (ho : OwnS (w.setCell a v) N go co L' H') : Out w0 gr p N go co L' H' (w.setCell a v) := by
  obtain ⟨k1, k2, k3, k4, k5, k6⟩ := h
  have hg := grown_set w a v
  exact ⟨k1.grown hg (fun e => by injection e; omega) (fun k e => by injection e; omega), k2, ho, k4, by simpa [World.setCell] using k5, k6.trans (grown_below hg (by omega) k6.size)⟩
theorem Out.beside {w0 w w' : World} {gr p N go co : Nat} {L : List Sh} {H : Nat → Nat × Nat} (h : Out w0 gr p N go co L H w) (hg : w.grownBy w' (some gr)) : ShL w' w'.heap.size (some ⟨go, 0, none⟩) L := by
  obtain ⟨h1, h2, h3, _⟩ := h
  have q := h3.parts
  exact (h3.kept hg (by omega) (fun j hj => by have := (h3.at_ hj).2.2.1; omega)).shl
theorem Out.fin {w0 w : World} {gr p p0 N go co : Nat} {L : List Sh} {H : Nat → Nat × Nat} (h : Out w0 gr p N go co L H w) (h8 : L.length ≤ 8) (hv : ∀ j, j < L.length → (val_ L j).length ≤ 13) (hp : p ≤ p0 + 100) (size need : Int) (n : Nat) (hn : n = L.length) :
    ShardsDraw w0 gr p0 (.returned (.tuple #[.int .i64 size, .int .i64 need, .slice (some ⟨go, 0, none⟩) n co])) w := by
  subst hn
  exact ⟨size, need, go, co, p, L, rfl, h.2.2.1.shl, h8, hv, h.1, hp, h.2.2.2.2.2, fun w'' hg => h.beside hg⟩

theorem Out.fin4 {w0 w : World} {gr p p0 N go co : Nat} {L : List Sh} {H : Nat → Nat × Nat} (h : Out w0 gr p N go co L H w) (h8 : L.length ≤ 8) (hv : ∀ j, j < L.length → (val_ L j).length ≤ 13) (hp : p ≤ p0 + 100) (size need : Int) (m : Nat) (hm : m < L.length) :
    ShardsDraw w0 gr p0 (.returned (.tuple #[.int .i64 size, .int .i64 need, .slice (some ⟨go, 0, none⟩) m co])) w := by
  have hml : (L.take m).length = m := by rw [List.length_take]; omega
  exact ⟨size, need, go, co, p, L.take m, by rw [hml], h.2.2.1.shl.take m, by omega, fun j hj => by
    have hj1 : j < m := by omega
    have : val_ (L.take m) j = val_ L j := by simp [val_, List.getElem?_take_of_lt hj1]
    rw [this]; exact hv j (by omega), h.1, hp, h.2.2.2.2.2, fun w'' hg => (h.beside hg).take m⟩

set_option maxRecDepth 20000 in
set_option maxHeartbeats 8000000 in
theorem drawShards_any (w0 : World) (gr p : Nat) (w : World) (hr : RdAt w w0.heap.size gr p) (hb : Below w0.heap.size w0 w) (hp : p ≤ 100) :
    Calls Try.prog 43 #[.pointer (some ⟨gr, 0, none⟩)] w (ShardsDraw w0 gr p) := by
  go_enter Try.func43, Try.ntmps43
  go_wp2_with fail
  refine (drawRow_any w0 gr p w hr hb (by omega)).mono ?_
  clear hr hb
  rintro e w2 ⟨gd, cd, p2, l, rfl, hd, hl24, hp2⟩
  go_wp2_with fail
  refine (hd.pick 5 (by omega) (by omega)).mono ?_
  clear hd
  rintro e w3 ⟨v3, rfl, hv30, hv31, hd⟩
  have ud := hd.2.1.parts.2.2.2.2
  have hr3 := hd.1
  have hb3 := hd.2.2.2
  obtain ⟨need, hneed⟩ : ∃ need : Int, need = 1 + v3 := ⟨_, rfl⟩
  have hn1 : 1 ≤ need ∧ need ≤ 5 := by omega
  go_wp2_with fail
  rw [← hneed]
  clear hneed hv30 hv31 hd
  refine (makeS_any (some ⟨gd, 0, none⟩) cd l need 8 _ ud.sl' (by omega)).mono ?_
  rintro e w4 ⟨gg, cg, HG, rfl, og, hdg, hb4⟩
  obtain ⟨hv8, hv12⟩ := makeV_small l need 8
  obtain ⟨V, hV⟩ : ∃ V, V = makeV l need 8 := ⟨_, rfl⟩
  rw [← hV] at og hv8 hv12 ⊢
  have HV12 := Lib.hid hv12
  clear hV hv12 hdg ud
  have hr4 : RdAt w4 w0.heap.size gr (p2 + 1) := hr3.below hb4 hr3.lt
  have hB4 : Below w0.heap.size w0 w4 := hb3.trans (hb4.mono hb3.size)
  have hgr : gr < w3.heap.size := hr3.lt
  have h0N : w0.heap.size ≤ w3.heap.size := hb3.size
  have hN4 : w3.heap.size ≤ w4.heap.size := hb4.size
  have hOut : Out w0 gr (p2 + 1) w3.heap.size w4.heap.size 0 [] (fun _ => (0, 0)) (w4.alloc (.cells #[] 30)) :=
    ⟨hr4.alloc _, hgr, OwnS.made w4 _ _ hN4, h0N, by simp; omega, hB4.alloc hB4.size _⟩
  have hAll : All w3.heap.size gg cg V HG w4.heap.size (w4.alloc (.cells #[] 30)) :=
    ⟨og.alloc _, by have := og.parts.2.1; omega, fun j hj => by have := (og.at_ hj).2.2.2.2.1; omega⟩
  obtain ⟨N, hN⟩ : ∃ N, N = w3.heap.size := ⟨_, rfl⟩
  rw [← hN] at hOut hAll hgr h0N
  clear hr4 hB4 og hb4 hr3 hb3 hN4 hN
  go_wp2_with fail
  go_loopw [8, 9, 10, 11, 12] (fun o i _ _ _ wr => ∃ (k p' go co : Nat) (L : List Sh) (H : Nat → Nat × Nat), k ≤ V.length ∧ i = .int .i64 k ∧ o = .slice (some ⟨go, 0, none⟩) L.length co ∧ L.length ≤ k ∧ p' ≤ p2 + 1 + 2 * k ∧ (∀ j, j < L.length → (val_ L j).length ≤ 12) ∧ Out w0 gr p' N go co L H wr ∧ All N gg cg V HG go wr) (fun _ i _ _ _ _ => V.length - (intOf i).toNat)
  case atStart => exact ⟨0, p2 + 1, _, 0, [], _, Nat.zero_le _, rfl, rfl, by simp, by omega, fun j hj => by simp at hj, hOut, hAll⟩
  case round =>
    clear hOut hAll
    obtain ⟨k, p', go, co, L, H, hk, rfl, rfl, hLk, hp', hvL, ho, ha⟩ := hrel
    have HVL := Lib.hid hvL
    clear hvL
    by_cases hlt : k < V.length
    · have i1 : (k : Int) < (V.length : Int) := by omega
      go_wp2_with fail
      refine (ho.pick 3 (by omega) (by omega)).mono ?_
      rintro e w5 ⟨v, rfl, hv0, hv1, ho, hg5⟩
      replace ha := ha.pick hg5 hgr
      clear hg5
      obtain ⟨vn, rfl⟩ := Int.eq_ofNat_of_zero_le hv0
      have hmod := tmod_nat k vn V.length
      obtain ⟨s, hs⟩ : ∃ s, s = (k * 3 + vn) % V.length := ⟨_, rfl⟩
      have hsV : s < V.length := by rw [hs]; exact Nat.mod_lt _ (by omega)
      rw [← hs] at hmod
      clear hs
      have hz : ¬ (V.length : Int) = 0 := by omega
      have hz' : ((V.length : Int) == 0) = false := by simp only [beq_eq_false_iff_ne]; omega
      go_wp2_with fail
      go_loopw [11, 12] (fun f i2 wr => ∃ (b : Bool) (j : Nat), j ≤ L.length ∧ f = .bool b ∧ i2 = .int .i64 j ∧ Out w0 gr (p' + 1) N go co L H wr ∧ All N gg cg V HG go wr) (fun _ i2 _ => L.length - (intOf i2).toNat)
      case atStart => exact ⟨false, 0, Nat.zero_le _, rfl, rfl, ho, ha⟩
      case round =>
        clear ho ha
        obtain ⟨b, j, hj, rfl, rfl, ho, ha⟩ := hrel
        by_cases hjl : j < L.length
        · have i2 : (j : Int) < (L.length : Int) := by omega
          have c1 := (ho.2.2.1.at_ hjl).1
          have d1 := (ha.1.at_ hsV).1
          cases b with
          | true =>
            go_wp2_with fail
            go_quiet (fail)
            go_wp2_with fail
            exact ⟨⟨true, j + 1, by omega, by go_num, rfl, ho.drewN _, ha.1.drewN _, ha.2⟩, by simp [intOf] <;> omega⟩
          | false =>
            by_cases hq : num_ L j = num_ V s
            · have t1 : (num_ L j == num_ V s) = true := by simpa using hq
              clear hq
              go_wp2_with fail
              go_quiet (fail)
              go_wp2_with fail
              exact ⟨⟨true, j + 1, by omega, by go_num, rfl, ho.drewN _, ha.1.drewN _, ha.2⟩, by simp [intOf] <;> omega⟩
            · have t1 : (num_ L j == num_ V s) = false := by simpa using hq
              clear hq
              go_wp2_with fail
              go_quiet (fail)
              go_wp2_with fail
              exact ⟨⟨false, j + 1, by omega, by go_num, rfl, ho.drewN _, ha.1.drewN _, ha.2⟩, by simp [intOf] <;> omega⟩
        · have hjj : L.length = j := by omega
          subst hjj
          cases b with
          | true =>
            go_wp2_with fail
            exact ⟨⟨k + 1, p' + 1, go, co, L, H, by omega, by go_num, rfl, by omega, by omega, HVL.out, ho, ha⟩, by simp [intOf] <;> omega⟩
          | false =>
            go_wp2_with fail
            refine (ho.pick 4 (by omega) (by omega)).mono ?_
            rintro e w6 ⟨v6, rfl, hv60, hv61, ho, hg6⟩
            replace ha := ha.pick hg6 hgr
            clear hg6
            by_cases h6 : 0 < v6
            · obtain ⟨c1, c2, c3, c4, c5, c6, c7⟩ := ha.1.at_ hsV
              have hgh := ha.2.2 s hsV
              have hNw := ho.2.2.2.2.1
              go_wp2_with (at_builtin; refine wpList_shard rfl _ _ rfl N go co L (L ++ [(num_ V s, val_ V s)]) H (num_ V s) (val_ V s) (HG s).1 (HG s).2 _ rfl rfl rfl _ rfl (by simp) ho.2.2.1 (by omega) hNw c3 (fun e => hgh e.symm) c6 c7 ?_)
              intro g' c' w7 ho7 hg7 hf7
              have ho' := ho.app ho7 hg7
              have ha' := ha.app hg7 hf7
              clear ho ha c1 c2 c6 ho7 hg7 hf7
              go_wp2_with fail
              refine ⟨⟨k + 1, p' + 2, g', c', L ++ [(num_ V s, val_ V s)], _, by omega, by go_num, by rw [List.length_append]; rfl, by simp; omega, by omega, fun j hj => ?_, ho', ha'⟩, by simp [intOf] <;> omega⟩
              rw [val_snoc _ _ _ (by simpa using hj)]
              split
              · exact HV12.out s hsV
              · exact HVL.out j (by simp at hj; omega)
            · go_wp2_with fail
              exact ⟨⟨k + 1, p' + 2, go, co, L, H, by omega, by go_num, rfl, by omega, by omega, HVL.out, ho, ha⟩, by simp [intOf] <;> omega⟩
    · have hkV : V.length = k := by omega
      subst hkV
      have hL8 : L.length ≤ 8 := by omega
      have hVL13 : Hid (∀ j, j < L.length → (val_ L j).length ≤ 13) := by unfold Hid; intro j hj; have := HVL.out j hj; omega
      clear ha
      by_cases hL0 : L.length = 0
      · have t0 : ((L.length : Int) == 0) = true := by simp only [beq_iff_eq]; omega
        go_wp2_with fail
        go_ret3
        exact ho.fin hL8 hVL13.out (by omega) _ _ _ rfl
      · have t0 : ((L.length : Int) == 0) = false := by simp only [beq_eq_false_iff_ne]; omega
        go_wp2_with fail
        refine (ho.pick (L.length : Int) (by omega) (by omega)).mono ?_
        rintro e w5 ⟨kk, rfl, hk0, hk1, ho, hg5⟩
        clear hg5
        obtain ⟨m, rfl⟩ := Int.eq_ofNat_of_zero_le hk0
        have hm : m < L.length := by omega
        go_wp2_with fail
        refine (ho.pick 14 (by omega) (by omega)).mono ?_
        rintro e w6 ⟨u, rfl, hu0, hu1, ho, hg6⟩
        clear hg6
        have hgN := ho.2.2.1.parts.1
        have hco := ho.2.2.1.parts.2.2.1
        have HP : Hid (p' + 1 + 1 + 5 ≤ p + 100) := by unfold Hid; omega
        by_cases e0 : u = 0
        · subst e0
          obtain ⟨c1, c2, c3, c4, c5, c6, c7⟩ := ho.2.2.1.at_ hm
          by_cases hv : 0 < (val_ L m).length
          · have i5 : (0 : Int) < ((val_ L m).length : Int) := by omega
            go_wp2_with fail
            go_region_held3 (fun w' => w'.cell? ⟨go, m * 2 + 1, none⟩ = some (.slice (some ⟨(H m).1, 0, none⟩) (val_ L m).length (H m).2)) (first | exact c2 | exact c2a | exact c2b | exact c2c)
              (first
                | (go_at_call 52; refine (ho7.pick 251 (by omega) (by omega)).mono ?_; rintro e w8 ⟨y, rfl, hy0, hy1, ho8, hg8⟩; have c2b := (ho8.2.2.1.at_ hm).2.1; have hw8 := (ho8.2.2.1.at_ hm).2.2.2.2.2.1; have k1 := hw8.cell (j := xn) (by omega); have k2 := hw8.frozen xn; have hst : (w8.setCell ⟨(H m).1, xn, none⟩ (.int .i64 y)).heap[go]? = w8.heap[go]? := Below.heap_setCell _ _ _ _ (fun e => c4 e.symm); have c2c : (w8.setCell ⟨(H m).1, xn, none⟩ (.int .i64 y)).cell? ⟨go, m * 2 + 1, none⟩ = some (.slice (some ⟨(H m).1, 0, none⟩) (val_ L m).length (H m).2) := (by simp only [World.cell?] at c2b ⊢; rw [hst]; exact c2b))
                | (go_at_call 52; refine (ho.drew.pick ((val_ L m).length : Int) (by omega) (by omega)).mono ?_; rintro e w7 ⟨x, rfl, hx0, hx1, ho7, hg7⟩; have c2a := (ho7.2.2.1.at_ hm).2.1; obtain ⟨xn, rfl⟩ := Int.eq_ofNat_of_zero_le hx0))
            all_goals
              obtain ⟨L', hL', hv', hoP⟩ := ho8.2.2.1.poke (H m).1 xn y c4
              have ho' := ho8.set ⟨(H m).1, xn, none⟩ (.int .i64 y) c3 hoP
              clear ho hoP ho7 ho8 hw8 c1 c2 c2a c2b c2c c6 k1 k2 hst hg7 hg8
              go_wp2_with fail
              go_ret3
              exact ho'.fin (by omega) (fun j hj => by rw [hv' j (by omega)]; exact hVL13.out j (by omega)) (by have := HP.out; omega) _ _ _ hL'.symm
          · have i5 : ¬ (0 : Int) < ((val_ L m).length : Int) := by omega
            go_wp2_with fail
            go_ret3
            exact ho.fin hL8 hVL13.out (by have := HP.out; omega) _ _ _ rfl
        · have f0 : (u == 0) = false := by simpa using e0
          by_cases e1 : u = 1
          · subst e1
            go_wp2_with fail
            refine (ho.pick 10 (by omega) (by omega)).mono ?_
            rintro e w7 ⟨y, rfl, hy0, hy1, ho, hg7⟩
            clear hg7
            obtain ⟨c1, c2, c3, c4, c5, c6, c7⟩ := ho.2.2.1.at_ hm
            have g1 := ho.2.2.1.frozen (m * 2)
            have ho' := ho.set ⟨go, m * 2, none⟩ (.int .i64 y) hgN (ho.2.2.1.num m y hm)
            go_wp2_with fail
            go_ret3
            exact ho'.fin (by simpa using hL8) (fun j hj => by
              have hj' : j < L.length := by simpa using hj
              rw [val_set _ _ _ _ hm]
              split
              · rename_i e; exact hVL13.out m hm
              · exact hVL13.out j hj') (by have := HP.out; omega) _ _ _ (by simp)
          · have f1 : (u == 1) = false := by simpa using e1
            by_cases e2 : u = 2
            · subst e2
              go_wp2_with fail
              refine (ho.pick 3 (by omega) (by omega)).mono ?_
              rintro e w7 ⟨y, rfl, hy0, hy1, ho, hg7⟩
              clear hg7
              go_wp2_with fail
              all_goals
                go_ret3
                exact ho.fin hL8 hVL13.out (by have := HP.out; omega) _ _ _ rfl
            · have f2 : (u == 2) = false := by simpa using e2
              by_cases e3 : u = 3
              · subst e3
                go_wp2_with fail
                refine (ho.pick 3 (by omega) (by omega)).mono ?_
                rintro e w7 ⟨y, rfl, hy0, hy1, ho, hg7⟩
                clear hg7
                go_wp2_with fail
                go_ret3
                exact ho.fin hL8 hVL13.out (by have := HP.out; omega) _ _ _ rfl
              · have f3 : (u == 3) = false := by simpa using e3
                by_cases e4 : u = 4
                · subst e4
                  have i7 : (m : Int) ≤ (co : Int) := by omega
                  go_wp2_with fail
                  go_ret3
                  exact ho.fin4 hL8 hVL13.out (by have := HP.out; omega) _ _ m hm
                · have f4 : (u == 4) = false := by simpa using e4
                  by_cases e5 : u = 5
                  · subst e5
                    have hNw := ho.2.2.2.2.1
                    have hgl := ho.2.2.1.parts.2.1
                    have HHL : Hid (∀ j, j < L.length → (H j).1 < w6.heap.size) := by unfold Hid; intro j hj; exact (ho.2.2.1.at_ hj).2.2.2.2.1
                    have ho5 := ho.alloc (.cells #[] 3)
                    have hO5 : OwnI (w6.alloc (.cells #[] 3)) N w6.heap.size 0 [] := OwnI.made w6 _ hNw
                    obtain ⟨c1, c2, c3, c4, c5, c6, c7⟩ := ho5.2.2.1.at_ hm
                    have hvm : (val_ L m).length ≤ 12 := HVL.out m hm
                    clear ho
                    go_wp2_with (at_builtin; refine wpList_many rfl _ _ rfl N w6.heap.size 0 [] (val_ L m) (val_ L m) rfl rfl (H m).1 (H m).2 _ rfl rfl c6 hO5 (by simp) (by omega) (by simp; omega) ?_)
                    intro g7 d7 w7 ho7 hg7 hf7
                    have hok := ho5.keep hg7 hNw (by omega) (fun j hj => by have := HHL.out j hj; omega)
                    have h67 : w6.heap.size ≤ g7 := by
                      rcases hf7 with e | e
                      · omega
                      · first | omega | (simp at e; omega)
                    clear hO5 ho5 hg7 hf7 c1 c2 c4 c5 c6 c7
                    go_wp2_with fail
                    refine (hok.pick 251 (by omega) (by omega)).mono ?_
                    rintro e w8 ⟨y, rfl, hy0, hy1, ho, hg8⟩
                    have hO8 := ho7.kept hg8 (fun e => by injection e; omega)
                    have hN8 := ho.2.2.2.2.1
                    have HHM : Hid (∀ j, j < L.length → (H j).1 < w8.heap.size) := by unfold Hid; intro j hj; exact (ho.2.2.1.at_ hj).2.2.2.2.1
                    have hgm := ho.2.2.1.parts.2.1
                    clear hok hg8 ho7
                    go_wp2_with (at_builtin; refine wpList_one rfl _ _ rfl N g7 d7 (val_ L m) (val_ L m ++ [y]) y rfl rfl _ rfl (by simp) hO8 (by omega) hN8 ?_)
                    intro g9 d9 w9 ho9 hg9 hf9
                    have hok := ho.keep hg9 (by omega) (by omega) (fun j hj => by have := HHL.out j hj; omega)
                    obtain ⟨q1, q2, q3, q4, q5⟩ := ho9.parts
                    have h99 : g9 ≠ go := by rcases hf9 with e | e <;> omega
                    clear ho ho9 hO8 hg9 hf9
                    obtain ⟨c1, c2, c3, c4, c5, c6, c7⟩ := hok.2.2.1.at_ hm
                    have g2 := hok.2.2.1.frozen (m * 2 + 1)
                    have hp := hok.2.2.1.put m (val_ L m ++ [y]) (g9, d9) hm q1 h99 q5 q3
                    have ho' := hok.set ⟨go, m * 2 + 1, none⟩ (.slice (some ⟨g9, 0, none⟩) (val_ L m ++ [y]).length d9) hgN hp
                    clear hp hok q5
                    go_wp2_with fail
                    go_ret3
                    simp only [List.length_append, List.length_singleton] at ho' ⊢
                    exact ho'.fin (by simpa using hL8) (fun j hj => by
                      have hj' : j < L.length := by simpa using hj
                      rw [val_set _ _ _ _ hm]
                      split
                      · simp; omega
                      · exact hVL13.out j hj') (by have := HP.out; omega) _ _ _ (by simp)
                  · have f5 : (u == 5) = false := by simpa using e5
                    go_wp2_with fail
                    go_ret3
                    exact ho.fin hL8 hVL13.out (by have := HP.out; omega) _ _ _ rfl
end Go.Proofs.Ytfkmiflddpjllaa
