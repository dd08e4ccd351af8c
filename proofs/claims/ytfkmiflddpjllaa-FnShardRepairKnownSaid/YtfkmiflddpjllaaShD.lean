/- The walk of FnExactShardRepair. No condition. -/
import Derived.Test.YtfkmiflddpjllaaShI
namespace Go.Proofs.Ytfkmiflddpjllaa
open Go.RowKit
set_option linter.unusedVariables false
set_option linter.unusedSimpArgs false

/-- A slice of ints that is nil, or begins a block of its own. -/
def Own1 (w : World) (B : Nat) (A : Option Addr) (vs : List Int) : Prop := (A = none ∧ vs = []) ∨ ∃ g, A = some ⟨g, 0, none⟩ ∧ B ≤ g ∧ Wr w g vs
theorem Own1.lt {w : World} {B : Nat} {A : Option Addr} {vs : List Int} (h : Own1 w B A vs) : ∀ q, A = some ⟨q, 0, none⟩ → B ≤ q ∧ q < w.heap.size := by
  intro q hq
  rcases h with ⟨h, _⟩ | ⟨g, h, hb, hw⟩
  · rw [h] at hq; cases hq
  · rw [h] at hq; injection hq with hq; injection hq with hq; subst hq; exact ⟨hb, hw.lt⟩
theorem Own1.sl {w : World} {B : Nat} {A : Option Addr} {vs : List Int} (h : Own1 w B A vs) : Sl w w.heap.size A vs := by
  rcases h with ⟨h, e⟩ | ⟨g, rfl, hb, hw⟩
  · rw [e]; intro hne; simp at hne
  · exact hw.sl'
theorem Own1.keep {w w' : World} {B : Nat} {A : Option Addr} {vs : List Int} (h : Own1 w B A vs) (hk : ∀ q, A = some ⟨q, 0, none⟩ → w'.heap[q]? = w.heap[q]?) : Own1 w' B A vs := by
  rcases h with h | ⟨g, rfl, hb, hw⟩
  · exact .inl h
  · exact .inr ⟨g, rfl, hb, hw.block (hk g rfl)⟩
theorem Own1.below {w w' : World} {B : Nat} {A : Option Addr} {vs : List Int} (h : Own1 w B A vs) (hb : Below w.heap.size w w') : Own1 w' B A vs :=
  h.keep fun q hq => hb.block q (h.lt q hq).2
theorem Own1.drewN {w : World} {B : Nat} {A : Option Addr} {vs : List Int} (h : Own1 w B A vs) (n : Nat) : Own1 (w.drewN n) B A vs := h.keep fun _ _ => rfl
theorem Own1.tch {S : Nat → Prop} {w w' : World} {B : Nat} {A : Option Addr} {vs : List Int} (h : Own1 w B A vs) (ht : Tch S w w') (hS : ∀ q, A = some ⟨q, 0, none⟩ → ¬ S q) : Own1 w' B A vs :=
  h.keep fun q hq => ht.2 q (h.lt q hq).2 (hS q hq)

def MarkSh (B : Nat) (A : Option Addr) (k : Nat) (vs : List Int) (w : World) (e : Ending) (w' : World) : Prop :=
  e = .returned (.int .i64 ((k + vs.length : Nat) : Int)) ∧ Own1 w' B A (marks k vs.length) ∧ Tch (fun q => A = some ⟨q, 0, none⟩) w w'

set_option maxHeartbeats 2000000 in
theorem mark_nil (k : Int) (w : World) : Calls Try.prog 39 #[.slice none 0 0, .int .i64 k] w fun e w' => e = .returned (.int .i64 k) ∧ w = w' := by
  go_enter Try.func39, Try.ntmps39
  go_wp2_with fail
  go_loop [1, 5] (fun q i => i = .int .i64 0 ∧ q = .int .i64 k) (fun _ _ => 0)
  case atStart => exact ⟨rfl, rfl⟩
  case round =>
    obtain ⟨rfl, rfl⟩ := hrel
    go_wp2_with fail
    go_ret
    exact ⟨rfl, rfl⟩
set_option maxHeartbeats 2000000 in
theorem held_nil (k : Int) (w : World) : Calls Try.prog 41 #[.slice none 0 0, .int .i64 k] w fun e w' => e = .returned (.int .i64 k) ∧ w = w' := by
  go_enter Try.func41, Try.ntmps41
  go_wp2_with fail
  go_loop [1, 5] (fun q i => i = .int .i64 0 ∧ q = .int .i64 k) (fun _ _ => 0)
  case atStart => exact ⟨rfl, rfl⟩
  case round =>
    obtain ⟨rfl, rfl⟩ := hrel
    go_wp2_with fail
    go_ret
    exact ⟨rfl, rfl⟩

set_option maxHeartbeats 2000000 in
theorem markSh_any (x : Int) (B c k : Nat) (A : Option Addr) (vs : List Int) (w : World) (h : Own1 w B A vs) (hc : A = none → c = 0) (hl : vs.length ≤ 2000000) (hk : k ≤ 2000000) :
    Calls Try.prog 28 #[.agg #[.int .i64 x, .slice A vs.length c], .int .i64 (k : Int)] w (MarkSh B A k vs w) := by
  rcases h with ⟨rfl, rfl⟩ | ⟨g, rfl, hb, hw⟩
  · obtain rfl := hc rfl
    have hP : Tch (fun q => (none : Option Addr) = some ⟨q, 0, none⟩) w (w.alloc (.cells #[.int .i64 x, .slice none 0 0] 30)) := ⟨(Below.refl _ _).alloc (Nat.zero_le _) _ |>.mono (Nat.zero_le _), fun q hq _ => Below.heap_alloc _ _ _ hq⟩
    go_enter Try.func28, Try.ntmps28
    go_wp2_with fail
    refine (mark_nil (k : Int) _).mono ?_
    rintro e w1 ⟨rfl, rfl⟩
    go_wp2_with fail
    go_ret
    exact ⟨rfl, .inl ⟨rfl, rfl⟩, hP⟩
  · obtain ⟨W, hW⟩ : ∃ W, W = w.alloc (.cells #[.int .i64 x, .slice (some ⟨g, 0, none⟩) vs.length c] 30) := ⟨_, rfl⟩
    have hP : Tch (fun q => some ⟨g, 0, none⟩ = (some ⟨q, 0, none⟩ : Option Addr)) w W := by rw [hW]; exact ⟨(Below.refl _ _).alloc (Nat.zero_le _) _ |>.mono (Nat.zero_le _), fun q hq _ => Below.heap_alloc _ _ _ hq⟩
    have hw1 : Wr W g vs := by rw [hW]; exact hw.block (Below.heap_alloc _ _ _ hw.lt)
    go_enter Try.func28, Try.ntmps28
    go_wp2_with fail
    rw [← hW]
    clear hW hw
    refine (mark_any g c k vs _ hw1 hl hk).mono ?_
    rintro e w1 ⟨rfl, u1, hg1, hs1⟩
    go_wp2_with fail
    go_ret
    exact ⟨rfl, .inr ⟨g, rfl, hb, u1⟩, hP.grown hg1 rfl⟩

set_option maxHeartbeats 2000000 in
theorem heldSh_any (x : Int) (B c k : Nat) (A : Option Addr) (n : Nat) (w : World) (h : Own1 w B A (marks k n)) (hc : A = none → c = 0) (hl : n ≤ 2000000) (hk : k ≤ 2000000) :
    Calls Try.prog 29 #[.agg #[.int .i64 x, .slice A n c], .int .i64 (k : Int)] w fun e w' => e = .returned (.int .i64 ((k + n : Nat) : Int)) ∧ Below w.heap.size w w' := by
  rcases h with ⟨rfl, h⟩ | ⟨g, rfl, hb, hw⟩
  · obtain rfl := hc rfl
    have hn : n = 0 := by have := marks_len k n; rw [h] at this; exact this.symm
    subst hn
    have hP : Below w.heap.size w (w.alloc (.cells #[.int .i64 x, .slice none 0 0] 30)) := (Below.refl _ _).alloc (Nat.le_refl _) _
    have t1 : decide ((k : Int) < 0) = false := by simp only [decide_eq_false_iff_not]; omega
    have t1' : ¬ (k : Int) < 0 := by omega
    go_enter Try.func29, Try.ntmps29
    go_wp2_with fail
    refine (held_nil (k : Int) _).mono ?_
    rintro e w1 ⟨rfl, rfl⟩
    go_wp2_with fail
    go_ret
    exact ⟨rfl, hP⟩
  · obtain ⟨W, hW⟩ : ∃ W, W = w.alloc (.cells #[.int .i64 x, .slice (some ⟨g, 0, none⟩) n c] 30) := ⟨_, rfl⟩
    have hP : Below w.heap.size w W := by rw [hW]; exact (Below.refl _ _).alloc (Nat.le_refl _) _
    have hw1 : Wr W g (marks k n) := by rw [hW]; exact hw.block (Below.heap_alloc _ _ _ hw.lt)
    have hH := held_any g c k n W hw1 hl hk
    have hz : (0 : Int) ≤ ((k + n : Nat) : Int) := by omega
    obtain ⟨Z, hZ⟩ : ∃ Z : Int, Z = ((k + n : Nat) : Int) := ⟨_, rfl⟩
    rw [← hZ] at hH hz ⊢
    have t1 : decide (Z < 0) = false := by simp only [decide_eq_false_iff_not]; omega
    have t1' : ¬ Z < 0 := by omega
    have HH := Lib.hid hH
    clear hH hZ
    go_enter Try.func29, Try.ntmps29
    go_wp2_with fail
    rw [← hW]
    clear hW hw
    refine HH.out.mono ?_
    rintro e w1 ⟨rfl, rfl⟩
    go_wp2_with fail
    go_ret
    exact ⟨rfl, hP⟩

theorem RepPost.own {A : Option Addr} {vs : List Int} {c : Nat} {w w' : World} (h : (A = none ∧ vs = [] ∧ c = 0) ∨ ∃ g, A = some ⟨g, 0, none⟩ ∧ w.heap.size ≤ g ∧ Wr w' g vs ∧ vs.length ≤ c ∧ c ≤ maxLen) : Own1 w' w.heap.size A vs ∧ (A = none → c = 0) := by
  rcases h with ⟨h1, h2, h3⟩ | ⟨g, h1, h2, h3, h4, h5⟩
  · exact ⟨.inl ⟨h1, h2⟩, fun _ => h3⟩
  · exact ⟨.inr ⟨g, h1, h2, h3⟩, fun e => by rw [h1] at e; cases e⟩
/-- A block of its own holds a shard. -/
def Bx (w : World) (b : Nat) (x : Int) (A : Option Addr) (n c : Nat) : Prop := w.heap[b]? = some (.cells #[.int .i64 x, .slice A n c] 30 (0, 0))
theorem Bx.lt {w : World} {b : Nat} {x : Int} {A : Option Addr} {n c : Nat} (h : Bx w b x A n c) : b < w.heap.size := by
  rcases Nat.lt_or_ge b w.heap.size with h1 | h1
  · exact h1
  · unfold Bx at h; rw [Array.getElem?_eq_none h1] at h; cases h
theorem Bx.below {w w' : World} {b : Nat} {x : Int} {A : Option Addr} {n c : Nat} (h : Bx w b x A n c) (hb : Below w.heap.size w w') : Bx w' b x A n c := (hb.block b h.lt).trans h
theorem Bx.tch {S : Nat → Prop} {w w' : World} {b : Nat} {x : Int} {A : Option Addr} {n c : Nat} (h : Bx w b x A n c) (ht : Tch S w w') (hS : ¬ S b) : Bx w' b x A n c := (ht.2 b h.lt hS).trans h
theorem Bx.mk (w : World) (x : Int) (A : Option Addr) (n c : Nat) : Bx (w.alloc (.cells #[.int .i64 x, .slice A n c] 30)) w.heap.size x A n c := two_cells w _ _ _
theorem sameB_rf (x : Int) (vs : List Int) : sameB x vs x vs = true := by simp [sameB]

set_option maxHeartbeats 4000000 in
theorem walk_FnExactShardRepair (size need : Int) (A : Option Addr) (n c : Nat) (l : List Sh) (number : Int) (w : World) (wf : (Lit.int .i64 size).wf = true) (wf' : (Lit.int .i64 need).wf = true) (w0 : ShardsAt w A n c l) (wf'' : (Lit.int .i64 number).wf = true) :
    Calls Try.prog 5 #[.int .i64 size, .int .i64 need, .slice A n c, .int .i64 number] w fun e w' => e = .returned (.bool true) ∧ Below w.heap.size w w' := by
  obtain ⟨rfl, hc, hm, h, hv⟩ := w0
  have HV9 : Hid (∀ j, j < l.length → (val_ l j).length ≤ 9223372036854775807) := by
    unfold Hid; intro j hj; have := hv j hj; unfold maxLen at this; omega
  have hl9 : l.length ≤ 9223372036854775807 := by unfold maxLen at hm; omega
  clear hv hc hm wf wf' wf''
  go_enter Try.func5, Try.ntmps5
  go_wp2_with fail
  refine (szS_any A l c _ h hl9 HV9.out).mono ?_
  rintro e w1 ⟨r, rfl, hr, hb1⟩
  rcases hr with rfl | ⟨hr0, hkf⟩
  · go_wp2_with fail
    go_ret
    exact ⟨rfl, hb1⟩
  · have t0 : decide (r < 0) = false := by simp only [decide_eq_false_iff_not]; omega
    have t0' : ¬ r < 0 := by omega
    have hkl := kf_ge l 1 l.length
    have hl2 : l.length ≤ 2000000 := by omega
    have HVZ : Hid (∀ j, j < l.length → (val_ l j).length ≤ 2000000) := by unfold Hid; intro j hj; have := kf_val l 1 hj; omega
    have hkb : kf l 1 l.length ≤ 2000000 := by omega
    have HKB := Lib.hid hkb
    have HES := Lib.hid (eqSh_same l)
    clear HV9 hl9 hkl hkf hkb
    go_wp2_with fail
    refine (toS_any A l c _ ((h.below hb1).more hb1.size) hl2 HVZ.out).mono ?_
    rintro e w2 ⟨H1, rfl, o1, d1, hb2⟩
    have hB2 : Below w.heap.size w w2 := hb1.trans (hb2.mono hb1.size)
    clear hb1 hb2 d1
    go_wp2_with fail
    refine (repairS_any size need number _ l.length l _ o1.shl hl2 HVZ.out).mono ?_
    rintro e w3 ⟨x, out, ok, Aw, cw, rfl, hj, hgw, ho12, hb3⟩
    obtain ⟨uw, hcw⟩ := RepPost.own hgw
    have HCW := Lib.hid hcw
    have hB3 : Below w.heap.size w w3 := hB2.trans (hb3.mono hB2.size)
    have HJ := Lib.hid hj
    have HEL := Lib.hid (sameB_rf x out)
    have HWL := Lib.hid uw.lt
    clear o1 hb3 hj hgw hcw
    obtain ⟨V3, hV3⟩ : ∃ V, V = w3.alloc (.cells #[.int .i64 x, .slice Aw out.length cw] 30) := ⟨_, rfl⟩
    have b3 : Bx V3 w3.heap.size x Aw out.length cw := by rw [hV3]; exact Bx.mk _ _ _ _ _
    have hA3 : Below w3.heap.size w3 V3 := by rw [hV3]; exact (Below.refl _ _).alloc (Nat.le_refl _) _
    have uv := uw.below hA3
    have hC3 : Below w.heap.size w V3 := hB3.trans (hA3.mono hB3.size)
    have hs3 : w3.heap.size < V3.heap.size := b3.lt
    go_wp2_with fail
    rw [← hV3]
    obtain ⟨P, hP⟩ : ∃ P, P = w3.heap.size := ⟨_, rfl⟩
    rw [← hP] at b3 hs3 HWL ⊢
    clear hV3 hP hA3 hB3 uw w3
    refine (toS_any A l c _ ((h.below hC3).more hC3.size) hl2 HVZ.out).mono ?_
    rintro e w4 ⟨HX, rfl, ox, dx, hb4⟩
    have hB4 : Below w.heap.size w w4 := hC3.trans (hb4.mono hC3.size)
    have uw4 := uv.below hb4
    have hgx : w.heap.size ≤ V3.heap.size := hC3.size
    have HXB : Hid (∀ j, j < l.length → V3.heap.size ≤ (HX j).1 ∧ (HX j).1 < w4.heap.size) := by unfold Hid; intro j hj; exact ⟨(ox.at_ hj).2.2.1, (ox.at_ hj).2.2.2.2.1⟩
    have hgxl := ox.parts.2.1
    have HDX := Lib.hid dx
    have b4 := b3.below hb4
    have ox4 := OwnS.base ox hgx
    obtain ⟨gx, hgxe⟩ : ∃ gx, gx = V3.heap.size := ⟨_, rfl⟩
    rw [← hgxe] at ox4 hgx hgxl HXB hs3 ⊢
    clear hgxe uv ox dx hb4 hC3 hB2 b3
    go_wp2_with fail
    refine (repairF_any size need number _ l.length l _ ox4.shl hl2 HVZ.out).mono ?_
    rintro e w5 ⟨x', out', ok', Ag, cg, rfl, hj', hgg, hog, hb5⟩
    obtain ⟨ug, hcg⟩ := RepPost.own hgg
    obtain ⟨e0, e1, e2⟩ := RepIs.one hj' HJ.out
    rw [e1] at ug ⊢
    rw [e0, e2]
    clear hj' e0 e1 e2 out' ok' hgg hog
    have HCG := Lib.hid hcg
    have hB5 : Below w.heap.size w w5 := hB4.trans (hb5.mono hB4.size)
    have uw5 := uw4.below hb5
    have ox5 := ox4.below hb5
    have HG4 : Hid (∀ q, Ag = some ⟨q, 0, none⟩ → w4.heap.size ≤ q) := by unfold Hid; exact fun q hq => (ug.lt q hq).1
    have b5 := b4.below hb5
    have hn45 := hb5.size
    have HGL : Hid (∀ q, Ag = some ⟨q, 0, none⟩ → q < w5.heap.size) := by unfold Hid; exact fun q hq => (ug.lt q hq).2
    have hg4 : w.heap.size ≤ w4.heap.size := hB4.size
    have hg43 : gx ≤ w4.heap.size := by omega
    obtain ⟨N4, hN4⟩ : ∃ N, N = w4.heap.size := ⟨_, rfl⟩
    rw [← hN4] at HG4 hg4 hg43 hgxl HXB ug hn45
    obtain ⟨V5, hV5⟩ : ∃ V, V = w5.alloc (.cells #[.int .i64 x, .slice Ag out.length cg] 30) := ⟨_, rfl⟩
    have g5 : Bx V5 w5.heap.size x Ag out.length cg := by rw [hV5]; exact Bx.mk _ _ _ _ _
    have hA5 : Below w5.heap.size w5 V5 := by rw [hV5]; exact (Below.refl _ _).alloc (Nat.le_refl _) _
    have c5 := b5.below hA5
    have ov5 := ox5.below hA5
    have uwv := uw5.below hA5
    have ugv := ug.below hA5
    have hC5 : Below w.heap.size w V5 := hB5.trans (hA5.mono hB5.size)
    have HWV := Lib.hid hV5
    obtain ⟨G, hG⟩ : ∃ G, G = w5.heap.size := ⟨_, rfl⟩
    rw [← hG] at g5 hn45 HGL
    have HGG := Lib.hid hG
    obtain ⟨m0, m1, m2, m3⟩ := box2 c5
    obtain ⟨n0, n1, n2, n3⟩ := box2 g5
    rw [HWV.out] at m0 m1 n0 n1
    rw [HGG.out] at n0 n1
    clear hb5 hB4 uw4 ox4 hcg hN4 b4 b5 uw5 ox5 ug hA5 hB5 hV5 hG m2 m3 n2 n3
    go_wp2_with fail
    rw [← HGG.out, ← HWV.out]
    clear HGG HWV
    refine (eqShard_any x x Ag Aw out out cg cw _ ugv.sl uwv.sl (by omega) (by omega)).mono ?_
    rintro e w6 ⟨rfl, hb6⟩
    rw [HEL.out]
    have hB6 : Below w.heap.size w w6 := hC5.trans (hb6.mono hC5.size)
    have ox6 := ov5.below hb6
    have uw6 := uwv.below hb6
    have ug6 := ugv.below hb6
    have b6 := c5.below hb6
    have g6 := g5.below hb6
    clear ov5 uwv ugv hC5 hb6 c5 g5 m0 m1 n0 n1
    go_wp2_with fail
    refine (toS_any A l c _ ((h.below hB6).more hB6.size) hl2 HVZ.out).mono ?_
    rintro e w7 ⟨H7, rfl, o7, d7, hb7⟩
    have hB7 : Below w.heap.size w w7 := hB6.trans (hb7.mono hB6.size)
    have ox7 := ox6.below hb7
    have uw7 := uw6.below hb7
    have ug7 := ug6.below hb7
    have b7 := b6.below hb7
    have g7 := g6.below hb7
    clear b6 g6
    clear hb7 hB6 ox6 uw6 ug6 d7
    go_wp2_with fail
    refine (eqShardS_any (some ⟨gx, 0, none⟩) _ l l l.length l.length _ ox7.shl o7.shl hl2 hl2 HVZ.out HVZ.out).mono ?_
    rintro e w8 ⟨rfl, hb8⟩
    rw [HES.out]
    have hB8 : Below w.heap.size w w8 := hB7.trans (hb8.mono hB7.size)
    have ox8 := ox7.below hb8
    have uw8 := uw7.below hb8
    have ug8 := ug7.below hb8
    have b8 := b7.below hb8
    have g8 := g7.below hb8
    clear b7 g7
    clear hb8 hB7 ox7 uw7 ug7 o7
    go_wp2_with fail
    refine (markS_any w.heap.size gx l.length 1 l HX _ ox8 HDX.out HKB.out hl2).mono ?_
    rintro e w9 ⟨lm, hlm, hlen, hmk, rfl, ox9, ht9⟩
    have hB9 : Below w.heap.size w w9 := hB8.trans (ht9.below hB8.size (fun q hq => by
      rcases hq with rfl | ⟨j, hj, rfl⟩
      · omega
      · have := HXB.out j hj; omega))
    have uw9 := uw8.tch ht9 (fun q hq hs => by
      have := HWL.out q hq
      rcases hs with e | ⟨j, hj, e⟩
      · omega
      · have := HXB.out j hj; omega)
    have ug9 := ug8.tch ht9 (fun q hq hs => by
      have := HG4.out q hq
      rcases hs with e | ⟨j, hj, e⟩
      · omega
      · have := HXB.out j hj; omega)
    have b9 := b8.tch ht9 (fun hs => by
      rcases hs with e | ⟨j, hj, e⟩
      · omega
      · have := HXB.out j hj; omega)
    have g9 := g8.tch ht9 (fun hs => by
      rcases hs with e | ⟨j, hj, e⟩
      · omega
      · have := HXB.out j hj; omega)
    obtain ⟨m0, m1, m2, m3⟩ := box2 b9
    obtain ⟨n0, n1, n2, n3⟩ := box2 g9
    clear hlm hlen hmk ox9 ox8 ht9 hB8 uw8 ug8 lm b8 g8
    have hkm : (0 : Int) ≤ ((kf l 1 l.length : Nat) : Int) := by omega
    obtain ⟨mv, hmv⟩ : ∃ mv : Int, mv = ((kf l 1 l.length : Nat) : Int) := ⟨_, rfl⟩
    rw [← hmv] at hkm ⊢
    have t1 : decide (mv < 0) = false := by simp only [decide_eq_false_iff_not]; omega
    have t1' : ¬ mv < 0 := by omega
    clear hmv
    go_wp2_with fail
    refine (eqShard_any x x Ag Aw out out cg cw _ ug9.sl uw9.sl (by omega) (by omega)).mono ?_
    rintro e w10 ⟨rfl, hb10⟩
    rw [HEL.out]
    have hB10 : Below w.heap.size w w10 := hB9.trans (hb10.mono hB9.size)
    have uw10 := uw9.below hb10
    have ug10 := ug9.below hb10
    have b10 := b9.below hb10
    have g10 := g9.below hb10
    clear uw9 ug9 hB9 hb10 b9 g9 m0 m1 m2 m3 n0 n1 n2 n3
    obtain ⟨n0, n1, n2, n3⟩ := box2 g10
    go_wp2_with fail
    refine (markSh_any x N4 cg 1 Ag out _ ug10 HCG.out (by omega) (by omega)).mono ?_
    rintro e w11 ⟨rfl, ug11, ht11⟩
    have hB11 : Below w.heap.size w w11 := hB10.trans (ht11.below hB10.size (fun q hq => by have := HG4.out q hq; omega))
    have uw11 := uw10.tch ht11 (fun q hq hs => by have h1 := HWL.out q hq; have h2 := HG4.out q hs; omega)
    have b11 := b10.tch ht11 (fun hs => by have := HG4.out _ hs; omega)
    have g11 := g10.tch ht11 (fun hs => by have := HGL.out _ hs; omega)
    clear ht11 uw10 ug10 hB10 b10 g10 n0 n1 n2 n3
    obtain ⟨n0, n1, n2, n3⟩ := box2 g11
    have HH : Hid (∀ W, Own1 W N4 Ag (marks 1 out.length) → Calls Try.prog 29 #[.agg #[.int .i64 x, .slice Ag out.length cg], .int .i64 1] W fun e w' => e = .returned (.int .i64 ((1 + out.length : Nat) : Int)) ∧ Below W.heap.size W w') := by
      unfold Hid; intro W hW
      exact heldSh_any x N4 cg 1 Ag out.length W hW HCG.out (by omega) (by omega)
    have hk2 : (0 : Int) ≤ ((1 + out.length : Nat) : Int) := by omega
    obtain ⟨mk, hmk⟩ : ∃ mk : Int, mk = ((1 + out.length : Nat) : Int) := ⟨_, rfl⟩
    rw [← hmk] at hk2 HH ⊢
    have t2 : decide (mk < 0) = false := by simp only [decide_eq_false_iff_not]; omega
    have t2' : ¬ mk < 0 := by omega
    have t3 : (mk != mk) = false := by simp
    clear hmk
    go_wp2_with fail
    refine (HH.out _ ug11).mono ?_
    rintro e w12 ⟨rfl, hb12⟩
    have hB12 : Below w.heap.size w w12 := hB11.trans (hb12.mono hB11.size)
    have uw12 := uw11.below hb12
    have ug12 := ug11.below hb12
    have b12 := b11.below hb12
    have g12 := g11.below hb12
    clear hb12 hB11 uw11 ug11 b11 g11 n0 n1 n2 n3
    go_wp2_with fail
    refine (toS_any A l c _ ((h.below hB12).more hB12.size) hl2 HVZ.out).mono ?_
    rintro e w13 ⟨H13, rfl, o13, d13, hb13⟩
    have hB13 : Below w.heap.size w w13 := hB12.trans (hb13.mono hB12.size)
    have uw13 := uw12.below hb13
    have ug13 := ug12.below hb13
    have b13 := b12.below hb13
    have g13 := g12.below hb13
    clear b12 g12 hb13 hB12 uw12 ug12 d13
    go_wp2_with fail
    refine (repairF_any size need number _ l.length l _ o13.shl hl2 HVZ.out).mono ?_
    rintro e w14 ⟨xh, out', ok', Ah, ch, rfl, hj', hgh, hoh, hb14⟩
    obtain ⟨uh, hch⟩ := RepPost.own hgh
    obtain ⟨e0, e1, e2⟩ := RepIs.one hj' HJ.out
    rw [e1] at uh ⊢
    rw [e0, e2]
    clear hj' e0 e1 e2 out' ok' hgh hoh hch
    have hB14 : Below w.heap.size w w14 := hB13.trans (hb14.mono hB13.size)
    have uw14 := uw13.below hb14
    have ug14 := ug13.below hb14
    have b14 := b13.below hb14
    have g14 := g13.below hb14
    obtain ⟨V, hV⟩ : ∃ V, V = w14.alloc (.cells #[.int .i64 x, .slice Ah out.length ch] 30) := ⟨_, rfl⟩
    have h15 : Bx V w14.heap.size x Ah out.length ch := by rw [hV]; exact Bx.mk _ _ _ _ _
    have hA15 : Below w14.heap.size w14 V := by rw [hV]; exact (Below.refl _ _).alloc (Nat.le_refl _) _
    have b15 := b14.below hA15
    have g15 := g14.below hA15
    have uw15 := uw14.below hA15
    have ug15 := ug14.below hA15
    have uh15 := uh.below hA15
    have hC15 : Below w.heap.size w V := hB14.trans (hA15.mono hB14.size)
    have HWV := Lib.hid hV
    obtain ⟨H, hH⟩ : ∃ H, H = w14.heap.size := ⟨_, rfl⟩
    rw [← hH] at h15
    have HHH := Lib.hid hH
    obtain ⟨m0, m1, m2, m3⟩ := box2 b15
    obtain ⟨n0, n1, n2, n3⟩ := box2 h15
    clear hb14 hB13 uw13 ug13 o13 b13 g13 b14 g14 uw14 ug14 uh hA15 hB14 hV hH m2 m3 n2 n3
    rw [HWV.out] at m0 m1 n0 n1
    rw [HHH.out] at n0 n1
    go_wp2_with fail
    rw [← HHH.out, ← HWV.out]
    clear HHH HWV
    refine (eqShard_any x x Ah Aw out out ch cw _ uh15.sl uw15.sl (by omega) (by omega)).mono ?_
    rintro e w16 ⟨rfl, hb16⟩
    rw [HEL.out]
    have hB16 : Below w.heap.size w w16 := hC15.trans (hb16.mono hC15.size)
    have ug16 := ug15.below hb16
    have g16 := g15.below hb16
    clear uw15 ug15 hC15 hb16 uh15 b15 g15 h15 m0 m1 n0 n1
    obtain ⟨n0, n1, n2, n3⟩ := box2 g16
    go_wp2_with fail
    refine (HH.out _ ug16).mono ?_
    rintro e w17 ⟨rfl, hb17⟩
    have hB17 : Below w.heap.size w w17 := hB16.trans (hb17.mono hB16.size)
    clear hB16 hb17 ug16 n0 n1 n2 n3
    go_wp2_with fail
    go_ret
    exact ⟨rfl, hB17⟩
end Go.Proofs.Ytfkmiflddpjllaa
