/- What is drawn for FnSlotsPrefix: two short lists of slots. Conditions: the code is a slice of bytes. -/
import Derived.Test.YtgfjaoajjcolcaaSlotsP
import Derived.Test.YtgfjaoajjcolcaaRd
import Derived.Maps.AppendAt
import Derived.OwnWalk
namespace Go.Proofs.Ytgfjaoajjcolcaa
open Go.RowKit
set_option linter.unusedVariables false
set_option linter.unusedSimpArgs false

def cells2 (l : List (Int × Int)) : List Value := l.flatMap fun p => [.int .i64 p.1, .int .i64 p.2]
theorem cells2_len (l : List (Int × Int)) : (cells2 l).length = l.length * 2 := by
  induction l with
  | nil => rfl
  | cons p t ih => simp only [cells2, List.flatMap_cons, List.length_append] at ih ⊢; simp [ih]; omega
theorem cells2_get (l : List (Int × Int)) : ∀ j, j < l.length → (cells2 l)[j * 2]? = some (.int .i64 (fst_ l j)) ∧ (cells2 l)[j * 2 + 1]? = some (.int .i64 (snd_ l j)) := by
  induction l with
  | nil => intro j hj; simp at hj
  | cons p t ih =>
    intro j hj
    match j with
    | 0 => simp [cells2, fst_, snd_]
    | j + 1 =>
      have := ih j (by simpa using hj)
      have e1 : (j + 1) * 2 = j * 2 + 2 := by omega
      simpa [cells2, fst_, snd_, e1] using this
theorem cells2_snoc (l : List (Int × Int)) (p : Int × Int) : cells2 (l ++ [p]) = cells2 l ++ [.int .i64 p.1, .int .i64 p.2] := by simp [cells2]
theorem Pl.of_own {w : World} {base : Nat} {t : TypeId} {A : Option Addr} {c : Nat} {l : List (Int × Int)} (h : w.ownsRow base t 2 (.slice A l.length c) l.length (cells2 l)) : Pl w w.heap.size A l := fun hl => by
  have hpos : 0 < l.length := List.length_pos_iff.2 hl
  rcases h.2 with ⟨h1, h2⟩ | ⟨g, cap, cur, h1, hg, hh, _⟩
  · omega
  · have hA : A = some ⟨g, 0, none⟩ := by injection h1
    subst hA
    have hc := h.cells (g := g) rfl
    refine ⟨g, 0, rfl, (Array.getElem?_eq_some_iff.1 hh).1, fun j hj => ?_⟩
    have := cells2_get l j hj
    have e1 := hc _ _ this.1
    have e2 := hc _ _ this.2
    refine ⟨?_, by simpa [Addr.add] using e2⟩
    by_cases hz : j = 0
    · subst hz; simpa [Addr.add] using e1
    · simpa [Addr.add, show ¬ j * 2 = 0 by omega] using e1

theorem own_ne {w : World} {base g : Nat} {e t : TypeId} {size n : Nat} {v : Value} {xs : List Value} {cs : Array Value} (h : w.ownsRow base e size v n xs) (hg : w.heap[g]? = some (.cells cs t (0, 0))) (hne : e ≠ t) : v.ownBlock ≠ some g := by
  rcases h.2 with ⟨rfl, _⟩ | ⟨g', cap, cur, rfl, _, hh, _⟩
  · simp [Value.ownBlock]
  · intro he
    have : g' = g := by simpa [Value.ownBlock] using he
    subst this
    rw [hg] at hh
    injection hh with hh
    injection hh with _ ht
    exact hne ht.symm
theorem RdAt.grown {w w' : World} {B g p : Nat} {row : Option Nat} (h : RdAt w B g p) (hg : w.grownBy w' row) (hr : row ≠ some g) (hB : ∀ k, row = some k → B ≤ k) : RdAt w' B g p := by
  have hlt := h.lt
  obtain ⟨hB0, A, n, c, zs, hh, hi⟩ := h
  refine ⟨hB0, A, n, c, zs, (hg.block g hlt (fun e => hr e.symm)).trans hh, hi.below ⟨hg.os, hg.tape, hg.output, hg.size, fun k hk => hg.block k (by omega) (fun e => by have := hB k e.symm; omega)⟩⟩

theorem own_some {w : World} {base : Nat} {e : TypeId} {size n : Nat} {v : Value} {xs : List Value} (h : w.ownsRow base e size v n xs) (hne : v ≠ .slice none 0 0) :
    ∃ g c, v = .slice (some ⟨g, 0, none⟩) n c ∧ base ≤ g ∧ g < w.heap.size ∧ n ≤ c ∧ c ≤ maxLen := by
  rcases h.2 with ⟨h1, _⟩ | ⟨g, cap, cur, h1, hg, hh, hn, hm, _⟩
  · exact absurd h1 hne
  · exact ⟨g, cap, h1, hg, (Array.getElem?_eq_some_iff.1 hh).1, hn, hm⟩
theorem two_new (W : World) (b : Nat) (x y : Value) (t : TypeId) (hb : b = W.heap.size) : ∀ j u, [x, y][j]? = some u → (W.alloc (.cells #[x, y] t)).cell? ((⟨b, 0, none⟩ : Addr).add j) = some u := by
  subst hb
  intro j u hu
  have e := heap_alloc_new W (.cells #[x, y] t)
  match j with
  | 0 => simp at hu; subst hu; simp only [Addr.add, if_pos, World.cell?]; rw [e]; rfl
  | 1 => simp at hu; subst hu; simp only [Addr.add, World.cell?]; rw [if_neg (by decide)]; simp only []; rw [e]; rfl
  | j + 2 => simp at hu

theorem cells2_set (l : List (Int × Int)) (u : Nat) (y : Int) (hu : u < l.length) : (cells2 l).set (u * 2 + 1) (.int .i64 y) = cells2 (l.set u (fst_ l u, y)) := by
  induction l generalizing u with
  | nil => simp at hu
  | cons p t ih =>
    match u with
    | 0 => simp [cells2, fst_]
    | u + 1 =>
      have := ih u (by simpa using hu)
      have e1 : (u + 1) * 2 + 1 = u * 2 + 1 + 1 + 1 := by omega
      simp only [cells2, List.flatMap_cons, List.set_cons_succ, e1] at this ⊢
      simpa [fst_] using this
theorem Pl.of_own' {w : World} {base ga c : Nat} {t : TypeId} {l : List (Int × Int)} (h : w.ownsRow base t 2 (.slice (some ⟨ga, 0, none⟩) l.length c) l.length (cells2 l)) : Pl w w.heap.size (some ⟨ga, 0, none⟩) l ∧ l.length ≤ c ∧ c ≤ maxLen := by
  obtain ⟨g, c', e, _, _, h1, h2⟩ := own_some h (by simp)
  injection e with _ _ e3
  subst e3
  exact ⟨Pl.of_own h, h1, h2⟩

def TwoLists (w : World) (e : Ending) (w' : World) : Prop :=
  ∃ (ga ca gb cb : Nat) (l l' : List (Int × Int)), e = .returned (.tuple #[.slice (some ⟨ga, 0, none⟩) l.length ca, .slice (some ⟨gb, 0, none⟩) l'.length cb]) ∧ Pl w' w'.heap.size (some ⟨ga, 0, none⟩) l ∧ Pl w' w'.heap.size (some ⟨gb, 0, none⟩) l' ∧
    l.length ≤ 100 ∧ l'.length ≤ 100 ∧ l.length ≤ ca ∧ ca ≤ maxLen ∧ l'.length ≤ cb ∧ cb ≤ maxLen ∧ Below w.heap.size w w'

set_option maxHeartbeats 16000000 in
theorem drawSlots_any (A : Option Addr) (n c : Nat) (zs : List Int) (w : World) (h : Ints .u8 w w.heap.size A n c zs) :
    Calls Try.prog 39 #[.slice A n c] w (TwoLists w) := by
  obtain ⟨i0, hi, hz0, hz1, hz2⟩ := info_parts info_el
  go_enter Try.func39, Try.ntmps39
  go_wp2_with fail
  refine (open_any A n c zs _ h).mono ?_
  rintro e w1 ⟨rfl, hr1, hb1, hs1⟩
  go_wp2_with fail
  go_loopw [5, 6] (fun v i wr => ∃ (k p' ga ca : Nat) (l : List (Int × Int)), k ≤ 5 ∧ i = .int .i64 k ∧ v = .slice (some ⟨ga, 0, none⟩) l.length ca ∧ l.length ≤ k ∧ p' ≤ 3 * k ∧
      wr.ownsRow w.heap.size 61 2 (.slice (some ⟨ga, 0, none⟩) l.length ca) l.length (cells2 l) ∧ RdAt wr w.heap.size w.heap.size p' ∧ Below w.heap.size w wr ∧ ga ≠ w.heap.size) (fun _ i _ => 6 - (intOf i).toNat)
  case atStart =>
    exact ⟨0, 0, w.heap.size + 1, 0, [], by omega, rfl, rfl, by simp, by omega, by rw [← hs1]; exact World.ownsRow_made w1 #[] 0 (by omega) (by simp [maxLen]) (by simp), hr1.alloc _, hb1.alloc (by omega) _, by omega⟩
  case round =>
    obtain ⟨k, p', ga, ca, l, hk, rfl, rfl, hlk, hp', hown, hr, hb, hne⟩ := hrel
    go_wp2_with fail
    refine (pick_any 6 w.heap.size w.heap.size p' _ hr (by omega) (by omega)).mono ?_
    rintro e w2 ⟨v, rfl, hv0, hv1, hr2, hg2, hs2⟩
    have hown2 := hown.kept hg2 (.inr (by simp [Value.ownBlock]; omega))
    have hb2 : Below w.heap.size w w2 := hb.trans (grown_below hg2 (Nat.le_refl _) hb.size)
    by_cases hlt : (k : Int) < v
    · go_wp2_with fail
      refine (pick_any 3 w.heap.size w.heap.size (p' + 1) _ hr2 (by omega) (by omega)).mono ?_
      rintro e w3 ⟨x, rfl, hx0, hx1, hr3, hg3, hs3⟩
      have hown3 := hown2.kept hg3 (.inr (by simp [Value.ownBlock]; omega))
      have hb3 : Below w.heap.size w w3 := hb2.trans (grown_below hg3 (Nat.le_refl _) hb2.size)
      go_wp2_with fail
      refine (pick_any 3 w.heap.size w.heap.size (p' + 1 + 1) _ hr3 (by omega) (by omega)).mono ?_
      rintro e w4 ⟨y, rfl, hy0, hy1, hr4, hg4, hs4⟩
      have hown4 := hown3.kept hg4 (.inr (by simp [Value.ownBlock]; omega))
      have hb4 : Below w.heap.size w w4 := hb3.trans (grown_below hg4 (Nat.le_refl _) hb3.size)
      have hsz : wr.heap.size = w4.heap.size := by rw [hs4, hs3, hs2]
      have HZ := Lib.hid hsz
      clear hs2 hs3 hs4 hg2 hg3 hg4 hsz hr hr2 hr3 hown hown2 hown3 hb hb2 hb3
      go_wp2_with (at_builtin; refine wpList_append_own _ rfl _ _ 47 rfl w.heap.size 61 i0 (.agg #[.int .i64 0, .int .i64 0]) 2 16 Try.underlying47 hi hz0 hz1 hz2 rfl (by decide) _ _ _ rfl (hown4.alloc _) ⟨w4.heap.size, 0, none⟩ 1 1 [.int .i64 x, .int .i64 y] rfl rfl ?c1 ?c2 ?c3 ?c4 ?c5 ?_)
      case c1 => exact two_new w4 _ _ _ _ rfl
      case c2 => simp [Value.oneCell']
      case c3 => simp only [maxLen]; omega
      case c4 => omega
      case c5 => have := hb4.size; simp; omega
      intro v' w5 hown5 hg5 hnil
      obtain ⟨g5, c5, rfl, hb5, hlt5, hn5, hm5⟩ := own_some hown5 (by simp [hnil])
      have hr5 : RdAt w5 w.heap.size w.heap.size (p' + 1 + 1 + 1) := (hr4.alloc _).grown hg5 (by simp [Value.ownBlock]; omega) (fun kk e => (hown4.lt kk e).1)
      have hB5 : Below w.heap.size w w5 := (hb4.alloc (by have := hb4.size; omega) _).grown hg5 (by have := hb4.size; simp; omega) (fun kk e => (hown4.lt kk e).1)
      have hne5 : g5 ≠ w.heap.size := by
        intro e
        subst e
        obtain ⟨_, A5, n5, cc5, z5, hh5, _⟩ := hr5
        exact own_ne hown5 hh5 (by decide) rfl
      have hown6 : w5.ownsRow w.heap.size 61 2 (.slice (some ⟨g5, 0, none⟩) (l ++ [(x, y)]).length c5) (l ++ [(x, y)]).length (cells2 (l ++ [(x, y)])) := by
        rw [cells2_snoc]; simpa using hown5
      clear hown4 hown5 hg5 hnil hr4 hb4 HZ
      go_wp2_with fail
      exact ⟨⟨k + 1, p' + 1 + 1 + 1, g5, c5, l ++ [(x, y)], by omega, by go_num, by simp, by simp; omega, by omega, hown6, hr5, hB5, hne5⟩, by simp [intOf]; omega⟩
    · have hlv : decide ((k : Int) < v) = false := by simp; omega
      have hga : ga < w2.heap.size := (hown2.lt ga rfl).2
      have hgw : w.heap.size < w2.heap.size := hr2.lt
      have HZ2 := Lib.hid hs2
      clear hown hr hb hs2
      have hown0 : (w2.alloc (.cells #[] 61)).ownsRow w2.heap.size 61 2 (.slice (some ⟨w2.heap.size, 0, none⟩) 0 0) 0 [] := World.ownsRow_made w2 #[] 0 (Nat.le_refl _) (by simp [maxLen]) (by simp)
      go_wp2_with (at_builtin; refine wpList_append_own _ rfl _ _ 47 rfl w2.heap.size 61 i0 (.agg #[.int .i64 0, .int .i64 0]) 2 16 Try.underlying47 hi hz0 hz1 hz2 rfl (by decide) _ _ _ rfl hown0 ⟨ga, 0, none⟩ l.length ca (cells2 l) rfl (cells2_len l) ?d1 ?d2 ?d3 ?d4 ?d5 ?_)
      case d1 => exact (hown2.alloc _).cells rfl
      case d2 => intro u hu; simp only [cells2, List.mem_flatMap] at hu; obtain ⟨q, _, hq⟩ := hu; simp at hq; rcases hq with rfl | rfl <;> rfl
      case d3 => simp only [maxLen]; omega
      case d4 => omega
      case d5 => simp
      intro v3 w3 hown3 hg3 hnil3
      obtain ⟨g3, c3, rfl, hb3, hlt3, hn3, hm3⟩ := own_some hown3 (by simp [hnil3])
      have hownA3 := (hown2.alloc (.cells #[] 61)).kept hg3 (.inr (by simp [Value.ownBlock]; omega))
      have hr3 : RdAt w3 w.heap.size w.heap.size (p' + 1) := (hr2.alloc (.cells #[] 61)).grown hg3 (by simp [Value.ownBlock]; omega) (fun kk e => by simp [Value.ownBlock] at e; omega)
      have hB3 : Below w.heap.size w w3 := (hb2.alloc (by omega) (.cells #[] 61)).grown hg3 (by simp; omega) (fun kk e => by simp [Value.ownBlock] at e; omega)
      have hown3' : w3.ownsRow w2.heap.size 61 2 (.slice (some ⟨g3, 0, none⟩) l.length c3) l.length (cells2 l) := by simpa using hown3
      clear hown3 hg3 hnil3 hown0 hown2 hr2 hb2 hg2 HZ2
      obtain ⟨B2, hB2⟩ : ∃ B2, B2 = w2.heap.size := ⟨_, rfl⟩
      rw [← hB2] at hown3' hga hgw hb3
      have HB2 := Lib.hid hB2
      clear hB2
      go_wp2_with fail
      go_loopw [7, 8] (fun vb i wz => ∃ (kb pb gb cb : Nat) (lb : List (Int × Int)), kb ≤ 3 ∧ i = .int .i64 kb ∧ vb = .slice (some ⟨gb, 0, none⟩) lb.length cb ∧ lb.length ≤ 5 + kb ∧ pb ≤ 30 + 3 * kb ∧
        wz.ownsRow B2 61 2 (.slice (some ⟨gb, 0, none⟩) lb.length cb) lb.length (cells2 lb) ∧ wz.ownsRow w.heap.size 61 2 (.slice (some ⟨ga, 0, none⟩) l.length ca) l.length (cells2 l) ∧ RdAt wz w.heap.size w.heap.size pb ∧ Below w.heap.size w wz ∧ B2 ≤ wz.heap.size) (fun _ i _ => 4 - (intOf i).toNat)
      case atStart =>
        exact ⟨0, p' + 1, g3, c3, l, by omega, rfl, rfl, by omega, by omega, hown3', hownA3, hr3, hB3, by omega⟩
      case round =>
        obtain ⟨kb, pb, gb, cb, lb, hkb, rfl, rfl, hlb, hpb, hownb, howna, hrb, hbb, hBb⟩ := hrel
        obtain ⟨hgb, hgb2⟩ := hownb.lt gb rfl
        go_wp2_with fail
        refine (pick_any 4 w.heap.size w.heap.size pb _ hrb (by omega) (by omega)).mono ?_
        rintro e w4 ⟨v4, rfl, hv40, hv41, hr4, hg4, hs4⟩
        have hownb4 := hownb.kept hg4 (.inr (by simp [Value.ownBlock]; omega))
        have howna4 := howna.kept hg4 (.inr (by simp [Value.ownBlock]; omega))
        have hb4 : Below w.heap.size w w4 := hbb.trans (grown_below hg4 (Nat.le_refl _) hbb.size)
        by_cases hlt4 : (kb : Int) < v4
        · go_wp2_with fail
          refine (pick_any 3 w.heap.size w.heap.size (pb + 1) _ hr4 (by omega) (by omega)).mono ?_
          rintro e w5 ⟨x, rfl, hx0, hx1, hr5, hg5, hs5⟩
          have hownb5 := hownb4.kept hg5 (.inr (by simp [Value.ownBlock]; omega))
          have howna5 := howna4.kept hg5 (.inr (by simp [Value.ownBlock]; omega))
          have hb5 : Below w.heap.size w w5 := hb4.trans (grown_below hg5 (Nat.le_refl _) hb4.size)
          go_wp2_with fail
          refine (pick_any 3 w.heap.size w.heap.size (pb + 1 + 1) _ hr5 (by omega) (by omega)).mono ?_
          rintro e w6 ⟨y, rfl, hy0, hy1, hr6, hg6, hs6⟩
          have hownb6 := hownb5.kept hg6 (.inr (by simp [Value.ownBlock]; omega))
          have howna6 := howna5.kept hg6 (.inr (by simp [Value.ownBlock]; omega))
          have hb6 : Below w.heap.size w w6 := hb5.trans (grown_below hg6 (Nat.le_refl _) hb5.size)
          have hBb6 : B2 ≤ w6.heap.size := by omega
          clear hs4 hs5 hs6 hg4 hg5 hg6 hrb hr4 hr5 hownb hownb4 hownb5 howna howna4 howna5 hbb hb4 hb5
          go_wp2_with (at_builtin; refine wpList_append_own _ rfl _ _ 47 rfl B2 61 i0 (.agg #[.int .i64 0, .int .i64 0]) 2 16 Try.underlying47 hi hz0 hz1 hz2 rfl (by decide) _ _ _ rfl (hownb6.alloc _) ⟨w6.heap.size, 0, none⟩ 1 1 [.int .i64 x, .int .i64 y] rfl rfl ?f1 ?f2 ?f3 ?f4 ?f5 ?_)
          case f1 => exact two_new w6 _ _ _ _ rfl
          case f2 => simp [Value.oneCell']
          case f3 => simp only [maxLen]; omega
          case f4 => omega
          case f5 => simp; omega
          intro v7 w7 hown7 hg7 hnil7
          obtain ⟨g7, c7, rfl, hb7, hlt7, hn7, hm7⟩ := own_some hown7 (by simp [hnil7])
          have hr7 : RdAt w7 w.heap.size w.heap.size (pb + 1 + 1 + 1) := (hr6.alloc _).grown hg7 (by simp [Value.ownBlock]; omega) (fun kk e => by simp [Value.ownBlock] at e; omega)
          have hB7 : Below w.heap.size w w7 := (hb6.alloc (by omega) _).grown hg7 (by simp; omega) (fun kk e => by simp [Value.ownBlock] at e; omega)
          have howna7 := (howna6.alloc _).kept hg7 (.inr (by simp [Value.ownBlock]; omega))
          have hown8 : w7.ownsRow B2 61 2 (.slice (some ⟨g7, 0, none⟩) (lb ++ [(x, y)]).length c7) (lb ++ [(x, y)]).length (cells2 (lb ++ [(x, y)])) := by
            rw [cells2_snoc]; simpa using hown7
          clear hown7 hg7 hnil7 hr6 hb6 hownb6 howna6
          go_wp2_with fail
          exact ⟨⟨kb + 1, pb + 1 + 1 + 1, g7, c7, lb ++ [(x, y)], by omega, by go_num, by simp, by simp; omega, by omega, hown8, howna7, hr7, hB7, by omega⟩, by simp [intOf]; omega⟩
        · have hlv4 : decide ((kb : Int) < v4) = false := by simp; omega
          go_wp2_with fail
          refine (pick_any 3 w.heap.size w.heap.size (pb + 1) _ hr4 (by omega) (by omega)).mono ?_
          rintro e w5 ⟨x, rfl, hx0, hx1, hr5, hg5, hs5⟩
          have hownb5 := hownb4.kept hg5 (.inr (by simp [Value.ownBlock]; omega))
          have howna5 := howna4.kept hg5 (.inr (by simp [Value.ownBlock]; omega))
          have hb5 : Below w.heap.size w w5 := hb4.trans (grown_below hg5 (Nat.le_refl _) hb4.size)
          have fin : ∀ (W : World) (q : Nat) (lb' : List (Int × Int)), lb'.length = lb.length → W.ownsRow B2 61 2 (.slice (some ⟨gb, 0, none⟩) lb.length cb) lb.length (cells2 lb') → W.ownsRow w.heap.size 61 2 (.slice (some ⟨ga, 0, none⟩) l.length ca) l.length (cells2 l) → Below w.heap.size w W →
              TwoLists w (.returned (.tuple #[.slice (some ⟨ga, 0, none⟩) l.length ca, .slice (some ⟨gb, 0, none⟩) lb.length cb])) W ∧ TwoLists w (.returned (.tuple #[.slice (some ⟨gb, 0, none⟩) lb.length cb, .slice (some ⟨ga, 0, none⟩) l.length ca])) W := by
            intro W q lb' hle h1 h2 h3
            rw [← hle] at h1 ⊢
            have k1 := Pl.of_own' h1
            have k2 := Pl.of_own' h2
            exact ⟨⟨ga, ca, gb, cb, l, lb', rfl, k2.1, k1.1, by omega, by omega, k2.2.1, k2.2.2, k1.2.1, k1.2.2, h3⟩, ⟨gb, cb, ga, ca, lb', l, rfl, k1.1, k2.1, by omega, by omega, k1.2.1, k1.2.2, k2.2.1, k2.2.2, h3⟩⟩
          have FIN := Lib.hid fin
          clear fin hs4 hg4 hg5 hrb hr4 hownb hownb4 howna howna4 hbb hb4
          by_cases hx : x = 0 ∧ 0 < lb.length
          · obtain ⟨rfl, hpos⟩ := hx
            go_wp2_with fail
            refine (pick_any lb.length w.heap.size w.heap.size (pb + 1 + 1) _ hr5 (by omega) (by omega)).mono ?_
            rintro e w6 ⟨u, rfl, hu0, hu1, hr6, hg6, hs6⟩
            obtain ⟨u, rfl⟩ := Int.eq_ofNat_of_zero_le hu0
            have hownb6 := hownb5.kept hg6 (.inr (by simp [Value.ownBlock]; omega))
            have howna6 := howna5.kept hg6 (.inr (by simp [Value.ownBlock]; omega))
            have hb6 : Below w.heap.size w w6 := hb5.trans (grown_below hg6 (Nat.le_refl _) hb5.size)
            go_wp2_with fail
            refine (pick_any 3 w.heap.size w.heap.size (pb + 1 + 1 + 1) _ hr6 (by omega) (by omega)).mono ?_
            rintro e w7 ⟨y, rfl, hy0, hy1, hr7, hg7, hs7⟩
            have hownb7 := hownb6.kept hg7 (.inr (by simp [Value.ownBlock]; omega))
            have howna7 := howna6.kept hg7 (.inr (by simp [Value.ownBlock]; omega))
            have hb7 : Below w.heap.size w w7 := hb6.trans (grown_below hg7 (Nat.le_refl _) hb6.size)
            have hul : u < lb.length := by omega
            have hcell := hownb7.cells (g := gb) rfl _ _ (cells2_get lb u hul).2
            have hcell' : w7.cell? ⟨gb, u * 2 + 1, none⟩ = some (.int .i64 (snd_ lb u)) := by simpa [Addr.add] using hcell
            have hfz : w7.frozen? ⟨gb, u * 2 + 1, none⟩ = false := by
              rcases hownb7.2 with ⟨h1, _⟩ | ⟨g', cap', cur, h1, _, hh, _⟩
              · simp at h1
              · have : gb = g' := by injection h1 with h1 _ _; injection h1 with h1; injection h1
                subst this
                simp [World.frozen?, hh]
            obtain ⟨hst, hgst⟩ := hownb7.stored (u * 2 + 1) (.int .i64 y)
            rw [cells2_set lb u y hul] at hst
            have hasT := howna7.kept hgst (.inr (by simp [Value.ownBlock]; omega))
            have hbst : Below w.heap.size w (w7.setCell ⟨gb, u * 2 + 1, none⟩ (.int .i64 y)) := hb7.setCell (p := ⟨gb, u * 2 + 1, none⟩) (by simp; omega) _
            have hrst : RdAt (w7.setCell ⟨gb, u * 2 + 1, none⟩ (.int .i64 y)) w.heap.size w.heap.size (pb + 1 + 1 + 1 + 1) := hr7.grown hgst (by simp; omega) (fun kk e => by simp at e; omega)
            clear hs5 hs6 hs7 hg6 hg7 hr5 hr6 hr7 hownb5 hownb6 howna5 howna6 hb5 hb6 hgst hownb7 howna7 hcell
            go_wp2_with fail
            refine (pick_any 4 w.heap.size w.heap.size (pb + 1 + 1 + 1 + 1) _ hrst (by omega) (by omega)).mono ?_
            rintro e w8 ⟨z, rfl, hz80, hz81, hr8, hg8, hs8⟩
            have hst8 := hst.kept hg8 (.inr (by simp [Value.ownBlock]; omega))
            have has8 := hasT.kept hg8 (.inr (by simp [Value.ownBlock]; omega))
            have hb8 : Below w.heap.size w w8 := hbst.trans (grown_below hg8 (Nat.le_refl _) hbst.size)
            have hF := FIN.out w8 0 _ (by simp) hst8 has8 hb8
            have HF := Lib.hid hF
            clear hF hst8 has8 hb8 hg8 hs8 hr8 hrst hst hasT hbst
            by_cases hz0' : z = 0
            · subst hz0'
              go_wp2_with fail
              go_ret2
              exact HF.out.2
            · have hzn : (z == 0) = false := by simpa using hz0'
              go_wp2_with fail
              go_ret2
              exact HF.out.1
          · have hF := fun W h1 h2 h3 => FIN.out W 0 lb rfl h1 h2 h3
            have HF := Lib.hid hF
            clear hF FIN
            by_cases hx0' : x = 0
            · subst hx0'
              have hlz : lb.length = 0 := by omega
              have hlz' : decide ((0 : Int) < lb.length) = false := by simp only [decide_eq_false_iff_not]; omega
              have hlz'' : decide (0 < lb.length) = false := by simp only [decide_eq_false_iff_not]; omega
              have HLZ := Lib.hid hlz
              clear hlz hx
              go_wp2_with fail
              refine (pick_any 4 w.heap.size w.heap.size (pb + 1 + 1) _ hr5 (by omega) (by omega)).mono ?_
              rintro e w8 ⟨z, rfl, hz80, hz81, hr8, hg8, hs8⟩
              have hst8 := hownb5.kept hg8 (.inr (by simp [Value.ownBlock]; omega))
              have has8 := howna5.kept hg8 (.inr (by simp [Value.ownBlock]; omega))
              have hb8 : Below w.heap.size w w8 := hb5.trans (grown_below hg8 (Nat.le_refl _) hb5.size)
              have HG := Lib.hid (HF.out w8 hst8 has8 hb8)
              clear HF hst8 has8 hb8 hg8 hs8 hr8 hownb5 howna5 hb5 hr5 hs5
              by_cases hz0' : z = 0
              · subst hz0'
                go_wp2_with fail
                go_ret2
                exact HG.out.2
              · have hzn : (z == 0) = false := by simpa using hz0'
                go_wp2_with fail
                go_ret2
                exact HG.out.1
            · have hxn : (x == 0) = false := by simpa using hx0'
              clear hx
              go_wp2_with fail
              refine (pick_any 4 w.heap.size w.heap.size (pb + 1 + 1) _ hr5 (by omega) (by omega)).mono ?_
              rintro e w8 ⟨z, rfl, hz80, hz81, hr8, hg8, hs8⟩
              have hst8 := hownb5.kept hg8 (.inr (by simp [Value.ownBlock]; omega))
              have has8 := howna5.kept hg8 (.inr (by simp [Value.ownBlock]; omega))
              have hb8 : Below w.heap.size w w8 := hb5.trans (grown_below hg8 (Nat.le_refl _) hb5.size)
              have HG := Lib.hid (HF.out w8 hst8 has8 hb8)
              clear HF hst8 has8 hb8 hg8 hs8 hr8 hownb5 howna5 hb5 hr5 hs5
              by_cases hz0' : z = 0
              · subst hz0'
                go_wp2_with fail
                go_ret2
                exact HG.out.2
              · have hzn : (z == 0) = false := by simpa using hz0'
                go_wp2_with fail
                go_ret2
                exact HG.out.1
end Go.Proofs.Ytgfjaoajjcolcaa
