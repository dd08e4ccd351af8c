/- What is drawn for the law of joined coins. Conditions: the code is a slice of bytes. -/
import Derived.Test.YthdbbllcckimbaaDraw
import Derived.Test.YthdbbllcckimbaaCoinQ
namespace Go.Proofs.Ythdbbllcckimbaa
open Go.RowKit
set_option linter.unusedVariables false
set_option linter.unusedSimpArgs false

theorem cells2_set0 (l : List (Int × Int)) (u : Nat) (y : Int) (hu : u < l.length) : (cells2 l).set (u * 2) (.int .i64 y) = cells2 (l.set u (y, snd_ l u)) := by
  induction l generalizing u with
  | nil => simp at hu
  | cons p t ih =>
    match u with
    | 0 => simp [cells2, snd_]
    | u + 1 =>
      have := ih u (by simpa using hu)
      have e1 : (u + 1) * 2 = u * 2 + 1 + 1 := by omega
      simp only [cells2, List.flatMap_cons, List.set_cons_succ, e1] at this ⊢
      simpa [snd_] using this
theorem OwnP.set0 {w : World} {B g c : Nat} {l : List (Int × Int)} (h : OwnP w B g c l) (k : Nat) (y : Int) (hk : k < l.length) : OwnP (w.setCell ⟨g, k * 2, none⟩ (.int .i64 y)) B g c (l.set k (y, snd_ l k)) := by
  unfold OwnP at h ⊢
  obtain ⟨h0, h⟩ := h
  refine ⟨by rw [cells2_len], ?_⟩
  rcases h with ⟨h1, _⟩ | ⟨g', cap, cur, h1, hg, hh, hn, hm, hs, ht⟩
  · simp at h1
  · simp only [Value.slice.injEq, Option.some.injEq, Addr.mk.injEq, and_true, true_and] at h1
    obtain ⟨rfl, rfl⟩ := h1
    refine .inr ⟨g, c, cur.setIfInBounds (k * 2) (.int .i64 y), by simp, hg, by simp [World.setCell, Array.getElem?_modify, hh], by simpa using hn, hm, by simpa using hs, ?_⟩
    rw [Array.toList_setIfInBounds, List.take_set, List.length_set, ht, cells2_set0 l k y hk]

/-- Reader gr at place p, own row g of pairs, own row gs of numbers, all else below as it was. -/
def DrQ (w0 : World) (gr p g c : Nat) (l : List (Int × Int)) (gs : Nat) (V : List Int) (w : World) : Prop :=
  RdAt w w0.heap.size gr p ∧ OwnP w w0.heap.size g c l ∧ g ≠ gr ∧ Below w0.heap.size w0 w ∧ Wr w gs V ∧ gs ≠ gr ∧ gs ≠ g
theorem DrQ.pick {w0 w : World} {gr p g c gs : Nat} {l : List (Int × Int)} {V : List Int} (h : DrQ w0 gr p g c l gs V w) (m : Int) (hp : p ≤ 1000000) (hm : 1 ≤ m) :
    Calls Try.prog 36 #[.pointer (some ⟨gr, 0, none⟩), .int .i64 m] w fun e w' => ∃ v : Int, e = .returned (.int .i64 v) ∧ 0 ≤ v ∧ v < m ∧ DrQ w0 gr (p + 1) g c l gs V w' := by
  obtain ⟨h1, h2, h3, h4, h5, h6, h7⟩ := h
  refine (pick_any m _ gr p w h1 hp hm).mono ?_
  rintro e w' ⟨v, rfl, hv0, hv1, hr, hg, hs⟩
  exact ⟨v, rfl, hv0, hv1, hr, h2.kept hg (fun e => h3 (by injection e with e; exact e.symm)), h3, h4.trans (grown_below hg h1.1 h4.size), h5.block (hg.block gs h5.lt (fun e => h6 (by injection e))), h6, h7⟩
theorem DrQ.grown {w0 w w' : World} {gr p g c g' c' gs : Nat} {l l' : List (Int × Int)} {V : List Int} (h : DrQ w0 gr p g c l gs V w) (ho : OwnP w' w0.heap.size g' c' l') (hg : w.grownBy w' (some g)) (hf : g' = g ∨ w.heap.size ≤ g') : DrQ w0 gr p g' c' l' gs V w' := by
  obtain ⟨h1, h2, h3, h4, h5, h6, h7⟩ := h
  have hge := h2.parts.1
  have hlt := h1.lt
  have hls := h5.lt
  exact ⟨h1.grown hg (fun e => h3 (by injection e)) (fun k e => by injection e with e; omega), ho, by rcases hf with e | e <;> omega, h4.grown hg h4.size (fun k e => by injection e with e; omega), h5.block (hg.block gs hls (fun e => h7 (by injection e))), h6, by rcases hf with e | e <;> omega⟩
def PartsDraw (w : World) (e : Ending) (w' : World) : Prop :=
  ∃ (g c : Nat) (l : List (Int × Int)) (need : Int), e = .returned (.tuple #[.int .i64 need, .slice (some ⟨g, 0, none⟩) l.length c]) ∧ Pl w' w'.heap.size (some ⟨g, 0, none⟩) l ∧ l.length ≤ 7 ∧ l.length ≤ c ∧ c ≤ maxLen ∧ Below w.heap.size w w'
theorem dealV_in (l : List Int) (many : Int) : allIn 0 250 (dealV l many) = true ∧ (dealV l many).length ≤ 7 := by
  unfold dealV
  split
  · rename_i h
    obtain ⟨p1, p2, p3, p4, p5⟩ := dealB_parts h
    exact ⟨shares_in _ _, by rw [shares_len]; omega⟩
  · exact ⟨rfl, by simp⟩
theorem cmakeS_any (s wave : Int) (w : World) (h0 : 0 ≤ s) (h1 : s ≤ 250) (h2 : 1 ≤ wave) (h3 : wave ≤ 15) :
    Calls Try.prog 57 #[.int .i64 s, .int .i64 wave] w fun e w' => e = .returned (.int .i64 (s * (7 * wave + 1) % 251)) ∧ w = w' := by
  have m0 : 0 ≤ s * (7 * wave + 1) := Int.mul_nonneg h0 (by omega)
  have m1 : s * (7 * wave + 1) ≤ 250 * 106 := Int.mul_le_mul h1 (by omega) (by omega) (by omega)
  go_enter Try.func57, Try.ntmps57
  go_wp2
  go_ret
  exact ⟨rfl, rfl⟩

set_option maxHeartbeats 4000000 in
theorem drawJoin_any (A : Option Addr) (n c : Nat) (zs : List Int) (w : World) (h : Ints .u8 w w.heap.size A n c zs) :
    Calls Try.prog 32 #[.slice A n c] w (PartsDraw w) := by
  go_enter Try.func32, Try.ntmps32
  go_wp2_with fail
  refine (open_any A n c zs _ h).mono ?_
  rintro e w1 ⟨rfl, hr1, hb1, hs1⟩
  have hd := Dr.start hr1 hb1 hs1
  have HS := Lib.hid hs1
  have hs1' : w1.heap.size = w.heap.size + 1 := hs1
  clear hr1 hb1 hs1
  go_wp2_with fail
  go_loopw [5, 6] (fun v i wr => ∃ (k p g c : Nat) (l : List Int), k ≤ 4 ∧ i = .int .i64 k ∧ l.length = k ∧ v = .slice (some ⟨g, 0, none⟩) l.length c ∧ p ≤ 2 * k ∧ Dr w w.heap.size p g c l wr) (fun _ i _ => 5 - (intOf i).toNat)
  case atStart => exact ⟨0, 0, w.heap.size + 1, 0, [], by omega, rfl, rfl, by simp, by omega, hd⟩
  case round =>
    clear hd hs1'
    obtain ⟨k, p, g, c, l, hk, rfl, hlk, rfl, hp, hd⟩ := hrel
    have HLK := Lib.hid hlk
    clear hlk
    go_wp2_with fail
    refine (hd.pick 4 (by omega) (by omega)).mono ?_
    clear hd
    rintro e w2 ⟨v, rfl, hv0, hv1, hd⟩
    by_cases hlt : (k : Int) < 1 + v
    · go_wp2_with fail
      refine (hd.pick 251 (by omega) (by omega)).mono ?_
      clear hd
      rintro e w3 ⟨y, rfl, hy0, hy1, hd⟩
      have hl5 : l.length ≤ 5 := by have := HLK.out; omega
      go_wp2_with (at_builtin; refine wpList_one rfl _ _ rfl w.heap.size g c l (l ++ [y]) y rfl rfl _ rfl (by simp) hd.2.1 (by omega) hd.2.2.2.size ?_)
      intro g' c' w4 ho hg hf
      have hd' := hd.grown ho hg hf
      clear hd ho hg hf
      go_wp2_with fail
      exact ⟨⟨k + 1, p + 1 + 1, g', c', l ++ [y], by omega, by go_num, by simp; exact HLK.out, by simp, by omega, hd'⟩, by simp [intOf]; omega⟩
    · have hlt' : decide ((k : Int) < 1 + v) = false := by simp; omega
      have hl5 : l.length ≤ 5 := by have := HLK.out; omega
      have ul := hd.2.1.parts.2.2.2.2
      have hgr1 := hd.1
      have hgb := hd.2.2.2
      clear hd
      go_wp2_with fail
      refine (dealS_any (some ⟨g, 0, none⟩) c l 7 _ ul.sl' (by omega)).mono ?_
      rintro e w3 ⟨gs, cs, hgs, rfl, us, hcs, hcsm, hb3⟩
      obtain ⟨hvr, hvl⟩ := dealV_in l 7
      obtain ⟨V, hV⟩ : ∃ V, V = dealV l 7 := ⟨_, rfl⟩
      rw [← hV] at us hcs hvr hvl ⊢
      have HVR := Lib.hid hvr
      have hr3 := hgr1.below hb3 hgr1.lt
      have hB3 : Below w.heap.size w w3 := hgb.trans (hb3.mono hgb.size)
      have hgn : gs ≠ w.heap.size := by have := hgr1.lt; omega
      have hgrl := hgr1.lt
      clear hV hvr hgr1 hgb hb3 ul
      go_wp2_with fail
      refine (pick_any 6 _ _ _ _ hr3 (by omega) (by omega)).mono ?_
      rintro e w4 ⟨wv, rfl, hw0, hw1, hr4, hg4, hs4⟩
      have hB4 : Below w.heap.size w w4 := hB3.trans (grown_below hg4 (Nat.le_refl _) hB3.size)
      have us4 : Wr w4 gs V := us.block (hg4.block gs us.lt (fun e => hgn (by injection e)))
      have hgs4 := us4.lt
      clear hr3 hB3 hg4 us hgs
      have hq : DrQ w w.heap.size (p + 1 + 1) w3.heap.size 0 [] gs V (w4.alloc (.cells #[] 47)) := by
        rw [← hs4]; exact ⟨hr4.alloc _, OwnP.made w4 _ hB4.size, by have := hr4.lt; omega, hB4.alloc hB4.size _, us4.block (Below.heap_alloc _ _ _ us4.lt), hgn, by omega⟩
      clear hr4 hB4 us4
      go_wp2_with fail
      go_loopw [9, 10] (fun v i wr => ∃ (j p g c : Nat) (ps : List (Int × Int)), j ≤ V.length ∧ i = .int .i64 j ∧ ps.length ≤ j ∧ v = .slice (some ⟨g, 0, none⟩) ps.length c ∧ p ≤ 100 + j ∧ DrQ w w.heap.size p g c ps gs V wr) (fun _ i _ => V.length - (intOf i).toNat)
      case atStart => exact ⟨0, p + 1 + 1, w3.heap.size, 0, [], Nat.zero_le _, rfl, Nat.le_refl _, rfl, by omega, hq⟩
      case round =>
        clear hq hgs4
        obtain ⟨j, p, g, c, ps, hj, rfl, hpl, rfl, hp, hd⟩ := hrel
        by_cases hlj : j < V.length
        · go_wp2_with fail
          refine (hd.pick 3 (by omega) (by omega)).mono ?_
          clear hd
          rintro e w5 ⟨y, rfl, hy0, hy1, hd⟩
          by_cases hy : 0 < y
          · have hcv := hd.2.2.2.2.1.cell hlj
            obtain ⟨s0, s1⟩ := allIn_get HVR.out hlj
            obtain ⟨ps', hps'⟩ : ∃ x, x = ps ++ [((j : Int), nth V j * (7 * (1 + wv) + 1) % 251)] := ⟨_, rfl⟩
            have HPS := Lib.hid hps'.symm
            have hpl' : ps'.length ≤ j + 1 := by rw [hps']; simp; omega
            clear hps'
            go_wp2_with (first
              | (go_at_call 57; refine (cmakeS_any (nth V j) (1 + wv) _ s0 s1 (by omega) (by omega)).mono ?_; rintro e w1 ⟨rfl, rfl⟩)
              | (at_builtin; refine wpList_two rfl _ _ rfl w.heap.size g c ps ps' _ _ HPS.out rfl _ rfl (by simp) hd.2.1 (by omega) hd.2.2.2.1.size ?_))
            intro g' c' w6 ho hg hf
            have hd' := hd.grown ho hg hf
            clear hd ho hg hf hcv
            go_wp2_with fail
            exact ⟨⟨j + 1, p + 1, g', c', ps', by omega, by go_num, hpl', rfl, by omega, hd'⟩, by simp [intOf]; omega⟩
          · have hy' : decide (0 < y) = false := by simp; omega
            go_wp2_with fail
            exact ⟨⟨j + 1, p + 1, g, c, ps, by omega, by go_num, by omega, rfl, by omega, hd⟩, by simp [intOf]; omega⟩
        · obtain rfl : j = V.length := by omega
          have HPL := Lib.hid hpl
          have hp7 : ps.length ≤ 7 := by omega
          clear hpl
          by_cases h0 : ps.length = 0
          · have t0 : decide (0 < ps.length) = false := by simp only [decide_eq_false_iff_not]; omega
            have t0' : decide ((0 : Int) < (ps.length : Int)) = false := by simp only [decide_eq_false_iff_not]; omega
            go_wp2_with fail
            go_ret2
            obtain ⟨_, ho, _, hB, _⟩ := hd
            obtain ⟨q1, q2, q3, q4, q5⟩ := ho.parts
            exact ⟨g, c, ps, _, rfl, q5, hp7, q3, q4, hB⟩
          · have t0 : decide (0 < ps.length) = true := by simp only [decide_eq_true_eq]; omega
            have t0' : decide ((0 : Int) < (ps.length : Int)) = true := by simp only [decide_eq_true_eq]; omega
            go_wp2_with fail
            refine (hd.pick (ps.length : Int) (by omega) (by omega)).mono ?_
            clear hd
            rintro e w5 ⟨kk, rfl, hk0, hk1, hd⟩
            obtain ⟨u, rfl⟩ := Int.eq_ofNat_of_zero_le hk0
            have hu : u < ps.length := by omega
            go_wp2_with fail
            refine (hd.pick 12 (by omega) (by omega)).mono ?_
            clear hd
            rintro e w6 ⟨sw, rfl, hs0, hs1, hd⟩
            by_cases e0 : sw = 0
            · subst e0
              go_wp2_with fail
              refine (hd.pick 252 (by omega) (by omega)).mono ?_
              clear hd
              rintro e w7 ⟨y, rfl, hy0, hy1, hd⟩
              obtain ⟨_, ho, _, hB, _⟩ := hd
              obtain ⟨q1, q2, q3, q4, q5⟩ := ho.parts
              have hfz := ho.frozen (u * 2 + 1)
              have hst := ho.set u y hu
              obtain ⟨b9, off9, e9, _, hk1c, hk2c⟩ := q5.at_ hu
              simp only [Option.some.injEq, Addr.mk.injEq, and_true] at e9
              obtain ⟨rfl, rfl⟩ := e9
              rw [Nat.zero_add] at hk1c hk2c
              have hB7 : Below w.heap.size w (w7.setCell ⟨g, u * 2 + 1, none⟩ (.int .i64 y)) := hB.setCell (p := ⟨g, u * 2 + 1, none⟩) q1 _
              clear ho hB q5
              go_wp2_with fail
              go_ret2
              obtain ⟨r1, r2, r3, r4, r5⟩ := hst.parts
              have hln : (ps.set u (fst_ ps u, y)).length = ps.length := by simp
              exact ⟨g, c, ps.set u (fst_ ps u, y), _, by rw [hln]; rfl, r5, by omega, r3, r4, hB7⟩
            · have t1 : (sw == 0) = false := by simpa using e0
              by_cases e1 : sw = 1
              · subst e1
                go_wp2_with fail
                refine (hd.pick 9 (by omega) (by omega)).mono ?_
                clear hd
                rintro e w7 ⟨y, rfl, hy0, hy1, hd⟩
                obtain ⟨_, ho, _, hB, _⟩ := hd
                obtain ⟨q1, q2, q3, q4, q5⟩ := ho.parts
                have hfz := ho.frozen (u * 2)
                have hst := ho.set0 u (y - 1) hu
                obtain ⟨b9, off9, e9, _, hk1c, hk2c⟩ := q5.at_ hu
                simp only [Option.some.injEq, Addr.mk.injEq, and_true] at e9
                obtain ⟨rfl, rfl⟩ := e9
                rw [Nat.zero_add] at hk1c hk2c
                have hB7 : Below w.heap.size w (w7.setCell ⟨g, u * 2, none⟩ (.int .i64 (y - 1))) := hB.setCell (p := ⟨g, u * 2, none⟩) q1 _
                clear ho hB q5
                go_wp2_with fail
                go_ret2
                obtain ⟨r1, r2, r3, r4, r5⟩ := hst.parts
                have hln : (ps.set u (y - 1, snd_ ps u)).length = ps.length := by simp
                exact ⟨g, c, ps.set u (y - 1, snd_ ps u), _, by rw [hln]; rfl, r5, by omega, r3, r4, hB7⟩
              · have t2 : (sw == 1) = false := by simpa using e1
                by_cases e2 : sw = 2
                · subst e2
                  go_wp2_with fail
                  refine (hd.pick 3 (by omega) (by omega)).mono ?_
                  clear hd
                  rintro e w7 ⟨y, rfl, hy0, hy1, hd⟩
                  obtain ⟨_, ho, _, hB, _⟩ := hd
                  obtain ⟨q1, q2, q3, q4, q5⟩ := ho.parts
                  clear ho
                  go_wp2_with fail
                  go_ret2
                  exact ⟨g, c, ps, _, rfl, q5, hp7, q3, q4, hB⟩
                · have t3 : (sw == 2) = false := by simpa using e2
                  obtain ⟨_, ho, _, hB, _⟩ := hd
                  obtain ⟨q1, q2, q3, q4, q5⟩ := ho.parts
                  clear ho
                  by_cases e3 : sw = 3
                  · subst e3
                    have huc : u ≤ c := by omega
                    have huc' : (u : Int) ≤ (c : Int) := by omega
                    go_wp2_with fail
                    go_ret2
                    have hln : (ps.take u).length = u := by simp; omega
                    exact ⟨g, c, ps.take u, _, by rw [hln]; rfl, q5.take u, by omega, by omega, q4, hB⟩
                  · have t4 : (sw == 3) = false := by simpa using e3
                    go_wp2_with fail
                    go_ret2
                    exact ⟨g, c, ps, _, rfl, q5, hp7, q3, q4, hB⟩

set_option maxHeartbeats 2000000 in
theorem sameParts_any (A A' : Option Addr) (l l' : List (Int × Int)) (c c' : Nat) (B B' : Nat) (w : World) (h : Pl w B A l) (h' : Pl w B' A' l') (hl : l.length ≤ 2000000) (hl' : l'.length ≤ 2000000) :
    Calls Try.prog 33 #[.slice A l.length c, .slice A' l'.length c'] w (Still w (.bool (eqP l l'))) := by
  by_cases hn : l.length = l'.length
  · have hn' : ((l.length : Int) != l'.length) = false := by simp; omega
    have HN := Lib.hid hn
    clear hn
    go_enter Try.func33, Try.ntmps33
    go_wp2_with fail
    go_loopw [5] (fun i wr => ∃ k m : Nat, k ≤ l.length ∧ i = .int .i64 k ∧ wr = w.drewN m ∧ ∀ j, j < k → fst_ l j = fst_ l' j ∧ snd_ l j = snd_ l' j) (fun i _ => l.length - (intOf i).toNat)
    case atStart => exact ⟨0, 0, Nat.zero_le _, rfl, rfl, fun j hj => absurd hj (by omega)⟩
    case round =>
      obtain ⟨k, m, hk, rfl, rfl, heq⟩ := hrel
      have HQ := Lib.hid heq
      clear heq
      by_cases hlt : k < l.length
      · obtain ⟨b, off, rfl, hb, hc1, hc2⟩ := h.at_ hlt
        have hlt' : k < l'.length := by have := HN.out; omega
        obtain ⟨b', off', rfl, hb', hc1', hc2'⟩ := h'.at_ hlt'
        have d1 : (k : Int) < (l.length : Int) := by omega
        have d2 : (k : Int) < (l'.length : Int) := by omega
        have d3 : (0 : Int) ≤ (k : Int) := by omega
        by_cases hv : fst_ l k = fst_ l' k ∧ snd_ l k = snd_ l' k
        · have g1 : (fst_ l k == fst_ l' k) = true := by simpa using hv.1
          have g2 : (snd_ l k == snd_ l' k) = true := by simpa using hv.2
          have g3 : (fst_ l k != fst_ l' k) = false := by simpa using hv.1
          have g4 : (snd_ l k != snd_ l' k) = false := by simpa using hv.2
          have HV := Lib.hid hv
          clear hv
          go_wp2_with fail
          go_quiet (fail)
          go_wp2_with fail
          exact ⟨⟨k + 1, _, by omega, by go_num, rfl, fun j hj => by
            by_cases e : j = k
            · rw [e]; exact HV.out
            · exact HQ.out j (by omega)⟩, by simp [intOf]; omega⟩
        · have HF := Lib.hid (eqP_false (a := l) (b := l') k hv)
          by_cases hv1 : fst_ l k = fst_ l' k
          · have hv2 : ¬ snd_ l k = snd_ l' k := fun e => hv ⟨hv1, e⟩
            have g1 : (fst_ l k == fst_ l' k) = true := by simpa using hv1
            have g2 : (snd_ l k == snd_ l' k) = false := by simpa using hv2
            clear hv hv1 hv2
            go_wp2_with fail
            go_quiet (fail)
            go_wp2_with fail
            go_ret
            exact ⟨by rw [HF.out]; rfl, _, World.drewN_drewN _ _ _⟩
          · have g1 : (fst_ l k == fst_ l' k) = false := by simpa using hv1
            clear hv hv1
            go_wp2_with fail
            go_quiet (fail)
            go_wp2_with fail
            go_ret
            exact ⟨by rw [HF.out]; rfl, _, World.drewN_drewN _ _ _⟩
      · have HT := Lib.hid (eqP_true HN.out (fun j hj => HQ.out j (by omega)))
        go_wp2_with fail
        go_ret
        exact ⟨by rw [HT.out]; rfl, _, rfl⟩
  · have hn' : ((l.length : Int) != l'.length) = true := by simp; omega
    have hf : eqP l l' = false := by simp [eqP]; intro e; exact hn (by rw [e])
    rw [hf]
    clear hf
    go_enter Try.func33, Try.ntmps33
    go_wp2_with fail
    go_ret
    exact ⟨rfl, 0, rfl⟩
end Go.Proofs.Ythdbbllcckimbaa
