/- The walk of FnShardsWrong. No condition. -/
import Derived.Test.YthdbbllcckimbaaShL
import Derived.Test.YthdbbllcckimbaaShN
import Derived.Test.YthdbbllcckimbaaShY
import Derived.Test.YthdbbllcckimbaaRd
namespace Go.Proofs.Ythdbbllcckimbaa
open Go.RowKit
set_option linter.unusedVariables false
set_option linter.unusedSimpArgs false

theorem eqTo_refl (l : List Int) : eqTo l l = true := by simp [eqTo]
theorem OwnS.base {w : World} {B B' g c : Nat} {l : List Sh} {H : Nat → Nat × Nat} (h : OwnS w B g c l H) (hB : B' ≤ B) : OwnS w B' g c l H := by
  obtain ⟨cur, h1, h2, h3, h4, h5, h6, h7⟩ := row_block h.1
  refine ⟨⟨h.1.1, .inr ⟨g, c, cur, rfl, by omega, h1, h4, h5, h6, h7⟩⟩, fun j hj => ?_⟩
  obtain ⟨r1, r2⟩ := h.2 j hj
  exact ⟨by omega, r2⟩
theorem makeV_small (l : List Int) (need many : Int) : (makeV l need many).length ≤ 8 ∧ ∀ j, j < (makeV l need many).length → (val_ (makeV l need many) j).length ≤ 12 := by
  by_cases h : makeB l need many = true
  · obtain ⟨p1, p2, p3, p4, p5, p6, p7⟩ := makeB_parts h
    rw [makeV_yes h, shards_len]
    refine ⟨by omega, fun j hj => ?_⟩
    rw [shards_val _ _ _ hj, shVals_len]
    exact cols_12 (by omega) p2
  · rw [makeV_no h]; exact ⟨by simp, fun j hj => by simp at hj⟩



theorem cellsS_take (l : List Sh) : ∀ H (m : Nat), cellsS (l.take m) H = (cellsS l H).take (m * 2) := by
  induction l with
  | nil => intro H m; simp [cellsS]
  | cons p t ih =>
    intro H m
    match m with
    | 0 => simp [cellsS]
    | m + 1 =>
      have e1 : (m + 1) * 2 = m * 2 + 1 + 1 := by omega
      simp only [List.take_succ_cons, cellsS, e1, ih]
theorem cellsS_one (l : List Sh) : ∀ H, ∀ u ∈ cellsS l H, u.oneCell' = true := by
  induction l with
  | nil => intro H u hu; simp [cellsS] at hu
  | cons p t ih =>
    intro H u hu
    simp only [cellsS, List.mem_cons] at hu
    rcases hu with rfl | rfl | hu
    · rfl
    · rfl
    · exact ih _ u hu
theorem OwnS.news {w : World} {B g c : Nat} {l : List Sh} {H : Nat → Nat × Nat} (h : OwnS w B g c l H) (m : Nat) : ∀ j u, (cellsS (l.take m) H)[j]? = some u → w.cell? ((⟨g, 0, none⟩ : Addr).add j) = some u := by
  intro j u hu
  rw [cellsS_take] at hu
  refine h.1.cells (g := g) rfl j u ?_
  have hj : j < m * 2 := by
    have := (List.getElem?_eq_some_iff.1 hu).1
    simp at this; omega
  rwa [List.getElem?_take_of_lt hj] at hu
/-- The first shards of a row, in a row of one's own. -/
theorem wpList_shards {W : World} {ops : Array Oper} {rest : List Oper} {o : Oper} {a : Act} {Q : Exit → Act → World → Prop} (hgd : o.guard = none) (s x : Operand)
    (ho : o.op = .call { callee := .builtin .append, args := #[s, x], argTypes := #[26, 26] }) (B g c g2 c2 c3 m : Nat) (l l' : List Sh) (H : Nat → Nat × Nat) (e : l.take m = l') (hm : l'.length = m)
    (hs : a.eval s = .slice (some ⟨g, 0, none⟩) 0 c) (hx : a.eval x = .slice (some ⟨g2, 0, none⟩) m c3) (hown : W.ownsRow B 30 2 (.slice (some ⟨g, 0, none⟩) 0 c) 0 []) (hsrc : OwnS W B g2 c2 l H) (hgH : ∀ j, j < l'.length → (H j).1 ≠ g) (hml : m ≤ 1000000) (hB : B ≤ W.heap.size)
    (h : ∀ g' c' w', OwnS w' B g' c' l' H → W.grownBy w' (some g) → (g' = g ∨ W.heap.size ≤ g') → wpList Try.prog ops Q rest (a.put o.dst (.slice (some ⟨g', 0, none⟩) l'.length c')) w') :
    wpList Try.prog ops Q (o :: rest) a W := by
  obtain ⟨i0, hi, hz0, hz1, hz2⟩ := info_parts info_sh
  subst e
  refine wpList_app hgd s x 26 ho B 30 i0 (.agg #[.int .i64 0, .slice none 0 0]) 2 32 Try.underlying26 hi hz0 hz1 hz2 rfl (by decide) g c 0 [] hs hown ⟨g2, 0, none⟩ m c3 (cellsS (l.take m) H) hx (by rw [cellsS_len, hm]) (hsrc.news m) (cellsS_one _ _) (by simp only [maxLen]; omega) (by omega) hB ?_
  intro g' c' w' h1 h2 h3
  have hml' : m ≤ l.length := by simp at hm; omega
  rw [Nat.zero_add, List.nil_append] at h1
  have h6 : OwnS w' B g' c' (l.take m) H := by
    refine ⟨by rw [hm]; exact h1, fun j hj => ?_⟩
    have hj2 := hgH j hj
    rw [hm] at hj
    obtain ⟨r1, r2, r3, r4⟩ := hsrc.2 j (by omega)
    have e : val_ (l.take m) j = val_ l j := by simp [val_, hj]
    rw [e]
    have := r3.lt
    exact ⟨r1, by rcases h3 with e | e <;> omega, r3.block (h2.block _ this (fun e => hj2 (by injection e))), r4⟩
  have := h g' c' w' h6 h2 (h3.imp_right fun e => by omega)
  rwa [hm, ← Nat.zero_add m] at this
theorem OwnS.slc {w : World} {B g c : Nat} {l : List Sh} {H : Nat → Nat × Nat} (h : OwnS w B g c l H) (k : Nat) (vs : List Int) (x : Nat × Nat) (hk : k < l.length) (hb : B ≤ x.1) (hne : x.1 ≠ g) (hw : Wr w x.1 vs) (hc : vs.length ≤ x.2) :
    OwnS (w.setCell ⟨g, k * 2 + 1, none⟩ (.slice (some ⟨x.1, 0, none⟩) vs.length x.2)) B g c (l.set k (num_ l k, vs)) (putH H k x) := by
  obtain ⟨cur, h1, h2, h3, h4, h5, h6, h7⟩ := row_block h.1
  refine ⟨⟨by rw [cellsS_len], .inr ⟨g, c, cur.setIfInBounds (k * 2 + 1) (.slice (some ⟨x.1, 0, none⟩) vs.length x.2), by simp, h2, by simp [World.setCell, Array.getElem?_modify, h1], by simpa using h4, h5, by simpa using h6, ?_⟩⟩, fun j hj => ?_⟩
  · rw [Array.toList_setIfInBounds, List.take_set, List.length_set, h7, cellsS_slice l H k vs x hk]
  · have hj' : j < l.length := by simpa using hj
    rw [val_set _ _ _ _ hk]
    by_cases e : j = k
    · subst e; rw [if_pos rfl]; simp only [putH, if_pos]
      exact ⟨hb, hne, hw.block (Below.heap_setCell _ _ _ _ hne), hc⟩
    · rw [if_neg e]; simp only [putH, if_neg e]
      obtain ⟨r1, r2, r3, r4⟩ := h.2 j hj'
      exact ⟨r1, r2, r3.block (Below.heap_setCell _ _ _ _ r2), r4⟩
theorem OwnS.put {w : World} {B g c : Nat} {l : List Sh} {H : Nat → Nat × Nat} (h : OwnS w B g c l H) (k : Nat) (y : Int) (vs : List Int) (x : Nat × Nat) (hk : k < l.length) (hb : B ≤ x.1) (hne : x.1 ≠ g) (hw : Wr w x.1 vs) (hc : vs.length ≤ x.2) :
    OwnS ((w.setCell ⟨g, k * 2, none⟩ (.int .i64 y)).setCell ⟨g, k * 2 + 1, none⟩ (.slice (some ⟨x.1, 0, none⟩) vs.length x.2)) B g c (l.set k (y, vs)) (putH H k x) := by
  have h1 := (h.num k y hk).slc k vs x (by simpa using hk) hb hne (hw.block (Below.heap_setCell _ _ _ _ hne)) hc
  rw [num_set _ _ _ _ hk, if_pos rfl, List.set_set] at h1
  exact h1
theorem shards_take (data : List Int) (need : Nat) {m n : Nat} (h : m ≤ n) : (shards data need n).take m = shards data need m := by
  unfold shards
  rw [← List.map_take, List.take_range, Nat.min_eq_left h]

set_option maxHeartbeats 4000000 in
theorem walk_FnShardsWrong (a0 : Option Addr) (len0 cap0 : Nat) (z0 : List Int) (a1 : Option Addr) (len1 cap1 : Nat) (z1 : List Int) (w : World) (w0 : Ints .u8 w w.heap.size a0 len0 cap0 z0) (w1 : Ints .u8 w w.heap.size a1 len1 cap1 z1) :
    Calls Try.prog 3 #[.slice a0 len0 cap0, .slice a1 len1 cap1] w fun e w' => e = .returned (.bool true) ∧ Below w.heap.size w w' := by
  by_cases h1 : len0 ≤ 1048576
  · by_cases h2 : len1 ≤ 1048576
    · have g1 : decide (1048576 < len0) = false := by simp; omega
      have g2 : decide (1048576 < len1) = false := by simp; omega
      go_enter Try.func3, Try.ntmps3
      have hES := eqSh_same
      go_wp2_with fail
      refine (drawMake_any a0 len0 cap0 z0 _ w0).mono ?_
      clear w0
      rintro e w2 ⟨gd, cd, l, need, many, hgd, rfl, ud, hl24, hlc, hcm, hB2⟩
      go_wp2_with fail
      refine (makeF_any (some ⟨gd, 0, none⟩) cd l need many _ ud.sl' (by omega) hlc hcm).mono ?_
      rintro e w3 ⟨gg, cg, HG, rfl, og, hdg, hb3⟩
      have ud3 := ud.below hb3 ud.lt
      have hB3 : Below w.heap.size w w3 := hB2.trans (hb3.mono hB2.size)
      have og3 := OwnS.base og hB2.size
      clear ud og hb3 hB2
      go_wp2_with fail
      refine (makeS_any (some ⟨gd, 0, none⟩) cd l need many _ ud3.sl' (by omega)).mono ?_
      rintro e w4 ⟨gs, cs, HS, rfl, os, hds, hb4⟩
      have ud4 := ud3.below hb4 ud3.lt
      have og4 := og3.below hb4
      have hB4 : Below w.heap.size w w4 := hB3.trans (hb4.mono hB3.size)
      clear ud3 og3 hb4 hB3 hds
      obtain ⟨hv8, hv12⟩ := makeV_small l need many
      obtain ⟨V, hV⟩ : ∃ V, V = makeV l need many := ⟨_, rfl⟩
      rw [← hV] at og4 os hdg hv8 hv12 ⊢
      have HV := Lib.hid hV
      have HV12 := Lib.hid hv12
      have HDG := Lib.hid hdg
      clear hV hv12 hdg
      have hvz : ∀ j, j < V.length → (val_ V j).length ≤ 2000000 := fun j hj => by have := HV12.out j hj; omega
      have HVZ := Lib.hid hvz
      clear hvz
      by_cases hm : makeB l need many = true
      · obtain ⟨p1, p2, p3, p4, p5, p6, p7⟩ := makeB_parts hm
        obtain ⟨nd, rfl⟩ := Int.eq_ofNat_of_zero_le (show 0 ≤ need by omega)
        obtain ⟨mn, rfl⟩ := Int.eq_ofNat_of_zero_le (show 0 ≤ many by omega)
        have hV2 : V = shards l nd mn := by rw [HV.out, makeV_yes hm]; simp
        have hvn : V.length = mn := by rw [hV2, shards_len]
        have HDB : Hid (dataB l nd = true) := by unfold Hid; exact dataB_true p1 p2 p3 p4 p5
        have HL := Lib.hid p3
        have HV2 := Lib.hid hV2
        have HVN := Lib.hid hvn
        have hv1 : 1 ≤ V.length := by omega
        have hnv : nd ≤ V.length := by omega
        clear hm hV2 HV p3
        have t0 : ((V.length : Int) == 0) = false := by simp only [beq_eq_false_iff_ne]; omega
        have t9 : ((nd : Int) == 0) = false := by simp only [beq_eq_false_iff_ne]; omega
        have HS1 := Lib.hid os
        by_cases hw : nd + 1 ≤ mn
        · have t4 : decide ((V.length : Int) ≤ (nd : Int)) = false := by simp only [decide_eq_false_iff_not]; omega
          have t4' : decide (V.length ≤ nd) = false := by simp only [decide_eq_false_iff_not]; omega
          have hnv1 : nd + 1 ≤ V.length := by omega
          have hnd7 : nd + 1 ≤ 8 := by omega
          clear hvn
          go_wp2_with fail
          refine (sameShards_any (some ⟨gg, 0, none⟩) (some ⟨gs, 0, none⟩) V V cg cs _ og4.shl os.shl (by omega) (by omega) HVZ.out HVZ.out).mono ?_
          rintro e w5 ⟨rfl, hb5⟩
          rw [hES V]
          have og5 := og4.below hb5
          have hB5 : Below w.heap.size w w5 := hB4.trans (hb5.mono hB4.size)
          clear ud4 og4 os hb5 hB4 HS1
          have a1 : IntKind.i64.wrap ((nd : Int) + 1) = (nd : Int) + 1 := IntWalk.i64_in _ (by omega)
          have t8 : ((nd : Int) + 1 == 0) = false := by simp only [beq_eq_false_iff_ne]; omega
          have hkm : ((len1 : Int) % ((nd : Int) + 1)) = ((len1 % (nd + 1) : Nat) : Int) := by simp
          have hkl : len1 % (nd + 1) < nd + 1 := Nat.mod_lt _ (by omega)
          obtain ⟨k, hk⟩ : ∃ k, k = len1 % (nd + 1) := ⟨_, rfl⟩
          rw [← hk] at hkm hkl
          clear hk
          obtain ⟨q1, q2, q3, q4⟩ := og5.parts
          have c1 : nd + 1 ≤ cg := by omega
          have c2 : (nd : Int) + 1 ≤ (cg : Int) := by omega
          have c3 : (0 : Int) ≤ (nd : Int) + 1 := by omega
          have c4 : ((nd : Int) + 1).toNat = nd + 1 := by omega
          obtain ⟨VT, hVT⟩ : ∃ x, x = shards l nd (nd + 1) := ⟨_, rfl⟩
          have HT : Hid (V.take (nd + 1) = VT) := by unfold Hid; rw [HV2.out, hVT]; exact shards_take l nd hw
          have HTE := Lib.hid hVT
          have hvt : VT.length = nd + 1 := by rw [hVT]; exact shards_len _ _ _
          have HVT := Lib.hid hvt
          have HTV : Hid (∀ i, i < nd + 1 → num_ VT i = (i : Int) + 1 ∧ val_ VT i = shVals l nd ((i : Int) + 1)) := by
            unfold Hid; intro i hi; rw [hVT, shards_num _ _ _ hi, shards_val _ _ _ hi]; exact ⟨rfl, rfl⟩
          clear hVT hvt
          have hO0 : (w5.alloc (.cells #[] 30)).ownsRow w.heap.size 30 2 (.slice (some ⟨w5.heap.size, 0, none⟩) 0 0) 0 [] := World.ownsRow_made w5 #[] 0 hB5.size (by simp [maxLen]) (by simp)
          have ogA := og5.alloc (.cells #[] 30)
          have hbA : Below w.heap.size w (w5.alloc (.cells #[] 30)) := hB5.alloc hB5.size _
          have HGH : Hid (∀ j, j < VT.length → (HG j).1 ≠ w5.heap.size) := by
            unfold Hid; intro j hj; rw [HVT.out] at hj
            have := (og5.at_ (j := j) (by omega)).2.2.2.2.1; omega
          go_wp2_with (at_builtin; refine wpList_shards rfl _ _ rfl w.heap.size w5.heap.size 0 gg cg _ (nd + 1) V VT HG HT.out HVT.out rfl rfl hO0 ogA HGH.out (by omega) hbA.size ?_)
          intro g1 d1 w6 os6 hg6 hf6
          have hB6 : Below w.heap.size w w6 := hbA.grown hg6 hbA.size (fun kk e => by injection e with e; rw [← e]; exact hB5.size)
          clear og5 hO0 ogA hbA hg6 hf6 hB5
          have hkV : k < VT.length := by rw [HVT.out]; exact hkl
          obtain ⟨s1, s2, s3, s4, s5, s6, s7⟩ := os6.at_ hkV
          obtain ⟨n1, n2⟩ := HTV.out k hkl
          have hcl : (val_ VT k).length = cols l.length nd := by rw [n2, shVals_len]
          have hc0 : 0 < cols l.length nd := (cols_le (by omega)).2 (by omega)
          have hc12 : cols l.length nd ≤ 12 := cols_12 (by omega) p2
          have hvin : allIn 0 250 (val_ VT k) = true := by rw [n2]; exact shVals_in _ _ _
          obtain ⟨vs, hvs⟩ : ∃ x, x = val_ VT k := ⟨_, rfl⟩
          rw [← hvs] at s2 s6 s7 n2 hcl hvin
          rw [n1] at s1
          have hvl0 : 0 < vs.length := by omega
          have hvl12 : vs.length ≤ 12 := by omega
          have HN2 := Lib.hid n2
          have HVI := Lib.hid hvin
          clear hvs n1 n2 hcl hvin hc0 hc12
          have hbk : (HG k).1 < w6.heap.size := s5
          have ho0 := OwnI.made w6 w.heap.size hB6.size
          have uvA : Wr (w6.alloc (.cells #[] 3)) (HG k).1 vs := s6.block (Below.heap_alloc _ _ _ s6.lt)
          have osA := os6.alloc (.cells #[] 3)
          have hbA : Below w.heap.size w (w6.alloc (.cells #[] 3)) := hB6.alloc hB6.size _
          have HNV := Lib.hid (List.nil_append vs)
          have kk1 : (k : Int) < (VT.length : Int) := by omega
          have kk2 : (0 : Int) ≤ (k : Int) := by omega
          have HTB : Hid (∀ j, j < VT.length → (HG j).1 < w6.heap.size) := by unfold Hid; intro j hj; exact (os6.at_ hj).2.2.2.2.1
          have hg1l : g1 < w6.heap.size := os6.parts.2.1
          clear os6
          go_wp2_with (at_builtin; refine wpList_many rfl _ _ rfl w.heap.size w6.heap.size 0 [] vs vs HNV.out rfl (HG k).1 _ _ rfl rfl uvA ho0 (by simp) (by omega) hbA.size ?_)
          intro gv cv w7 ov7 hg7 hf7
          have hB7 : Below w.heap.size w w7 := hbA.grown hg7 hbA.size (fun kk e => by injection e with e; rw [← e]; exact hB6.size)
          have os7 : OwnS w7 w.heap.size g1 d1 VT HG := osA.kept hg7 (by omega) (fun j hj => by have := HTB.out j hj; omega)
          have HGV : Hid (∀ j, j < VT.length → (HG j).1 ≠ gv) := by
            unfold Hid; intro j hj; have := HTB.out j hj
            rcases hf7 with e | e <;> (try simp at e) <;> omega
          have hvg : gv ≠ g1 := by rcases hf7 with e | e <;> (try simp at e) <;> omega
          clear osA hg7 hf7 hbA uvA s1 s2 s6 ho0
          have hpm : ((len0 : Int) % (vs.length : Int)) = ((len0 % vs.length : Nat) : Int) := by simp
          have hpl : len0 % vs.length < vs.length := Nat.mod_lt _ hvl0
          obtain ⟨p, hp⟩ : ∃ p, p = len0 % vs.length := ⟨_, rfl⟩
          rw [← hp] at hpm hpl
          clear hp
          have hqm : ((len1 : Int) % 250) = ((len1 % 250 : Nat) : Int) := by simp
          have hql : len1 % 250 < 250 := Nat.mod_lt _ (by omega)
          obtain ⟨q, hq⟩ : ∃ q, q = len1 % 250 := ⟨_, rfl⟩
          rw [← hq] at hqm hql
          clear hq
          have e1 := ov7.cell hpl
          have e2 := ov7.frozen p
          obtain ⟨x0, x1⟩ := allIn_get HVI.out hpl
          have HNE : Hid ((nth vs p + 1 + (q : Int)) % 251 ≠ nth vs p) := by unfold Hid; omega
          have oset := ov7.set p ((nth vs p + 1 + (q : Int)) % 251) hpl
          have osS : OwnS (w7.setCell ⟨gv, p, none⟩ (.int .i64 ((nth vs p + 1 + (q : Int)) % 251))) w.heap.size g1 d1 VT HG := os7.same (Below.heap_setCell _ _ _ _ (fun e => hvg e.symm)) (fun j hj => Below.heap_setCell _ _ _ _ (HGV.out j hj))
          have hbS : Below w.heap.size w (w7.setCell ⟨gv, p, none⟩ (.int .i64 ((nth vs p + 1 + (q : Int)) % 251))) := hB7.setCell (p := ⟨gv, p, none⟩) ov7.parts.1 _
          have t5 : ((vs.length : Int) == 0) = false := by simp only [beq_eq_false_iff_ne]; omega
          have pp1 : (p : Int) < (vs.length : Int) := by omega
          have pp2 : (0 : Int) ≤ (p : Int) := by omega
          obtain ⟨vs', hvs'⟩ : ∃ x, x = vs.set p ((nth vs p + 1 + (q : Int)) % 251) := ⟨_, rfl⟩
          have hvl' : vs'.length = vs.length := by rw [hvs']; simp
          have HVN' : Hid (vs' ≠ shVals l nd ((k : Int) + 1)) := by
            unfold Hid; rw [← HN2.out, hvs']; intro e
            have h8 : nth (vs.set p ((nth vs p + 1 + (q : Int)) % 251)) p = nth vs p := by rw [e]
            rw [nth_set _ _ _ _ hpl, if_pos rfl] at h8
            exact HNE.out h8
          rw [← hvs'] at oset
          have HVL' := Lib.hid hvl'
          clear hvs' hvl' os7 ov7 hB7
          have b1 : IntKind.i64.wrap (nth vs p + 1) = nth vs p + 1 := IntWalk.i64_in _ (by omega)
          have b2 : IntKind.i64.wrap (nth vs p + 1 + (q : Int)) = nth vs p + 1 + (q : Int) := IntWalk.i64_in _ (by omega)
          go_wp2_with fail
          go_region
          clear b1 b2 e1 e2 a1
          obtain ⟨W8, hW8⟩ : ∃ W, W = w7.setCell ⟨gv, p, none⟩ (.int .i64 ((nth vs p + 1 + (q : Int)) % 251)) := ⟨_, rfl⟩
          have os8 : OwnS W8.drew w.heap.size g1 d1 VT HG := by rw [hW8]; exact osS
          have ov8 : OwnI W8.drew w.heap.size gv cv vs' := by
            rw [hW8, ]; have := oset; unfold OwnI at this ⊢; rw [HVL'.out] at this ⊢; exact this
          have hB8 : Below w.heap.size w W8.drew := by rw [hW8]; exact ⟨hbS.os, hbS.tape, hbS.output, hbS.size, hbS.block⟩
          have hWd : (w7.setCell ⟨gv, p, none⟩ (.int .i64 ((nth vs p + 1 + (q : Int)) % 251))).drew = W8.drew := by rw [hW8]
          clear osS oset hbS
          rw [hWd]
          obtain ⟨W9, hW9⟩ : ∃ W, W = W8.drew := ⟨_, rfl⟩
          rw [← hW9] at os8 ov8 hB8 ⊢
          clear hWd hW9 hW8
          obtain ⟨y1, y2, y3, y4, y5, y6, y7⟩ := os8.at_ hkV
          have yn := (HTV.out k hkl).1
          rw [yn] at y1
          have yf1 := os8.frozen (k * 2)
          have yf2 := os8.frozen (k * 2 + 1)
          obtain ⟨o1, o2, o3, o4, o5⟩ := ov8.parts
          have os10 := os8.put k ((k : Int) + 1) vs' (gv, cv) hkV o1 hvg o5 o3
          simp only at os10
          rw [HVL'.out] at os10
          have hB10 : Below w.heap.size w ((W9.setCell ⟨g1, k * 2, none⟩ (.int .i64 ((k : Int) + 1))).setCell ⟨g1, k * 2 + 1, none⟩ (.slice (some ⟨gv, 0, none⟩) vs.length cv)) := (hB8.setCell (p := ⟨g1, k * 2, none⟩) os8.parts.1 _).setCell (p := ⟨g1, k * 2 + 1, none⟩) os8.parts.1 _
          have hvz : ∀ j, j < (VT.set k ((k : Int) + 1, vs')).length → (val_ (VT.set k ((k : Int) + 1, vs')) j).length ≤ 2000000 := by
            intro j hj
            rw [val_set _ _ _ _ hkV]
            split
            · show vs'.length ≤ _
              rw [HVL'.out]; omega
            · rw [List.length_set, HVT.out] at hj
              rw [(HTV.out j hj).2, shVals_len]
              have := cols_12 (size := l.length) (need := nd) (by omega) p2; omega
          have hsz : (VT.set k ((k : Int) + 1, vs')).length = VT.length := List.length_set ..
          have hJ := joinF_any (l.length : Int) (nd : Int) (some ⟨g1, 0, none⟩) d1 (VT.set k ((k : Int) + 1, vs')) _ os10.shl (by rw [hsz, HVT.out]; omega) hvz
          rw [hsz] at hJ
          have HJ := Lib.hid hJ
          clear hJ hvz hsz os10 os8 ov8 hB8 o5 yn y6
          go_wp2_with fail
          refine HJ.out.mono ?_
          rintro e w10 ⟨out, ok, g6, c6, rfl, hj, hg6, u6, hoc, hcm6, hb10⟩
          have hB11 : Below w.heap.size w w10 := hB10.trans (hb10.mono hB10.size)
          rw [HTE.out] at hj
          obtain rfl := wrong_fails HDB.out hnd7 k hkl vs' HVN'.out hj
          clear hj hb10 hB10
          go_wp2_with fail
          go_quiet (fail)
          go_wp2_with fail
          go_ret
          exact ⟨rfl, belowN hB11 _⟩
        · have t4 : decide ((V.length : Int) ≤ (nd : Int)) = true := by simp only [decide_eq_true_eq]; omega
          have t4' : decide (V.length ≤ nd) = true := by simp only [decide_eq_true_eq]; omega
          clear hvn
          go_wp2_with fail
          refine (sameShards_any (some ⟨gg, 0, none⟩) (some ⟨gs, 0, none⟩) V V cg cs _ og4.shl os.shl (by omega) (by omega) HVZ.out HVZ.out).mono ?_
          rintro e w5 ⟨rfl, hb5⟩
          rw [hES V]
          have og5 := og4.below hb5
          have os5 := os.below hb5
          have hB5 : Below w.heap.size w w5 := hB4.trans (hb5.mono hB4.size)
          go_wp2_with fail
          refine (sameShards_any (some ⟨gg, 0, none⟩) (some ⟨gs, 0, none⟩) V V cg cs _ og5.shl os5.shl (by omega) (by omega) HVZ.out HVZ.out).mono ?_
          rintro e w6 ⟨rfl, hb6⟩
          rw [hES V]
          go_wp2_with fail
          go_ret
          exact ⟨rfl, hB5.trans (hb6.mono hB5.size)⟩
      · have hV2 := HV.out
        rw [makeV_no hm] at hV2
        subst hV2
        go_wp2_with fail
        refine (sameShards_any (some ⟨gg, 0, none⟩) (some ⟨gs, 0, none⟩) [] [] cg cs _ og4.shl os.shl (by omega) (by omega) HVZ.out HVZ.out).mono ?_
        rintro e w5 ⟨rfl, hb5⟩
        rw [hES []]
        have og5 := og4.below hb5
        have os5 := os.below hb5
        have hB5 : Below w.heap.size w w5 := hB4.trans (hb5.mono hB4.size)
        go_wp2_with fail
        refine (sameShards_any (some ⟨gg, 0, none⟩) (some ⟨gs, 0, none⟩) [] [] cg cs _ og5.shl os5.shl (by omega) (by omega) HVZ.out HVZ.out).mono ?_
        rintro e w6 ⟨rfl, hb6⟩
        rw [hES []]
        go_wp2_with fail
        go_ret
        exact ⟨rfl, hB5.trans (hb6.mono hB5.size)⟩
    · have g1 : decide (1048576 < len0) = false := by simp; omega
      have g2 : decide (1048576 < len1) = true := by simp; omega
      go_enter Try.func3, Try.ntmps3
      go_wp2_with fail
      go_ret
      exact ⟨rfl, Below.refl _ _⟩
  · have g1 : decide (1048576 < len0) = true := by simp; omega
    go_enter Try.func3, Try.ntmps3
    go_wp2_with fail
    go_ret
    exact ⟨rfl, Below.refl _ _⟩

end Go.Proofs.Ythdbbllcckimbaa
