/- The walk of FnCoinJoinRange. No condition. -/
import Derived.Test.YthdbbllcckimbaaCoinR
import Derived.Test.YthdbbllcckimbaaSpC
namespace Go.Proofs.Ythdbbllcckimbaa
open Go.RowKit
set_option linter.unusedVariables false
set_option linter.unusedSimpArgs false

theorem eqP_same (l : List (Int × Int)) : eqP l l = true := by simp [eqP]
theorem cells2_at (l : List (Int × Int)) {j : Nat} {u : Value} (h : (cells2 l)[j]? = some u) : j < l.length * 2 ∧ u = pcell l j := by
  have hj : j < l.length * 2 := by
    rw [← cells2_len]
    exact (List.getElem?_eq_some_iff.1 h).1
  refine ⟨hj, ?_⟩
  have hq := cells2_get l (j / 2) (by omega)
  unfold pcell
  by_cases e : j % 2 = 0
  · rw [if_pos e]
    have := hq.1
    rw [show j / 2 * 2 = j by omega, h] at this
    injection this
  · rw [if_neg e]
    have := hq.2
    rw [show j / 2 * 2 + 1 = j by omega, h] at this
    injection this
theorem Pl.news {w : World} {B b off : Nat} {l : List (Int × Int)} (h : Pl w B (some ⟨b, off, none⟩) l) : ∀ j u, (cells2 l)[j]? = some u → w.cell? ((⟨b, off, none⟩ : Addr).add j) = some u := by
  intro j u hu
  obtain ⟨hj, rfl⟩ := cells2_at l hu
  obtain ⟨b', off', e, _, h1, h2⟩ := h.at_ (k := j / 2) (by omega)
  simp only [Option.some.injEq, Addr.mk.injEq, and_true] at e
  obtain ⟨rfl, rfl⟩ := e
  unfold pcell
  have hd : ∀ v, w.cell? ⟨b, off + j, none⟩ = some v → w.cell? ((⟨b, off, none⟩ : Addr).add j) = some v := fun v hv => by
    by_cases hz : j = 0
    · subst hz; simpa [Addr.add] using hv
    · simpa [Addr.add, hz] using hv
  by_cases e : j % 2 = 0
  · rw [if_pos e]; apply hd; rwa [show off + j / 2 * 2 = off + j by omega] at h1
  · rw [if_neg e]; apply hd; rwa [show off + j / 2 * 2 + 1 = off + j by omega] at h2
theorem Pl.drop {w : World} {B b off : Nat} {l : List (Int × Int)} (h : Pl w B (some ⟨b, off, none⟩) l) (i : Nat) : Pl w B (some ⟨b, off + i * 2, none⟩) (l.drop i) := fun hl => by
  obtain ⟨b', off', e, hlt, hc⟩ := h (by intro e; rw [e] at hl; simp at hl)
  simp only [Option.some.injEq, Addr.mk.injEq, and_true] at e
  obtain ⟨rfl, rfl⟩ := e
  refine ⟨b, off + i * 2, rfl, hlt, fun j hj => ?_⟩
  have hj' : i + j < l.length := by simp at hj; omega
  have := hc (i + j) hj'
  have e1 : off + i * 2 + j * 2 = off + (i + j) * 2 := by omega
  rw [e1]
  simpa [fst_, snd_] using this
theorem cells2_app (a b : List (Int × Int)) : cells2 (a ++ b) = cells2 a ++ cells2 b := by simp [cells2]
theorem cells2_one (l : List (Int × Int)) : ∀ u ∈ cells2 l, u.oneCell' = true := by
  intro u hu
  simp only [cells2, List.mem_flatMap] at hu
  obtain ⟨p, _, hp⟩ := hu
  simp at hp
  rcases hp with rfl | rfl <;> rfl
/-- A list of pairs more, in a region that draws its order. -/
theorem step_manyP {W : World} {ops : Array Oper} {o : Oper} {a : Act} {K : Act → World → Prop} {Q : Exit → Act → World → Prop} {E : Prop} (hgd : o.guard = none) (s x : Operand)
    (ho : o.op = .call { callee := .builtin .append, args := #[s, x], argTypes := #[44, 44] }) (B g c : Nat) (l l' xs : List (Int × Int)) (e : l ++ xs = l')
    (hs : a.eval s = .slice (some ⟨g, 0, none⟩) l.length c) (ad : Addr) (m cm : Nat) (hx : a.eval x = .slice (some ad) m cm) (hm : xs.length = m) (hn : ∀ j u, (cells2 xs)[j]? = some u → W.cell? (ad.add j) = some u) (hown : OwnP W B g c l) (hl : l.length ≤ 1000000) (hxl : m ≤ 1000000) (hB : B ≤ W.heap.size)
    (h : ∀ g' c' w', OwnP w' B g' c' l' → W.grownBy w' (some g) → (g' = g ∨ W.heap.size ≤ g') → K (a.put o.dst (.slice (some ⟨g', 0, none⟩) l'.length c')) w') :
    if Region.wanted o (yielded ops a.tmps) = true then Oper.wp Try.prog o a W K Q else E := by
  subst hm
  obtain ⟨i0, hi, hz0, hz1, hz2⟩ := info_parts info_el
  obtain ⟨g', c', w', hr, h1, h2, h3⟩ := run_app (P := Try.prog) W B 44 o.type 47 i0 (.agg #[.int .i64 0, .int .i64 0]) 2 16 Try.underlying44 hi hz0 hz1 hz2 rfl (by decide) g c l.length _ hown ad xs.length cm (cells2 xs) (by rw [cells2_len]) hn (cells2_one xs) (by simp only [maxLen]; omega) (by omega) hB
  have hw : Region.wanted o (yielded ops a.tmps) = true := by simp [Region.wanted, hgd]
  rw [if_pos hw]
  have h4 : OwnP w' B g' c' l' := by subst e; unfold OwnP; rw [cells2_app]; simpa using h1
  have := h g' c' w' h4 h2 (h3.imp_right fun e => by omega)
  rw [show l'.length = l.length + xs.length by rw [← e]; simp] at this
  unfold Oper.wp execOp
  simp only [ho, resolve, invoke, builtin, Sem.run_bind, Sem.run_pure, Result.andThen_ok, List.map_toArray, List.map_cons, List.map_nil, hs, hx, hr]
  exact this
theorem fst_less (l : List (Int × Int)) (k j : Nat) (hk : k < l.length) : fst_ (l.take k ++ l.drop (k + 1)) j = fst_ l (if j < k then j else j + 1) ∧ snd_ (l.take k ++ l.drop (k + 1)) j = snd_ l (if j < k then j else j + 1) := by
  by_cases e : j < k
  · rw [if_pos e]
    have h1 : j < (l.take k).length := by simp; omega
    simp only [fst_, snd_, List.getD_eq_getElem?_getD, List.getElem?_append_left h1, List.getElem?_take_of_lt e, and_self]
  · rw [if_neg e]
    have h1 : (l.take k).length ≤ j := by simp; omega
    have h2 : k + 1 + (j - (l.take k).length) = j + 1 := by simp; omega
    simp only [fst_, snd_, List.getD_eq_getElem?_getD, List.getElem?_append_right h1, List.getElem?_drop, h2, and_self]
/-- Without one of more than enough parts, the same joins. -/
theorem less_joins {need : Int} {ps : List (Int × Int)} {v v' : Int} {b : Bool} (h : JoinIs need ps v true) (k : Nat) (hk : k < ps.length) (hn : need < ps.length) (h' : JoinIs need (ps.take k ++ ps.drop (k + 1)) v' b) : v' = v ∧ b = true := by
  obtain ⟨hb, cs, hcl, hcr, hcf, rfl⟩ := h.said
  obtain ⟨p1, p2, p3, p4⟩ := partsB_parts hb
  have hl : (ps.take k ++ ps.drop (k + 1)).length = ps.length - 1 := by simp; omega
  have hg : PG (ps.take k ++ ps.drop (k + 1)) (ps.take k ++ ps.drop (k + 1)).length := fun j hj => by
    rw [hl] at hj
    obtain ⟨e1, e2⟩ := fst_less ps k j hk
    obtain ⟨e3, e4⟩ := fst_less ps k (j - 1) hk
    rw [e1, e2, e3]
    have q := p4 (if j < k then j else j + 1) (by split <;> omega)
    refine ⟨q.1, q.2.1, q.2.2.1, q.2.2.2.1, fun h0 => p4.mono _ _ ?_ ?_⟩
    · split <;> split <;> omega
    · split <;> omega
  have hb' : partsB need (ps.take k ++ ps.drop (k + 1)) = true := partsB_true p1 p2 (by rw [hl]; omega) hg
  have hj := JoinIs.of hb' hcl hcr (fun i hi => by
    rw [hl] at hi
    obtain ⟨e1, e2⟩ := fst_less ps k i hk
    rw [e1, e2]
    exact hcf _ (by split <;> omega))
  exact h'.one hj
theorem grown_bel5 {W w5 : World} {t : TypeId} (hg : (W.drew.alloc (.cells #[] t)).grownBy w5 (some W.heap.size)) : Below W.heap.size (W.drew.alloc (.cells #[] t)) w5 :=
  ⟨hg.os, hg.tape, hg.output, hg.size, fun k hk => hg.block k (by simp; omega) (fun e => by injection e with e; omega)⟩
theorem take_less (ps : List (Int × Int)) (k : Nat) (hk : k < ps.length) : (ps.take k ++ ps.drop (k + 1)).take k = ps.take k := by
  rw [List.take_append_of_le_length (by simp; omega), List.take_take, Nat.min_self]


set_option maxHeartbeats 4000000 in
theorem walk_FnCoinJoinRange (a0 : Option Addr) (len0 cap0 : Nat) (z0 : List Int) (a1 : Option Addr) (len1 cap1 : Nat) (z1 : List Int) (w : World) (w0 : Ints .u8 w w.heap.size a0 len0 cap0 z0) (w1 : Ints .u8 w w.heap.size a1 len1 cap1 z1) :
    Calls Try.prog 10 #[.slice a0 len0 cap0, .slice a1 len1 cap1] w fun e w' => e = .returned (.bool true) ∧ Below w.heap.size w w' := by
  by_cases h1 : len0 ≤ 1048576
  · by_cases h2 : len1 ≤ 1048576
    · have g1 : decide (1048576 < len0) = false := by simp; omega
      have g2 : decide (1048576 < len1) = false := by simp; omega
      go_enter Try.func10, Try.ntmps10
      go_wp2_with fail
      refine (drawJoin_any a0 len0 cap0 z0 _ w0).mono ?_
      clear w0 w1
      rintro e w2 ⟨g, c, l, need, rfl, hpl, hl7, hlc, hcm, hB2⟩
      go_wp2_with fail
      refine (join_any need _ c l _ hpl (by omega) hlc).mono ?_
      rintro e w3 ⟨v, b, rfl, hj, hb3⟩
      have hB3 : Below w.heap.size w w3 := hB2.trans (hb3.mono hB2.size)
      have hpl3 := (hpl.below hb3).more hb3.size
      clear hpl hB2 hb3
      go_wp2_with fail
      refine (coinJoinS_any need _ c l _ hpl3 (by omega)).mono ?_
      rintro e w4 ⟨v', b', rfl, hj', hb4⟩
      obtain ⟨rfl, rfl⟩ := hj.one hj'
      have hB4 : Below w.heap.size w w4 := hB3.trans (hb4.mono hB3.size)
      have hpl4 := (hpl3.below hb4).more hb4.size
      clear hpl3 hB3 hb4 hj'
      cases b with
      | false =>
        go_wp2_with fail
        go_ret
        exact ⟨rfl, hB4⟩
      | true =>
        obtain ⟨r0, r1⟩ := hj.range
        have hr2 : v < 251 := by omega
        have hneed : need ≤ l.length := (partsB_parts hj.said.1).2.2.1
        have hl1 : 1 ≤ l.length := by have := (partsB_parts hj.said.1).1; omega
        by_cases he : (l.length : Int) = need
        · have t1 : ((l.length : Int) == need) = true := by simpa using he
          clear he
          go_wp2_with fail
          go_ret
          exact ⟨rfl, hB4⟩
        · have t1 : ((l.length : Int) == need) = false := by simpa using he
          have hlt : need < l.length := by omega
          have t9 : ((l.length : Int) == 0) = false := by simp only [beq_eq_false_iff_ne]; omega
          have hkm : ((len1 : Int) % (l.length : Int)) = ((len1 % l.length : Nat) : Int) := by simp
          have hkl : len1 % l.length < l.length := Nat.mod_lt _ (by omega)
          obtain ⟨k, hk⟩ : ∃ k, k = len1 % l.length := ⟨_, rfl⟩
          rw [← hk] at hkm hkl
          clear hk he
          have HJ := Lib.hid hj
          clear hj
          have a1 : IntKind.i64.wrap ((k : Int) + 1) = (k : Int) + 1 := IntWalk.i64_in _ (by omega)
          have k1 : k ≤ c := by omega
          have k2 : k + 1 ≤ l.length := by omega
          have k3 : (k : Int) ≤ (c : Int) := by omega
          have k4 : (k : Int) + 1 ≤ (l.length : Int) := by omega
          have k5 : ((k : Int) + 1).toNat = k + 1 := by omega
          have k6 : (l.length : Int) ≤ (c : Int) := by omega
          have ho0 : OwnP (w4.drew.alloc (.cells #[] 47)) w.heap.size w4.heap.size 0 [] := OwnP.made w4.drew _ hB4.size
          have hbA := below_n hB4 1
          have hpA : Pl (w4.drew.alloc (.cells #[] 47)) w4.heap.size (some ⟨g, 0, none⟩) l := hpl4.below (w := w4.drew) ((Below.refl w4.heap.size w4.drew).alloc (Nat.le_refl _) _)
          have HP1 := Lib.hid ((hpA.take k).news)
          have HT1 : Hid ((l.take k).length = k) := by unfold Hid; simp; omega
          have hgl : g < w4.heap.size := by
            obtain ⟨b9, o9, e9, hb9, _⟩ := hpl4.at_ (k := 0) hl1
            simp only [Option.some.injEq, Addr.mk.injEq, and_true] at e9
            omega
          obtain ⟨tk, htk⟩ : ∃ x, x = l.take k := ⟨_, rfl⟩
          rw [← htk] at HP1 HT1
          have HTK := Lib.hid htk
          have HNA := Lib.hid (List.nil_append tk)
          obtain ⟨ls, hls⟩ : ∃ x, x = tk ++ l.drop (k + 1) := ⟨_, rfl⟩
          have HLS := Lib.hid hls.symm
          have hlsl : ls.length + 1 = l.length := by rw [hls, htk, List.length_append, List.length_take, List.length_drop]; omega
          have HLL := Lib.hid hlsl
          have hls7 : ls.length ≤ 7 := by omega
          have hkls : k ≤ ls.length := by omega
          have htk7 : tk.length ≤ 7 := by have := HT1.out; omega
          have HDL : Hid ((l.drop (k + 1)).length = l.length - (k + 1)) := by unfold Hid; simp
          clear htk hls hlsl
          have k8 : (0 : Int) ≤ (k : Int) + 1 := by omega
          by_cases k7 : c = k + 1
          · subst k7
            clear k1 k3
            have k3' : (k : Int) ≤ (k : Int) + 1 := by omega
            have HND : Hid (∀ W', Pl W' w4.heap.size (some ⟨g, 0, none⟩) l → ∀ j u, (cells2 (l.drop (k + 1)))[j]? = some u → W'.cell? ((⟨g, 0, none⟩ : Addr).add j) = some u) := by
              unfold Hid
              intro W' hpW
              intro j u hu; rw [List.drop_of_length_le (by omega)] at hu; simp [cells2] at hu
            go_wp2_with fail
            rw [hkm]
            go_region_law (first
              | (refine step_manyP rfl (.tmp 75) (.tmp 78) rfl w.heap.size w4.heap.size 0 [] tk tk HNA.out (by simp [Act.eval, Act.put]) ⟨g, 0, none⟩ k (k + 1) (by simp [Act.eval, Act.put]) HT1.out HP1.out ho0 (by simp) (by omega) (by have := hB4.size; simp; omega) ?_; intro g5 c5 w5 ho5 hg5 hf5; have hbf := grown_bel5 hg5; have hp5 := hpA.below hbf; have hB5 : Below w.heap.size w w5 := (hbA.alloc hbA.size _).grown hg5 (by have := hB4.size; simp; omega) (fun kk e => by injection e with e; rw [← e]; exact hB4.size); have ho5l := ho5.parts.2.1; have HNE := Lib.hid (HND.out w5 hp5))
              | (refine step_manyP rfl (.tmp 79) (.tmp 83) rfl w.heap.size g5 c5 tk ls (l.drop (k + 1)) HLS.out (by simp [Act.eval, Act.put]) ⟨g, 0, none⟩ (l.length - (k + 1)) 0 (by simp [Act.eval, Act.put]; try omega) HDL.out HNE.out ho5 (by omega) (by omega) hB5.size ?_; intro g6 c6 w6 ho6 hg6 hf6))
            have hge5 := ho5.parts.1
            have hB6 : Below w.heap.size w w6 := hB5.grown hg6 hB5.size (fun kk e => by injection e with e; omega)
            have hg5f : w4.heap.size ≤ g5 := by
              rcases hf5 with e | e
              · omega
              · simp at e; omega
            have h45 : w4.heap.size ≤ w5.heap.size := by have := hbf.size; simp at this; omega
            have h46 : w4.heap.size ≤ w6.heap.size := Nat.le_trans h45 hg6.size
            have hpl6 : Pl w6 w4.heap.size (some ⟨g, 0, none⟩) l := hp5.below ((Below.refl w4.heap.size w5).grown hg6 h45 (fun kk e => by injection e with e; omega))
            obtain ⟨q1, q2, q3, q4, q5⟩ := ho6.parts
            clear ho5 ho6 hg5 hg6 hf5 hf6 hp5 hB5 hpA hbA ho0 hbf hg5f
            go_wp2_with fail
            refine (join_any need _ c6 ls _ q5 (by omega) q3).mono ?_
            rintro e w7 ⟨x, b, rfl, hjx, hb7⟩
            have hjy := hjx
            rw [← HLS.out, HTK.out] at hjy
            obtain ⟨rfl, rfl⟩ := less_joins HJ.out k hkl hlt hjy
            have hB7 : Below w.heap.size w w7 := hB6.trans (hb7.mono hB6.size)
            have hpl7 : Pl w7 w4.heap.size (some ⟨g, 0, none⟩) l := hpl6.below (hb7.mono h46)
            have hlx7 := (q5.below hb7).more hb7.size
            have HTT : Hid (ls.take k = tk) := by unfold Hid; rw [← HLS.out, HTK.out]; exact take_less l k hkl
            have hkc6 : k ≤ c6 := by omega
            have hkc6' : (k : Int) ≤ (c6 : Int) := by omega
            have hpt := hpl7.take k
            have hlt6 := hlx7.take k
            rw [← HTK.out] at hpt
            rw [HTT.out] at hlt6
            have HSP : Hid (∀ n', Calls Try.prog 33 #[.slice (some ⟨g, 0, none⟩) k (k + 1), .slice (some ⟨g6, 0, none⟩) k c6] (w7.drewN n') (fun e w'' => e = .returned (.bool true) ∧ ∃ m, w'' = w7.drewN m)) := by
              unfold Hid; intro n'
              have hc := sameParts_any (some ⟨g, 0, none⟩) (some ⟨g6, 0, none⟩) tk tk (k + 1) c6 _ _ (w7.drewN n') (hpt.drewN n') (hlt6.drewN n') (by omega) (by omega)
              rw [HT1.out, eqP_same] at hc
              exact hc.mono fun _ _ ⟨he, m, hm⟩ => ⟨he, n' + m, by rw [hm, World.drewN_drewN]⟩
            clear q5 hpl6 hb7 hpl7 hlx7 hjx hjy hB6 hpt hlt6
            go_wp2_with fail
            go_quiet ((go_at_call 33; exact HSP.out _))
            go_wp2_with fail
            go_ret
            exact ⟨rfl, below_n hB7 _⟩
          · skip
            have HND : Hid (∀ W', Pl W' w4.heap.size (some ⟨g, 0, none⟩) l → ∀ j u, (cells2 (l.drop (k + 1)))[j]? = some u → W'.cell? ((⟨g, (k + 1) * 2, none⟩ : Addr).add j) = some u) := by
              unfold Hid
              intro W' hpW
              have := (hpW.drop (k + 1)).news; rwa [Nat.zero_add] at this
            go_wp2_with fail
            rw [hkm]
            go_region_law (first
              | (refine step_manyP rfl (.tmp 75) (.tmp 78) rfl w.heap.size w4.heap.size 0 [] tk tk HNA.out (by simp [Act.eval, Act.put]) ⟨g, 0, none⟩ k c (by simp [Act.eval, Act.put]) HT1.out HP1.out ho0 (by simp) (by omega) (by have := hB4.size; simp; omega) ?_; intro g5 c5 w5 ho5 hg5 hf5; have hbf := grown_bel5 hg5; have hp5 := hpA.below hbf; have hB5 : Below w.heap.size w w5 := (hbA.alloc hbA.size _).grown hg5 (by have := hB4.size; simp; omega) (fun kk e => by injection e with e; rw [← e]; exact hB4.size); have ho5l := ho5.parts.2.1; have HNE := Lib.hid (HND.out w5 hp5))
              | (refine step_manyP rfl (.tmp 79) (.tmp 83) rfl w.heap.size g5 c5 tk ls (l.drop (k + 1)) HLS.out (by simp [Act.eval, Act.put]) ⟨g, (k + 1) * 2, none⟩ (l.length - (k + 1)) (c - (k + 1)) (by simp [Act.eval, Act.put]) HDL.out HNE.out ho5 (by omega) (by omega) hB5.size ?_; intro g6 c6 w6 ho6 hg6 hf6))
            have hge5 := ho5.parts.1
            have hB6 : Below w.heap.size w w6 := hB5.grown hg6 hB5.size (fun kk e => by injection e with e; omega)
            have hg5f : w4.heap.size ≤ g5 := by
              rcases hf5 with e | e
              · omega
              · simp at e; omega
            have h45 : w4.heap.size ≤ w5.heap.size := by have := hbf.size; simp at this; omega
            have h46 : w4.heap.size ≤ w6.heap.size := Nat.le_trans h45 hg6.size
            have hpl6 : Pl w6 w4.heap.size (some ⟨g, 0, none⟩) l := hp5.below ((Below.refl w4.heap.size w5).grown hg6 h45 (fun kk e => by injection e with e; omega))
            obtain ⟨q1, q2, q3, q4, q5⟩ := ho6.parts
            clear ho5 ho6 hg5 hg6 hf5 hf6 hp5 hB5 hpA hbA ho0 hbf hg5f
            go_wp2_with fail
            refine (join_any need _ c6 ls _ q5 (by omega) q3).mono ?_
            rintro e w7 ⟨x, b, rfl, hjx, hb7⟩
            have hjy := hjx
            rw [← HLS.out, HTK.out] at hjy
            obtain ⟨rfl, rfl⟩ := less_joins HJ.out k hkl hlt hjy
            have hB7 : Below w.heap.size w w7 := hB6.trans (hb7.mono hB6.size)
            have hpl7 : Pl w7 w4.heap.size (some ⟨g, 0, none⟩) l := hpl6.below (hb7.mono h46)
            have hlx7 := (q5.below hb7).more hb7.size
            have HTT : Hid (ls.take k = tk) := by unfold Hid; rw [← HLS.out, HTK.out]; exact take_less l k hkl
            have hkc6 : k ≤ c6 := by omega
            have hkc6' : (k : Int) ≤ (c6 : Int) := by omega
            have hpt := hpl7.take k
            have hlt6 := hlx7.take k
            rw [← HTK.out] at hpt
            rw [HTT.out] at hlt6
            have HSP : Hid (∀ n', Calls Try.prog 33 #[.slice (some ⟨g, 0, none⟩) k c, .slice (some ⟨g6, 0, none⟩) k c6] (w7.drewN n') (fun e w'' => e = .returned (.bool true) ∧ ∃ m, w'' = w7.drewN m)) := by
              unfold Hid; intro n'
              have hc := sameParts_any (some ⟨g, 0, none⟩) (some ⟨g6, 0, none⟩) tk tk c c6 _ _ (w7.drewN n') (hpt.drewN n') (hlt6.drewN n') (by omega) (by omega)
              rw [HT1.out, eqP_same] at hc
              exact hc.mono fun _ _ ⟨he, m, hm⟩ => ⟨he, n' + m, by rw [hm, World.drewN_drewN]⟩
            clear q5 hpl6 hb7 hpl7 hlx7 hjx hjy hB6 hpt hlt6
            go_wp2_with fail
            go_quiet ((go_at_call 33; exact HSP.out _))
            go_wp2_with fail
            go_ret
            exact ⟨rfl, below_n hB7 _⟩
    · have g1 : decide (1048576 < len0) = false := by simp; omega
      have g2 : decide (1048576 < len1) = true := by simp; omega
      go_enter Try.func10, Try.ntmps10
      go_wp2_with fail
      go_ret
      exact ⟨rfl, Below.refl _ _⟩
  · have g1 : decide (1048576 < len0) = true := by simp; omega
    go_enter Try.func10, Try.ntmps10
    go_wp2_with fail
    go_ret
    exact ⟨rfl, Below.refl _ _⟩

end Go.Proofs.Ythdbbllcckimbaa
