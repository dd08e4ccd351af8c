/- What is drawn for the laws of trees. Conditions: the code is a slice of bytes. -/
import Derived.Test.YtgmbacgpaagkhaaLeaf
import Derived.Test.YtgmbacgpaagkhaaChk2
namespace Go.Proofs.Ytgmbacgpaagkhaa
open Go.RowKit
set_option linter.unusedVariables false
set_option linter.unusedSimpArgs false

theorem Dr.below {w0 w w' : World} {gr p g c : Nat} {l : List Int} (h : Dr w0 gr p g c l w) (hb : Below w.heap.size w w') : Dr w0 gr p g c l w' :=
  ⟨h.1.below hb h.1.lt, h.2.1.below hb h.2.1.parts.2.1, h.2.2.1, h.2.2.2.trans (hb.mono h.2.2.2.size)⟩
theorem Dr.sl {w0 w : World} {gr p g c : Nat} {l : List Int} (h : Dr w0 gr p g c l w) : Sl w w.heap.size (some ⟨g, 0, none⟩) l := h.2.1.parts.2.2.2.2.sl'

set_option maxHeartbeats 2000000 in
theorem drawRoot_any (A : Option Addr) (n c : Nat) (zs : List Int) (w : World) (h : Ints .u8 w w.heap.size A n c zs) :
    Calls Try.prog 22 #[.slice A n c] w (ListPost 32 w) := by
  go_enter Try.func22, Try.ntmps22
  go_wp2_with fail
  refine (open_any A n c zs _ h).mono ?_
  rintro e w1 ⟨rfl, hr1, hb1, hs1⟩
  go_wp2_with fail
  refine (drawRow_any w w.heap.size 0 _ hr1 hb1 (by omega)).mono ?_
  rintro e w2 ⟨g, c2, p2, l, rfl, hd, hl, hp⟩
  go_wp2_with fail
  go_ret
  obtain ⟨_, ho, _, hB⟩ := hd
  obtain ⟨q1, q2, q3, q4, q5⟩ := ho.parts
  exact ⟨g, c2, l, q1, rfl, q5, hl, q3, q4, hB⟩

def ProofDraw (w : World) (e : Ending) (w' : World) : Prop :=
  ∃ (g c : Nat) (l : List Int) (i : Int), w.heap.size ≤ g ∧ e = .returned (.tuple #[.slice (some ⟨g, 0, none⟩) l.length c, .int .i64 i]) ∧ Wr w' g l ∧ l.length ≤ 32 ∧ l.length ≤ c ∧ c ≤ maxLen ∧ Below w.heap.size w w'

set_option maxHeartbeats 2000000 in
theorem drawProof_any (A : Option Addr) (n c : Nat) (zs : List Int) (w : World) (h : Ints .u8 w w.heap.size A n c zs) :
    Calls Try.prog 25 #[.slice A n c] w (ProofDraw w) := by
  go_enter Try.func25, Try.ntmps25
  go_wp2_with fail
  refine (open_any A n c zs _ h).mono ?_
  rintro e w1 ⟨rfl, hr1, hb1, hs1⟩
  go_wp2_with fail
  refine (drawRow_any w w.heap.size 0 _ hr1 hb1 (by omega)).mono ?_
  rintro e w2 ⟨g, c2, p2, l, rfl, hd, hl, hp⟩
  clear hr1 hb1 hs1
  have hls : (l.length : Int) ≤ 32 := by omega
  go_wp2_with fail
  · skip
    refine (hd.pick 1 (by omega) (by omega)).mono ?_
    clear hd
    rintro e w3 ⟨a, rfl, ha0, ha1, hd⟩
    go_wp2_with fail
    refine (hd.pick 14 (by omega) (by omega)).mono ?_
    clear hd
    rintro e w4 ⟨b, rfl, hb0, hb1, hd⟩
    go_wp2_with fail
    refine (hd.pick 5 (by omega) (by omega)).mono ?_
    clear hd
    rintro e w5 ⟨d, rfl, hd0, hd1, hd⟩
    have hq : b / 13 = 0 ∨ b / 13 = 1 := by omega
    obtain ⟨q, hqe⟩ : ∃ q, q = b / 13 := ⟨_, rfl⟩
    have m0 : -2 ≤ b / 13 * (d - 2) := by rcases hq with e | e <;> rw [e] <;> omega
    have m1 : b / 13 * (d - 2) ≤ 2 := by rcases hq with e | e <;> rw [e] <;> omega
    go_wp2_with fail
    go_ret2
    obtain ⟨_, ho, _, hB⟩ := hd
    obtain ⟨q1, q2, q3, q4, q5⟩ := ho.parts
    exact ⟨g, c2, l, _, q1, rfl, q5, hl, q3, q4, hB⟩
  · have hl1 : 1 ≤ l.length := by omega
    refine (hd.pick (l.length : Int) (by omega) (by omega)).mono ?_
    clear hd
    rintro e w3 ⟨a, rfl, ha0, ha1, hd⟩
    go_wp2_with fail
    refine (hd.pick 14 (by omega) (by omega)).mono ?_
    clear hd
    rintro e w4 ⟨b, rfl, hb0, hb1, hd⟩
    go_wp2_with fail
    refine (hd.pick 5 (by omega) (by omega)).mono ?_
    clear hd
    rintro e w5 ⟨d, rfl, hd0, hd1, hd⟩
    have hq : b / 13 = 0 ∨ b / 13 = 1 := by omega
    obtain ⟨q, hqe⟩ : ∃ q, q = b / 13 := ⟨_, rfl⟩
    have m0 : -2 ≤ b / 13 * (d - 2) := by rcases hq with e | e <;> rw [e] <;> omega
    have m1 : b / 13 * (d - 2) ≤ 2 := by rcases hq with e | e <;> rw [e] <;> omega
    go_wp2_with fail
    go_ret2
    obtain ⟨_, ho, _, hB⟩ := hd
    obtain ⟨q1, q2, q3, q4, q5⟩ := ho.parts
    exact ⟨g, c2, l, _, q1, rfl, q5, hl, q3, q4, hB⟩
def CheckDraw (w : World) (e : Ending) (w' : World) : Prop :=
  ∃ (root size i leaf : Int) (g c : Nat) (ps : List Int), e = .returned (.tuple #[.int .i64 root, .int .i64 size, .int .i64 i, .int .i64 leaf, .slice (some ⟨g, 0, none⟩) ps.length c]) ∧ Wr w' g ps ∧ ps.length ≤ 10 ∧ ps.length ≤ c ∧ c ≤ maxLen ∧ Below w.heap.size w w'
theorem proofN_len4 : ∀ (f : Nat) (l : List Int) (i : Nat), (Dag.proofN f l i).length ≤ f
  | 0, _, _ => by simp [Dag.proofN]
  | f + 1, l, i => by
    have := proofN_len4 f (Dag.up l) (i / 2)
    unfold Dag.proofN
    split
    · rw [List.length_append]
      split <;> simp <;> omega
    · simp
theorem proofV_len4 (l : List Int) (i : Int) : (proofV l i).length ≤ 4 := by
  unfold proofV
  split
  · exact proofN_len4 4 _ _
  · simp
theorem Wr.rows {w : World} {g : Nat} {l : List Int} (h : Wr w g l) : ∀ j u, (l.map (Value.int .i64))[j]? = some u → w.cell? ((⟨g, 0, none⟩ : Addr).add j) = some u := by
  intro j u hu
  simp only [List.getElem?_map, Option.map_eq_some_iff] at hu
  obtain ⟨v, hv, rfl⟩ := hu
  obtain ⟨hj, rfl⟩ := List.getElem?_eq_some_iff.1 hv
  have := h.cell hj
  rw [nth_lt hj] at this
  by_cases hz : j = 0
  · subst hz; simpa [Addr.add] using this
  · simpa [Addr.add, hz] using this
theorem Wr.far {w w' : World} {g g' : Nat} {l : List Int} (h : Wr w g l) (hg : w.grownBy w' (some g')) (hne : g ≠ g') : Wr w' g l := h.block (hg.block g h.lt (fun e => hne (by injection e)))

set_option maxHeartbeats 16000000 in
theorem drawCheck_any (A : Option Addr) (n c : Nat) (zs : List Int) (w : World) (h : Ints .u8 w w.heap.size A n c zs) :
    Calls Try.prog 24 #[.slice A n c] w (CheckDraw w) := by
  obtain ⟨i0, hi, hz0, hz1, hz2⟩ := info_parts info_int
  go_enter Try.func24, Try.ntmps24
  go_wp2_with fail
  refine (open_any A n c zs _ h).mono ?_
  rintro e w1 ⟨rfl, hr1, hb1, hs1⟩
  go_wp2_with fail
  refine (drawRow_any w w.heap.size 0 _ hr1 hb1 (by omega)).mono ?_
  rintro e w2 ⟨g, c2, p2, l, rfl, hd, hl, hp⟩
  clear hr1 hb1 hs1
  have hls : (l.length : Int) ≤ 32 := by omega
  go_wp2_with fail
  · skip
    refine (hd.pick 1 (by omega) (by omega)).mono ?_
    clear hd
    rintro e w3 ⟨a, rfl, ha0, ha1, hd⟩
    go_wp2_with fail
    refine (proofS_any _ _ l a _ hd.sl (by omega)).mono ?_
    rintro e w4 ⟨gp, cp, hgp, rfl, up, hcp, hcm, hb4⟩
    have hne1 : gp ≠ w.heap.size := by have := hd.1.lt; omega
    have hgpw : w.heap.size ≤ gp := by have := hd.1.lt; omega
    replace hd := hd.below hb4
    have hPl := proofV_len4 l a
    obtain ⟨P, hP⟩ : ∃ P, P = proofV l a := ⟨_, rfl⟩
    rw [← hP] at up hcp hPl ⊢
    clear hP hb4 hgp
    go_wp2_with fail
    refine (rootS_any _ _ l _ hd.sl (by omega)).mono ?_
    rintro e w5 ⟨rfl, hb5⟩
    replace up := up.below hb5 up.lt
    replace hd := hd.below hb5
    obtain ⟨R, hR⟩ : ∃ R, R = rootV l := ⟨_, rfl⟩
    rw [← hR]
    clear hR hb5
    have ta : decide (a < (l.length : Int)) = false := by simp; omega
    go_wp2_with fail
    refine (hd.pick' 9 (by omega) (by omega)).mono ?_
    rintro e w6 ⟨y, rfl, hy0, hy1, hd6, hg6⟩
    replace up := up.far hg6 hne1
    clear hd hg6
    have hd := hd6
    clear hd6
    by_cases y0 : y = 0
    · subst y0
      go_wp2_with fail
      refine (digest_any _ _ _ _ hd.1 (by omega)).mono ?_
      rintro e w7 ⟨x, p7, rfl, _, _, hp7, hr7, hg7⟩
      replace up := up.far hg7 hne1
      replace hd := hd.rd hr7 hg7
      go_wp2_with fail
      refine bodyPost_ret (v := .tuple #[.int .i64 R, .int .i64 l.length, .int .i64 a, .int .i64 x, .slice (some ⟨gp, 0, none⟩) P.length cp]) (by simp [results, Try.results24, go_sem]) rfl ⟨_, _, _, _, gp, cp, P, rfl, up, by omega, hcp, hcm, hd.2.2.2⟩
    · have y0' : (y == 0) = false := by simpa using y0
      by_cases y1 : y = 1
      · subst y1
        go_wp2_with fail
        refine (hd.pick' 18 (by omega) (by omega)).mono ?_
        rintro e w7 ⟨x, rfl, hx0, hx1, hd7, hg7⟩
        replace up := up.far hg7 hne1
        replace hd := hd7
        go_wp2_with fail
        refine bodyPost_ret (v := .tuple #[.int .i64 R, .int .i64 l.length, .int .i64 (x - 1), .int .i64 0, .slice (some ⟨gp, 0, none⟩) P.length cp]) (by simp [results, Try.results24, go_sem]) rfl ⟨_, _, _, _, gp, cp, P, rfl, up, by omega, hcp, hcm, hd.2.2.2⟩
      · have y1' : (y == 1) = false := by simpa using y1
        by_cases y2 : y = 2
        · subst y2
          go_wp2_with fail
          refine (hd.pick' 19 (by omega) (by omega)).mono ?_
          rintro e w7 ⟨x, rfl, hx0, hx1, hd7, hg7⟩
          replace up := up.far hg7 hne1
          replace hd := hd7
          go_wp2_with fail
          refine bodyPost_ret (v := .tuple #[.int .i64 R, .int .i64 (x - 1), .int .i64 a, .int .i64 0, .slice (some ⟨gp, 0, none⟩) P.length cp]) (by simp [results, Try.results24, go_sem]) rfl ⟨_, _, _, _, gp, cp, P, rfl, up, by omega, hcp, hcm, hd.2.2.2⟩
        · have y2' : (y == 2) = false := by simpa using y2
          by_cases y3 : y = 3
          · subst y3
            have hgr := hd.1.lt
            have hgp := up.lt
            have hown0 := OwnI.made w6 w.heap.size hd.2.2.2.size
            go_wp2_with (at_builtin; refine wpList_app rfl _ _ 22 rfl w.heap.size 3 i0 (.int .i64 0) 1 8 Try.underlying22 hi hz0 hz1 hz2 rfl (by decide) w6.heap.size 0 0 [] rfl hown0 ⟨gp, 0, none⟩ P.length cp (P.map (Value.int .i64)) rfl (by simp) ?c1 ?c2 ?c3 ?c4 ?c5 ?_)
            case c1 => exact (up.block (Below.heap_alloc _ _ _ hgp)).rows
            case c2 => intro u hu; simp only [List.mem_map] at hu; obtain ⟨v, _, rfl⟩ := hu; rfl
            case c3 => simp only [maxLen]; omega
            case c4 => omega
            case c5 => have := hd.2.2.2.size; simp; omega
            intro g' c' w7 h3 h4 h5
            have ho7 : OwnI w7 w.heap.size g' c' P := by unfold OwnI; simpa using h3
            have hr7 : RdAt w7 w.heap.size w.heap.size _ := (hd.1.alloc _).grown h4 (by simp; omega) (fun kk e => by injection e with e; omega)
            have hB7 : Below w.heap.size w w7 := (hd.2.2.2.alloc hd.2.2.2.size _).grown h4 (by have := hd.2.2.2.size; simp; omega) (fun kk e => by injection e with e; omega)
            have hne7 : g' ≠ w.heap.size := by
              rcases h5 with e | e
              · omega
              · try simp at e
                omega
            have hd7 : Dr w w.heap.size _ g' c' P w7 := ⟨hr7, ho7, hne7, hB7⟩
            clear h3 h4 h5 ho7 hr7 hB7 hown0
            try simp only [Nat.zero_add]
            go_wp2_with fail
            refine (digest_any _ _ _ _ hd7.1 (by omega)).mono ?_
            rintro e w8 ⟨x, p8, rfl, _, _, hp8, hr8, hg8⟩
            have hd8 := hd7.rd hr8 hg8
            clear hd7 hr8 hg8
            go_wp2_with (at_builtin; refine wpList_one rfl _ _ rfl w.heap.size g' c' P (P ++ [x]) x rfl rfl _ rfl (by simp) hd8.2.1 (by omega) hd8.2.2.2.size ?_)
            intro g9 c9 w9 ho9 hg9 hf9
            have hd9 := hd8.grown ho9 hg9 hf9
            obtain ⟨q1, q2, q3, q4, q5⟩ := ho9.parts
            obtain ⟨P9, hP9⟩ : ∃ P9, P9 = P ++ [x] := ⟨_, rfl⟩
            have hP9l : P9.length ≤ 10 := by rw [hP9]; simp; omega
            have hll : P.length + 1 = P9.length := by rw [hP9]; simp
            rw [← hP9] at q3 q5
            clear hd8 ho9 hg9 hf9
            try rw [← hP9]
            clear hP9
            try rw [hll]
            go_wp2_with fail
            refine bodyPost_ret (v := .tuple #[.int .i64 R, .int .i64 l.length, .int .i64 a, .int .i64 0, .slice (some ⟨g9, 0, none⟩) P9.length c9]) (by simp [results, Try.results24, go_sem]) rfl ⟨_, _, _, _, g9, c9, P9, rfl, q5, hP9l, q3, q4, hd9.2.2.2⟩
          · have y3' : (y == 3) = false := by simpa using y3
            by_cases y4 : y = 4
            · subst y4
              by_cases hP0 : 0 < P.length
              · have t0 : decide ((0 : Int) < (P.length : Int)) = true := by simp; omega
                go_wp2_with fail
                refine (hd.pick' (P.length : Int) (by omega) (by omega)).mono ?_
                rintro e w7 ⟨u, rfl, hu0, hu1, hd7, hg7⟩
                replace up := up.far hg7 hne1
                replace hd := hd7
                clear hd7 hg7
                go_wp2_with fail
                refine (digest_any _ _ _ _ hd.1 (by omega)).mono ?_
                rintro e w8 ⟨x, p8, rfl, _, _, hp8, hr8, hg8⟩
                replace up := up.far hg8 hne1
                replace hd := hd.rd hr8 hg8
                clear hr8 hg8
                have iu : u.toNat < P.length := by omega
                have hf8 := up.frozen u.toNat
                have hc8 := up.cell iu
                have up' := up.set u.toNat x iu
                have hb8 := hd.2.2.2.setCell (p := ⟨gp, u.toNat, none⟩) hgpw (.int .i64 x)
                obtain ⟨P8, hP8⟩ : ∃ P8, P8 = P.set u.toNat x := ⟨_, rfl⟩
                have hll : P8.length = P.length := by rw [hP8]; simp
                rw [← hP8] at up'
                go_wp2_with fail
                rw [← hll]
                refine bodyPost_ret (v := .tuple #[.int .i64 R, .int .i64 l.length, .int .i64 a, .int .i64 0, .slice (some ⟨gp, 0, none⟩) P8.length cp]) (by simp [results, Try.results24, go_sem]) rfl ⟨_, _, _, _, gp, cp, P8, rfl, up', by omega, by omega, hcm, hb8⟩
              · have t0 : decide ((0 : Int) < (P.length : Int)) = false := by simp only [decide_eq_false_iff_not]; omega
                have t0' : decide (0 < P.length) = false := by simp only [decide_eq_false_iff_not]; omega
                go_wp2_with fail
                refine bodyPost_ret (v := .tuple #[.int .i64 R, .int .i64 l.length, .int .i64 a, .int .i64 0, .slice (some ⟨gp, 0, none⟩) P.length cp]) (by simp [results, Try.results24, go_sem]) rfl ⟨_, _, _, _, gp, cp, P, rfl, up, by omega, hcp, hcm, hd.2.2.2⟩
            · have y4' : (y == 4) = false := by simpa using y4
              by_cases y5 : y = 5
              · subst y5
                go_wp2_with fail
                refine (digest_any _ _ _ _ hd.1 (by omega)).mono ?_
                rintro e w7 ⟨x, p7, rfl, _, _, hp7, hr7, hg7⟩
                replace up := up.far hg7 hne1
                replace hd := hd.rd hr7 hg7
                go_wp2_with fail
                refine bodyPost_ret (v := .tuple #[.int .i64 x, .int .i64 l.length, .int .i64 a, .int .i64 0, .slice (some ⟨gp, 0, none⟩) P.length cp]) (by simp [results, Try.results24, go_sem]) rfl ⟨_, _, _, _, gp, cp, P, rfl, up, by omega, hcp, hcm, hd.2.2.2⟩
              · have y5' : (y == 5) = false := by simpa using y5
                go_wp2_with fail
                refine bodyPost_ret (v := .tuple #[.int .i64 R, .int .i64 l.length, .int .i64 a, .int .i64 0, .slice (some ⟨gp, 0, none⟩) P.length cp]) (by simp [results, Try.results24, go_sem]) rfl ⟨_, _, _, _, gp, cp, P, rfl, up, by omega, hcp, hcm, hd.2.2.2⟩
  · have hl1 : 1 ≤ l.length := by omega
    refine (hd.pick (l.length : Int) (by omega) (by omega)).mono ?_
    clear hd
    rintro e w3 ⟨a, rfl, ha0, ha1, hd⟩
    go_wp2_with fail
    refine (proofS_any _ _ l a _ hd.sl (by omega)).mono ?_
    rintro e w4 ⟨gp, cp, hgp, rfl, up, hcp, hcm, hb4⟩
    have hne1 : gp ≠ w.heap.size := by have := hd.1.lt; omega
    have hgpw : w.heap.size ≤ gp := by have := hd.1.lt; omega
    replace hd := hd.below hb4
    have hPl := proofV_len4 l a
    obtain ⟨P, hP⟩ : ∃ P, P = proofV l a := ⟨_, rfl⟩
    rw [← hP] at up hcp hPl ⊢
    clear hP hb4 hgp
    go_wp2_with fail
    refine (rootS_any _ _ l _ hd.sl (by omega)).mono ?_
    rintro e w5 ⟨rfl, hb5⟩
    replace up := up.below hb5 up.lt
    replace hd := hd.below hb5
    obtain ⟨R, hR⟩ : ∃ R, R = rootV l := ⟨_, rfl⟩
    rw [← hR]
    clear hR hb5
    have hal : a.toNat < l.length := by omega
    have ta : decide (a < (l.length : Int)) = true := by simp; omega
    have hca := hd.2.1.cell hal
    go_wp2_with fail
    clear hca
    refine (hd.pick' 9 (by omega) (by omega)).mono ?_
    rintro e w6 ⟨y, rfl, hy0, hy1, hd6, hg6⟩
    replace up := up.far hg6 hne1
    clear hd hg6
    have hd := hd6
    clear hd6
    by_cases y0 : y = 0
    · subst y0
      go_wp2_with fail
      refine (digest_any _ _ _ _ hd.1 (by omega)).mono ?_
      rintro e w7 ⟨x, p7, rfl, _, _, hp7, hr7, hg7⟩
      replace up := up.far hg7 hne1
      replace hd := hd.rd hr7 hg7
      go_wp2_with fail
      refine bodyPost_ret (v := .tuple #[.int .i64 R, .int .i64 l.length, .int .i64 a, .int .i64 x, .slice (some ⟨gp, 0, none⟩) P.length cp]) (by simp [results, Try.results24, go_sem]) rfl ⟨_, _, _, _, gp, cp, P, rfl, up, by omega, hcp, hcm, hd.2.2.2⟩
    · have y0' : (y == 0) = false := by simpa using y0
      by_cases y1 : y = 1
      · subst y1
        go_wp2_with fail
        refine (hd.pick' 18 (by omega) (by omega)).mono ?_
        rintro e w7 ⟨x, rfl, hx0, hx1, hd7, hg7⟩
        replace up := up.far hg7 hne1
        replace hd := hd7
        go_wp2_with fail
        refine bodyPost_ret (v := .tuple #[.int .i64 R, .int .i64 l.length, .int .i64 (x - 1), .int .i64 (nth l a.toNat), .slice (some ⟨gp, 0, none⟩) P.length cp]) (by simp [results, Try.results24, go_sem]) rfl ⟨_, _, _, _, gp, cp, P, rfl, up, by omega, hcp, hcm, hd.2.2.2⟩
      · have y1' : (y == 1) = false := by simpa using y1
        by_cases y2 : y = 2
        · subst y2
          go_wp2_with fail
          refine (hd.pick' 19 (by omega) (by omega)).mono ?_
          rintro e w7 ⟨x, rfl, hx0, hx1, hd7, hg7⟩
          replace up := up.far hg7 hne1
          replace hd := hd7
          go_wp2_with fail
          refine bodyPost_ret (v := .tuple #[.int .i64 R, .int .i64 (x - 1), .int .i64 a, .int .i64 (nth l a.toNat), .slice (some ⟨gp, 0, none⟩) P.length cp]) (by simp [results, Try.results24, go_sem]) rfl ⟨_, _, _, _, gp, cp, P, rfl, up, by omega, hcp, hcm, hd.2.2.2⟩
        · have y2' : (y == 2) = false := by simpa using y2
          by_cases y3 : y = 3
          · subst y3
            have hgr := hd.1.lt
            have hgp := up.lt
            have hown0 := OwnI.made w6 w.heap.size hd.2.2.2.size
            go_wp2_with (at_builtin; refine wpList_app rfl _ _ 22 rfl w.heap.size 3 i0 (.int .i64 0) 1 8 Try.underlying22 hi hz0 hz1 hz2 rfl (by decide) w6.heap.size 0 0 [] rfl hown0 ⟨gp, 0, none⟩ P.length cp (P.map (Value.int .i64)) rfl (by simp) ?c1 ?c2 ?c3 ?c4 ?c5 ?_)
            case c1 => exact (up.block (Below.heap_alloc _ _ _ hgp)).rows
            case c2 => intro u hu; simp only [List.mem_map] at hu; obtain ⟨v, _, rfl⟩ := hu; rfl
            case c3 => simp only [maxLen]; omega
            case c4 => omega
            case c5 => have := hd.2.2.2.size; simp; omega
            intro g' c' w7 h3 h4 h5
            have ho7 : OwnI w7 w.heap.size g' c' P := by unfold OwnI; simpa using h3
            have hr7 : RdAt w7 w.heap.size w.heap.size _ := (hd.1.alloc _).grown h4 (by simp; omega) (fun kk e => by injection e with e; omega)
            have hB7 : Below w.heap.size w w7 := (hd.2.2.2.alloc hd.2.2.2.size _).grown h4 (by have := hd.2.2.2.size; simp; omega) (fun kk e => by injection e with e; omega)
            have hne7 : g' ≠ w.heap.size := by
              rcases h5 with e | e
              · omega
              · try simp at e
                omega
            have hd7 : Dr w w.heap.size _ g' c' P w7 := ⟨hr7, ho7, hne7, hB7⟩
            clear h3 h4 h5 ho7 hr7 hB7 hown0
            try simp only [Nat.zero_add]
            go_wp2_with fail
            refine (digest_any _ _ _ _ hd7.1 (by omega)).mono ?_
            rintro e w8 ⟨x, p8, rfl, _, _, hp8, hr8, hg8⟩
            have hd8 := hd7.rd hr8 hg8
            clear hd7 hr8 hg8
            go_wp2_with (at_builtin; refine wpList_one rfl _ _ rfl w.heap.size g' c' P (P ++ [x]) x rfl rfl _ rfl (by simp) hd8.2.1 (by omega) hd8.2.2.2.size ?_)
            intro g9 c9 w9 ho9 hg9 hf9
            have hd9 := hd8.grown ho9 hg9 hf9
            obtain ⟨q1, q2, q3, q4, q5⟩ := ho9.parts
            obtain ⟨P9, hP9⟩ : ∃ P9, P9 = P ++ [x] := ⟨_, rfl⟩
            have hP9l : P9.length ≤ 10 := by rw [hP9]; simp; omega
            have hll : P.length + 1 = P9.length := by rw [hP9]; simp
            rw [← hP9] at q3 q5
            clear hd8 ho9 hg9 hf9
            try rw [← hP9]
            clear hP9
            try rw [hll]
            go_wp2_with fail
            refine bodyPost_ret (v := .tuple #[.int .i64 R, .int .i64 l.length, .int .i64 a, .int .i64 (nth l a.toNat), .slice (some ⟨g9, 0, none⟩) P9.length c9]) (by simp [results, Try.results24, go_sem]) rfl ⟨_, _, _, _, g9, c9, P9, rfl, q5, hP9l, q3, q4, hd9.2.2.2⟩
          · have y3' : (y == 3) = false := by simpa using y3
            by_cases y4 : y = 4
            · subst y4
              by_cases hP0 : 0 < P.length
              · have t0 : decide ((0 : Int) < (P.length : Int)) = true := by simp; omega
                go_wp2_with fail
                refine (hd.pick' (P.length : Int) (by omega) (by omega)).mono ?_
                rintro e w7 ⟨u, rfl, hu0, hu1, hd7, hg7⟩
                replace up := up.far hg7 hne1
                replace hd := hd7
                clear hd7 hg7
                go_wp2_with fail
                refine (digest_any _ _ _ _ hd.1 (by omega)).mono ?_
                rintro e w8 ⟨x, p8, rfl, _, _, hp8, hr8, hg8⟩
                replace up := up.far hg8 hne1
                replace hd := hd.rd hr8 hg8
                clear hr8 hg8
                have iu : u.toNat < P.length := by omega
                have hf8 := up.frozen u.toNat
                have hc8 := up.cell iu
                have up' := up.set u.toNat x iu
                have hb8 := hd.2.2.2.setCell (p := ⟨gp, u.toNat, none⟩) hgpw (.int .i64 x)
                obtain ⟨P8, hP8⟩ : ∃ P8, P8 = P.set u.toNat x := ⟨_, rfl⟩
                have hll : P8.length = P.length := by rw [hP8]; simp
                rw [← hP8] at up'
                go_wp2_with fail
                rw [← hll]
                refine bodyPost_ret (v := .tuple #[.int .i64 R, .int .i64 l.length, .int .i64 a, .int .i64 (nth l a.toNat), .slice (some ⟨gp, 0, none⟩) P8.length cp]) (by simp [results, Try.results24, go_sem]) rfl ⟨_, _, _, _, gp, cp, P8, rfl, up', by omega, by omega, hcm, hb8⟩
              · have t0 : decide ((0 : Int) < (P.length : Int)) = false := by simp only [decide_eq_false_iff_not]; omega
                have t0' : decide (0 < P.length) = false := by simp only [decide_eq_false_iff_not]; omega
                go_wp2_with fail
                refine bodyPost_ret (v := .tuple #[.int .i64 R, .int .i64 l.length, .int .i64 a, .int .i64 (nth l a.toNat), .slice (some ⟨gp, 0, none⟩) P.length cp]) (by simp [results, Try.results24, go_sem]) rfl ⟨_, _, _, _, gp, cp, P, rfl, up, by omega, hcp, hcm, hd.2.2.2⟩
            · have y4' : (y == 4) = false := by simpa using y4
              by_cases y5 : y = 5
              · subst y5
                go_wp2_with fail
                refine (digest_any _ _ _ _ hd.1 (by omega)).mono ?_
                rintro e w7 ⟨x, p7, rfl, _, _, hp7, hr7, hg7⟩
                replace up := up.far hg7 hne1
                replace hd := hd.rd hr7 hg7
                go_wp2_with fail
                refine bodyPost_ret (v := .tuple #[.int .i64 x, .int .i64 l.length, .int .i64 a, .int .i64 (nth l a.toNat), .slice (some ⟨gp, 0, none⟩) P.length cp]) (by simp [results, Try.results24, go_sem]) rfl ⟨_, _, _, _, gp, cp, P, rfl, up, by omega, hcp, hcm, hd.2.2.2⟩
              · have y5' : (y == 5) = false := by simpa using y5
                go_wp2_with fail
                refine bodyPost_ret (v := .tuple #[.int .i64 R, .int .i64 l.length, .int .i64 a, .int .i64 (nth l a.toNat), .slice (some ⟨gp, 0, none⟩) P.length cp]) (by simp [results, Try.results24, go_sem]) rfl ⟨_, _, _, _, gp, cp, P, rfl, up, by omega, hcp, hcm, hd.2.2.2⟩
end Go.Proofs.Ytgmbacgpaagkhaa
