/- The walks of FnMerkleRoots, FnMerkleLength, FnMerkleLeaf. No condition. -/
import Derived.Test.YtgmbacgpaagkhaaMrkQ
import Derived.Test.YtgmbacgpaagkhaaSame
namespace Go.Proofs.Ytgmbacgpaagkhaa
open Go.RowKit
set_option linter.unusedVariables false
set_option linter.unusedSimpArgs false

theorem bel_dn {B : Nat} {a w : World} (h : Below B a w) (n : Nat) : Below B a (w.drewN n) := ⟨h.os, h.tape, h.output, h.size, h.block⟩
theorem eqTo_same (l : List Int) : eqTo l l = true := by simp [eqTo]
theorem bne_same (b : Bool) : (b != b) = false := by cases b <;> rfl
theorem beq_same (b : Bool) : (b == b) = true := by cases b <;> rfl


set_option maxHeartbeats 16000000 in
theorem walk_FnMerkleRoots (a0 : Option Addr) (len0 cap0 : Nat) (z0 : List Int) (a1 : Option Addr) (len1 cap1 : Nat) (z1 : List Int) (w : World) (w0 : Ints .u8 w w.heap.size a0 len0 cap0 z0) (w1 : Ints .u8 w w.heap.size a1 len1 cap1 z1) :
    Calls Try.prog 9 #[.slice a0 len0 cap0, .slice a1 len1 cap1] w fun e w' => e = .returned (.bool true) ∧ Below w.heap.size w w' := by
  by_cases h1 : len0 ≤ 1048576
  · by_cases h2 : len1 ≤ 1048576
    · have g1 : decide (1048576 < len0) = false := by simp; omega
      have g2 : decide (1048576 < len1) = false := by simp; omega
      have hEV := eqTo_same
      go_enter Try.func9, Try.ntmps9
      go_wp2_with fail
      refine (drawCheck_any a0 len0 cap0 z0 _ w0).mono ?_
      clear w0
      rintro e w2 ⟨root, size, i, leaf, gp, cp, ps, rfl, up, hpl, hpc, hpm, hb2⟩
      go_wp2_with fail
      refine (check_any root size i leaf _ _ ps _ up.sl' (by omega)).mono ?_
      rintro e w3 ⟨rfl, hb3⟩
      replace up := up.below hb3 up.lt
      have hB : Below w.heap.size w w3 := hb2.trans (hb3.mono hb2.size)
      clear hb2 hb3
      by_cases hv : checkV root size i leaf ps = true
      · have HV := Lib.hid hv
        obtain ⟨r0, r1⟩ := check_root hv
        clear hv
        have q0 : 0 ≤ (len1 : Int) % 990 := by omega
        have q1 : (len1 : Int) % 990 ≤ 989 := by omega
        have hne : (root + 1 + (len1 : Int) % 990) % 991 ≠ root := by omega
        have t1 : ((root + 1 + (len1 : Int) % 990) % 991 == root) = false := by simpa using hne
        have HO := Lib.hid (check_other HV.out hne)
        clear hne
        go_wp2_with fail
        refine (checkS_any root size i leaf _ _ ps _ up.sl' (by omega) hpc).mono ?_
        rintro e w4 ⟨rfl, rfl⟩
        rw [HV.out]
        go_wp2_with fail
        refine (check_any _ size i leaf _ _ ps _ up.sl' (by omega)).mono ?_
        rintro e w5 ⟨rfl, hb5⟩
        rw [HO.out]
        have hB5 : Below w.heap.size w w5 := hB.trans (hb5.mono hB.size)
        go_wp2_with fail
        go_ret
        exact ⟨rfl, hB5⟩
      · have hv' : checkV root size i leaf ps = false := by simpa using hv
        go_wp2_with (go_at_call 12; refine (checkS_any root size i leaf _ _ ps _ up.sl' (by omega) hpc).mono ?_; rintro e w4 ⟨rfl, rfl⟩; rw [hv'])
        go_ret
        exact ⟨rfl, hB⟩
    · have g1 : decide (1048576 < len0) = false := by simp; omega
      have g2 : decide (1048576 < len1) = true := by simp; omega
      go_enter Try.func9, Try.ntmps9
      go_wp2_with fail
      go_ret
      exact ⟨rfl, Below.refl _ _⟩
  · have g1 : decide (1048576 < len0) = true := by simp; omega
    go_enter Try.func9, Try.ntmps9
    go_wp2_with fail
    go_ret
    exact ⟨rfl, Below.refl _ _⟩

set_option maxHeartbeats 16000000 in
theorem walk_FnMerkleLength (a0 : Option Addr) (len0 cap0 : Nat) (z0 : List Int) (w : World) (w0 : Ints .u8 w w.heap.size a0 len0 cap0 z0) :
    Calls Try.prog 8 #[.slice a0 len0 cap0] w fun e w' => e = .returned (.bool true) ∧ Below w.heap.size w w' := by
  by_cases h1 : len0 ≤ 1048576
  · have g1 : decide (1048576 < len0) = false := by simp; omega
    have hEV := eqTo_same
    obtain ⟨i0, hi, hz0, hz1, hz2⟩ := info_parts info_int
    go_enter Try.func8, Try.ntmps8
    go_wp2_with fail
    refine (drawCheck_any a0 len0 cap0 z0 _ w0).mono ?_
    clear w0
    rintro e w2 ⟨root, size, i, leaf, gp, cp, ps, rfl, up, hpl, hpc, hpm, hb2⟩
    go_wp2_with fail
    refine (check_any root size i leaf _ _ ps _ up.sl' (by omega)).mono ?_
    rintro e w3 ⟨rfl, hb3⟩
    replace up := up.below hb3 up.lt
    have hB : Below w.heap.size w w3 := hb2.trans (hb3.mono hb2.size)
    clear hb2 hb3
    by_cases hv : checkV root size i leaf ps = true
    · have HV := Lib.hid hv
      have hp4 := check_len hv
      clear hv
      go_wp2_with fail
      refine (checkS_any root size i leaf _ _ ps _ up.sl' (by omega) hpc).mono ?_
      rintro e w4 ⟨rfl, rfl⟩
      rw [HV.out]
      have t4 : decide ((ps.length : Int) ≤ 4) = true := by simp; omega
      have hgp := up.lt
      have hown0 := OwnI.made w3 w.heap.size hB.size
      have HQ := Lib.hid (check_long HV.out (qs := ps ++ [0]) (by simp))
      go_wp2_with (at_builtin; refine wpList_appG (by rfl) _ _ 22 rfl w.heap.size 3 i0 (.int .i64 0) 1 8 Try.underlying22 hi hz0 hz1 hz2 rfl (by decide) w3.heap.size 0 0 [] rfl hown0 ⟨gp, 0, none⟩ ps.length cp (ps.map (Value.int .i64)) rfl (by simp) ?c1 ?c2 ?c3 ?c4 ?c5 ?_)
      case c1 => exact (up.block (Below.heap_alloc _ _ _ hgp)).rows
      case c2 => intro u hu; simp only [List.mem_map] at hu; obtain ⟨v, _, rfl⟩ := hu; rfl
      case c3 => simp only [maxLen]; omega
      case c4 => omega
      case c5 => have := hB.size; simp; omega
      intro g' c' w7 h3 h4 h5
      have ho7 : OwnI w7 w.heap.size g' c' ps := by unfold OwnI; simpa using h3
      have hB7 : Below w.heap.size w w7 := (hB.alloc hB.size _).grown h4 (by have := hB.size; simp; omega) (fun kk e => by have := hB.size; injection e with e; omega)
      have up7 : Wr w7 gp ps := (up.block (Below.heap_alloc _ _ _ hgp)).far h4 (by omega)
      have hne7 : g' ≠ gp := by
        rcases h5 with e | e
        · omega
        · try simp at e
          omega
      clear h3 h4 h5 hown0
      try simp only [Nat.zero_add]
      go_wp2_with (at_builtin; refine wpList_oneG (by rfl) _ _ rfl w.heap.size g' c' ps (ps ++ [0]) 0 rfl rfl _ rfl (by simp) ho7 (by omega) hB7.size ?_)
      intro g9 c9 w9 ho9 hg9 hf9
      have hge7 := ho7.parts.1
      have hB9 : Below w.heap.size w w9 := hB7.grown hg9 hB7.size (fun kk e => by injection e with e; omega)
      have up9 : Wr w9 gp ps := up7.far hg9 (fun e => hne7 e.symm)
      have u9 := ho9.parts.2.2.2.2
      clear hg9 hf9 ho7 up7 hB7
      obtain ⟨Q9, hQ9⟩ : ∃ Q, Q = ps ++ [0] := ⟨_, rfl⟩
      have hql : Q9.length ≤ 10 := by rw [hQ9]; simp; omega
      have hll : ps.length + 1 = Q9.length := by rw [hQ9]; simp
      rw [← hQ9] at u9 HQ
      try rw [← hQ9]
      try rw [hll]
      clear hQ9 hll ho9
      go_wp2_with fail
      refine (check_any root size i leaf _ _ Q9 _ u9.sl' (by omega)).mono ?_
      rintro e w10 ⟨rfl, hb10⟩
      rw [HQ.out]
      have up10 := up9.below hb10 up9.lt
      have hB10 : Below w.heap.size w w10 := hB9.trans (hb10.mono hB9.size)
      clear up9 hB9 hb10 u9
      by_cases hz : ps.length = 0
      · have t5 : ((ps.length : Int) == 0) = true := by simp only [beq_iff_eq]; omega
        go_wp2_with fail
        go_ret
        exact ⟨rfl, hB10⟩
      · have t5 : ((ps.length : Int) == 0) = false := by simp only [beq_eq_false_iff_ne]; omega
        have HQ2 := Lib.hid (check_long HV.out (qs := ps.take (ps.length - 1)) (by simp; omega))
        have hs10 : Sl w10 w10.heap.size (some ⟨gp, 0, none⟩) (ps.take (ps.length - 1)) := fun hne => by
          refine ⟨gp, 0, rfl, up10.lt, fun j hj => ?_⟩
          have hj' : j < ps.length - 1 := by simp at hj; omega
          rw [Nat.zero_add, up10.cell (by omega)]
          simp [nth, hj', show j < ps.length by omega]
        obtain ⟨Q3, hQ3⟩ : ∃ Q, Q = ps.take (ps.length - 1) := ⟨_, rfl⟩
        have hq3 : Q3.length = ps.length - 1 := by rw [hQ3]; simp
        rw [← hQ3] at hs10 HQ2
        have hcall := check_any root size i leaf (some ⟨gp, 0, none⟩) cp Q3 w10 hs10 (by omega)
        rw [hq3, HQ2.out] at hcall
        have HC := Lib.hid hcall
        have x1 : ((ps.length : Int) - 1).toNat = ps.length - 1 := by omega
        have x2 : (0 : Int) ≤ (ps.length : Int) - 1 := by omega
        have x3 : (ps.length : Int) - 1 ≤ (cp : Int) := by omega
        have x4 : IntKind.i64.wrap ((ps.length : Int) - 1) = (ps.length : Int) - 1 := IntWalk.i64_in _ (by omega)
        unfold maxLen at hpm
        clear hcall hq3 hQ3
        go_wp2_with (go_at_call 14; refine HC.out.mono ?_; rintro e w11 ⟨rfl, hb11⟩; have hB11 := hB10.trans (hb11.mono hB10.size))
        go_ret
        exact ⟨rfl, hB11⟩
    · have hv' : checkV root size i leaf ps = false := by simpa using hv
      go_wp2_with (go_at_call 12; refine (checkS_any root size i leaf _ _ ps _ up.sl' (by omega) hpc).mono ?_; rintro e w4 ⟨rfl, rfl⟩; rw [hv'])
      go_ret
      exact ⟨rfl, hB⟩
  · have g1 : decide (1048576 < len0) = true := by simp; omega
    go_enter Try.func8, Try.ntmps8
    go_wp2_with fail
    go_ret
    exact ⟨rfl, Below.refl _ _⟩

set_option maxHeartbeats 16000000 in
theorem walk_FnMerkleLeaf (a0 : Option Addr) (len0 cap0 : Nat) (z0 : List Int) (a1 : Option Addr) (len1 cap1 : Nat) (z1 : List Int) (w : World) (w0 : Ints .u8 w w.heap.size a0 len0 cap0 z0) (w1 : Ints .u8 w w.heap.size a1 len1 cap1 z1) :
    Calls Try.prog 11 #[.slice a0 len0 cap0, .slice a1 len1 cap1] w fun e w' => e = .returned (.bool true) ∧ Below w.heap.size w w' := by
  by_cases h1 : len0 ≤ 1048576
  · by_cases h2 : len1 ≤ 1048576
    · have g1 : decide (1048576 < len0) = false := by simp; omega
      have g2 : decide (1048576 < len1) = false := by simp; omega
      have hEV := eqTo_same
      go_enter Try.func11, Try.ntmps11
      go_wp2_with fail
      refine (drawProof_any a0 len0 cap0 z0 _ w0).mono ?_
      clear w0
      rintro e w2 ⟨gd, cd, l, i, hgd, rfl, ud, hdl, hdc, hdm, hb2⟩
      go_wp2_with fail
      refine (proof_any _ _ l i _ ud.sl' (by omega)).mono ?_
      rintro e w3 ⟨gg, cg, hgg, rfl, ug, hcg, hcgm, hb3⟩
      have ud3 := ud.below hb3 ud.lt
      have hB3 : Below w.heap.size w w3 := hb2.trans (hb3.mono hb2.size)
      clear ud hb2 hb3
      go_wp2_with fail
      refine (proofS_any _ _ l i _ ud3.sl' (by omega)).mono ?_
      rintro e w4 ⟨gs, cs, hgs, rfl, us, hcs, hcsm, hb4⟩
      have ud4 := ud3.below hb4 ud3.lt
      have ug4 := ug.below hb4 ug.lt
      have hB4 : Below w.heap.size w w4 := hB3.trans (hb4.mono hB3.size)
      clear ud3 ug hB3 hb4
      have hvl := proofV_len4 l i
      obtain ⟨V, hV⟩ : ∃ V, V = proofV l i := ⟨_, rfl⟩
      rw [← hV] at hvl ug4 us hcg hcs ⊢
      have HV := Lib.hid hV
      clear hV
      go_wp2_with fail
      refine (sameInts_any (some ⟨gg, 0, none⟩) (some ⟨gs, 0, none⟩) V V cg cs _ _ _ ug4.sl us.sl (by omega) (by omega)).mono ?_
      rintro e w5 ⟨rfl, n5, rfl⟩
      rw [hEV V]
      have hB5 := bel_dn hB4 n5
      have ud5 := ud4.drewN n5
      have ug5 := ug4.drewN n5
      have us5 := us.drewN n5
      obtain ⟨W5, hW5⟩ : ∃ W, W = w4.drewN n5 := ⟨_, rfl⟩
      rw [← hW5] at hB5 ud5 ug5 us5 ⊢
      clear hW5 hB4 ud4 ug4 us
      have hneg := rootV_neg l
      by_cases hlv : leavesB l = true
      · rw [hlv] at hneg
        have t1 : decide (rootV l < 0) = false := hneg
        have HL := Lib.hid hlv
        clear hlv hneg
        go_wp2_with fail
        refine (rootS_any _ _ l _ ud5.sl' (by omega)).mono ?_
        rintro e w6 ⟨rfl, hb6⟩
        have ud6 := ud5.below hb6 ud5.lt
        have ug6 := ug5.below hb6 ug5.lt
        have us6 := us5.below hb6 us5.lt
        have hB6 : Below w.heap.size w w6 := hB5.trans (hb6.mono hB5.size)
        clear ud5 ug5 us5 hb6 hB5
        by_cases hi0 : i < 0
        · have t2 : decide (i < 0) = true := by simp; omega
          go_wp2_with fail
          refine (sameInts_any (some ⟨gg, 0, none⟩) (some ⟨gs, 0, none⟩) V V cg cs _ _ _ ug6.sl us6.sl (by omega) (by omega)).mono ?_
          rintro e w9 ⟨rfl, n9, rfl⟩
          rw [hEV V]
          go_wp2_with fail
          go_ret
          exact ⟨rfl, bel_dn hB6 _⟩
        · have t2 : decide (i < 0) = false := by simp; omega
          by_cases hi1 : (l.length : Int) ≤ i
          · have t3 : decide ((l.length : Int) ≤ i) = true := by simp; omega
            go_wp2_with fail
            refine (sameInts_any (some ⟨gg, 0, none⟩) (some ⟨gs, 0, none⟩) V V cg cs _ _ _ ug6.sl us6.sl (by omega) (by omega)).mono ?_
            rintro e w9 ⟨rfl, n9, rfl⟩
            rw [hEV V]
            go_wp2_with fail
            go_ret
            exact ⟨rfl, bel_dn hB6 _⟩
          · have t3 : decide ((l.length : Int) ≤ i) = false := by simp; omega
            obtain ⟨i, rfl⟩ := Int.eq_ofNat_of_zero_le (show 0 ≤ i by omega)
            have hil : i < l.length := by omega
            have c1 := ud6.cell hil
            obtain ⟨d0, d1⟩ := allIn_get (leavesB_parts HL.out).2.2 hil
            have q0 : 0 ≤ (len1 : Int) % 990 := by omega
            have q1 : (len1 : Int) % 990 ≤ 989 := by omega
            have hne : (nth l i + 1 + (len1 : Int) % 990) % 991 ≠ nth l i := by omega
            have HO := Lib.hid (check_leaf HL.out hil (x := (nth l i + 1 + (len1 : Int) % 990) % 991) (by omega) hne)
            have t4 : ((nth l i + 1 + (len1 : Int) % 990) % 991 == nth l i) = false := by simpa using hne
            clear hne hi0 hi1
            have j1 : (i : Int) < (l.length : Int) := by omega
            have j2 : (0 : Int) ≤ (i : Int) := by omega
            go_wp2_with (first
              | (go_at_call 17; refine (root_any _ _ l _ ud6.sl' (by omega)).mono ?_; rintro e w7 ⟨rfl, hb7⟩; have ug7 := ug6.below hb7 ug6.lt; have hB7 := hB6.trans (hb7.mono hB6.size))
              | (go_at_call 14; refine (check_any _ _ _ _ _ _ V _ ug7.sl' (by omega)).mono ?_; rintro e w8 ⟨rfl, hb8⟩; rw [HV.out, HO.out]; have hB8 := hB7.trans (hb8.mono hB7.size)))
            go_ret
            exact ⟨rfl, hB8⟩
      · have hlv' : leavesB l = false := by simpa using hlv
        rw [hlv'] at hneg
        have t1 : decide (rootV l < 0) = true := hneg
        clear hlv hlv' hneg
        go_wp2_with fail
        refine (rootS_any _ _ l _ ud5.sl' (by omega)).mono ?_
        rintro e w6 ⟨rfl, hb6⟩
        have ug6 := ug5.below hb6 ug5.lt
        have us6 := us5.below hb6 us5.lt
        have hB6 : Below w.heap.size w w6 := hB5.trans (hb6.mono hB5.size)
        clear ud5 ug5 us5 hb6 hB5
        go_wp2_with fail
        refine (sameInts_any (some ⟨gg, 0, none⟩) (some ⟨gs, 0, none⟩) V V cg cs _ _ _ ug6.sl us6.sl (by omega) (by omega)).mono ?_
        rintro e w9 ⟨rfl, n9, rfl⟩
        rw [hEV V]
        go_wp2_with fail
        go_ret
        exact ⟨rfl, bel_dn hB6 _⟩
    · have g1 : decide (1048576 < len0) = false := by simp; omega
      have g2 : decide (1048576 < len1) = true := by simp; omega
      go_enter Try.func11, Try.ntmps11
      go_wp2_with fail
      go_ret
      exact ⟨rfl, Below.refl _ _⟩
  · have g1 : decide (1048576 < len0) = true := by simp; omega
    go_enter Try.func11, Try.ntmps11
    go_wp2_with fail
    go_ret
    exact ⟨rfl, Below.refl _ _⟩
end Go.Proofs.Ytgmbacgpaagkhaa
