/- The walk of FnExactShardJoin. No condition. -/
import Derived.Test.YtfkmiflddpjllaaShG
import Derived.Test.YtfkmiflddpjllaaShH
import Derived.Test.YtfkmiflddpjllaaShB
namespace Go.Proofs.Ytfkmiflddpjllaa
open Go.RowKit
set_option linter.unusedVariables false
set_option linter.unusedSimpArgs false

theorem JoinSh.small {size need : Int} {l : List Sh} {out : List Int} {ok : Bool} (h : JoinSh size need l out ok) : out.length ≤ 12 := by
  cases ok with
  | true => exact (data_of h).2.1
  | false =>
    rcases h with ⟨_, h, _⟩ | ⟨_, _, _, _, _, ⟨_, _, h⟩ | ⟨_, h, _⟩⟩
    · rw [h]; simp
    · cases h
    · rw [h]; simp
theorem Wr.by_ {w w' : World} {g r : Nat} {l : List Int} (h : Wr w g l) (hg : w.grownBy w' (some r)) (hne : g ≠ r) : Wr w' g l :=
  h.block (hg.block g h.lt (fun e => hne (by injection e)))

set_option maxHeartbeats 4000000 in
theorem walk_FnExactShardJoin (size need : Int) (A : Option Addr) (n c : Nat) (l : List Sh) (w : World) (wf : (Lit.int .i64 size).wf = true) (wf' : (Lit.int .i64 need).wf = true) (w0 : ShardsAt w A n c l) :
    Calls Try.prog 10 #[.int .i64 size, .int .i64 need, .slice A n c] w fun e w' => e = .returned (.bool true) ∧ Below w.heap.size w w' := by
  obtain ⟨rfl, hc, hm, h, hv⟩ := w0
  have HV9 : Hid (∀ j, j < l.length → (val_ l j).length ≤ 9223372036854775807) := by
    unfold Hid; intro j hj; have := hv j hj; unfold maxLen at this; omega
  have hl9 : l.length ≤ 9223372036854775807 := by unfold maxLen at hm; omega
  clear hv hc hm wf wf'
  go_enter Try.func10, Try.ntmps10
  go_wp2_with fail
  refine (szS_any A l c _ h hl9 HV9.out).mono ?_
  rintro e w1 ⟨r, rfl, hr, hb1⟩
  rcases hr with rfl | ⟨hr0, hkf⟩
  · go_wp2_with fail
    go_ret
    exact ⟨rfl, hb1⟩
  · have t0 : decide (r < 0) = false := by simp only [decide_eq_false_iff_not]; omega
    have t0' : ¬ r < 0 := by omega
    have hkl := kf_ge l 1 l.length
    have hl2 : l.length ≤ 2000000 := by omega
    have HVZ : Hid (∀ j, j < l.length → (val_ l j).length ≤ 2000000) := by unfold Hid; intro j hj; have := kf_val l 1 hj; omega
    have hkb : kf l 1 l.length ≤ 2000000 := by omega
    have HKB := Lib.hid hkb
    have HES := Lib.hid (eqSh_same l)
    clear HV9 hl9 hkl hkf hkb
    go_wp2_with fail
    refine (toS_any A l c _ ((h.below hb1).more hb1.size) hl2 HVZ.out).mono ?_
    rintro e w2 ⟨H1, rfl, o1, d1, hb2⟩
    have hB2 : Below w.heap.size w w2 := hb1.trans (hb2.mono hb1.size)
    clear hb1 hb2 d1
    go_wp2_with fail
    refine (joinR_any size need _ l.length l _ o1.shl hl2 HVZ.out).mono ?_
    rintro e w3 ⟨out, ok, gw, cw, rfl, hj, hgw, uw, hcw, hcwm, hb3⟩
    have hB3 : Below w.heap.size w w3 := hB2.trans (hb3.mono hB2.size)
    have ho12 := hj.small
    have HJ := Lib.hid hj
    have HEL := Lib.hid (eqTo_refl out)
    have hgwl := uw.lt
    clear o1 hB2 hb3 hj hcwm
    go_wp2_with fail
    refine (toS_any A l c _ ((h.below hB3).more hB3.size) hl2 HVZ.out).mono ?_
    rintro e w4 ⟨HX, rfl, ox, dx, hb4⟩
    have hB4 : Below w.heap.size w w4 := hB3.trans (hb4.mono hB3.size)
    have uw4 := uw.below hb4 uw.lt
    have hgx : w.heap.size ≤ w3.heap.size := hB3.size
    have HXB : Hid (∀ j, j < l.length → w3.heap.size ≤ (HX j).1 ∧ (HX j).1 < w4.heap.size) := by unfold Hid; intro j hj; exact ⟨(ox.at_ hj).2.2.1, (ox.at_ hj).2.2.2.2.1⟩
    have hgxl := ox.parts.2.1
    have HDX := Lib.hid dx
    have ox4 := OwnS.base ox hgx
    obtain ⟨gx, hgxe⟩ : ∃ gx, gx = w3.heap.size := ⟨_, rfl⟩
    rw [← hgxe] at ox4 hgx hgxl hgwl HXB ⊢
    clear hgxe uw ox dx hb4 hB3
    go_wp2_with fail
    refine (joinF_any size need _ l.length l _ ox4.shl hl2 HVZ.out).mono ?_
    rintro e w5 ⟨out', ok', gg, cg, rfl, hj', hgg, ug, hcg, hcgm, hb5⟩
    obtain ⟨e1, e2⟩ := hj'.one HJ.out
    rw [e1] at ug hcg ⊢
    rw [e2]
    clear hj' e1 e2 out' ok' hcgm
    have hB5 : Below w.heap.size w w5 := hB4.trans (hb5.mono hB4.size)
    have uw5 := uw4.below hb5 uw4.lt
    have ox5 := ox4.below hb5
    have HGN : Hid (∀ j, j < l.length → gg ≠ (HX j).1 ∧ gw ≠ (HX j).1) := by unfold Hid; intro j hj; have := HXB.out j hj; omega
    have hgn : gg ≠ gx := by omega
    have hwn : gw ≠ gx := by omega
    have hgw' : gg ≠ gw := by omega
    have hggB : w.heap.size ≤ gg := by have := hB4.size; omega
    have HXB2 : Hid (∀ j, j < l.length → w.heap.size ≤ (HX j).1) := by unfold Hid; intro j hj; have := HXB.out j hj; omega
    clear hb5 hB4 uw4 ox4 hgg hgxl hgwl HXB hgw
    go_wp2_with fail
    refine (eqIntS_any (some ⟨gg, 0, none⟩) (some ⟨gw, 0, none⟩) out out cg cw _ _ _ ug.sl uw5.sl (by omega) (by omega)).mono ?_
    rintro e w6 ⟨rfl, n6, rfl⟩
    rw [HEL.out]
    have hB6 := bel_n hB5 n6
    have ox6 := ox5.drewN n6
    have uw6 := uw5.drewN n6
    have ug6 := ug.drewN n6
    obtain ⟨W6, hW6⟩ : ∃ W, W = w5.drewN n6 := ⟨_, rfl⟩
    rw [← hW6] at hB6 ox6 uw6 ug6 ⊢
    clear ox5 uw5 ug hB5 hW6
    go_wp2_with fail
    refine (toS_any A l c _ ((h.below hB6).more hB6.size) hl2 HVZ.out).mono ?_
    rintro e w7 ⟨H7, rfl, o7, d7, hb7⟩
    have hB7 : Below w.heap.size w w7 := hB6.trans (hb7.mono hB6.size)
    have ox7 := ox6.below hb7
    have uw7 := uw6.below hb7 uw6.lt
    have ug7 := ug6.below hb7 ug6.lt
    clear hb7 hB6 ox6 uw6 ug6 d7
    go_wp2_with fail
    refine (eqShardS_any (some ⟨gx, 0, none⟩) _ l l l.length l.length _ ox7.shl o7.shl hl2 hl2 HVZ.out HVZ.out).mono ?_
    rintro e w8 ⟨rfl, hb8⟩
    rw [HES.out]
    have hB8 : Below w.heap.size w w8 := hB7.trans (hb8.mono hB7.size)
    have ox8 := ox7.below hb8
    have uw8 := uw7.below hb8 uw7.lt
    have ug8 := ug7.below hb8 ug7.lt
    clear hb8 hB7 ox7 uw7 ug7 o7
    go_wp2_with fail
    refine (markS_any w.heap.size gx l.length 1 l HX _ ox8 HDX.out HKB.out hl2).mono ?_
    rintro e w9 ⟨lm, hlm, hlen, hmk, rfl, ox9, ht9⟩
    have hB9 : Below w.heap.size w w9 := hB8.trans (ht9.below hB8.size (fun q hq => by
      rcases hq with rfl | ⟨j, hj, rfl⟩
      · omega
      · have := HXB2.out j hj; omega))
    have uw9 := ht9.wr uw8 (fun hs => by
      rcases hs with e | ⟨j, hj, e⟩
      · omega
      · have := HGN.out j hj; omega)
    have ug9 := ht9.wr ug8 (fun hs => by
      rcases hs with e | ⟨j, hj, e⟩
      · omega
      · have := HGN.out j hj; omega)
    clear hlm hlen hmk ox9 ox8 ht9 hB8 uw8 ug8 HGN HXB2 lm
    have hkm : (0 : Int) ≤ ((kf l 1 l.length : Nat) : Int) := by omega
    obtain ⟨mv, hmv⟩ : ∃ mv : Int, mv = ((kf l 1 l.length : Nat) : Int) := ⟨_, rfl⟩
    rw [← hmv] at hkm ⊢
    have t1 : decide (mv < 0) = false := by simp only [decide_eq_false_iff_not]; omega
    have t1' : ¬ mv < 0 := by omega
    clear hmv
    go_wp2_with fail
    refine (eqIntS_any (some ⟨gg, 0, none⟩) (some ⟨gw, 0, none⟩) out out cg cw _ _ _ ug9.sl uw9.sl (by omega) (by omega)).mono ?_
    rintro e w10 ⟨rfl, n10, rfl⟩
    rw [HEL.out]
    have hB10 := bel_n hB9 n10
    have uw10 := uw9.drewN n10
    have ug10 := ug9.drewN n10
    obtain ⟨W10, hW10⟩ : ∃ W, W = w9.drewN n10 := ⟨_, rfl⟩
    rw [← hW10] at hB10 uw10 ug10 ⊢
    clear uw9 ug9 hB9 hW10
    go_wp2_with fail
    refine (mark_any gg cg 1 out _ ug10 (by omega) (by omega)).mono ?_
    rintro e w11 ⟨rfl, ug11, hg11, hs11⟩
    have hB11 : Below w.heap.size w w11 := hB10.trans (grown_bel hg11 hggB hB10.size)
    have uw11 := uw10.by_ hg11 (fun e => hgw' e.symm)
    clear hg11 hs11 uw10 ug10 hB10
    have HH : Hid (∀ W, Wr W gg (marks 1 out.length) → Calls Try.prog 41 #[.slice (some ⟨gg, 0, none⟩) out.length cg, .int .i64 1] W fun e w' => e = .returned (.int .i64 ((1 + out.length : Nat) : Int)) ∧ W = w') := by
      unfold Hid; intro W hW
      exact held_any gg cg 1 out.length W hW (by omega) (by omega)
    have hk2 : (0 : Int) ≤ ((1 + out.length : Nat) : Int) := by omega
    obtain ⟨mk, hmk⟩ : ∃ mk : Int, mk = ((1 + out.length : Nat) : Int) := ⟨_, rfl⟩
    rw [← hmk] at hk2 HH ⊢
    have t2 : decide (mk < 0) = false := by simp only [decide_eq_false_iff_not]; omega
    have t2' : ¬ mk < 0 := by omega
    have t3 : (mk != mk) = false := by simp
    clear hmk
    go_wp2_with fail
    refine (HH.out _ ug11).mono ?_
    rintro e w12 ⟨rfl, rfl⟩
    go_wp2_with fail
    refine (toS_any A l c _ ((h.below hB11).more hB11.size) hl2 HVZ.out).mono ?_
    rintro e w13 ⟨H13, rfl, o13, d13, hb13⟩
    have hB13 : Below w.heap.size w w13 := hB11.trans (hb13.mono hB11.size)
    have uw13 := uw11.below hb13 uw11.lt
    have ug13 := ug11.below hb13 ug11.lt
    clear hb13 hB11 uw11 ug11 d13
    go_wp2_with fail
    refine (joinF_any size need _ l.length l _ o13.shl hl2 HVZ.out).mono ?_
    rintro e w14 ⟨out', ok', gh, ch, rfl, hj', hgh, uh, hch, hchm, hb14⟩
    obtain ⟨e1, e2⟩ := hj'.one HJ.out
    rw [e1] at uh hch ⊢
    rw [e2]
    clear hj' e1 e2 out' ok' hchm
    have hB14 : Below w.heap.size w w14 := hB13.trans (hb14.mono hB13.size)
    have uw14 := uw13.below hb14 uw13.lt
    have ug14 := ug13.below hb14 ug13.lt
    clear hb14 hB13 uw13 ug13 o13 hgh
    go_wp2_with fail
    refine (eqIntS_any (some ⟨gh, 0, none⟩) (some ⟨gw, 0, none⟩) out out ch cw _ _ _ uh.sl uw14.sl (by omega) (by omega)).mono ?_
    rintro e w15 ⟨rfl, n15, rfl⟩
    rw [HEL.out]
    have hB15 := bel_n hB14 n15
    have ug15 := ug14.drewN n15
    obtain ⟨W15, hW15⟩ : ∃ W, W = w14.drewN n15 := ⟨_, rfl⟩
    rw [← hW15] at hB15 ug15 ⊢
    clear uw14 ug14 hB14 hW15 uh
    go_wp2_with fail
    refine (HH.out _ ug15).mono ?_
    rintro e w16 ⟨rfl, rfl⟩
    go_wp2_with fail
    go_ret
    exact ⟨rfl, hB15⟩
end Go.Proofs.Ytfkmiflddpjllaa
