/- A row of symbols that is drawn. Conditions: few picks before. -/
import Derived.Test.YtfkmiflddpjllaaDraw
namespace Go.Proofs.Ytfkmiflddpjllaa
open Go.RowKit
set_option linter.unusedVariables false
set_option linter.unusedSimpArgs false

def RowPost (w0 : World) (gr p m : Nat) (e : Ending) (w' : World) : Prop :=
  ∃ (g c p' : Nat) (l : List Int), e = .returned (.slice (some ⟨g, 0, none⟩) l.length c) ∧ Dr w0 gr p' g c l w' ∧ l.length ≤ m ∧ p' ≤ p + 60
theorem Dr.rd {w0 w w' : World} {gr p p' g c : Nat} {l : List Int} (h : Dr w0 gr p g c l w) (hr : RdAt w' w0.heap.size gr p') (hg : w.grownBy w' (some gr)) : Dr w0 gr p' g c l w' :=
  ⟨hr, h.2.1.kept hg (fun e => h.2.2.1 (by injection e with e; exact e.symm)), h.2.2.1, h.2.2.2.trans (grown_below hg h.1.1 h.2.2.2.size)⟩

set_option maxHeartbeats 8000000 in
theorem drawRow_any (w0 : World) (gr p : Nat) (w : World) (hr : RdAt w w0.heap.size gr p) (hb : Below w0.heap.size w0 w) (hp : p ≤ 1000) :
    Calls Try.prog 60 #[.pointer (some ⟨gr, 0, none⟩)] w (RowPost w0 gr p 24) := by
  obtain ⟨i0, hi, hz0, hz1, hz2⟩ := info_parts info_int
  have hd0 : Dr w0 gr p w.heap.size 0 [] (w.alloc (.cells #[] 3)) := ⟨hr.alloc _, OwnI.made w _ hb.size, by have := hr.lt; omega, hb.alloc hb.size _⟩
  go_enter Try.func60, Try.ntmps60
  go_wp2_with fail
  go_loopw [3, 4] (fun v i wr => ∃ (k p' g c : Nat) (l : List Int), k ≤ 12 ∧ i = .int .i64 k ∧ l.length = k ∧ v = .slice (some ⟨g, 0, none⟩) l.length c ∧ p' ≤ p + 2 * k ∧ Dr w0 gr p' g c l wr) (fun _ i _ => 13 - (intOf i).toNat)
  case atStart => exact ⟨0, p, w.heap.size, 0, [], by omega, rfl, rfl, by simp, by omega, hd0⟩
  case round =>
    clear hd0 hr hb
    obtain ⟨k, p', g, c, l, hk, rfl, hlk, rfl, hp', hd⟩ := hrel
    have HLK := Lib.hid hlk
    clear hlk
    go_wp2_with fail
    refine (hd.pick 12 (by omega) (by omega)).mono ?_
    clear hd
    rintro e w2 ⟨v, rfl, hv0, hv1, hd⟩
    by_cases hlt : (k : Int) < 1 + v
    · have hl5 : l.length ≤ 12 := by have := HLK.out; omega
      go_wp2_with fail
      refine (hd.pick 251 (by omega) (by omega)).mono ?_
      clear hd
      rintro e w3 ⟨y, rfl, hy0, hy1, hd⟩
      go_wp2_with (at_builtin; refine wpList_one rfl _ _ rfl w0.heap.size g c l (l ++ [y]) y rfl rfl _ rfl (by simp) hd.2.1 (by omega) hd.2.2.2.size ?_)
      intro g' c' w4 ho hg hf
      have hd' := hd.grown ho hg hf
      clear hd ho hg hf
      go_wp2_with fail
      exact ⟨⟨k + 1, _, g', c', l ++ [y], by omega, by go_num, by simp; exact HLK.out, by simp, by omega, hd'⟩, by simp [intOf]; omega⟩
    · have hlt' : decide ((k : Int) < 1 + v) = false := by simp; omega
      have hl1 : 1 ≤ l.length := by have := HLK.out; omega
      have hl5 : l.length ≤ 12 := by have := HLK.out; omega
      go_wp2_with fail
      refine (hd.pick 20 (by omega) (by omega)).mono ?_
      clear hd
      rintro e w3 ⟨y, rfl, hy0, hy1, hd⟩
      by_cases y0 : y = 0
      · subst y0
        go_wp2_with fail
        refine (hd.pick (l.length : Int) (by omega) (by omega)).mono ?_
        clear hd
        rintro e w4 ⟨u, rfl, hu0, hu1, hd⟩
        have i2 : u.toNat < l.length := by omega
        have hdm := hd.alloc (.cells #[.int .i64 (-1), .int .i64 250, .int .i64 251] 3)
        have hgr3 := hd.1.lt
        go_wp2_with fail
        refine (hdm.pick' 3 (by omega) (by omega)).mono ?_
        clear hdm hd
        rintro e w5 ⟨t, rfl, ht0, ht1, hd5, hg5⟩
        obtain ⟨x, hx⟩ := pick3 hgr3 hg5 t ht0 ht1
        have hf5 := hd5.2.1.frozen u.toNat
        have hc5 := hd5.2.1.cell i2
        have hset := hd5.set u.toNat x i2
        go_wp2_with fail
        go_ret
        exact ⟨g, c, _, l.set u.toNat x, by simp, hset, by simp; omega, by omega⟩
      · have y0' : (y == 0) = false := by simpa using y0
        by_cases y1 : y = 1
        · subst y1
          have hw3 := hd.2.2.2.size
          go_wp2_with (at_builtin; refine wpList_app rfl _ _ 26 rfl w0.heap.size 3 i0 (.int .i64 0) 1 8 Try.underlying26 hi hz0 hz1 hz2 rfl (by decide) g c l.length (l.map (Value.int .i64)) rfl hd.2.1 ⟨g, 0, none⟩ l.length c (l.map (Value.int .i64)) rfl (by simp) ?c1 ?c2 ?c3 ?c4 ?c5 ?_)
          case c1 => exact World.ownsRow.cells hd.2.1 rfl
          case c2 => intro u hu; simp only [List.mem_map] at hu; obtain ⟨v, _, rfl⟩ := hu; rfl
          case c3 => simp only [maxLen]; omega
          case c4 => omega
          case c5 => exact hw3
          intro g' c' w5 h3 h4 h5
          have ho : OwnI w5 w0.heap.size g' c' (l ++ l) := by unfold OwnI; simpa using h3
          have hd' := hd.grown ho h4 (h5.imp_right (fun e => by omega))
          have hll : l.length + l.length = (l ++ l).length := by simp
          rw [hll]
          have hl2 : (l ++ l).length ≤ 24 := by simp; omega
          obtain ⟨L, hL⟩ : ∃ L, L = l ++ l := ⟨_, rfl⟩
          rw [← hL] at hd' hl2 ⊢
          clear hL hd ho h3 h4 h5 hll
          go_wp2_with fail
          go_ret
          exact ⟨g', c', _, L, rfl, hd', hl2, by omega⟩
        · have y1' : (y == 1) = false := by simpa using y1
          by_cases y2 : y = 2
          · subst y2
            have hdn : Dr w0 gr _ g c [] w3 := ⟨hd.1, hd.2.1.nil, hd.2.2⟩
            go_wp2_with fail
            go_ret
            exact ⟨g, c, _, [], rfl, hdn, by simp, by omega⟩
          · have y2' : (y == 2) = false := by simpa using y2
            go_wp2_with fail
            go_ret
            exact ⟨g, c, _, l, rfl, hd, by omega, by omega⟩
end Go.Proofs.Ytfkmiflddpjllaa
