/- The reader of drawn codes: what pick returns lies below its argument, and only the reader's own place turns. Conditions: the reader's place is below a million. -/
import Derived.Test.YtfkmiflddpjllaaBase
import Derived.Deep.QuietTactic
import Derived.BigQuiet
import Derived.Outline
import Derived.IntWalk
import Derived.Laws.BitsAllLaws
namespace Go.Proofs.Ytfkmiflddpjllaa
open Go.RowKit
set_option linter.unusedVariables false

/-- Exclusive or of ints that are not negative. -/
theorem i64_xor_nat (a b : Nat) (ha : a < 4611686018427387904) (hb : b < 4611686018427387904) : bits .xor .i64 (a : Int) (b : Int) = ((a ^^^ b : Nat) : Int) := by
  have hx : a ^^^ b < 2 ^ 62 := Nat.xor_lt_two_pow (by omega) (by omega)
  show IntKind.i64.wrap ((BitVec.ofInt 64 (a : Int) ^^^ BitVec.ofInt 64 (b : Int)).toNat : Int) = _
  rw [BitVec.toNat_xor, ofInt_u64 a (by omega), ofInt_u64 b (by omega)]
  simp [IntKind.wrap, IntKind.bits, IntKind.signed]
  omega
theorem i64_xor_pos (a b : Int) (ha : 0 ≤ a) (ha' : a < 4611686018427387904) (hb : 0 ≤ b) (hb' : b < 4611686018427387904) : 0 ≤ bits .xor .i64 a b := by
  obtain ⟨A, rfl⟩ := Int.eq_ofNat_of_zero_le ha
  obtain ⟨B, rfl⟩ := Int.eq_ofNat_of_zero_le hb
  rw [i64_xor_nat A B (by omega) (by omega)]
  omega

set_option maxHeartbeats 1000000 in
theorem pick_empty (g c : Nat) (A : Option Addr) (p : Nat) (m : Int) (w : World) (hp : p ≤ 1000000) (hm : 1 ≤ m)
    (h0 : w.cell? ⟨g, 0, none⟩ = some (.slice A 0 c)) (h1 : w.cell? ⟨g, 1, none⟩ = some (.int .i64 p)) (hf : w.frozen? ⟨g, 1, none⟩ = false) :
    Calls Try.prog 52 #[.pointer (some ⟨g, 0, none⟩), .int .i64 m] w fun e w' => e = .returned (.int .i64 0) ∧ w' = w.setCell ⟨g, 1, none⟩ (.int .i64 (p + 1)) := by
  go_enter Try.func52, Try.ntmps52
  go_wp2
  go_ret
  exact ⟨rfl, rfl⟩

set_option maxHeartbeats 1000000 in
theorem pick_in (g b off n c : Nat) (p : Nat) (z m : Int) (w : World) (hp : p ≤ 1000000) (hm : 1 ≤ m) (hpn : p < n) (hne : g ≠ b)
    (h0 : w.cell? ⟨g, 0, none⟩ = some (.slice (some ⟨b, off, none⟩) n c)) (h1 : w.cell? ⟨g, 1, none⟩ = some (.int .i64 p)) (hf : w.frozen? ⟨g, 1, none⟩ = false)
    (hz : w.cell? ⟨b, off + p, none⟩ = some (.int .u8 z)) (hz0 : 0 ≤ z) (hz1 : z ≤ 255) :
    Calls Try.prog 52 #[.pointer (some ⟨g, 0, none⟩), .int .i64 m] w fun e w' => e = .returned (.int .i64 (z % m)) ∧ w' = w.setCell ⟨g, 1, none⟩ (.int .i64 (p + 1)) := by
  have hn : ((n : Int) == 0) = false := by simp; omega
  have hz' : (w.setCell ⟨g, 1, none⟩ (.int .i64 (p + 1))).cell? ⟨b, off + p, none⟩ = some (.int .u8 z) := by
    rw [World.cell?_setCell_other _ _ _ _ (fun e => hne (by injection e))]; exact hz
  go_enter Try.func52, Try.ntmps52
  go_wp2
  go_ret
  exact ⟨rfl, rfl⟩

set_option maxHeartbeats 2000000 in
set_option maxRecDepth 100000 in
theorem pick_past (g b off n c : Nat) (p : Nat) (z1 z2 m : Int) (w : World) (hp : p ≤ 1000000) (hm : 1 ≤ m) (hn0 : 0 < n) (hpn : n ≤ p) (hne : g ≠ b)
    (h0 : w.cell? ⟨g, 0, none⟩ = some (.slice (some ⟨b, off, none⟩) n c)) (h1 : w.cell? ⟨g, 1, none⟩ = some (.int .i64 p)) (hf : w.frozen? ⟨g, 1, none⟩ = false)
    (hz : w.cell? ⟨b, off + p % n, none⟩ = some (.int .u8 z1)) (hz0 : 0 ≤ z1) (hz1 : z1 ≤ 255)
    (hy : w.cell? ⟨b, off + (p * 7 + 3) % n, none⟩ = some (.int .u8 z2)) (hy0 : 0 ≤ z2) (hy1 : z2 ≤ 255) :
    Calls Try.prog 52 #[.pointer (some ⟨g, 0, none⟩), .int .i64 m] w fun e w' => ∃ (v : Int) (nq : Nat), e = .returned (.int .i64 v) ∧ 0 ≤ v ∧ v < m ∧ w' = (w.setCell ⟨g, 1, none⟩ (.int .i64 (p + 1))).drewN nq := by
  have hn : ((n : Int) == 0) = false := by simp; omega
  have hz' : (w.setCell ⟨g, 1, none⟩ (.int .i64 (p + 1))).cell? ⟨b, off + p % n, none⟩ = some (.int .u8 z1) := by
    rw [World.cell?_setCell_other _ _ _ _ (fun e => hne (by injection e))]; exact hz
  have hy' : (w.setCell ⟨g, 1, none⟩ (.int .i64 (p + 1))).cell? ⟨b, off + (p * 7 + 3) % n, none⟩ = some (.int .u8 z2) := by
    rw [World.cell?_setCell_other _ _ _ _ (fun e => hne (by injection e))]; exact hy
  have hnz : ¬ n = 0 := by omega
  have b1 : p % n < n := Nat.mod_lt _ hn0
  have b2 : (p * 7 + 3) % n < n := Nat.mod_lt _ hn0
  have b3 : p / n ≤ p := Nat.div_le_self _ _
  have x1 : ((p : Int) % (n : Int)) = ((p % n : Nat) : Int) := by omega
  have x2 : (((p : Int) * 7 + 3) % (n : Int)) = (((p * 7 + 3) % n : Nat) : Int) := by simp
  have c1 : (p : Int) % (n : Int) < (n : Int) := by rw [x1]; omega
  have c2 : ((p : Int) * 7 + 3) % (n : Int) < (n : Int) := by rw [x2]; omega
  have c3 : (0 : Int) ≤ (p : Int) % (n : Int) := by rw [x1]; omega
  have c4 : (0 : Int) ≤ ((p : Int) * 7 + 3) % (n : Int) := by rw [x2]; omega
  have d1 : ((p : Int) % (n : Int)).toNat = p % n := by rw [x1]; exact Int.toNat_natCast _
  have d2 : (((p : Int) * 7 + 3) % (n : Int)).toNat = (p * 7 + 3) % n := by rw [x2]; exact Int.toNat_natCast _
  clear x1 x2
  obtain ⟨q, hq⟩ : ∃ q : Nat, q = p / n := ⟨_, rfl⟩
  rw [← hq] at b3
  have e3 : (p : Int) / (n : Int) = (q : Int) := by rw [hq]; simp
  clear hq
  have a1 : IntKind.i64.wrap (z1 * 131) = z1 * 131 := IntWalk.i64_in _ (by omega)
  have a2 : IntKind.i64.wrap ((p : Int) * 7) = (p : Int) * 7 := IntWalk.i64_in _ (by omega)
  have a3 : IntKind.i64.wrap ((p : Int) * 7 + 3) = (p : Int) * 7 + 3 := IntWalk.i64_in _ (by omega)
  have a4 : IntKind.i64.wrap (z2 * 1117) = z2 * 1117 := IntWalk.i64_in _ (by omega)
  have a5 : IntKind.i64.wrap (z1 * 131 + z2 * 1117) = z1 * 131 + z2 * 1117 := IntWalk.i64_in _ (by omega)
  have a6 : IntKind.i64.wrap ((p : Int) * 29) = (p : Int) * 29 := IntWalk.i64_in _ (by omega)
  have a7 : IntKind.i64.wrap (z1 * 131 + z2 * 1117 + (p : Int) * 29) = z1 * 131 + z2 * 1117 + (p : Int) * 29 := IntWalk.i64_in _ (by omega)
  have a8 : IntKind.i64.wrap (q : Int) = (q : Int) := IntWalk.i64_in _ (by omega)
  have a9 : IntKind.i64.wrap ((q : Int) * 53) = (q : Int) * 53 := IntWalk.i64_in _ (by omega)
  have a10 : IntKind.i64.wrap (z1 * 131 + z2 * 1117 + (p : Int) * 29 + (q : Int) * 53) = z1 * 131 + z2 * 1117 + (p : Int) * 29 + (q : Int) * 53 := IntWalk.i64_in _ (by omega)
  go_enter Try.func52, Try.ntmps52
  go_wp2
  go_quiet (fail)
  clear a1 a2 a3 a4 a5 a6 a7 a8 a9 a10 c1 c2 c3 c4 d1 d2 e3
  go_wp2
  go_ret
  have hx := i64_xor_pos (z1 * 131 + z2 * 1117 + p * 29 + q * 53) ((z1 * 131 + z2 * 1117 + p * 29 + q * 53) / 64) (by omega) (by omega) (by omega) (by omega)
  refine ⟨_, nq, rfl, ?_, ?_, rfl⟩
  · exact Int.tmod_nonneg _ hx
  · exact Int.tmod_lt_of_pos _ (by omega)

/-- Block g is a reader at place p over bytes below block B. -/
def RdAt (w : World) (B g p : Nat) : Prop :=
  B ≤ g ∧ ∃ (A : Option Addr) (n c : Nat) (zs : List Int), w.heap[g]? = some (.cells #[.slice A n c, .int .i64 p] 70 (0, 0)) ∧ Ints .u8 w B A n c zs

def PickPost (m : Int) (B g p : Nat) (w : World) (e : Ending) (w' : World) : Prop :=
  ∃ v : Int, e = .returned (.int .i64 v) ∧ 0 ≤ v ∧ v < m ∧ RdAt w' B g (p + 1) ∧ w.grownBy w' (some g) ∧ w'.heap.size = w.heap.size

theorem rd_cells {w : World} {g : Nat} {A : Option Addr} {n c : Nat} {p : Int} (h : w.heap[g]? = some (.cells #[.slice A n c, .int .i64 p] 70 (0, 0))) :
    w.cell? ⟨g, 0, none⟩ = some (.slice A n c) ∧ w.cell? ⟨g, 1, none⟩ = some (.int .i64 p) ∧ w.frozen? ⟨g, 1, none⟩ = false := by
  refine ⟨?_, ?_, ?_⟩ <;> simp [World.cell?, World.frozen?, h]
theorem rd_set {w : World} {g : Nat} {A : Option Addr} {n c : Nat} {p : Int} (h : w.heap[g]? = some (.cells #[.slice A n c, .int .i64 p] 70 (0, 0))) (u : Int) :
    (w.setCell ⟨g, 1, none⟩ (.int .i64 u)).heap[g]? = some (.cells #[.slice A n c, .int .i64 u] 70 (0, 0)) := by
  simp [World.setCell, Array.getElem?_modify, h]
theorem below_dn {B : Nat} {a w : World} (h : Below B a w) (n : Nat) : Below B a (w.drewN n) := ⟨h.os, h.tape, h.output, h.size, h.block⟩
theorem grown_set (w : World) (p : Addr) (u : Value) : w.grownBy (w.setCell p u) (some p.block) :=
  ⟨rfl, rfl, rfl, by simp [World.setCell], fun k _ hne => Below.heap_setCell _ _ _ _ (fun e => hne (by rw [e]))⟩

theorem rd_step {w w' : World} {B g p : Nat} {A : Option Addr} {n c : Nat} {zs : List Int} (nq : Nat) (hB : B ≤ g) (h : w.heap[g]? = some (.cells #[.slice A n c, .int .i64 p] 70 (0, 0)))
    (hi : Ints .u8 w B A n c zs) (hw : w' = (w.setCell ⟨g, 1, none⟩ (.int .i64 (p + 1))).drewN nq) : RdAt w' B g (p + 1) ∧ w.grownBy w' (some g) ∧ w'.heap.size = w.heap.size := by
  subst hw
  have hs := grown_set w ⟨g, 1, none⟩ (.int .i64 (p + 1))
  refine ⟨⟨hB, A, n, c, zs, ?_, ?_⟩, ⟨hs.os, hs.tape, hs.output, hs.size, hs.block⟩, by simp [World.setCell]⟩
  · exact rd_set h _
  · exact hi.below (below_dn ((Below.refl B w).setCell (p := ⟨g, 1, none⟩) hB (.int .i64 (p + 1))) nq)

theorem pick_any (m : Int) (B g p : Nat) (w : World) (h : RdAt w B g p) (hp : p ≤ 1000000) (hm : 1 ≤ m) :
    Calls Try.prog 52 #[.pointer (some ⟨g, 0, none⟩), .int .i64 m] w (PickPost m B g p w) := by
  obtain ⟨hB, A, n, c, zs, hg, hi⟩ := h
  obtain ⟨h0, h1, hf⟩ := rd_cells hg
  by_cases hn : n = 0
  · subst hn
    refine (pick_empty g c A p m w hp hm h0 h1 hf).mono fun e w' ⟨he, hw⟩ => ?_
    exact ⟨0, he, by omega, by omega, rd_step 0 hB hg hi hw⟩
  · obtain ⟨b, off, rfl, hb, hc⟩ := hi.2.2.2.2 (by omega)
    have hbd : ∀ j, 0 ≤ zs.getD j 0 ∧ zs.getD j 0 ≤ 255 := fun j => by
      rw [List.getD_eq_getElem?_getD]
      cases hj : zs[j]? with
      | none => simp
      | some z => exact bounds_u8 (hi.2.2.2.1 z (List.mem_of_getElem? hj))
    by_cases hpn : p < n
    · have := hbd p
      refine (pick_in g b off n c p _ m w hp hm hpn (by omega) h0 h1 hf (hc p hpn) this.1 this.2).mono fun e w' ⟨he, hw⟩ => ?_
      exact ⟨_, he, Int.emod_nonneg _ (by omega), Int.emod_lt_of_pos _ (by omega), rd_step 0 hB hg hi hw⟩
    · have i1 := hbd (p % n)
      have i2 := hbd ((p * 7 + 3) % n)
      refine (pick_past g b off n c p _ _ m w hp hm (by omega) (by omega) (by omega) h0 h1 hf (hc (p % n) (Nat.mod_lt _ (by omega))) i1.1 i1.2 (hc ((p * 7 + 3) % n) (Nat.mod_lt _ (by omega))) i2.1 i2.2).mono ?_
      rintro e w' ⟨v, nq, he, hv0, hv1, hw⟩
      exact ⟨v, he, hv0, hv1, rd_step nq hB hg hi hw⟩

theorem RdAt.alloc {w : World} {B g p : Nat} (h : RdAt w B g p) (o : Obj) : RdAt (w.alloc o) B g p := by
  obtain ⟨hB, A, n, c, zs, hg, hi⟩ := h
  have hlt : g < w.heap.size := (Array.getElem?_eq_some_iff.1 hg).1
  refine ⟨hB, A, n, c, zs, (Below.heap_alloc w o g hlt).trans hg, hi.below ((Below.refl B w).alloc (by omega) o)⟩
theorem RdAt.lt {w : World} {B g p : Nat} (h : RdAt w B g p) : g < w.heap.size := by
  obtain ⟨hB, A, n, c, zs, hg, hi⟩ := h
  exact (Array.getElem?_eq_some_iff.1 hg).1
theorem grown_alloc {a w : World} {row : Option Nat} (h : a.grownBy w row) (o : Obj) : a.grownBy (w.alloc o) row :=
  ⟨h.os, h.tape, h.output, Nat.le_trans h.size (by simp), fun i hi hne => (Below.heap_alloc w o i (Nat.lt_of_lt_of_le hi h.size)).trans (h.block i hi hne)⟩
theorem grown_trans {a b c : World} {row : Option Nat} (h : a.grownBy b row) (k : b.grownBy c row) : a.grownBy c row :=
  ⟨k.os.trans h.os, k.tape.trans h.tape, k.output.trans h.output, Nat.le_trans h.size k.size, fun i hi hne => (k.block i (Nat.lt_of_lt_of_le hi h.size) hne).trans (h.block i hi hne)⟩
theorem grown_far {w w' : World} {g : Nat} (h : w.grownBy w' (some g)) {b : Nat} (hb : b < w.heap.size) (hne : b ≠ g) (o : Nat) : w'.cell? ⟨b, o, none⟩ = w.cell? ⟨b, o, none⟩ :=
  World.cell?_of_block (h.block b hb (fun e => hne (by injection e)))
theorem grown_below {w w' : World} {g B : Nat} (h : w.grownBy w' (some g)) (hB : B ≤ g) (hB' : B ≤ w.heap.size) : Below B w w' :=
  ⟨h.os, h.tape, h.output, h.size, fun k hk => h.block k (by omega) (fun e => by injection e; omega)⟩

/-- A function over the reader returned a number from lo to hi, after at most k picks. -/
def NumPost (lo hi : Int) (k : Nat) (B g p : Nat) (w : World) (e : Ending) (w' : World) : Prop :=
  ∃ (v : Int) (p' : Nat), e = .returned (.int .i64 v) ∧ lo ≤ v ∧ v ≤ hi ∧ p' ≤ p + k ∧ RdAt w' B g p' ∧ w.grownBy w' (some g)

def Pair (lo hi lo' hi' : Int) (w : World) (e : Ending) (w' : World) : Prop :=
  ∃ a b : Int, e = .returned (.tuple #[.int .i64 a, .int .i64 b]) ∧ lo ≤ a ∧ a ≤ hi ∧ lo' ≤ b ∧ b ≤ hi' ∧ Below w.heap.size w w'

/-- A reader is opened in a new block. -/
def OpenPost (w : World) (e : Ending) (w' : World) : Prop :=
  e = .returned (.pointer (some ⟨w.heap.size, 0, none⟩)) ∧ RdAt w' w.heap.size w.heap.size 0 ∧ Below w.heap.size w w' ∧ w'.heap.size = w.heap.size + 1

set_option maxHeartbeats 1000000 in
theorem open_any (A : Option Addr) (n c : Nat) (zs : List Int) (w : World) (h : Ints .u8 w w.heap.size A n c zs) :
    Calls Try.prog 44 #[.slice A n c] w (OpenPost w) := by
  have hmax := h.2.2.1
  unfold maxLen at hmax
  have hnc := h.2.1
  by_cases hn : 2000 < n
  · obtain ⟨b, off, rfl, hb, hc⟩ := h.2.2.2.2 (by omega)
    have hn' : decide ((2000 : Int) < n) = true := by simp; omega
    go_enter Try.func44, Try.ntmps44
    go_wp2
    go_ret
    refine ⟨rfl, ⟨Nat.le_refl _, some ⟨b, off, none⟩, 2000, c, zs.take 2000, ?_, ?_⟩, (Below.refl _ _).alloc (Nat.le_refl _) _, by simp⟩
    · exact heap_alloc_new w _
    · have h2 : Ints .u8 w w.heap.size (some ⟨b, off, none⟩) 2000 c (zs.take 2000) := ⟨by have := h.1; simp; omega, by omega, h.2.2.1, fun z hz => h.2.2.2.1 z (List.mem_of_mem_take hz), fun _ => ⟨b, off, rfl, hb, fun j hj => by
        rw [hc j (by omega)]; simp [hj]⟩⟩
      exact h2.below ((Below.refl _ _).alloc (Nat.le_refl _) _)
  · have hn' : decide ((2000 : Int) < n) = false := by simp; omega
    go_enter Try.func44, Try.ntmps44
    go_wp2
    go_ret
    exact ⟨rfl, ⟨Nat.le_refl _, A, n, c, zs, heap_alloc_new w _, h.below ((Below.refl _ _).alloc (Nat.le_refl _) _)⟩, (Below.refl _ _).alloc (Nat.le_refl _) _, by simp⟩
end Go.Proofs.Ytfkmiflddpjllaa
