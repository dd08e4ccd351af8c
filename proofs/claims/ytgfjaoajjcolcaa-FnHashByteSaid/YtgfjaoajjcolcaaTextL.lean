/- The walks of FnHashEmpty and FnHashByte. No condition. -/
import Derived.Test.YtgfjaoajjcolcaaText
import Derived.Test.YtgfjaoajjcolcaaHash
import Derived.RegionTactic
import Derived.WalkSpells
namespace Go.Proofs.Ytgfjaoajjcolcaa
open Go.RowKit
set_option linter.unusedVariables false
set_option linter.unusedSimpArgs false

def dgF (d : Int) (l : List UInt8) : Int := l.foldl (fun d b => (257 * d + b.toNat + 1) % 991) d
theorem dgF_ne (l : List UInt8) : ∀ d e : Int, 0 ≤ d → d ≤ 990 → 0 ≤ e → e ≤ 990 → d ≠ e → dgF d l ≠ dgF e l := by
  induction l with
  | nil => intro d e _ _ _ _ h; exact h
  | cons b l ih =>
    intro d e h1 h2 h3 h4 h
    exact ih ((257 * d + b.toNat + 1) % 991) ((257 * e + b.toNat + 1) % 991) (by omega) (by omega) (by omega) (by omega) (by omega)
theorem dg_byte (a c : List UInt8) (x y : UInt8) (h : x ≠ y) : dg (a ++ [x] ++ c) ≠ dg (a ++ [y] ++ c) := by
  have e : ∀ z : UInt8, dg (a ++ [z] ++ c) = dgF ((257 * dg a + z.toNat + 1) % 991) c := fun z => by simp [dg, dgF]
  rw [e, e]
  have hx := x.toNat_lt
  have hy := y.toNat_lt
  have hne : x.toNat ≠ y.toNat := fun h' => h (UInt8.toNat_inj.1 h')
  have hr := dg_range a
  exact dgF_ne c _ _ (by omega) (by omega) (by omega) (by omega) (by omega)
theorem xor_byte (b : UInt8) (m : Int) (h1 : 1 ≤ m) (h2 : m ≤ 3) : UInt8.ofNat (bits BinOp.xor IntKind.u8 (b.toNat : Int) m).toNat ≠ b := by
  obtain ⟨n, rfl⟩ := Int.eq_ofNat_of_zero_le (show 0 ≤ m by omega)
  have hb := b.toNat_lt
  rw [u8_xor_nat b.toNat n (by omega) (by omega), Int.toNat_natCast]
  intro e
  have hx : b.toNat ^^^ n < 2 ^ 8 := Nat.xor_lt_two_pow (by omega) (by omega)
  have e2 : (UInt8.ofNat (b.toNat ^^^ n)).toNat = b.toNat := by rw [e]
  rw [UInt8.toNat_ofNat', Nat.mod_eq_of_lt (by omega)] at e2
  have e3 : b.toNat ^^^ (b.toNat ^^^ n) = b.toNat ^^^ b.toNat := by rw [e2]
  rw [← Nat.xor_assoc, Nat.xor_self, Nat.zero_xor] at e3
  omega
theorem text_split (s : ByteArray) (k : Nat) (h : k < s.size) : s.data.toList = (s.extract 0 k).data.toList ++ [s[k]] ++ (s.extract (k + 1) s.size).data.toList := by
  have h' : k < s.data.toList.length := by simpa using h
  have e1 : (s.extract 0 k).data.toList = s.data.toList.take k := by simp [ByteArray.data_extract]
  have e2 : (s.extract (k + 1) s.size).data.toList = s.data.toList.drop (k + 1) := by
    simp only [ByteArray.data_extract, Array.toList_extract]
    rw [List.extract_eq_take_drop, List.take_of_length_le (by simp)]
  rw [e1, e2]
  have := List.take_append_drop k s.data.toList
  rw [List.drop_eq_getElem_cons h'] at this
  rw [List.append_assoc]
  exact this.symm

set_option maxHeartbeats 4000000 in
theorem walk_FnHashEmpty (a0 : Option Addr) (len0 cap0 : Nat) (z0 : List Int) (w : World) (w0 : Ints .u8 w w.heap.size a0 len0 cap0 z0) :
    Calls Try.prog 5 #[.slice a0 len0 cap0] w fun e w' => e = .returned (.bool true) ∧ Below w.heap.size w w' := by
  by_cases h1 : len0 ≤ 1048576
  · have g1 : decide (1048576 < len0) = false := by simp; omega
    go_enter Try.func5, Try.ntmps5
    go_wp2_with fail
    refine (drawText_any a0 len0 cap0 z0 _ w0).mono ?_
    rintro e w2 ⟨s, rfl, hs, hb⟩
    by_cases hok : s.size ≤ 60
    · have hd := dg_range s.data.toList
      obtain ⟨d0, d1⟩ := hd
      have hk : decide ((s.size : Int) ≤ 60) = true := by simp; omega
      go_wp2_with fail
      refine (hash_ok s _ hok).mono ?_
      rintro e w3 ⟨rfl, rfl⟩
      go_wp2_with fail
      refine (hashS_ok s _ hok).mono ?_
      rintro e w3 ⟨rfl, rfl⟩
      go_wp2_with fail
      refine (hash_ok _ _ (by decide)).mono ?_
      rintro e w3 ⟨rfl, rfl⟩
      have h7 : dg (ByteArray.mk #[]).data.toList = 7 := rfl
      rw [h7]
      go_wp2_with fail
      go_ret
      exact ⟨rfl, hb⟩
    · have hk : decide ((s.size : Int) ≤ 60) = false := by simp; omega
      go_wp2_with fail
      refine (hash_bad s _ (by omega)).mono ?_
      rintro e w3 ⟨rfl, rfl⟩
      go_wp2_with fail
      refine (hashS_bad s _ (by omega)).mono ?_
      rintro e w3 ⟨rfl, rfl⟩
      go_wp2_with fail
      refine (hash_ok _ _ (by decide)).mono ?_
      rintro e w3 ⟨rfl, rfl⟩
      have h7 : dg (ByteArray.mk #[]).data.toList = 7 := rfl
      rw [h7]
      go_wp2_with fail
      go_ret
      exact ⟨rfl, hb⟩
  · have g1 : decide (1048576 < len0) = true := by simp; omega
    go_enter Try.func5, Try.ntmps5
    go_wp2_with fail
    go_ret
    exact ⟨rfl, Below.refl _ _⟩

set_option maxHeartbeats 4000000 in
theorem walk_FnHashByte (a0 : Option Addr) (len0 cap0 : Nat) (z0 : List Int) (a1 : Option Addr) (len1 cap1 : Nat) (z1 : List Int) (w : World) (w0 : Ints .u8 w w.heap.size a0 len0 cap0 z0) (w1 : Ints .u8 w w.heap.size a1 len1 cap1 z1) :
    Calls Try.prog 4 #[.slice a0 len0 cap0, .slice a1 len1 cap1] w fun e w' => e = .returned (.bool true) ∧ Below w.heap.size w w' := by
  by_cases h1 : len0 ≤ 1048576
  · by_cases h2 : len1 ≤ 1048576
    · have g1 : decide (1048576 < len0) = false := by simp; omega
      have g2 : decide (1048576 < len1) = false := by simp; omega
      go_enter Try.func4, Try.ntmps4
      go_wp2_with fail
      refine (drawText_any a0 len0 cap0 z0 _ w0).mono ?_
      rintro e w2 ⟨s, rfl, hs, hb⟩
      by_cases hok : s.size ≤ 60
      · have hd := dg_range s.data.toList
        obtain ⟨d0, d1⟩ := hd
        go_wp2_with fail
        refine (hash_ok s _ hok).mono ?_
        rintro e w3 ⟨rfl, rfl⟩
        go_wp2_with fail
        refine (hashS_ok s _ hok).mono ?_
        rintro e w3 ⟨rfl, rfl⟩
        by_cases hz : s.toList.isEmpty = true
        · go_wp2_with fail
          go_ret
          exact ⟨rfl, hb⟩
        · have hz' : s.toList.isEmpty = false := by simpa using hz
          have hpos : 0 < s.size := by
            rcases Nat.eq_zero_or_pos s.size with h0 | h0
            · exfalso
              have : s.toList = [] := List.eq_nil_of_length_eq_zero (by rw [← ByteArray.size_data] at h0; simpa [ByteArray.toList_eq] using h0)
              simp [this] at hz
            · exact h0
          have hnz : ¬ s.size = 0 := by omega
          go_wp2_with fail
          obtain ⟨k, hk, hkl⟩ : ∃ k : Nat, (len1 : Int) % (s.size : Int) = (k : Int) ∧ k < s.size := ⟨len1 % s.size, by simp, Nat.mod_lt _ hpos⟩
          rw [hk]
          have HK := Lib.hid hk
          clear hk
          have c1 : (k : Int) < (s.size : Int) := by omega
          have c2 : (0 : Int) ≤ (k : Int) := by omega
          have c3 : IntKind.i64.wrap ((k : Int) + 1) = (k : Int) + 1 := IntWalk.i64_in _ (by omega)
          have c4 : ((k : Int) + 1).toNat = k + 1 := by omega
          have z1 : (s.extract 0 k).size = k := by simp; omega
          have z3 : (s.extract (k + 1) s.size).size = s.size - (k + 1) := by simp
          obtain ⟨x, hx⟩ : ∃ x : Int, x = bits BinOp.xor IntKind.u8 (s[k].toNat) (1 + len1 % 3) := ⟨_, rfl⟩
          have z2 := one_size x
          have ad1 := fun W : World => run_string_add_sum (P := Try.prog) (w := W) (s.extract 0 k) (strOfNums [x]) (by rw [z1, z2]; omega)
          have ad2 := fun W : World => run_string_add_sum (P := Try.prog) (w := W) (s.extract 0 k ++ strOfNums [x]) (s.extract (k + 1) s.size) (by rw [ByteArray.size_append, z1, z2, z3]; omega)
          rw [hx] at ad1 ad2
          have hcv := conv_one_drew w2 (bits BinOp.xor IntKind.u8 (s[k].toNat) (1 + len1 % 3))
          go_region
          clear ad1 ad2 hcv c3 c4
          have hne : dg (s.extract 0 k ++ strOfNums [bits BinOp.xor IntKind.u8 (s[k].toNat) (1 + len1 % 3)] ++ s.extract (k + 1) s.size).data.toList ≠ dg s.data.toList := by
            rw [text_split s k hkl]
            have e : (s.extract 0 k ++ strOfNums [bits BinOp.xor IntKind.u8 (s[k].toNat) (1 + len1 % 3)] ++ s.extract (k + 1) s.size).data.toList = (s.extract 0 k).data.toList ++ [UInt8.ofNat (bits BinOp.xor IntKind.u8 (s[k].toNat) (1 + len1 % 3)).toNat] ++ (s.extract (k + 1) s.size).data.toList := by
              simp [strOfNums]
            rw [e]
            exact dg_byte _ _ _ _ (xor_byte _ _ (by omega) (by omega))
          have hsz : (s.extract 0 k ++ strOfNums [bits BinOp.xor IntKind.u8 (s[k].toNat) (1 + len1 % 3)] ++ s.extract (k + 1) s.size).size ≤ 60 := by
            rw [ByteArray.size_append, ByteArray.size_append, z1, z3, one_size]; omega
          rw [← hx] at hne hsz ⊢
          have HX := Lib.hid hx
          clear hx
          generalize ht : s.extract 0 k ++ strOfNums [x] ++ s.extract (k + 1) s.size = t at hne hsz ⊢
          have HT := Lib.hid ht
          clear ht
          go_wp2_with fail
          refine (hash_ok t _ hsz).mono ?_
          rintro e w3 ⟨rfl, rfl⟩
          have hv : (dg t.data.toList != dg s.data.toList) = true := by simpa using hne
          have hv2 : decide (dg s.data.toList < 991) = true := by simp; omega
          have HN := Lib.hid hne
          clear hne
          go_wp2_with fail
          go_ret
          exact ⟨rfl, (hb.alloc (by have := hb.size; omega) _).drew⟩
      · go_wp2_with fail
        refine (hash_bad s _ (by omega)).mono ?_
        rintro e w3 ⟨rfl, rfl⟩
        go_wp2_with fail
        refine (hashS_bad s _ (by omega)).mono ?_
        rintro e w3 ⟨rfl, rfl⟩
        go_wp2_with fail
        go_ret
        exact ⟨rfl, hb⟩
    · have g1 : decide (1048576 < len0) = false := by simp; omega
      have g2 : decide (1048576 < len1) = true := by simp; omega
      go_enter Try.func4, Try.ntmps4
      go_wp2_with fail
      go_ret
      exact ⟨rfl, Below.refl _ _⟩
  · have g1 : decide (1048576 < len0) = true := by simp; omega
    go_enter Try.func4, Try.ntmps4
    go_wp2_with fail
    go_ret
    exact ⟨rfl, Below.refl _ _⟩

end Go.Proofs.Ytgfjaoajjcolcaa
