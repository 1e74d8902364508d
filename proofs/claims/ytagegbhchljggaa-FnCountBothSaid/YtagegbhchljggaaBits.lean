/- What the small functions on letters and bits compute: contracts of has, isAlphabet, letterByte, letterAt and of the reference's l1Alphabet, l1Bit, l1Has, l1At. For every argument that the text hands them. -/
import Derived.Test.YtagegbhchljggaaRows
import Derived.Test.YtagegbhchljggaaPlain
import Derived.WalkKit
import Derived.WalkSpells
import Derived.WalkLawsBesides
import Derived.Lib.Hide
namespace Go.Proofs.Ytagegbhchljggaa
open Go.RowKit
set_option linter.unusedVariables false
set_option linter.unusedSimpArgs false

theorem ret_int {k : IntKind} {a b : Int} (h : a = b) : Ending.returned (.int k a) = .returned (.int k b) := by rw [h]
theorem ret_bool {a b : Bool} (h : a = b) : Ending.returned (.bool a) = .returned (.bool b) := by rw [h]

theorem wraps_i64' (n : Int) (h₀ : 0 ≤ n) (h₁ : n < 2 ^ 63) : IntKind.i64.wrap n = n := by rw [IntKind.wrap_i64]; omega
theorem wraps_u64' (n : Int) (h₀ : 0 ≤ n) (h₁ : n < 2 ^ 64) : IntKind.u64.wrap n = n := by rw [IntKind.wrap_u64]; omega

theorem and_i64 (a b : Int) (ha : 0 ≤ a) (hb : 0 ≤ b) (ha' : a < 9223372036854775808) (hb' : b < 9223372036854775808) : bits .and .i64 a b = ((a.toNat &&& b.toNat : Nat) : Int) := by
  obtain ⟨x, rfl⟩ := Int.eq_ofNat_of_zero_le ha
  obtain ⟨y, rfl⟩ := Int.eq_ofNat_of_zero_le hb
  exact (bits_nat .i64 63 (by decide) wraps_i64' x y (by omega) (by omega)).1
theorem or_i64 (a b : Int) (ha : 0 ≤ a) (hb : 0 ≤ b) (ha' : a < 9223372036854775808) (hb' : b < 9223372036854775808) : bits .or .i64 a b = ((a.toNat ||| b.toNat : Nat) : Int) := by
  obtain ⟨x, rfl⟩ := Int.eq_ofNat_of_zero_le ha
  obtain ⟨y, rfl⟩ := Int.eq_ofNat_of_zero_le hb
  exact (bits_nat .i64 63 (by decide) wraps_i64' x y (by omega) (by omega)).2

theorem bit_of_shr (s n : Int) (hs : 0 ≤ s) (hs' : s < 9223372036854775808) : (bits .and .i64 (s / 2 ^ min n.toNat 64) 1 == 1) = s.toNat.testBit n.toNat := by
  obtain ⟨x, rfl⟩ := Int.eq_ofNat_of_zero_le hs
  have hx : x < 2 ^ 63 := by omega
  have hq : ((x : Int) / 2 ^ min n.toNat 64) = ((x / 2 ^ min n.toNat 64 : Nat) : Int) := by simp
  have hlt : x / 2 ^ min n.toNat 64 < 2 ^ 63 := Nat.lt_of_le_of_lt (Nat.div_le_self _ _) hx
  rw [hq]
  generalize hy : x / 2 ^ min n.toNat 64 = y at *
  rw [and_i64 _ _ (by omega) (by omega) (by omega) (by omega)]
  have e1 : ((y : Int).toNat &&& (1 : Int).toNat) = y % 2 := by
    rw [Int.toNat_natCast]; exact Nat.and_two_pow_sub_one_eq_mod _ 1
  rw [e1, Int.toNat_natCast, Nat.testBit_eq_decide_div_mod_eq]
  by_cases hn : n.toNat ≤ 64
  · rw [Nat.min_eq_left hn] at hy
    rw [hy, Bool.eq_iff_iff]; simp; omega
  · have h64 : x / 2 ^ 64 = 0 := Nat.div_eq_of_lt (by omega)
    have hbig : x / 2 ^ n.toNat = 0 := Nat.div_eq_of_lt (Nat.lt_of_lt_of_le (by omega : x < 2 ^ 64) (Nat.pow_le_pow_right (by decide) (by omega)))
    rw [Nat.min_eq_right (by omega), h64] at hy
    subst hy
    rw [hbig]; simp

def Ret (v : Value) (w : World) (e : Ending) (w' : World) : Prop := e = .returned v ∧ w = w'

theorem isAlphabet_any (n : Int) (w : World) : Calls Try.prog 39 #[.int .i64 n] w (Ret (.bool (isA n)) w) := by
  go_enter Try.func39, Try.ntmps39
  go_wp2
  · go_ret
    exact ⟨ret_bool (by simp [isA]; omega), rfl⟩
  · go_ret
    exact ⟨ret_bool (by simp [isA]; omega), rfl⟩

theorem l1Alphabet_any (n : Int) (w : World) : Calls Try.prog 34 #[.int .i64 n] w (Ret (.bool (isA n)) w) := by
  go_enter Try.func34, Try.ntmps34
  go_wp2
  · go_ret
    exact ⟨ret_bool (by simp [isA]; omega), rfl⟩
  · go_ret
    exact ⟨ret_bool (by simp [isA]; omega), rfl⟩

theorem has_any (s n : Int) (h0 : 0 ≤ s) (h1 : s < 9223372036854775808) (w : World) : Calls Try.prog 62 #[.int .i64 s, .int .i64 n] w (Ret (.bool (hasB s n)) w) := by
  go_enter Try.func62, Try.ntmps62
  go_wp2
  · go_ret
    exact ⟨ret_bool (by unfold hasB; rw [← bit_of_shr s n h0 h1]; simp; omega), rfl⟩
  · go_ret
    exact ⟨ret_bool (by simp [hasB]; omega), rfl⟩

theorem l1Has_any (s n : Int) (h0 : 0 ≤ s) (h1 : s < 9223372036854775808) (hn : 0 ≤ n) (hn' : n < 9223372036854775808) (w : World) : Calls Try.prog 60 #[.int .i64 s, .int .i64 n] w (Ret (.bool (hasB s n)) w) := by
  go_enter Try.func60, Try.ntmps60
  go_wp2
  go_ret
  exact ⟨ret_bool (by unfold hasB; rw [← bit_of_shr s n h0 h1]; simp; omega), rfl⟩

theorem pow2_lt (n : Nat) (h : n < 63) : (2 ^ n : Nat) < 9223372036854775808 := Nat.pow_lt_pow_of_lt (by decide : 1 < 2) h
theorem wrap64_pow2 (n : Int) (hn' : n < 63) : wrap64 (2 ^ n.toNat) = ((2 ^ n.toNat : Nat) : Int) := by
  have := pow2_lt n.toNat (by omega)
  have e : ((2 : Int) ^ n.toNat) = ((2 ^ n.toNat : Nat) : Int) := by simp
  rw [e]
  generalize 2 ^ n.toNat = q at *
  exact IntWalk.wrap64_in _ (by omega)

theorem l1Bit_any (n : Int) (hn : 0 ≤ n) (hn' : n < 63) (w : World) : Calls Try.prog 75 #[.int .i64 n] w (Ret (.int .i64 ((2 ^ n.toNat : Nat) : Int)) w) := by
  go_enter Try.func75, Try.ntmps75
  go_wp2
  go_ret
  exact ⟨ret_int (wrap64_pow2 n hn'), rfl⟩

theorem wrap64_byte (c : UInt8) : wrap64 (c.toNat : Int) = c.toNat := by
  have : c.toNat < 256 := c.toNat_lt
  exact IntWalk.wrap64_in _ (by omega)
theorem wrap64_97 (c : UInt8) : wrap64 (wrap64 (c.toNat : Int) - 97) = c.toNat - 97 := by
  have : c.toNat < 256 := c.toNat_lt
  rw [wrap64_byte]
  exact IntWalk.wrap64_in _ (by omega)
theorem byte_lt (c : UInt8) : (c.toNat : Int) < 256 := by have : c.toNat < 256 := c.toNat_lt; omega

set_option maxRecDepth 100000 in
theorem letterAt_any (s : ByteArray) (i : Nat) (hi : i < s.size) (hs : s.size ≤ 9223372036854775807) (w : World) : Calls Try.prog 47 #[.string s, .int .i64 i] w (Ret (.int .i64 (ltr s[i])) w) := by
  have hb := byte_lt s[i]
  by_cases h : (s[i].toNat : Int) < 97
  · have H : Hid (ltr s[i] = -1) := by show ltr s[i] = -1; unfold ltr; rw [if_neg (by omega)]
    go_enter Try.func47, Try.ntmps47
    go_wp2
    go_ret
    exact ⟨ret_int H.out.symm, rfl⟩
  · have h1 : 97 ≤ (s[i].toNat : Int) := by omega
    clear h
    by_cases h2 : (s[i].toNat : Int) < 103
    · have H : Hid (ltr s[i] = (s[i].toNat : Int) - 97) := by show ltr s[i] = _; unfold ltr; rw [if_pos (by omega)]
      go_enter Try.func47, Try.ntmps47
      go_wp2
      go_ret
      exact ⟨ret_int H.out.symm, rfl⟩
    · have H : Hid (ltr s[i] = -1) := by show ltr s[i] = -1; unfold ltr; rw [if_neg (by omega)]
      go_enter Try.func47, Try.ntmps47
      go_wp2
      go_ret
      exact ⟨ret_int H.out.symm, rfl⟩

theorem l1At_any (s : ByteArray) (i : Nat) (hi : i < s.size) (_hs : s.size ≤ 9223372036854775807) (w : World) : Calls Try.prog 65 #[.string s, .int .i64 i] w (Ret (.int .i64 ((s[i].toNat : Int) - 97)) w) := by
  have hb := byte_lt s[i]
  go_enter Try.func65, Try.ntmps65
  go_wp2
  go_ret
  exact ⟨rfl, rfl⟩

theorem eq_toList {a b : ByteArray} {l : List UInt8} (h1 : a.data.toList = l) (h2 : b.data.toList = l) : (a.toList == b.toList) = true := by
  rw [ByteArray.toList_eq, ByteArray.toList_eq, h1, h2]; simp

theorem wf_bounds (n : Int) (h : (Lit.int .i64 n).wf = true) : -9223372036854775808 ≤ n ∧ n < 9223372036854775808 := by
  simp [Lit.wf, IntKind.min, IntKind.max, IntKind.bits, IntKind.signed] at h
  omega

end Go.Proofs.Ytagegbhchljggaa
