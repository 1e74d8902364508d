/- WordWithin, WordValid, AlphabetOf, on both sides: what they compute, for every string and number. -/
import Derived.Test.YtnjakhojdhkihaaGreatDoorLetters
namespace Go.Proofs.YtnjakhojdhkihaaGreatDoor
open Go.RowKit
set_option linter.unusedVariables false
set_option linter.unusedSimpArgs false
set_option maxRecDepth 100000

theorem letterAt_c (s : ByteArray) (i : Nat) (c : UInt8) (hi : i < s.size) (hc : Hid (s[i] = c)) (hs : s.size ≤ 9223372036854775807) (w : World) : Calls Tryz.prog 25 #[.string s, .int .i64 i] w (Ret (.int .i64 (ltr c)) w) := by
  have := letterAt_any s i hi hs w
  rw [hc.out] at this
  exact this
theorem l1At_c (s : ByteArray) (i : Nat) (c : UInt8) (hi : i < s.size) (hc : Hid (s[i] = c)) (hs : s.size ≤ 9223372036854775807) (w : World) : Calls Tryz.prog 48 #[.string s, .int .i64 i] w (Ret (.int .i64 ((c.toNat : Int) - 97)) w) := by
  have := l1At_any s i hi hs w
  rw [hc.out] at this
  exact this
theorem ltr_of_ok {c : UInt8} (h : 0 ≤ ltr c) : (c.toNat : Int) - 97 = ltr c := by unfold ltr at *; split at h <;> simp_all
theorem ltr_of_no {c : UInt8} (h : ¬ 0 ≤ ltr c) : (c.toNat : Int) - 97 < 0 ∨ 6 ≤ (c.toNat : Int) - 97 := by unfold ltr at *; split at h <;> omega
theorem isA63 : isA 63 = true := by decide

def AllRel (s : ByteArray) (p : UInt8 → Bool) (i : Value) : Prop := ∃ k : Nat, k ≤ s.size ∧ i = .int .i64 k ∧ (s.data.toList.take k).all p = true

theorem or_nat (acc q : Nat) (h : acc < 64) (h1 : q < 64) : bits .or .i64 (acc : Int) (q : Int) = ((acc ||| q : Nat) : Int) := by
  rw [or_i64 _ _ (by omega) (by omega) (by omega) (by omega), Int.toNat_natCast, Int.toNat_natCast]
theorem pow_lt6 (x : Int) (h1 : x < 6) : 2 ^ x.toNat < 64 := Nat.pow_lt_pow_right (by decide : 1 < 2) (by omega : x.toNat < 6)
theorem or_step (acc : Nat) (x : Int) (h : acc < 64) (h0 : 0 ≤ x) (h1 : x < 6) : bits .or .i64 (acc : Int) (wrap64 (2 ^ x.toNat)) = ((acc ||| 2 ^ x.toNat : Nat) : Int) := by
  rw [wrap64_pow2 x (by omega)]
  exact or_nat acc _ h (pow_lt6 x h1)
theorem or_step2 (acc : Nat) (x : Int) (h : acc < 64) (h0 : 0 ≤ x) (h1 : x < 6) : bits .or .i64 (acc : Int) (2 ^ x.toNat) = ((acc ||| 2 ^ x.toNat : Nat) : Int) := by
  have e : ((2 : Int) ^ x.toNat) = ((2 ^ x.toNat : Nat) : Int) := by simp
  rw [e]
  exact or_nat acc _ h (pow_lt6 x h1)

def AlphRet (l : List UInt8) : Value := .tuple #[.int .i64 (if wvalid l then (alphN l : Int) else 0), .bool (wvalid l)]
def AlphRel (s : ByteArray) (v i : Value) : Prop := ∃ k : Nat, k ≤ s.size ∧ i = .int .i64 k ∧ v = .int .i64 (alphN (s.data.toList.take k) : Nat)

end Go.Proofs.YtnjakhojdhkihaaGreatDoor
