/- slices.Index over ints, l1Place, WordNumber on both sides. -/
import Derived.Test.YtagegbhchljggaaFormat
namespace Go.Proofs.Ytagegbhchljggaa
open Go.RowKit
set_option linter.unusedVariables false
set_option linter.unusedSimpArgs false
set_option maxRecDepth 100000

def IdxRel (xs : List Int) (x : Int) (i : Value) : Prop := ∃ k : Nat, k ≤ xs.length ∧ i = .int .i64 k ∧ idxFrom (xs.drop k) x k = idxI xs x

def PlaceRel (a : Int) (v i : Value) : Prop := ∃ k : Nat, k ≤ 6 ∧ i = .int .i64 k ∧ v = .int .i64 ((letsTo a k).length : Nat)

set_option maxHeartbeats 400000 in
theorem l1Place_any (a x : Int) (h0 : 0 ≤ a) (h1 : a < 9223372036854775808) (hx0 : 0 ≤ x) (hx1 : x < 6) (w : World) : Calls Try.prog 69 #[.int .i64 a, .int .i64 x] w (Ret (.int .i64 (placeN a x : Int)) w) := by
  obtain ⟨m, rfl⟩ := Int.eq_ofNat_of_zero_le hx0
  go_enter Try.func69, Try.ntmps69
  go_wp2
  go_loop [5, 6] (fun v i => ∃ k : Nat, k ≤ m ∧ i = .int .i64 k ∧ v = .int .i64 ((letsTo a k).length : Nat)) (fun _ i => m - (intOf i).toNat)
  case atStart => exact ⟨0, by omega, rfl, rfl⟩
  case round =>
    obtain ⟨k, hk, rfl, rfl⟩ := hrel
    have hle := letsTo_len a k
    by_cases hlt : k < m
    · cases hh : hasB a k with
      | true =>
        have HH := Lib.hid hh; clear hh
        go_wp2_with (go_at_call 60; (with_reducible refine (l1Has_any a k h0 h1 (by omega) (by omega) _).mono ?_); rintro e w' ⟨rfl, rfl⟩; rw [HH.out])
        go_round
        case rel => exact ⟨k + 1, by omega, by go_num, by rw [letsTo_yes a k HH.out, List.length_append]; go_num⟩
        case measure => simp [intOf] <;> omega
      | false =>
        have HH := Lib.hid hh; clear hh
        go_wp2_with (go_at_call 60; (with_reducible refine (l1Has_any a k h0 h1 (by omega) (by omega) _).mono ?_); rintro e w' ⟨rfl, rfl⟩; rw [HH.out])
        go_round
        case rel => exact ⟨k + 1, by omega, by go_num, by rw [letsTo_no a k HH.out]⟩
        case measure => simp [intOf] <;> omega
    · go_wp2
      go_ret
      obtain rfl : k = m := by omega
      exact ⟨rfl, rfl⟩

def NumRel (s : ByteArray) (a : Int) (v i : Value) : Prop := ∃ k : Nat, k ≤ s.size ∧ i = .int .i64 k ∧ v = .int .i64 (numN a (s.data.toList.take k) : Nat)

theorem num_bd (s : ByteArray) (a : Int) (k : Nat) (hk : k ≤ 7) : numN a (s.data.toList.take k) < 823543 := by
  refine Nat.lt_of_lt_of_le (numN_lt a _) ?_
  exact Nat.le_trans (Nat.pow_le_pow_right (by decide) (by rw [List.length_take]; omega : (s.data.toList.take k).length ≤ 7)) (by decide)

def RetBel (v : Value) (w : World) (e : Ending) (w' : World) : Prop := e = .returned v ∧ Below w.heap.size w w'

end Go.Proofs.Ytagegbhchljggaa
