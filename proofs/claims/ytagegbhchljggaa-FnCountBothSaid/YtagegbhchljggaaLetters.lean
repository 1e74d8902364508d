/- lettersOf and l1Letters: the slice of the letters' numbers. For every alphabet. -/
import Derived.Test.YtagegbhchljggaaMem
namespace Go.Proofs.Ytagegbhchljggaa
open Go.RowKit
set_option linter.unusedVariables false
set_option linter.unusedSimpArgs false

/-- The call hands back a slice of ints of its own. -/
def RetInts (xs : List Int) (w : World) (e : Ending) (w' : World) : Prop :=
  ∃ ao cap, e = .returned (.slice ao xs.length cap) ∧ IRow w.heap.size w' (.slice ao xs.length cap) xs ∧ Below w.heap.size w w'

def LetRel (a : Int) (w : World) (v i : Value) (wr : World) : Prop :=
  ∃ k : Nat, k ≤ 6 ∧ i = .int .i64 k ∧ (∃ ao n cap, v = .slice ao n cap ∧ n = (letsTo a k).length ∧ IRow w.heap.size wr (.slice ao n cap) (letsTo a k)) ∧ Below w.heap.size w wr

set_option maxHeartbeats 400000 in
theorem lettersOf_any (a : Int) (h0 : 0 ≤ a) (h1 : a < 9223372036854775808) (w : World) : Calls Try.prog 40 #[.int .i64 a] w (RetInts (lets a) w) := by
  go_enter Try.func40, Try.ntmps40
  go_wp2
  go_loopw [3, 5] (fun v i wr => LetRel a w v i wr) (fun _ i _ => 6 - (intOf i).toNat)
  case atStart => exact ⟨0, by omega, rfl, ⟨none, 0, 0, rfl, rfl, IRow.nil _ _⟩, Below.refl _ _⟩
  case round =>
    obtain ⟨k, hk, rfl, ⟨ao, n, cap, rfl, hn, hown⟩, hbel⟩ := hrel
    have HN := Lib.hid hn; clear hn
    by_cases hlt : (k : Int) < 6
    · cases hh : hasB a k with
      | true =>
        have HH := Lib.hid hh; clear hh
        go_wp2_with (first | (go_at_call 62; (with_reducible refine (has_any a k h0 h1 _).mono ?_); rintro e w' ⟨rfl, rfl⟩; rw [HH.out]) | (at_builtin; refine app_int wr k w.heap.size rfl rfl _ _ rfl (.slice ao n cap) (letsTo a k) rfl hown rfl ?_ hbel.size ?_))
        · have := letsTo_len a k; omega
        intro ao' n' cap' w1 hn' hown' hkept
        have HN' := Lib.hid hn'; clear hn'
        have hbel' := hkept.1 w hbel
        go_wp2
        go_roundw
        case rel => exact ⟨k + 1, by omega, by go_num, ⟨ao', n', cap', rfl, by rw [letsTo_yes a k HH.out]; simpa using HN'.out, by rw [letsTo_yes a k HH.out]; exact hown'⟩, hbel'⟩
        case measure => simp [intOf] <;> omega
      | false =>
        have HH := Lib.hid hh; clear hh
        go_wp2_with (first | (go_at_call 62; (with_reducible refine (has_any a k h0 h1 _).mono ?_); rintro e w' ⟨rfl, rfl⟩; rw [HH.out]))
        go_roundw
        case rel => exact ⟨k + 1, by omega, by go_num, ⟨ao, n, cap, rfl, by rw [letsTo_no a k HH.out]; exact HN.out, by rw [letsTo_no a k HH.out]; exact hown⟩, hbel⟩
        case measure => simp [intOf] <;> omega
    · go_wp2
      go_ret
      have hk6 : k = 6 := by omega
      subst hk6
      obtain rfl := HN.out
      exact ⟨ao, cap, rfl, hown, hbel⟩

set_option maxHeartbeats 400000 in
theorem l1Letters_any (a : Int) (h0 : 0 ≤ a) (h1 : a < 9223372036854775808) (w : World) : Calls Try.prog 36 #[.int .i64 a] w (RetInts (lets a) w) := by
  go_enter Try.func36, Try.ntmps36
  go_wp2
  go_loopw [3, 4] (fun v i wr => LetRel a w v i wr) (fun _ i _ => 6 - (intOf i).toNat)
  case atStart => exact ⟨0, by omega, rfl, ⟨_, _, _, rfl, rfl, IRow.empty _ _ (Nat.le_refl _)⟩, (Below.refl _ _).alloc (Nat.le_refl _) _⟩
  case round =>
    obtain ⟨k, hk, rfl, ⟨ao, n, cap, rfl, hn, hown⟩, hbel⟩ := hrel
    have HN := Lib.hid hn; clear hn
    by_cases hlt : (k : Int) < 6
    · cases hh : hasB a k with
      | true =>
        have HH := Lib.hid hh; clear hh
        go_wp2_with (first | (go_at_call 60; (with_reducible refine (l1Has_any a k h0 h1 (by omega) (by omega) _).mono ?_); rintro e w' ⟨rfl, rfl⟩; rw [HH.out]) | (at_builtin; refine app_int wr k w.heap.size rfl rfl _ _ rfl (.slice ao n cap) (letsTo a k) rfl hown rfl ?_ hbel.size ?_))
        · have := letsTo_len a k; omega
        intro ao' n' cap' w1 hn' hown' hkept
        have HN' := Lib.hid hn'; clear hn'
        have hbel' := hkept.1 w hbel
        go_wp2
        go_roundw
        case rel => exact ⟨k + 1, by omega, by go_num, ⟨ao', n', cap', rfl, by rw [letsTo_yes a k HH.out]; simpa using HN'.out, by rw [letsTo_yes a k HH.out]; exact hown'⟩, hbel'⟩
        case measure => simp [intOf] <;> omega
      | false =>
        have HH := Lib.hid hh; clear hh
        go_wp2_with (first | (go_at_call 60; (with_reducible refine (l1Has_any a k h0 h1 (by omega) (by omega) _).mono ?_); rintro e w' ⟨rfl, rfl⟩; rw [HH.out]))
        go_roundw
        case rel => exact ⟨k + 1, by omega, by go_num, ⟨ao, n, cap, rfl, by rw [letsTo_no a k HH.out]; exact HN.out, by rw [letsTo_no a k HH.out]; exact hown⟩, hbel⟩
        case measure => simp [intOf] <;> omega
    · go_wp2
      go_ret
      have hk6 : k = 6 := by omega
      subst hk6
      obtain rfl := HN.out
      exact ⟨ao, cap, rfl, hown, hbel⟩

end Go.Proofs.Ytagegbhchljggaa
