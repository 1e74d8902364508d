/- The walks of the exact laws on words. -/
import Derived.Test.YtkonmpkooimbfaaBefore
namespace Go.Proofs.Ytkonmpkooimbfaa
open Go.RowKit
set_option linter.unusedVariables false
set_option linter.unusedSimpArgs false
set_option maxRecDepth 100000

theorem fnExactWordValid_walk (a0 : ByteArray) (w0 : a0.size ≤ maxLen) (w : World) : Calls Try.prog 4 #[.string a0] w fun e w' => e = .returned (.bool true) ∧ Below w.heap.size w w' := by
  unfold maxLen at w0
  by_cases hl : 1048576 < a0.size
  · have hl' : (1048576 : Int) < (a0.size : Int) := by omega
    go_enter Try.func4, Try.ntmps4
    go_wp2
    go_ret
    exact ⟨rfl, Below.refl _ _⟩
  · have hl' : (a0.size : Int) ≤ 1048576 := by omega
    go_enter Try.func4, Try.ntmps4
    go_wp2_with (first | (go_at_call 15; (with_reducible refine (specValid_any a0 (by omega) _).mono ?_); rintro e w' ⟨rfl, rfl⟩) | (go_at_call 16; (with_reducible refine (implValid_any a0 (by omega) _).mono ?_); rintro e w' ⟨rfl, rfl⟩))
    go_ret
    exact ⟨rfl, Below.refl _ _⟩

theorem fnExactWordWithin_walk (a0 : ByteArray) (w0 : a0.size ≤ maxLen) (a1 : Int) (w1 : (Lit.int .i64 a1).wf = true) (w : World) : Calls Try.prog 5 #[.string a0, .int .i64 a1] w fun e w' => e = .returned (.bool true) ∧ Below w.heap.size w w' := by
  unfold maxLen at w0
  by_cases hl : 1048576 < a0.size
  · have hl' : (1048576 : Int) < (a0.size : Int) := by omega
    go_enter Try.func5, Try.ntmps5
    go_wp2
    go_ret
    exact ⟨rfl, Below.refl _ _⟩
  · have hl' : (a0.size : Int) ≤ 1048576 := by omega
    go_enter Try.func5, Try.ntmps5
    go_wp2_with (first | (go_at_call 17; (with_reducible refine (specWithin_any a0 a1 (by omega) _).mono ?_); rintro e w' ⟨rfl, rfl⟩) | (go_at_call 18; (with_reducible refine (implWithin_any a0 a1 (by omega) _).mono ?_); rintro e w' ⟨rfl, rfl⟩))
    go_ret
    exact ⟨rfl, Below.refl _ _⟩

theorem fnExactFormatAlphabet_walk (a0 : Int) (w0 : (Lit.int .i64 a0).wf = true) (w : World) : Calls Try.prog 6 #[.int .i64 a0] w fun e w' => e = .returned (.bool true) ∧ Below w.heap.size w w' := by
  go_enter Try.func6, Try.ntmps6
  go_wp2_with fail
  refine (specFmt_any a0 _).mono ?_
  rintro e w1 ⟨r1, rfl, hr1, hb1⟩
  have HR1 := Lib.hid hr1; clear hr1
  go_wp2_with fail
  refine (implFmt_any a0 _).mono ?_
  rintro e w2 ⟨r2, rfl, hr2, hb2⟩
  have heq := eq_toList hr2 HR1.out
  clear hr2
  go_wp2
  go_ret
  exact ⟨rfl, hb1.trans (hb2.mono hb1.size)⟩

theorem fnExactAlphabetOf_walk (a0 : ByteArray) (w0 : a0.size ≤ maxLen) (w : World) : Calls Try.prog 7 #[.string a0] w fun e w' => e = .returned (.bool true) ∧ Below w.heap.size w w' := by
  unfold maxLen at w0
  by_cases hl : 1048576 < a0.size
  · have hl' : (1048576 : Int) < (a0.size : Int) := by omega
    go_enter Try.func7, Try.ntmps7
    go_wp2
    go_ret
    exact ⟨rfl, Below.refl _ _⟩
  · have hl' : (a0.size : Int) ≤ 1048576 := by omega
    obtain ⟨x, b, hr⟩ : ∃ x b, AlphRet a0.data.toList = .tuple #[.int .i64 x, .bool b] := ⟨_, _, rfl⟩
    have HR := Lib.hid hr; clear hr
    go_enter Try.func7, Try.ntmps7
    go_wp2_with (first | (go_at_call 21; (with_reducible refine (specAlph_any a0 (by omega) _).mono ?_); rintro e w' ⟨rfl, rfl⟩; rw [HR.out]) | (go_at_call 22; (with_reducible refine (implAlph_any a0 (by omega) _).mono ?_); rintro e w' ⟨rfl, rfl⟩; rw [HR.out]))
    go_ret
    exact ⟨rfl, Below.refl _ _⟩

theorem fnExactRestrictWord_walk (a0 : ByteArray) (w0 : a0.size ≤ maxLen) (a1 : Int) (w1 : (Lit.int .i64 a1).wf = true) (w : World) : Calls Try.prog 9 #[.string a0, .int .i64 a1] w fun e w' => e = .returned (.bool true) ∧ Below w.heap.size w w' := by
  unfold maxLen at w0
  by_cases hl : 1048576 < a0.size
  · have hl' : (1048576 : Int) < (a0.size : Int) := by omega
    go_enter Try.func9, Try.ntmps9
    go_wp2
    go_ret
    exact ⟨rfl, Below.refl _ _⟩
  · have hl' : (a0.size : Int) ≤ 1048576 := by omega
    go_enter Try.func9, Try.ntmps9
    go_wp2_with fail
    refine (specRestrict_any a0 a1 (by omega) _).mono ?_
    rintro e w1 ⟨r1, rfl, hr1, hb1⟩
    have HR1 := Lib.hid hr1; clear hr1
    go_wp2_with fail
    refine (implRestrict_any a0 a1 (by omega) _).mono ?_
    rintro e w2 ⟨r2, rfl, hr2, hb2⟩
    have heq := eq_toList hr2 HR1.out
    clear hr2
    go_wp2
    go_ret
    exact ⟨rfl, hb1.trans (hb2.mono hb1.size)⟩

theorem fnExactWordBefore_walk (a0 : ByteArray) (w0 : a0.size ≤ maxLen) (a1 : ByteArray) (w1 : a1.size ≤ maxLen) (w : World) : Calls Try.prog 10 #[.string a0, .string a1] w fun e w' => e = .returned (.bool true) ∧ Below w.heap.size w w' := by
  unfold maxLen at w0 w1
  by_cases hl : 1048576 < a0.size
  · have hl' : (1048576 : Int) < (a0.size : Int) := by omega
    go_enter Try.func10, Try.ntmps10
    go_wp2
    go_ret
    exact ⟨rfl, Below.refl _ _⟩
  · have hl' : (a0.size : Int) ≤ 1048576 := by omega
    by_cases hm : 1048576 < a1.size
    · have hm' : (1048576 : Int) < (a1.size : Int) := by omega
      go_enter Try.func10, Try.ntmps10
      go_wp2
      go_ret
      exact ⟨rfl, Below.refl _ _⟩
    · have hm' : (a1.size : Int) ≤ 1048576 := by omega
      go_enter Try.func10, Try.ntmps10
      go_wp2_with fail
      refine (specBefore_any a0 a1 (by omega) (by omega) _).mono ?_
      rintro e w1 ⟨rfl, hb1⟩
      go_wp2_with fail
      refine (implBefore_any a0 a1 (by omega) (by omega) _).mono ?_
      rintro e w2 ⟨rfl, hb2⟩
      go_wp2
      go_ret
      exact ⟨rfl, hb1.trans (hb2.mono hb1.size)⟩

theorem fnExactWordNumber_walk (a0 : ByteArray) (w0 : a0.size ≤ maxLen) (a1 : Int) (w1 : (Lit.int .i64 a1).wf = true) (w : World) : Calls Try.prog 12 #[.string a0, .int .i64 a1] w fun e w' => e = .returned (.bool true) ∧ Below w.heap.size w w' := by
  unfold maxLen at w0
  by_cases hl : 1048576 < a0.size
  · have hl' : (1048576 : Int) < (a0.size : Int) := by omega
    go_enter Try.func12, Try.ntmps12
    go_wp2
    go_ret
    exact ⟨rfl, Below.refl _ _⟩
  · have hl' : (a0.size : Int) ≤ 1048576 := by omega
    go_enter Try.func12, Try.ntmps12
    go_wp2_with fail
    refine (specNum_any a0 a1 (by omega) _).mono ?_
    rintro e w1 ⟨rfl, hb1⟩
    go_wp2_with fail
    refine (implNum_any a0 a1 (by omega) _).mono ?_
    rintro e w2 ⟨rfl, hb2⟩
    go_wp2
    go_ret
    exact ⟨rfl, hb1.trans (hb2.mono hb1.size)⟩

end Go.Proofs.Ytkonmpkooimbfaa
