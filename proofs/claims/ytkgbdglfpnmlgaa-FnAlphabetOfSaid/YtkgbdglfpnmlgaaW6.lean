/- The walk of the law on the alphabet of a word. -/
import Derived.Test.YtkgbdglfpnmlgaaW3
namespace Go.Proofs.Ytkgbdglfpnmlgaa
open Go.RowKit
set_option linter.unusedVariables false
set_option linter.unusedSimpArgs false
set_option maxRecDepth 100000


set_option maxHeartbeats 1000000 in
theorem fnAlphabetOf_walk (a0 : Option Addr) (len0 cap0 : Nat) (z0 : List Int) (w : World) (hrow : IsRow w a0 len0 cap0 z0) : Calls Try.prog 4 #[.slice a0 len0 cap0] w fun e w' => e = .returned (.bool true) ∧ Below w.heap.size w w' := by
  by_cases hl : 1048576 < len0
  · have hl' : (1048576 : Int) < (len0 : Int) := by omega
    go_enter Try.func4, Try.ntmps4
    go_wp2
    go_ret
    exact ⟨rfl, Below.refl _ _⟩
  have hl' : (len0 : Int) ≤ 1048576 := by omega
  clear hl
  go_enter Try.func4, Try.ntmps4
  go_wp2_with fail
  refine (drawAlph_any _ _ _ _ _ hrow).mono ?_
  rintro e w1 ⟨s, rfl, hs, hbel1⟩
  have hs' : (s.size : Int) ≤ 60000 := by omega
  obtain ⟨l, hl⟩ : ∃ l, s.data.toList = l := ⟨_, rfl⟩
  have HL := Lib.hid hl; clear hl
  cases hv : wvalid l with
  | false =>
    have hr : AlphRet s.data.toList = .tuple #[.int .i64 0, .bool false] := by simp [AlphRet, HL.out, hv]
    have HR := Lib.hid hr; clear hr
    go_wp2_with fail
    refine (implAlph_any s (by omega) _).mono ?_
    rintro e w' ⟨rfl, rfl⟩
    rw [HR.out]
    go_wp2_with fail
    refine (specAlph_any s (by omega) _).mono ?_
    rintro e w' ⟨rfl, rfl⟩
    rw [HR.out]
    go_wp2_with fail
    refine (implValid_any s (by omega) _).mono ?_
    rintro e w' ⟨rfl, rfl⟩
    rw [HL.out]
    go_wp2_with fail
    refine (implValid_any s (by omega) _).mono ?_
    rintro e w' ⟨rfl, rfl⟩
    rw [HL.out]
    go_wp2
    go_ret
    exact ⟨rfl, hbel1⟩
  | true =>
    have hx := alphN_lt l
    have hsub : ∀ k : Nat, k ≤ 63 → (alphN l &&& k = alphN l ∧ within l (k : Int) = true) ∨ (alphN l &&& k ≠ alphN l ∧ within l (k : Int) = false) := by
      intro k hk
      have h1 := alphN_sub l k (wvalid_all hv)
      have h2 : within l (k : Int) = l.all (okL (k : Int)) := by
        have h3 : isA (k : Int) = true := (isA_iff _).2 ⟨by omega, by omega⟩
        simp [within, h3, wvalid_len hv]
      rw [h2, ← h1]
      by_cases h : alphN l &&& k = alphN l <;> simp [h]
    have hr : AlphRet s.data.toList = .tuple #[.int .i64 (alphN l : Nat), .bool true] := by simp [AlphRet, HL.out, hv]
    generalize alphN l = x at *
    have HR := Lib.hid hr; clear hr
    have HSUB := Lib.hid hsub; clear hsub
    go_wp2_with fail
    refine (implAlph_any s (by omega) _).mono ?_
    rintro e w' ⟨rfl, rfl⟩
    rw [HR.out]
    go_wp2_with fail
    refine (specAlph_any s (by omega) _).mono ?_
    rintro e w' ⟨rfl, rfl⟩
    rw [HR.out]
    go_wp2_with fail
    refine (implValid_any s (by omega) _).mono ?_
    rintro e w' ⟨rfl, rfl⟩
    rw [HL.out]
    go_wp2
    clear hrow
    go_loopw [8] (fun b wr => ∃ k : Nat, k ≤ 64 ∧ b = .int .i64 (k : Int) ∧ Below w.heap.size w wr) (fun b _ => 70 - (intOf b).toNat)
    case atStart => exact ⟨0, by omega, rfl, hbel1⟩
    case round =>
      obtain ⟨k, hk, rfl, hbelr⟩ := hrel
      by_cases hlt : (k : Int) ≤ 63
      · have hand : bits .and .i64 (x : Int) (k : Int) = ((x &&& k : Nat) : Int) := and_i64 _ _ (by omega) (by omega) (by omega) (by omega)
        rcases HSUB.out k (by omega) with ⟨h1, h2⟩ | ⟨h1, h2⟩
        · rw [h1] at hand
          clear h1
          have H2 := Lib.hid h2; clear h2
          go_wp2_with fail
          refine (implWithin_any s (k : Int) (by omega) _).mono ?_
          rintro e w' ⟨rfl, rfl⟩
          rw [HL.out, H2.out]
          go_wp2
          go_roundw
          case rel => exact ⟨k + 1, by omega, by go_num, hbelr⟩
          case measure => simp [intOf] <;> omega
        · have hne : ¬ (((x &&& k : Nat) : Int) = (x : Int)) := by omega
          generalize (x &&& k) = y at *
          clear h1
          have H2 := Lib.hid h2; clear h2
          go_wp2_with fail
          refine (implWithin_any s (k : Int) (by omega) _).mono ?_
          rintro e w' ⟨rfl, rfl⟩
          rw [HL.out, H2.out]
          go_wp2
          go_roundw
          case rel => exact ⟨k + 1, by omega, by go_num, hbelr⟩
          case measure => simp [intOf] <;> omega
      · go_wp2
        go_ret
        exact ⟨rfl, hbelr⟩

end Go.Proofs.Ytkgbdglfpnmlgaa
