/- restrict, RestrictWord, l1Text, FormatAlphabet: what they compute, for every argument. -/
import Derived.Test.YtkgbdglfpnmlgaaWithin
namespace Go.Proofs.Ytkgbdglfpnmlgaa
open Go.RowKit
set_option linter.unusedVariables false
set_option linter.unusedSimpArgs false
set_option maxRecDepth 100000

/-- A string with these bytes, and nothing old written. -/
def RetStr (l : List UInt8) (w : World) (e : Ending) (w' : World) : Prop := ∃ r : ByteArray, e = .returned (.string r) ∧ r.data.toList = l ∧ Below w.heap.size w w'
def RetStr2 (l : List UInt8) (b : Bool) (w : World) (e : Ending) (w' : World) : Prop := ∃ r : ByteArray, e = .returned (.tuple #[.string r, .bool b]) ∧ r.data.toList = l ∧ Below w.heap.size w w'

def RestRel (s : ByteArray) (a : Int) (w : World) (v i : Value) (wr : World) : Prop :=
  ∃ k : Nat, k ≤ s.size ∧ i = .int .i64 k ∧ (∃ ao n cap, v = .slice ao n cap ∧ n = (restrL a (s.data.toList.take k)).length ∧ BRow w.heap.size wr (.slice ao n cap) (restrL a (s.data.toList.take k))) ∧ Below w.heap.size w wr

theorem restr_bd (s : ByteArray) (a : Int) (k : Nat) : (restrL a (s.data.toList.take k)).length ≤ s.size := by
  refine Nat.le_trans (restrL_len _ _) ?_
  rw [List.length_take, data_len]; omega

set_option maxHeartbeats 400000 in
theorem restrict_any (s : ByteArray) (a : Int) (hs : s.size ≤ 140737488355320) (h0 : 0 ≤ a) (h1 : a < 9223372036854775808) (w : World) : Calls Try.prog 72 #[.string s, .int .i64 a] w (RetStr (restrL a s.data.toList) w) := by
  go_enter Try.func72, Try.ntmps72
  go_wp2
  go_loopw [5, 9] (fun v i wr => RestRel s a w v i wr) (fun _ i _ => s.size - (intOf i).toNat)
  case atStart => exact ⟨0, by omega, rfl, ⟨none, 0, 0, rfl, rfl, BRow.nil _ _⟩, Below.refl _ _⟩
  case round =>
    obtain ⟨k, hk, rfl, ⟨ao, n, cap, rfl, hn, hown⟩, hbel⟩ := hrel
    have HN := Lib.hid hn; clear hn
    have hbd := restr_bd s a k
    by_cases hlt : k < s.size
    · obtain ⟨c, hc⟩ : ∃ c, s[k] = c := ⟨_, rfl⟩
      have HC := Lib.hid hc; clear hc
      cases hh : hasB a (ltr c) with
      | true =>
        have HH := Lib.hid hh; clear hh
        have hy : okL a s[k] = true := by rw [HC.out]; exact HH.out
        have HY := Lib.hid hy; clear hy
        go_wp2_with (first | (go_at_call 61; (with_reducible refine (letterAt_c s k c hlt HC (by omega) _).mono ?_); rintro e w' ⟨rfl, rfl⟩) | (go_at_call 66; (with_reducible refine (has_any a _ h0 h1 _).mono ?_); rintro e w' ⟨rfl, rfl⟩; rw [HH.out]) | (at_builtin; refine app_byte wr s[k] _ rfl w.heap.size rfl rfl _ _ rfl (.slice ao n cap) (restrL a (s.data.toList.take k)) rfl hown rfl ?_ hbel.size ?_))
        · omega
        intro ao' n' cap' w1 hn' hown' hkept
        have HN' := Lib.hid hn'; clear hn'
        have hbel' := hkept.1 w hbel
        go_wp2
        go_roundw
        case rel => exact ⟨k + 1, by omega, by go_num, ⟨ao', n', cap', rfl, by rw [restrL_yes s a k hlt HY.out]; simpa using HN'.out, by rw [restrL_yes s a k hlt HY.out]; exact hown'⟩, hbel'⟩
        case measure => simp [intOf] <;> omega
      | false =>
        have HH := Lib.hid hh; clear hh
        have hy : okL a s[k] = false := by rw [HC.out]; exact HH.out
        have HY := Lib.hid hy; clear hy
        go_wp2_with (first | (go_at_call 61; (with_reducible refine (letterAt_c s k c hlt HC (by omega) _).mono ?_); rintro e w' ⟨rfl, rfl⟩) | (go_at_call 66; (with_reducible refine (has_any a _ h0 h1 _).mono ?_); rintro e w' ⟨rfl, rfl⟩; rw [HH.out]))
        go_roundw
        case rel => exact ⟨k + 1, by omega, by go_num, ⟨ao, n, cap, rfl, by rw [restrL_no s a k hlt HY.out]; exact HN.out, by rw [restrL_no s a k hlt HY.out]; exact hown⟩, hbel⟩
        case measure => simp [intOf] <;> omega
    · have hcv := run_string_of_row hown
      go_wp2
      go_ret
      obtain rfl : k = s.size := by omega
      exact ⟨_, rfl, by rw [take_all], hbel⟩

def restrW (a : Int) (l : List UInt8) : List UInt8 := if wvalid l = true ∧ isA a = true then restrL a l else []

set_option maxHeartbeats 400000 in
theorem implRestrict_any (s : ByteArray) (a : Int) (hs : s.size ≤ 140737488355320) (w : World) : Calls Try.prog 37 #[.string s, .int .i64 a] w (RetStr (restrW a s.data.toList) w) := by
  cases hv : wvalid s.data.toList with
  | false =>
    have hr : restrW a s.data.toList = [] := by simp [restrW, hv]
    have HR := Lib.hid hr; clear hr
    have HV := Lib.hid hv; clear hv
    go_enter Try.func37, Try.ntmps37
    go_wp2_with (go_at_call 30; (with_reducible refine (implValid_any s (by omega) _).mono ?_); rintro e w' ⟨rfl, rfl⟩; rw [HV.out])
    go_ret
    exact ⟨_, rfl, by rw [HR.out], Below.refl _ _⟩
  | true =>
    cases ha : isA a with
    | false =>
      have hr : restrW a s.data.toList = [] := by simp [restrW, ha]
      have HR := Lib.hid hr; clear hr
      have HV := Lib.hid hv; clear hv
      have HA := Lib.hid ha; clear ha
      go_enter Try.func37, Try.ntmps37
      go_wp2_with (first | (go_at_call 30; (with_reducible refine (implValid_any s (by omega) _).mono ?_); rintro e w' ⟨rfl, rfl⟩; rw [HV.out]) | (go_at_call 55; (with_reducible refine (isAlphabet_any a _).mono ?_); rintro e w' ⟨rfl, rfl⟩; rw [HA.out]))
      go_ret
      exact ⟨_, rfl, by rw [HR.out], Below.refl _ _⟩
    | true =>
      obtain ⟨h0, h1⟩ := (isA_iff a).1 ha
      have hr : restrW a s.data.toList = restrL a s.data.toList := by simp [restrW, ha, hv]
      have HR := Lib.hid hr; clear hr
      have HV := Lib.hid hv; clear hv
      have HA := Lib.hid ha; clear ha
      go_enter Try.func37, Try.ntmps37
      go_wp2_with (first | (go_at_call 30; (with_reducible refine (implValid_any s (by omega) _).mono ?_); rintro e w' ⟨rfl, rfl⟩; rw [HV.out]) | (go_at_call 55; (with_reducible refine (isAlphabet_any a _).mono ?_); rintro e w' ⟨rfl, rfl⟩; rw [HA.out]) | (go_at_call 72; (with_reducible refine (restrict_any s a hs h0 (by omega) _).mono ?_); rintro e w' ⟨r, rfl, hr, hb⟩; have HRR := Lib.hid hr; clear hr))
      go_ret
      exact ⟨r, rfl, by rw [HRR.out, HR.out], hb⟩

set_option maxHeartbeats 400000 in
theorem specRestrict_any (s : ByteArray) (a : Int) (hs : s.size ≤ 140737488355320) (w : World) : Calls Try.prog 38 #[.string s, .int .i64 a] w (RetStr (restrW a s.data.toList) w) := by
  cases hv : wvalid s.data.toList with
  | false =>
    have hr : restrW a s.data.toList = [] := by simp [restrW, hv]
    have HR := Lib.hid hr; clear hr
    have HV := Lib.hid hv; clear hv
    go_enter Try.func38, Try.ntmps38
    go_wp2_with (go_at_call 63; (with_reducible refine (specValid_any s (by omega) _).mono ?_); rintro e w' ⟨rfl, rfl⟩; rw [HV.out])
    go_ret
    exact ⟨_, rfl, by rw [HR.out], Below.refl _ _⟩
  | true =>
    cases ha : isA a with
    | false =>
      have hr : restrW a s.data.toList = [] := by simp [restrW, ha]
      have HR := Lib.hid hr; clear hr
      have HV := Lib.hid hv; clear hv
      have HA := Lib.hid ha; clear ha
      go_enter Try.func38, Try.ntmps38
      go_wp2_with (first | (go_at_call 63; (with_reducible refine (specValid_any s (by omega) _).mono ?_); rintro e w' ⟨rfl, rfl⟩; rw [HV.out]) | (go_at_call 58; (with_reducible refine (l1Alphabet_any a _).mono ?_); rintro e w' ⟨rfl, rfl⟩; rw [HA.out]))
      go_ret
      exact ⟨_, rfl, by rw [HR.out], Below.refl _ _⟩
    | true =>
      obtain ⟨h0, h1⟩ := (isA_iff a).1 ha
      have hr : restrW a s.data.toList = restrL a s.data.toList := by simp [restrW, ha, hv]
      have hall : s.data.toList.all (okL 63) = true := by simp only [wvalid, Bool.and_eq_true] at hv; exact hv.2
      have HALL := Lib.hid hall; clear hall
      have HR := Lib.hid hr; clear hr
      have HV := Lib.hid hv; clear hv
      have HA := Lib.hid ha; clear ha
      go_enter Try.func38, Try.ntmps38
      go_wp2_with (first | (go_at_call 63; (with_reducible refine (specValid_any s (by omega) _).mono ?_); rintro e w' ⟨rfl, rfl⟩; rw [HV.out]) | (go_at_call 58; (with_reducible refine (l1Alphabet_any a _).mono ?_); rintro e w' ⟨rfl, rfl⟩; rw [HA.out]))
      go_loopw [5, 6] (fun v i wr => RestRel s a w v i wr) (fun _ i _ => s.size - (intOf i).toNat)
      case atStart => exact ⟨0, by omega, rfl, ⟨_, _, _, rfl, rfl, BRow.empty _ _ (Nat.le_refl _)⟩, (Below.refl _ _).alloc (Nat.le_refl _) _⟩
      case round =>
        obtain ⟨k, hk, rfl, ⟨ao, n, cap, rfl, hn, hown⟩, hbel⟩ := hrel
        have HN := Lib.hid hn; clear hn
        have hbd := restr_bd s a k
        by_cases hlt : k < s.size
        · obtain ⟨c, hc⟩ : ∃ c, s[k] = c := ⟨_, rfl⟩
          have hc0 : 0 ≤ ltr c := by rw [← hc]; exact okL_nonneg (all_at s (okL 63) k hlt HALL.out)
          have hc1 := ltr_lt c
          have HC := Lib.hid hc; clear hc
          cases hh : hasB a (ltr c) with
          | true =>
            have HH := Lib.hid hh; clear hh
            have hy : okL a s[k] = true := by rw [HC.out]; exact HH.out
            have HY := Lib.hid hy; clear hy
            go_wp2_with (first | (go_at_call 65; (with_reducible refine (l1At_c s k c hlt HC (by omega) _).mono ?_); rintro e w' ⟨rfl, rfl⟩; rw [ltr_of_ok hc0]) | (go_at_call 73; (with_reducible refine (l1Has_any a _ h0 (by omega) hc0 (by omega) _).mono ?_); rintro e w' ⟨rfl, rfl⟩; rw [HH.out]) | (at_builtin; refine app_byte wr s[k] _ rfl w.heap.size rfl rfl _ _ rfl (.slice ao n cap) (restrL a (s.data.toList.take k)) rfl hown rfl ?_ hbel.size ?_))
            · omega
            intro ao' n' cap' w1 hn' hown' hkept
            have HN' := Lib.hid hn'; clear hn'
            have hbel' := hkept.1 w hbel
            go_wp2
            go_roundw
            case rel => exact ⟨k + 1, by omega, by go_num, ⟨ao', n', cap', rfl, by rw [restrL_yes s a k hlt HY.out]; simpa using HN'.out, by rw [restrL_yes s a k hlt HY.out]; exact hown'⟩, hbel'⟩
            case measure => simp [intOf] <;> omega
          | false =>
            have HH := Lib.hid hh; clear hh
            have hy : okL a s[k] = false := by rw [HC.out]; exact HH.out
            have HY := Lib.hid hy; clear hy
            go_wp2_with (first | (go_at_call 65; (with_reducible refine (l1At_c s k c hlt HC (by omega) _).mono ?_); rintro e w' ⟨rfl, rfl⟩; rw [ltr_of_ok hc0]) | (go_at_call 73; (with_reducible refine (l1Has_any a _ h0 (by omega) hc0 (by omega) _).mono ?_); rintro e w' ⟨rfl, rfl⟩; rw [HH.out]))
            go_roundw
            case rel => exact ⟨k + 1, by omega, by go_num, ⟨ao, n, cap, rfl, by rw [restrL_no s a k hlt HY.out]; exact HN.out, by rw [restrL_no s a k hlt HY.out]; exact hown⟩, hbel⟩
            case measure => simp [intOf] <;> omega
        · have hcv := run_string_of_row hown
          go_wp2
          go_ret
          obtain rfl : k = s.size := by omega
          exact ⟨_, rfl, by rw [HR.out, take_all], hbel⟩

theorem l1Text_any (n : Int) (h0 : 0 ≤ n) (h1 : n < 6) (w : World) : Calls Try.prog 60 #[.int .i64 n] w (RetStr [lb n] w) := by
  have hcv := run_string_of_one w (lb n) (97 + n) (lb_nat n h0 h1).symm
  go_enter Try.func60, Try.ntmps60
  go_wp2
  go_ret
  exact ⟨_, rfl, rfl, (Below.refl _ _).alloc (Nat.le_refl _) _⟩

end Go.Proofs.Ytkgbdglfpnmlgaa
