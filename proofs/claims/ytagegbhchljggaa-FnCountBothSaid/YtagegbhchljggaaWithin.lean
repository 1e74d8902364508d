/- WordWithin, WordValid, AlphabetOf, on both sides: what they compute, for every string and number. -/
import Derived.Test.YtagegbhchljggaaLetters
namespace Go.Proofs.Ytagegbhchljggaa
open Go.RowKit
set_option linter.unusedVariables false
set_option linter.unusedSimpArgs false
set_option maxRecDepth 100000

theorem letterAt_c (s : ByteArray) (i : Nat) (c : UInt8) (hi : i < s.size) (hc : Hid (s[i] = c)) (hs : s.size ≤ 9223372036854775807) (w : World) : Calls Try.prog 47 #[.string s, .int .i64 i] w (Ret (.int .i64 (ltr c)) w) := by
  have := letterAt_any s i hi hs w
  rw [hc.out] at this
  exact this
theorem l1At_c (s : ByteArray) (i : Nat) (c : UInt8) (hi : i < s.size) (hc : Hid (s[i] = c)) (hs : s.size ≤ 9223372036854775807) (w : World) : Calls Try.prog 65 #[.string s, .int .i64 i] w (Ret (.int .i64 ((c.toNat : Int) - 97)) w) := by
  have := l1At_any s i hi hs w
  rw [hc.out] at this
  exact this
theorem ltr_of_ok {c : UInt8} (h : 0 ≤ ltr c) : (c.toNat : Int) - 97 = ltr c := by unfold ltr at *; split at h <;> simp_all
theorem ltr_of_no {c : UInt8} (h : ¬ 0 ≤ ltr c) : (c.toNat : Int) - 97 < 0 ∨ 6 ≤ (c.toNat : Int) - 97 := by unfold ltr at *; split at h <;> omega
theorem isA63 : isA 63 = true := by decide

def AllRel (s : ByteArray) (p : UInt8 → Bool) (i : Value) : Prop := ∃ k : Nat, k ≤ s.size ∧ i = .int .i64 k ∧ (s.data.toList.take k).all p = true

set_option maxHeartbeats 400000 in
theorem implWithin_any (s : ByteArray) (a : Int) (hs : s.size ≤ 9223372036854775807) (w : World) : Calls Try.prog 45 #[.string s, .int .i64 a] w (Ret (.bool (within s.data.toList a)) w) := by
  cases ha : isA a with
  | false =>
    have hr : within s.data.toList a = false := by simp [within, ha]
    have HR := Lib.hid hr; clear hr
    have HA := Lib.hid ha; clear ha
    go_enter Try.func45, Try.ntmps45
    go_wp2_with (go_at_call 39; (with_reducible refine (isAlphabet_any a _).mono ?_); rintro e w' ⟨rfl, rfl⟩; rw [HA.out])
    go_ret
    exact ⟨ret_bool HR.out.symm, rfl⟩
  | true =>
    obtain ⟨h0, h1⟩ := (isA_iff a).1 ha
    by_cases hl : 50000 < s.size
    · have hl' : (50000 : Int) < (s.size : Int) := by omega
      have hr : within s.data.toList a = false := by simp [within, data_len]; omega
      have HR := Lib.hid hr; clear hr
      have HA := Lib.hid ha; clear ha
      go_enter Try.func45, Try.ntmps45
      go_wp2_with (go_at_call 39; (with_reducible refine (isAlphabet_any a _).mono ?_); rintro e w' ⟨rfl, rfl⟩; rw [HA.out])
      go_ret
      exact ⟨ret_bool HR.out.symm, rfl⟩
    · have hl' : (s.size : Int) ≤ 50000 := by omega
      have hr : within s.data.toList a = s.data.toList.all (okL a) := by
        have : s.size ≤ 50000 := by omega
        simp [within, data_len, ha, this]
      have HR := Lib.hid hr; clear hr
      have HA := Lib.hid ha; clear ha
      go_enter Try.func45, Try.ntmps45
      go_wp2_with (go_at_call 39; (with_reducible refine (isAlphabet_any a _).mono ?_); rintro e w' ⟨rfl, rfl⟩; rw [HA.out])
      go_loop [16] (fun i => AllRel s (okL a) i) (fun i => s.size - (intOf i).toNat)
      case atStart => exact ⟨0, by omega, rfl, by simp⟩
      case round =>
        obtain ⟨k, hk, rfl, hall⟩ := hrel
        have HALL := Lib.hid hall; clear hall
        by_cases hlt : k < s.size
        · obtain ⟨c, hc⟩ : ∃ c, s[k] = c := ⟨_, rfl⟩
          have HC := Lib.hid hc; clear hc
          cases hh : hasB a (ltr c) with
          | true =>
            have HH := Lib.hid hh; clear hh
            go_wp2_with (first | (go_at_call 47; (with_reducible refine (letterAt_c s k c hlt HC hs _).mono ?_); rintro e w' ⟨rfl, rfl⟩) | (go_at_call 62; (with_reducible refine (has_any a _ h0 (by omega) _).mono ?_); rintro e w' ⟨rfl, rfl⟩; rw [HH.out]))
            go_round
            case rel => exact ⟨k + 1, by omega, by go_num, all_take s (okL a) k hlt HALL.out (by rw [HC.out]; exact HH.out)⟩
            case measure => simp [intOf] <;> omega
          | false =>
            have HH := Lib.hid hh; clear hh
            go_wp2_with (first | (go_at_call 47; (with_reducible refine (letterAt_c s k c hlt HC hs _).mono ?_); rintro e w' ⟨rfl, rfl⟩) | (go_at_call 62; (with_reducible refine (has_any a _ h0 (by omega) _).mono ?_); rintro e w' ⟨rfl, rfl⟩; rw [HH.out]))
            go_ret
            exact ⟨ret_bool (by rw [HR.out, all_not s (okL a) k hlt (by rw [HC.out]; exact HH.out)]), rfl⟩
        · go_wp2
          go_ret
          obtain rfl : k = s.size := by omega
          exact ⟨ret_bool (by rw [HR.out, ← take_all s, HALL.out]), rfl⟩

set_option maxHeartbeats 400000 in
theorem specValid_any (s : ByteArray) (hs : s.size ≤ 9223372036854775807) (w : World) : Calls Try.prog 74 #[.string s] w (Ret (.bool (wvalid s.data.toList)) w) := by
  by_cases hl : 50000 < s.size
  · have hl' : (50000 : Int) < (s.size : Int) := by omega
    have hr : wvalid s.data.toList = false := by simp [wvalid, data_len]; omega
    have HR := Lib.hid hr; clear hr
    go_enter Try.func74, Try.ntmps74
    go_wp2
    go_ret
    exact ⟨ret_bool HR.out.symm, rfl⟩
  · have hl' : (s.size : Int) ≤ 50000 := by omega
    have hr : wvalid s.data.toList = s.data.toList.all (okL 63) := by
      have : s.size ≤ 50000 := by omega
      simp [wvalid, data_len, this]
    have HR := Lib.hid hr; clear hr
    go_enter Try.func74, Try.ntmps74
    go_wp2
    go_loop [3] (fun i => AllRel s (okL 63) i) (fun i => s.size - (intOf i).toNat)
    case atStart => exact ⟨0, by omega, rfl, by simp⟩
    case round =>
      obtain ⟨k, hk, rfl, hall⟩ := hrel
      have HALL := Lib.hid hall; clear hall
      by_cases hlt : k < s.size
      · obtain ⟨c, hc⟩ : ∃ c, s[k] = c := ⟨_, rfl⟩
        have HC := Lib.hid hc; clear hc
        have hb := byte_lt c
        by_cases h0 : 0 ≤ ltr c
        · have hy : okL 63 c = true := by rw [okL_63]; simpa using h0
          have h1 : 97 ≤ (c.toNat : Int) := by have := ltr_of_ok h0; omega
          have h2 : (c.toNat : Int) < 103 := by have := ltr_of_ok h0; have := ltr_lt c; omega
          have HY := Lib.hid hy; clear hy
          clear h0
          go_wp2_with (go_at_call 65; (with_reducible refine (l1At_c s k c hlt HC hs _).mono ?_); rintro e w' ⟨rfl, rfl⟩)
          go_round
          case rel => exact ⟨k + 1, by omega, by go_num, all_take s (okL 63) k hlt HALL.out (by rw [HC.out]; exact HY.out)⟩
          case measure => simp [intOf] <;> omega
        · have hy : okL 63 c = false := by rw [okL_63]; simpa using h0
          have HY := Lib.hid hy; clear hy
          rcases ltr_of_no h0 with h1 | h1
          all_goals
            clear h0
            go_wp2_with (go_at_call 65; (with_reducible refine (l1At_c s k c hlt HC hs _).mono ?_); rintro e w' ⟨rfl, rfl⟩)
            go_ret
            exact ⟨ret_bool (by rw [HR.out, all_not s (okL 63) k hlt (by rw [HC.out]; exact HY.out)]), rfl⟩
      · go_wp2
        go_ret
        obtain rfl : k = s.size := by omega
        exact ⟨ret_bool (by rw [HR.out, ← take_all s, HALL.out]), rfl⟩

theorem or_nat (acc q : Nat) (h : acc < 64) (h1 : q < 64) : bits .or .i64 (acc : Int) (q : Int) = ((acc ||| q : Nat) : Int) := by
  rw [or_i64 _ _ (by omega) (by omega) (by omega) (by omega), Int.toNat_natCast, Int.toNat_natCast]
theorem pow_lt6 (x : Int) (h1 : x < 6) : 2 ^ x.toNat < 64 := Nat.pow_lt_pow_right (by decide : 1 < 2) (by omega : x.toNat < 6)
theorem or_step (acc : Nat) (x : Int) (h : acc < 64) (h0 : 0 ≤ x) (h1 : x < 6) : bits .or .i64 (acc : Int) (wrap64 (2 ^ x.toNat)) = ((acc ||| 2 ^ x.toNat : Nat) : Int) := by
  rw [wrap64_pow2 x (by omega)]
  exact or_nat acc _ h (pow_lt6 x h1)
theorem or_step2 (acc : Nat) (x : Int) (h : acc < 64) (h0 : 0 ≤ x) (h1 : x < 6) : bits .or .i64 (acc : Int) (2 ^ x.toNat) = ((acc ||| 2 ^ x.toNat : Nat) : Int) := by
  have e : ((2 : Int) ^ x.toNat) = ((2 ^ x.toNat : Nat) : Int) := by simp
  rw [e]
  exact or_nat acc _ h (pow_lt6 x h1)

def AlphRet (l : List UInt8) : Value := .tuple #[.int .i64 (if wvalid l then (alphN l : Int) else 0), .bool (wvalid l)]
def AlphRel (s : ByteArray) (v i : Value) : Prop := ∃ k : Nat, k ≤ s.size ∧ i = .int .i64 k ∧ v = .int .i64 (alphN (s.data.toList.take k) : Nat)

set_option maxHeartbeats 400000 in
theorem specAlph_any (s : ByteArray) (hs : s.size ≤ 9223372036854775807) (w : World) : Calls Try.prog 64 #[.string s] w (Ret (AlphRet s.data.toList) w) := by
  cases hv : wvalid s.data.toList with
  | false =>
    have hr : AlphRet s.data.toList = .tuple #[.int .i64 0, .bool false] := by simp [AlphRet, hv]
    have HR := Lib.hid hr; clear hr
    have HV := Lib.hid hv; clear hv
    go_enter Try.func64, Try.ntmps64
    go_wp2_with (go_at_call 74; (with_reducible refine (specValid_any s hs _).mono ?_); rintro e w' ⟨rfl, rfl⟩; rw [HV.out])
    go_ret2
    exact ⟨by rw [HR.out]; rfl, rfl⟩
  | true =>
    have hr : AlphRet s.data.toList = .tuple #[.int .i64 (alphN s.data.toList : Int), .bool true] := by simp [AlphRet, hv]
    have HR := Lib.hid hr; clear hr
    have hall : s.data.toList.all (okL 63) = true := by simp [wvalid] at hv; simpa using hv.2
    have HALL := Lib.hid hall; clear hall
    have HV := Lib.hid hv; clear hv
    go_enter Try.func64, Try.ntmps64
    go_wp2_with (go_at_call 74; (with_reducible refine (specValid_any s hs _).mono ?_); rintro e w' ⟨rfl, rfl⟩; rw [HV.out])
    go_loop [4, 5] (fun v i => AlphRel s v i) (fun _ i => s.size - (intOf i).toNat)
    case atStart => exact ⟨0, by omega, rfl, by simp [alphN]⟩
    case round =>
      obtain ⟨k, hk, rfl, rfl⟩ := hrel
      by_cases hlt : k < s.size
      · obtain ⟨c, hc⟩ : ∃ c, s[k] = c := ⟨_, rfl⟩
        have h0 : 0 ≤ ltr c := by rw [← hc]; exact okL_nonneg (all_at s (okL 63) k hlt HALL.out)
        have h1 := ltr_lt c
        have hsn : alphN (s.data.toList.take (k + 1)) = alphN (s.data.toList.take k) ||| 2 ^ (ltr c).toNat := by rw [take_snoc s k hlt, alphN_snoc, hc]
        have hp : 2 ^ (ltr c).toNat < 64 := Nat.pow_lt_pow_right (by decide : 1 < 2) (by omega : (ltr c).toNat < 6)
        have ha := alphN_lt (s.data.toList.take k)
        have HC := Lib.hid hc; clear hc
        have HS := Lib.hid hsn; clear hsn
        go_wp2_with (first | (go_at_call 65; (with_reducible refine (l1At_c s k c hlt HC hs _).mono ?_); rintro e w' ⟨rfl, rfl⟩; rw [ltr_of_ok h0]) | (go_at_call 75; (with_reducible refine (l1Bit_any _ h0 (by omega) _).mono ?_); rintro e w' ⟨rfl, rfl⟩))
        go_round
        case rel => exact ⟨k + 1, by omega, by go_num, by rw [HS.out, or_step2 _ _ (alphN_lt _) h0 h1]⟩
        case measure => simp [intOf] <;> omega
      · go_wp2
        go_ret2
        obtain rfl : k = s.size := by omega
        exact ⟨by rw [HR.out, take_all]; rfl, rfl⟩

set_option maxHeartbeats 400000 in
theorem specWithin_any (s : ByteArray) (a : Int) (hs : s.size ≤ 9223372036854775807) (w : World) : Calls Try.prog 43 #[.string s, .int .i64 a] w (Ret (.bool (within s.data.toList a)) w) := by
  cases hv : wvalid s.data.toList with
  | false =>
    have hr : AlphRet s.data.toList = .tuple #[.int .i64 0, .bool false] := by simp [AlphRet, hv]
    have hr2 : within s.data.toList a = false := by
      rw [Bool.eq_false_iff]; intro h; simp only [within, Bool.and_eq_true] at h
      have : wvalid s.data.toList = true := by
        simp only [wvalid, Bool.and_eq_true, List.all_eq_true]; exact ⟨h.1.2, fun c hc => okL_63_of (List.all_eq_true.1 h.2 c hc)⟩
      rw [hv] at this; cases this
    have HR := Lib.hid hr; clear hr
    have HR2 := Lib.hid hr2; clear hr2
    have HV := Lib.hid hv; clear hv
    go_enter Try.func43, Try.ntmps43
    go_wp2_with (go_at_call 64; (with_reducible refine (specAlph_any s hs _).mono ?_); rintro e w' ⟨rfl, rfl⟩; rw [HR.out])
    go_ret
    exact ⟨ret_bool HR2.out.symm, rfl⟩
  | true =>
    have hr : AlphRet s.data.toList = .tuple #[.int .i64 (alphN s.data.toList : Int), .bool true] := by simp [AlphRet, hv]
    have hal := alphN_lt s.data.toList
    cases ha : isA a with
    | false =>
      have hr2 : within s.data.toList a = false := by simp [within, ha]
      have HR := Lib.hid hr; clear hr
      have HR2 := Lib.hid hr2; clear hr2
      have HV := Lib.hid hv; clear hv
      have HA := Lib.hid ha; clear ha
      go_enter Try.func43, Try.ntmps43
      go_wp2_with (first | (go_at_call 64; (with_reducible refine (specAlph_any s hs _).mono ?_); rintro e w' ⟨rfl, rfl⟩; rw [HR.out]) | (go_at_call 34; (with_reducible refine (l1Alphabet_any a _).mono ?_); rintro e w' ⟨rfl, rfl⟩; rw [HA.out]))
      go_ret
      exact ⟨ret_bool HR2.out.symm, rfl⟩
    | true =>
      obtain ⟨h0, h1⟩ := (isA_iff a).1 ha
      obtain ⟨n, rfl⟩ := Int.eq_ofNat_of_zero_le h0
      have hr2 : within s.data.toList n = decide (alphN s.data.toList &&& n = alphN s.data.toList) := by
        simp only [wvalid, Bool.and_eq_true] at hv
        simp only [within, ha, hv.1, Bool.true_and]; exact (alphN_sub _ n hv.2).symm
      have HR := Lib.hid hr; clear hr
      have HR2 := Lib.hid hr2; clear hr2
      have HV := Lib.hid hv; clear hv
      have HA := Lib.hid ha; clear ha
      go_enter Try.func43, Try.ntmps43
      go_wp2_with (first | (go_at_call 64; (with_reducible refine (specAlph_any s hs _).mono ?_); rintro e w' ⟨rfl, rfl⟩; rw [HR.out]) | (go_at_call 34; (with_reducible refine (l1Alphabet_any n _).mono ?_); rintro e w' ⟨rfl, rfl⟩; rw [HA.out]))
      go_ret
      refine ⟨ret_bool ?_, rfl⟩
      rw [HR2.out, and_i64 _ _ (by omega) (by omega) (by omega) (by omega), Bool.eq_iff_iff]
      simp only [Int.toNat_natCast, beq_iff_eq, decide_eq_true_eq]
      exact ⟨fun h => Int.ofNat.inj h, fun h => congrArg _ h⟩

end Go.Proofs.Ytagegbhchljggaa
