/- slices.Index over ints, l1Place, WordNumber on both sides. -/
import Derived.Test.YtkgbdglfpnmlgaaFormat
namespace Go.Proofs.Ytkgbdglfpnmlgaa
open Go.RowKit
set_option linter.unusedVariables false
set_option linter.unusedSimpArgs false
set_option maxRecDepth 100000

def IdxRel (xs : List Int) (x : Int) (i : Value) : Prop := ∃ k : Nat, k ≤ xs.length ∧ i = .int .i64 k ∧ idxFrom (xs.drop k) x k = idxI xs x

set_option maxHeartbeats 400000 in
theorem index_any (B : Nat) (ao : Option Addr) (n cap : Nat) (xs : List Int) (x : Int) (w : World) (h : IRow B w (.slice ao n cap) xs) (hn : xs.length ≤ 1000) : Calls Try.prog 69 #[.slice ao n cap, .int .i64 x] w (Ret (.int .i64 (idxI xs x)) w) := by
  have hl := h.len
  by_cases hne : xs.length = 0
  · have hx : xs = [] := List.eq_nil_of_length_eq_zero hne
    subst hx
    have hn0 : n = 0 := hl
    clear hl hne
    subst hn0
    go_enter Try.func69, Try.ntmps69
    go_wp2
    refine wp_loop_rounds 1 ?_
    rw [rounds_succ]
    go_wp2
    go_ret
    exact ⟨rfl, rfl⟩
  · obtain ⟨g, rfl, -, -, -, hcap, hmax, hcells⟩ := h.ne hne
    subst hl
    have HC := Lib.hid hcells
    generalize hm : xs.length = m at *
    have HM := Lib.hid hm; clear hm
    clear hcells h
    unfold maxLen at hmax
    go_enter Try.func69, Try.ntmps69
    go_wp2
    go_loop [8] (fun i => IdxRel xs x i) (fun i => m - (intOf i).toNat)
    case atStart => exact ⟨0, by omega, rfl, rfl⟩
    case round =>
      obtain ⟨k, hk, rfl, hrest⟩ := hrel
      have HREST := Lib.hid hrest; clear hrest
      rw [HM.out] at hk
      by_cases hlt : k < m
      · have hcell := HC.out k hlt
        obtain ⟨y, hy⟩ : ∃ y, xs[k]?.getD 0 = y := ⟨_, rfl⟩
        rw [hy] at hcell
        have HY := Lib.hid hy; clear hy
        by_cases he : x = y
        · subst he
          go_wp2
          go_ret
          exact ⟨ret_int (by rw [← HREST.out, idx_yes xs x k (by rw [HM.out]; exact hlt) HY.out]), rfl⟩
        · have heb : (x == y) = false := by simpa using he
          have HE := Lib.hid he
          clear he
          go_wp2
          go_round
          case rel => exact ⟨k + 1, by rw [HM.out]; omega, by go_num, by rw [← HREST.out, idx_no xs x k (by rw [HM.out]; exact hlt) (by rw [HY.out]; exact fun h => HE.out h.symm)]⟩
          case measure => simp [intOf] <;> omega
      · go_wp2
        go_ret
        obtain rfl : k = m := by omega
        refine ⟨ret_int ?_, rfl⟩
        rw [← HREST.out, ← HM.out, List.drop_length]; rfl

def PlaceRel (a : Int) (v i : Value) : Prop := ∃ k : Nat, k ≤ 6 ∧ i = .int .i64 k ∧ v = .int .i64 ((letsTo a k).length : Nat)

set_option maxHeartbeats 400000 in
theorem l1Place_any (a x : Int) (h0 : 0 ≤ a) (h1 : a < 9223372036854775808) (hx0 : 0 ≤ x) (hx1 : x < 6) (w : World) : Calls Try.prog 77 #[.int .i64 a, .int .i64 x] w (Ret (.int .i64 (placeN a x : Int)) w) := by
  obtain ⟨m, rfl⟩ := Int.eq_ofNat_of_zero_le hx0
  go_enter Try.func77, Try.ntmps77
  go_wp2
  go_loop [5, 6] (fun v i => ∃ k : Nat, k ≤ m ∧ i = .int .i64 k ∧ v = .int .i64 ((letsTo a k).length : Nat)) (fun _ i => m - (intOf i).toNat)
  case atStart => exact ⟨0, by omega, rfl, rfl⟩
  case round =>
    obtain ⟨k, hk, rfl, rfl⟩ := hrel
    have hle := letsTo_len a k
    by_cases hlt : k < m
    · cases hh : hasB a k with
      | true =>
        have HH := Lib.hid hh; clear hh
        go_wp2_with (go_at_call 73; (with_reducible refine (l1Has_any a k h0 h1 (by omega) (by omega) _).mono ?_); rintro e w' ⟨rfl, rfl⟩; rw [HH.out])
        go_round
        case rel => exact ⟨k + 1, by omega, by go_num, by rw [letsTo_yes a k HH.out, List.length_append]; go_num⟩
        case measure => simp [intOf] <;> omega
      | false =>
        have HH := Lib.hid hh; clear hh
        go_wp2_with (go_at_call 73; (with_reducible refine (l1Has_any a k h0 h1 (by omega) (by omega) _).mono ?_); rintro e w' ⟨rfl, rfl⟩; rw [HH.out])
        go_round
        case rel => exact ⟨k + 1, by omega, by go_num, by rw [letsTo_no a k HH.out]⟩
        case measure => simp [intOf] <;> omega
    · go_wp2
      go_ret
      obtain rfl : k = m := by omega
      exact ⟨rfl, rfl⟩

def NumRel (s : ByteArray) (a : Int) (v i : Value) : Prop := ∃ k : Nat, k ≤ s.size ∧ i = .int .i64 k ∧ v = .int .i64 (numN a (s.data.toList.take k) : Nat)

theorem num_bd (s : ByteArray) (a : Int) (k : Nat) (hk : k ≤ 7) : numN a (s.data.toList.take k) < 823543 := by
  refine Nat.lt_of_lt_of_le (numN_lt a _) ?_
  exact Nat.le_trans (Nat.pow_le_pow_right (by decide) (by rw [List.length_take]; omega : (s.data.toList.take k).length ≤ 7)) (by decide)

def RetBel (v : Value) (w : World) (e : Ending) (w' : World) : Prop := e = .returned v ∧ Below w.heap.size w w'

set_option maxHeartbeats 400000 in
theorem implNum_any (s : ByteArray) (a : Int) (hs : s.size ≤ 140737488355320) (w : World) : Calls Try.prog 35 #[.string s, .int .i64 a] w (RetBel (.int .i64 (wordNum a s.data.toList)) w) := by
  cases hv : within s.data.toList a with
  | false =>
    have hr : wordNum a s.data.toList = -1 := by simp [wordNum, hv]
    have HR := Lib.hid hr; clear hr
    have HV := Lib.hid hv; clear hv
    go_enter Try.func35, Try.ntmps35
    go_wp2_with (go_at_call 31; (with_reducible refine (implWithin_any s a (by omega) _).mono ?_); rintro e w' ⟨rfl, rfl⟩; rw [HV.out])
    go_ret
    exact ⟨ret_int (by rw [HR.out]), Below.refl _ _⟩
  | true =>
    by_cases hl : 7 < s.size
    · have hl' : (7 : Int) < (s.size : Int) := by omega
      have hr : wordNum a s.data.toList = -1 := by
        have : ¬ s.size ≤ 7 := by omega
        simp [wordNum, data_len, this]
      have HR := Lib.hid hr; clear hr
      have HV := Lib.hid hv; clear hv
      go_enter Try.func35, Try.ntmps35
      go_wp2_with (go_at_call 31; (with_reducible refine (implWithin_any s a (by omega) _).mono ?_); rintro e w' ⟨rfl, rfl⟩; rw [HV.out])
      go_ret
      exact ⟨ret_int (by rw [HR.out]), Below.refl _ _⟩
    · have hl' : (s.size : Int) ≤ 7 := by omega
      have hr : wordNum a s.data.toList = (numN a s.data.toList : Int) := by
        have : s.size ≤ 7 := by omega
        simp [wordNum, data_len, this, hv]
      simp only [within, Bool.and_eq_true] at hv
      obtain ⟨⟨ha, hlen⟩, hall⟩ := hv
      have hv2 : within s.data.toList a = true := by simp [within, ha, hall]; simpa using hlen
      obtain ⟨h0, h1⟩ := (isA_iff a).1 ha
      have hlx := lets_len a
      have HR := Lib.hid hr; clear hr
      have HV := Lib.hid hv2; clear hv2
      have HA := Lib.hid ha; clear ha
      have HALL := Lib.hid hall; clear hall
      clear hlen
      go_enter Try.func35, Try.ntmps35
      go_wp2_with (go_at_call 31; (with_reducible refine (implWithin_any s a (by omega) _).mono ?_); rintro e w' ⟨rfl, rfl⟩; rw [HV.out])
      refine (lettersOf_any a h0 (by omega) w).mono ?_
      rintro e w2 ⟨ao, cap, rfl, hown, hbel⟩
      obtain ⟨m, hm⟩ : ∃ m, (lets a).length = m := ⟨_, rfl⟩
      rw [hm] at hown hlx
      rw [hm]
      have HM := Lib.hid hm; clear hm
      go_wp2
      go_loop [6, 21] (fun v i => NumRel s a v i) (fun _ i => s.size - (intOf i).toNat)
      case atStart => exact ⟨0, by omega, rfl, rfl⟩
      case round =>
        obtain ⟨k, hk, rfl, rfl⟩ := hrel
        have hbd := num_bd s a k (by omega)
        by_cases hlt : k < s.size
        · obtain ⟨c, hc⟩ : ∃ c, s[k] = c := ⟨_, rfl⟩
          have hok : okL a c = true := by rw [← hc]; exact all_at s (okL a) k hlt HALL.out
          have hc0 := okL_nonneg hok
          have hc1 := ltr_lt c
          have hip := (idx_place a (ltr c) HA.out hc0 hc1 hok).1
          have hpl := placeN_le a (ltr c)
          have hsn : numN a (s.data.toList.take (k + 1)) = numN a (s.data.toList.take k) * m + placeN a (ltr c) + 1 := by rw [take_snoc s k hlt, numN_snoc, hc, HM.out]
          have hmul : numN a (s.data.toList.take k) * m ≤ 823543 * 6 := Nat.mul_le_mul (by omega) hlx
          obtain ⟨q, hq⟩ : ∃ q : Nat, numN a (s.data.toList.take k) * m = q := ⟨_, rfl⟩
          have hqi : ((numN a (s.data.toList.take k) : Nat) : Int) * (m : Int) = (q : Int) := by rw [← hq]; simp
          rw [hq] at hmul hsn
          obtain ⟨z, hz⟩ : ∃ z, numN a (s.data.toList.take k) = z := ⟨_, rfl⟩
          rw [hz] at hqi hbd hq
          rw [hz]
          have HZ := Lib.hid hz; clear hz
          have HC := Lib.hid hc; clear hc
          have HOK := Lib.hid hok; clear hok
          have HIP := Lib.hid hip; clear hip
          have HS := Lib.hid hsn; clear hsn
          have HQ := Lib.hid hq; clear hq
          go_wp2_with (first | (go_at_call 61; (with_reducible refine (letterAt_c s k c hlt HC (by omega) _).mono ?_); rintro e w' ⟨rfl, rfl⟩) | (go_at_call 69; (with_reducible refine (index_any w.heap.size ao m cap (lets a) (ltr c) _ hown (by rw [HM.out]; omega)).mono ?_); rintro e w' ⟨rfl, rfl⟩; rw [HIP.out]))
          go_round
          case rel => exact ⟨k + 1, by omega, by go_num, by rw [HS.out]; go_num⟩
          case measure => simp [intOf] <;> omega
        · go_wp2
          go_ret
          obtain rfl : k = s.size := by omega
          exact ⟨ret_int (by rw [HR.out, take_all]), hbel⟩

set_option maxHeartbeats 400000 in
theorem specNum_any (s : ByteArray) (a : Int) (hs : s.size ≤ 140737488355320) (w : World) : Calls Try.prog 45 #[.string s, .int .i64 a] w (RetBel (.int .i64 (wordNum a s.data.toList)) w) := by
  cases hv : within s.data.toList a with
  | false =>
    have hr : wordNum a s.data.toList = -1 := by simp [wordNum, hv]
    have HR := Lib.hid hr; clear hr
    have HV := Lib.hid hv; clear hv
    go_enter Try.func45, Try.ntmps45
    go_wp2_with (go_at_call 76; (with_reducible refine (specWithin_any s a (by omega) _).mono ?_); rintro e w' ⟨rfl, rfl⟩; rw [HV.out])
    go_ret
    exact ⟨ret_int (by rw [HR.out]), Below.refl _ _⟩
  | true =>
    by_cases hl : 7 < s.size
    · have hl' : (7 : Int) < (s.size : Int) := by omega
      have hr : wordNum a s.data.toList = -1 := by
        have : ¬ s.size ≤ 7 := by omega
        simp [wordNum, data_len, this]
      have HR := Lib.hid hr; clear hr
      have HV := Lib.hid hv; clear hv
      go_enter Try.func45, Try.ntmps45
      go_wp2_with (go_at_call 76; (with_reducible refine (specWithin_any s a (by omega) _).mono ?_); rintro e w' ⟨rfl, rfl⟩; rw [HV.out])
      go_ret
      exact ⟨ret_int (by rw [HR.out]), Below.refl _ _⟩
    · have hl' : (s.size : Int) ≤ 7 := by omega
      have hr : wordNum a s.data.toList = (numN a s.data.toList : Int) := by
        have : s.size ≤ 7 := by omega
        simp [wordNum, data_len, this, hv]
      simp only [within, Bool.and_eq_true] at hv
      obtain ⟨⟨ha, hlen⟩, hall⟩ := hv
      have hv2 : within s.data.toList a = true := by simp [within, ha, hall]; simpa using hlen
      obtain ⟨h0, h1⟩ := (isA_iff a).1 ha
      have hlx := lets_len a
      have HR := Lib.hid hr; clear hr
      have HV := Lib.hid hv2; clear hv2
      have HA := Lib.hid ha; clear ha
      have HALL := Lib.hid hall; clear hall
      clear hlen
      go_enter Try.func45, Try.ntmps45
      go_wp2_with (go_at_call 76; (with_reducible refine (specWithin_any s a (by omega) _).mono ?_); rintro e w' ⟨rfl, rfl⟩; rw [HV.out])
      refine (l1Letters_any a h0 (by omega) w).mono ?_
      rintro e w2 ⟨ao, cap, rfl, hown, hbel⟩
      obtain ⟨m, hm⟩ : ∃ m, (lets a).length = m := ⟨_, rfl⟩
      rw [hm] at hown hlx
      rw [hm]
      have HM := Lib.hid hm; clear hm
      go_wp2
      go_loop [6, 7] (fun v i => NumRel s a v i) (fun _ i => s.size - (intOf i).toNat)
      case atStart => exact ⟨0, by omega, rfl, rfl⟩
      case round =>
        obtain ⟨k, hk, rfl, rfl⟩ := hrel
        have hbd := num_bd s a k (by omega)
        by_cases hlt : k < s.size
        · obtain ⟨c, hc⟩ : ∃ c, s[k] = c := ⟨_, rfl⟩
          have hok : okL a c = true := by rw [← hc]; exact all_at s (okL a) k hlt HALL.out
          have hc0 := okL_nonneg hok
          have hc1 := ltr_lt c
          have hpl := placeN_le a (ltr c)
          have hsn : numN a (s.data.toList.take (k + 1)) = numN a (s.data.toList.take k) * m + placeN a (ltr c) + 1 := by rw [take_snoc s k hlt, numN_snoc, hc, HM.out]
          have hmul : numN a (s.data.toList.take k) * m ≤ 823543 * 6 := Nat.mul_le_mul (by omega) hlx
          obtain ⟨q, hq⟩ : ∃ q : Nat, numN a (s.data.toList.take k) * m = q := ⟨_, rfl⟩
          have hqi : ((numN a (s.data.toList.take k) : Nat) : Int) * (m : Int) = (q : Int) := by rw [← hq]; simp
          rw [hq] at hmul hsn
          obtain ⟨z, hz⟩ : ∃ z, numN a (s.data.toList.take k) = z := ⟨_, rfl⟩
          rw [hz] at hqi hbd hq
          rw [hz]
          have HZ := Lib.hid hz; clear hz
          have HC := Lib.hid hc; clear hc
          have HOK := Lib.hid hok; clear hok
          have HS := Lib.hid hsn; clear hsn
          have HQ := Lib.hid hq; clear hq
          go_wp2_with (first | (go_at_call 65; (with_reducible refine (l1At_c s k c hlt HC (by omega) _).mono ?_); rintro e w' ⟨rfl, rfl⟩; rw [ltr_of_ok hc0]) | (go_at_call 77; (with_reducible refine (l1Place_any a (ltr c) h0 (by omega) hc0 hc1 _).mono ?_); rintro e w' ⟨rfl, rfl⟩))
          go_round
          case rel => exact ⟨k + 1, by omega, by go_num, by rw [HS.out]; go_num⟩
          case measure => simp [intOf] <;> omega
        · go_wp2
          go_ret
          obtain rfl : k = s.size := by omega
          exact ⟨ret_int (by rw [HR.out, take_all]), hbel⟩

end Go.Proofs.Ytkgbdglfpnmlgaa
