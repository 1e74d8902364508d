/- How many numbers of a set lie under a bound: the library's OnesCount, the program's rank, the reference's l2Rank. -/
import Derived.Test.YtknhgfmjchfnjaaDoorSysMoves
import Derived.Test.YtknhgfmjchfnjaaDoorSysPlain2
import Derived.Test.YtknhgfmjchfnjaaDoorPop
import Derived.Shelf.Spec.TrailingZeros
namespace Go.Proofs.YtknhgfmjchfnjaaDoor
open Go.RowKit
set_option linter.unusedVariables false
set_option linter.unusedSimpArgs false
set_option maxRecDepth 100000
theorem and64 (a b : Nat) (ha : a < 18446744073709551616) (hb : b < 18446744073709551616) : bits .and .u64 (a : Int) (b : Int) = ((a &&& b : Nat) : Int) := bits_and_u64_nat a b ha hb
theorem wrapU (n : Nat) (h : n < 18446744073709551616) : IntKind.u64.wrap (n : Int) = (n : Int) := by rw [IntKind.wrap_u64]; omega
theorem bitSum_cnt (k : Nat) : ∀ x : Nat, bitSum k x = cnt k x := by
  induction k with
  | zero => intro x; rfl
  | succ k ih =>
    intro x
    rw [bitSum, ih (x / 2)]
    unfold cnt
    rw [List.range_succ_eq_map, List.countP_cons, List.countP_map]
    have e : List.countP ((fun j => x.testBit j) ∘ Nat.succ) (List.range k) = List.countP (fun j => (x / 2).testBit j) (List.range k) := by
      congr 1
      funext j
      simp [Nat.testBit_succ]
    rw [e]
    have e0 : (if x.testBit 0 = true then 1 else 0) = x % 2 := by
      rw [Nat.testBit_zero]
      have : x % 2 = 0 ∨ x % 2 = 1 := by omega
      rcases this with h | h <;> simp [h]
    rw [e0]
    omega
theorem cnt_mask (s n : Nat) : ∀ d, cnt (n + d) (s &&& (2 ^ n - 1)) = cnt n s := by
  intro d
  induction d with
  | zero =>
    unfold cnt
    refine List.countP_congr (fun j hj => ?_)
    have hj' : j < n := List.mem_range.1 hj
    rw [Nat.testBit_and, Nat.testBit_two_pow_sub_one]
    simp [hj']
  | succ d ih =>
    have e : cnt (n + (d + 1)) (s &&& (2 ^ n - 1)) = cnt (n + d) (s &&& (2 ^ n - 1)) + (if (s &&& (2 ^ n - 1)).testBit (n + d) = true then 1 else 0) := by
      unfold cnt
      rw [show n + (d + 1) = (n + d) + 1 by omega, List.range_succ, List.countP_append]
      simp
    rw [e, ih, Nat.testBit_and, Nat.testBit_two_pow_sub_one]
    have : ¬ (n + d < n) := by omega
    simp [this]
theorem and_mask_le (s n : Nat) : s &&& (2 ^ n - 1) ≤ s := Nat.and_le_left
set_option maxHeartbeats 1000000 in
theorem ones64_any (x : Nat) (hx : x < 65536) (w : World) : Calls Tryd.prog 90 #[.int .u64 x] w (Ret (.int .i64 (cnt 16 x : Nat)) w) := by
  obtain ⟨x1, h1⟩ : ∃ x1, ((x / 2) &&& 6148914691236517205) + (x &&& 6148914691236517205) = x1 := ⟨_, rfl⟩
  obtain ⟨x2, h2⟩ : ∃ x2, ((x1 / 4) &&& 3689348814741910323) + (x1 &&& 3689348814741910323) = x2 := ⟨_, rfl⟩
  obtain ⟨x3, h3⟩ : ∃ x3, ((x2 / 16) + x2) &&& 1085102592571150095 = x3 := ⟨_, rfl⟩
  obtain ⟨x4, h4⟩ : ∃ x4, x3 + x3 / 256 = x4 := ⟨_, rfl⟩
  obtain ⟨x5, h5⟩ : ∃ x5, x4 + x4 / 65536 = x5 := ⟨_, rfl⟩
  obtain ⟨x6, h6⟩ : ∃ x6, x5 + x5 / 4294967296 = x6 := ⟨_, rfl⟩
  have b1 : x1 < 131072 := by
    have := Nat.and_le_left (n := x / 2) (m := 6148914691236517205)
    have := Nat.and_le_left (n := x) (m := 6148914691236517205)
    omega
  have b2 : x2 < 262144 := by
    have := Nat.and_le_left (n := x1 / 4) (m := 3689348814741910323)
    have := Nat.and_le_left (n := x1) (m := 3689348814741910323)
    omega
  have b3 : x3 < 524288 := by
    have := Nat.and_le_left (n := x2 / 16 + x2) (m := 1085102592571150095)
    omega
  have hs : x6 &&& 127 = cnt 16 x := by
    rw [← bitSum_cnt, ← swar_all x hx]
    unfold swar
    dsimp only
    rw [h1, h2, h3, h4, h5, h6]
  have a1 : bits BinOp.and IntKind.u64 ((x : Int) / 2) 6148914691236517205 = ((x / 2 &&& 6148914691236517205 : Nat) : Int) := and64 (x / 2) 6148914691236517205 (by omega) (by decide)
  have a2 : bits BinOp.and IntKind.u64 (x : Int) 6148914691236517205 = ((x &&& 6148914691236517205 : Nat) : Int) := and64 x 6148914691236517205 (by omega) (by decide)
  have e1 : IntKind.u64.wrap (bits BinOp.and IntKind.u64 ((x : Int) / 2) 6148914691236517205 + bits BinOp.and IntKind.u64 (x : Int) 6148914691236517205) = (x1 : Int) := by
    rw [a1, a2, ← h1]
    exact wrapU ((x / 2 &&& 6148914691236517205) + (x &&& 6148914691236517205)) (by omega)
  have a3 : bits BinOp.and IntKind.u64 ((x1 : Int) / 4) 3689348814741910323 = ((x1 / 4 &&& 3689348814741910323 : Nat) : Int) := and64 (x1 / 4) 3689348814741910323 (by omega) (by decide)
  have a4 : bits BinOp.and IntKind.u64 (x1 : Int) 3689348814741910323 = ((x1 &&& 3689348814741910323 : Nat) : Int) := and64 x1 3689348814741910323 (by omega) (by decide)
  have e2 : IntKind.u64.wrap (bits BinOp.and IntKind.u64 ((x1 : Int) / 4) 3689348814741910323 + bits BinOp.and IntKind.u64 (x1 : Int) 3689348814741910323) = (x2 : Int) := by
    rw [a3, a4, ← h2]
    exact wrapU ((x1 / 4 &&& 3689348814741910323) + (x1 &&& 3689348814741910323)) (by omega)
  have a5 : IntKind.u64.wrap ((x2 : Int) / 16 + (x2 : Int)) = ((x2 / 16 + x2 : Nat) : Int) := wrapU (x2 / 16 + x2) (by omega)
  have e3 : bits BinOp.and IntKind.u64 (IntKind.u64.wrap ((x2 : Int) / 16 + (x2 : Int))) 1085102592571150095 = (x3 : Int) := by
    rw [a5, ← h3]
    exact and64 (x2 / 16 + x2) 1085102592571150095 (by omega) (by decide)
  have e4 : IntKind.u64.wrap ((x3 : Int) + (x3 : Int) / 256) = (x4 : Int) := by
    rw [← h4]
    exact wrapU (x3 + x3 / 256) (by omega)
  have e5 : IntKind.u64.wrap ((x4 : Int) + (x4 : Int) / 65536) = (x5 : Int) := by
    rw [← h5]
    exact wrapU (x4 + x4 / 65536) (by omega)
  have e6 : IntKind.u64.wrap ((x5 : Int) + (x5 : Int) / 4294967296) = (x6 : Int) := by
    rw [← h6]
    exact wrapU (x5 + x5 / 4294967296) (by omega)
  have e7 : bits BinOp.and IntKind.i64 (x6 : Int) 127 = (cnt 16 x : Int) := by
    rw [← hs]
    exact and_i64 (x6 : Int) 127 (by omega) (by omega) (by omega) (by omega)
  have b6 : x6 < 9223372036854775808 := by omega
  clear a1 a2 a3 a4 a5 h1 h2 h3 h4 h5 h6 hs b1 b2 b3 hx
  go_enter Tryd.func90, Tryd.ntmps90
  go_wp2
  go_ret
  exact ⟨rfl, rfl⟩
theorem ones_any (x : Nat) (hx : x < 65536) (w : World) : Calls Tryd.prog 72 #[.int .u64 x] w (Ret (.int .i64 (cnt 16 x : Nat)) w) := by
  go_enter Tryd.func72, Tryd.ntmps72
  go_wp2_with (go_at_call 90; (with_reducible refine (ones64_any x hx _).mono ?_); rintro e w' ⟨rfl, rfl⟩)
  go_ret
  exact ⟨rfl, rfl⟩
/-- rank: the numbers of a set that are less than n. -/
theorem rank_any (s n : Nat) (hs : s < 65536) (hn : n ≤ 16) (w : World) : Calls Tryd.prog 73 #[.int .i64 s, .int .i64 n] w (Ret (.int .i64 (cnt n s : Nat)) w) := by
  have hp := wrap64_pow2 (n : Int) (by omega)
  rw [Int.toNat_natCast] at hp
  have hpow : 2 ^ n ≤ 65536 := Nat.pow_le_pow_right (by decide : 0 < 2) hn
  have hpos : 0 < 2 ^ n := Nat.pow_pos (by decide)
  obtain ⟨m, hm⟩ : ∃ m, s &&& (2 ^ n - 1) = m := ⟨_, rfl⟩
  have hmlt : m < 65536 := by have := and_mask_le s n; omega
  have hc : cnt 16 m = cnt n s := by
    have := cnt_mask s n (16 - n)
    rw [show n + (16 - n) = 16 by omega, hm] at this
    exact this
  have ha : bits BinOp.and IntKind.i64 (s : Int) (((2 ^ n : Nat) : Int) - 1) = (m : Int) := by
    rw [← hm, show (((2 ^ n : Nat) : Int) - 1) = ((2 ^ n - 1 : Nat) : Int) by omega]
    exact and_n s (2 ^ n - 1) hs (by omega)
  have HONE := Lib.hid (fun wq => hc ▸ ones_any m hmlt wq)
  have hwu : IntKind.u64.wrap (m : Int) = (m : Int) := wrapU m (by omega)
  obtain ⟨q, hq⟩ : ∃ q, 2 ^ n = q := ⟨_, rfl⟩
  rw [hq] at ha hp hpow hpos
  clear hm hc
  go_enter Tryd.func73, Tryd.ntmps73
  go_wp2_with fail
  refine (HONE.out w).mono ?_
  rintro e w' ⟨rfl, rfl⟩
  go_wp2
  go_ret
  exact ⟨rfl, rfl⟩
theorem cnt_yes (n s : Nat) (h : s.testBit n = true) : cnt (n + 1) s = cnt n s + 1 := by
  unfold cnt
  rw [List.range_succ, List.countP_append]
  simp [h]
theorem cnt_no (n s : Nat) (h : s.testBit n = false) : cnt (n + 1) s = cnt n s := by
  unfold cnt
  rw [List.range_succ, List.countP_append]
  simp [h]
/-- l2Rank: the same, counted one by one. -/
theorem l2Rank_any (s n : Nat) (hs : s < 65536) (hn : n ≤ 16) (w : World) : Calls Tryd.prog 77 #[.int .i64 s, .int .i64 n] w (Ret (.int .i64 (cnt n s : Nat)) w) := by
  go_enter Tryd.func77, Tryd.ntmps77
  go_wp2
  go_loopw [5, 6] (fun v i wr => ∃ k : Nat, i = .int .i64 k ∧ k ≤ n ∧ v = .int .i64 (cnt k s : Nat) ∧ wr = w) (fun _ i _ => n - (intOf i).toNat)
  case atStart => exact ⟨0, rfl, Nat.zero_le _, rfl, rfl⟩
  case round =>
    obtain ⟨k, rfl, hk, rfl, hwr⟩ := hrel
    replace hwr := hwr.symm
    subst hwr
    have hck := cnt_le k s
    by_cases hlt : k < n
    · obtain ⟨c, hc⟩ : ∃ c, cnt k s = c := ⟨_, rfl⟩
      rw [hc] at hck ⊢
      cases hh : s.testBit k with
      | true =>
        have hst : cnt (k + 1) s = c + 1 := by rw [cnt_yes k s hh, hc]
        have hb : hasB (s : Int) (k : Int) = true := by rw [hasB_nat]; exact hh
        have HST := Lib.hid hst; clear hst
        have HB := Lib.hid hb; clear hb
        clear hh hc
        go_wp2_with (go_at_call 78; (with_reducible refine (l1Has_any _ _ (by omega) (by omega) (by omega) (by omega) _).mono ?_); rintro e w' ⟨rfl, rfl⟩; rw [HB.out])
        go_roundw
        case rel => exact ⟨k + 1, by go_num, by omega, by rw [HST.out]; go_num, by first | rfl | trivial⟩
        case measure => simp [intOf] <;> omega
      | false =>
        have hst : cnt (k + 1) s = c := by rw [cnt_no k s hh, hc]
        have hb : hasB (s : Int) (k : Int) = false := by rw [hasB_nat]; exact hh
        have HST := Lib.hid hst; clear hst
        have HB := Lib.hid hb; clear hb
        clear hh hc
        go_wp2_with (go_at_call 78; (with_reducible refine (l1Has_any _ _ (by omega) (by omega) (by omega) (by omega) _).mono ?_); rintro e w' ⟨rfl, rfl⟩; rw [HB.out])
        go_roundw
        case rel => exact ⟨k + 1, by go_num, by omega, by rw [HST.out], by first | rfl | trivial⟩
        case measure => simp [intOf] <;> omega
    · obtain rfl : k = n := by omega
      go_wp2
      go_ret
      exact ⟨rfl, rfl⟩
end Go.Proofs.YtknhgfmjchfnjaaDoor
