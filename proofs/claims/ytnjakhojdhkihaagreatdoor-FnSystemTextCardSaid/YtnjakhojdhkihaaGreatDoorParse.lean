/- ParseAlphabet on both sides. -/
import Derived.Test.YtnjakhojdhkihaaGreatDoorFormat
namespace Go.Proofs.YtnjakhojdhkihaaGreatDoor
open Go.RowKit
set_option linter.unusedVariables false
set_option linter.unusedSimpArgs false
set_option maxRecDepth 100000

def ParseRet (l : List UInt8) : Value := .tuple #[.int .i64 (parseN l : Int), .bool (parseB l)]
def RetBel' (v : Value) (w : World) (e : Ending) (w' : World) : Prop := e = .returned v ∧ Below w.heap.size w w'
def ParRel (s : ByteArray) (v i : Value) : Prop := ∃ k : Nat, k ≤ s.size ∧ i = .int .i64 k ∧ v = .int .i64 (alphS (s.data.toList.take k) : Nat)

set_option maxHeartbeats 400000 in
theorem implParse_any (s : ByteArray) (hs : s.size ≤ 140737488355320) (w : World) : Calls Tryz.prog 22 #[.string s] w (RetBel' (ParseRet s.data.toList) w) := by
  go_enter Tryz.func22, Tryz.ntmps22
  go_wp2
  go_loop [4, 9] (fun v i => ParRel s v i) (fun _ i => s.size - (intOf i).toNat)
  case atStart => exact ⟨0, by omega, rfl, rfl⟩
  case round =>
    obtain ⟨k, hk, rfl, rfl⟩ := hrel
    by_cases hlt : k < s.size
    · obtain ⟨c, hc⟩ : ∃ c, s[k] = c := ⟨_, rfl⟩
      have h1 := ltr_lt c
      have h2 := ltr_ge c
      by_cases h0 : 0 ≤ ltr c
      · have hsn : alphS (s.data.toList.take (k + 1)) = alphS (s.data.toList.take k) ||| 2 ^ (ltr c).toNat := by rw [take_snoc s k hlt, hc, alphS_yes _ _ h0]
        have HC := Lib.hid hc; clear hc
        have HS := Lib.hid hsn; clear hsn
        go_wp2_with (go_at_call 25; (with_reducible refine (letterAt_c s k c hlt HC (by omega) _).mono ?_); rintro e w' ⟨rfl, rfl⟩)
        go_round
        case rel => exact ⟨k + 1, by omega, by go_num, by rw [HS.out, or_step _ _ (alphS_lt _) h0 h1]⟩
        case measure => simp [intOf] <;> omega
      · have hsn : alphS (s.data.toList.take (k + 1)) = alphS (s.data.toList.take k) := by rw [take_snoc s k hlt, hc, alphS_no _ _ h0]
        have HC := Lib.hid hc; clear hc
        have HS := Lib.hid hsn; clear hsn
        go_wp2_with (go_at_call 25; (with_reducible refine (letterAt_c s k c hlt HC (by omega) _).mono ?_); rintro e w' ⟨rfl, rfl⟩)
        go_round
        case rel => exact ⟨k + 1, by omega, by go_num, by rw [HS.out]⟩
        case measure => simp [intOf] <;> omega
    · obtain rfl : k = s.size := by omega
      rw [take_all]
      go_wp2_with fail
      refine (implFmt_any _ w).mono ?_
      rintro e w1 ⟨r, rfl, hr, hb⟩
      cases hp : parseB s.data.toList with
      | true =>
        have heq : (r.toList == s.toList) = true := by
          rw [ByteArray.toList_eq, ByteArray.toList_eq, hr]
          have := of_decide_eq_true hp
          rw [this]; simp
        have hn : parseN s.data.toList = alphS s.data.toList := by simp [parseN, hp]
        have HP := Lib.hid hp; clear hp
        have HR := Lib.hid hr; clear hr
        have HN := Lib.hid hn; clear hn
        go_wp2
        go_ret2
        exact ⟨by unfold ParseRet; rw [HP.out, HN.out]; rfl, hb⟩
      | false =>
        have heq : (r.toList == s.toList) = false := by
          rw [ByteArray.toList_eq, ByteArray.toList_eq, hr]
          have := of_decide_eq_false hp
          simpa using this
        have hn : parseN s.data.toList = 0 := by simp [parseN, hp]
        have HP := Lib.hid hp; clear hp
        have HR := Lib.hid hr; clear hr
        have HN := Lib.hid hn; clear hn
        go_wp2
        go_ret2
        exact ⟨by unfold ParseRet; rw [HP.out, HN.out]; rfl, hb⟩

def SParRel (s : ByteArray) (w : World) (i : Value) (wr : World) : Prop := ∃ k : Nat, k ≤ 64 ∧ i = .int .i64 k ∧ (∀ j : Nat, j < k → fmtA (j : Int) ≠ s.data.toList) ∧ Below w.heap.size w wr

set_option maxHeartbeats 400000 in
theorem specParse_any (s : ByteArray) (hs : s.size ≤ 140737488355320) (w : World) : Calls Tryz.prog 18 #[.string s] w (RetBel' (ParseRet s.data.toList) w) := by
  go_enter Tryz.func18, Tryz.ntmps18
  go_wp2
  go_loopw [4] (fun i wr => SParRel s w i wr) (fun i _ => 64 - (intOf i).toNat)
  case atStart => exact ⟨0, by omega, rfl, fun j hj => by omega, Below.refl _ _⟩
  case round =>
    obtain ⟨k, hk, rfl, hno, hbel⟩ := hrel
    have HNO := Lib.hid hno; clear hno
    by_cases hlt : (k : Int) ≤ 63
    · go_wp2_with fail
      refine (specFmt_any _ wr).mono ?_
      rintro e w1 ⟨r, rfl, hr, hb⟩
      by_cases hq : fmtA (k : Int) = s.data.toList
      · have heq : (r.toList == s.toList) = true := by
          rw [ByteArray.toList_eq, ByteArray.toList_eq, hr, hq]; simp
        have ha : alphS s.data.toList = k := by rw [← hq]; exact alphS_fmt k (by omega)
        have hp : parseB s.data.toList = true := by unfold parseB; rw [ha]; simpa using hq
        have hn : parseN s.data.toList = k := by simp [parseN, hp, ha]
        have HP := Lib.hid hp; clear hp
        have HR := Lib.hid hr; clear hr
        have HN := Lib.hid hn; clear hn
        clear hq ha
        go_wp2
        go_ret2
        exact ⟨by unfold ParseRet; rw [HP.out, HN.out]; rfl, hbel.trans (hb.mono hbel.size)⟩
      · have heq : (r.toList == s.toList) = false := by
          rw [ByteArray.toList_eq, ByteArray.toList_eq, hr]; simpa using hq
        have HR := Lib.hid hr; clear hr
        have HQ := Lib.hid hq
        clear hq
        go_wp2
        go_roundw
        case rel => exact ⟨k + 1, by omega, by go_num, fun j hj => by
          by_cases h : j = k
          · subst h; exact HQ.out
          · exact HNO.out j (by omega), hbel.trans (hb.mono hbel.size)⟩
        case measure => simp [intOf] <;> omega
    · have hp : parseB s.data.toList = false := by
        unfold parseB
        simp only [decide_eq_false_iff_not]
        exact HNO.out _ (by have := alphS_lt s.data.toList; omega)
      have hn : parseN s.data.toList = 0 := by simp [parseN, hp]
      have HP := Lib.hid hp; clear hp
      have HN := Lib.hid hn; clear hn
      go_wp2
      go_ret2
      exact ⟨by unfold ParseRet; rw [HP.out, HN.out]; rfl, hbel⟩


end Go.Proofs.YtnjakhojdhkihaaGreatDoor
