/- ParseAlphabet on both sides. -/
import Derived.Test.YtagegbhchljggaaFormat
namespace Go.Proofs.Ytagegbhchljggaa
open Go.RowKit
set_option linter.unusedVariables false
set_option linter.unusedSimpArgs false
set_option maxRecDepth 100000

def ParseRet (l : List UInt8) : Value := .tuple #[.int .i64 (parseN l : Int), .bool (parseB l)]
def RetBel' (v : Value) (w : World) (e : Ending) (w' : World) : Prop := e = .returned v ∧ Below w.heap.size w w'
def ParRel (s : ByteArray) (v i : Value) : Prop := ∃ k : Nat, k ≤ s.size ∧ i = .int .i64 k ∧ v = .int .i64 (alphS (s.data.toList.take k) : Nat)

def SParRel (s : ByteArray) (w : World) (i : Value) (wr : World) : Prop := ∃ k : Nat, k ≤ 64 ∧ i = .int .i64 k ∧ (∀ j : Nat, j < k → fmtA (j : Int) ≠ s.data.toList) ∧ Below w.heap.size w wr

set_option maxHeartbeats 400000 in
theorem specParse_any (s : ByteArray) (hs : s.size ≤ 140737488355320) (w : World) : Calls Try.prog 81 #[.string s] w (RetBel' (ParseRet s.data.toList) w) := by
  go_enter Try.func81, Try.ntmps81
  go_wp2
  go_loopw [4] (fun i wr => SParRel s w i wr) (fun i _ => 64 - (intOf i).toNat)
  case atStart => exact ⟨0, by omega, rfl, fun j hj => by omega, Below.refl _ _⟩
  case round =>
    obtain ⟨k, hk, rfl, hno, hbel⟩ := hrel
    have HNO := Lib.hid hno; clear hno
    by_cases hlt : (k : Int) ≤ 63
    · go_wp2_with fail
      refine (specFmt_any _ wr).mono ?_
      rintro e w1 ⟨r, rfl, hr, hb⟩
      by_cases hq : fmtA (k : Int) = s.data.toList
      · have heq : (r.toList == s.toList) = true := by
          rw [ByteArray.toList_eq, ByteArray.toList_eq, hr, hq]; simp
        have ha : alphS s.data.toList = k := by rw [← hq]; exact alphS_fmt k (by omega)
        have hp : parseB s.data.toList = true := by unfold parseB; rw [ha]; simpa using hq
        have hn : parseN s.data.toList = k := by simp [parseN, hp, ha]
        have HP := Lib.hid hp; clear hp
        have HR := Lib.hid hr; clear hr
        have HN := Lib.hid hn; clear hn
        clear hq ha
        go_wp2
        go_ret2
        exact ⟨by unfold ParseRet; rw [HP.out, HN.out]; rfl, hbel.trans (hb.mono hbel.size)⟩
      · have heq : (r.toList == s.toList) = false := by
          rw [ByteArray.toList_eq, ByteArray.toList_eq, hr]; simpa using hq
        have HR := Lib.hid hr; clear hr
        have HQ := Lib.hid hq
        clear hq
        go_wp2
        go_roundw
        case rel => exact ⟨k + 1, by omega, by go_num, fun j hj => by
          by_cases h : j = k
          · subst h; exact HQ.out
          · exact HNO.out j (by omega), hbel.trans (hb.mono hbel.size)⟩
        case measure => simp [intOf] <;> omega
    · have hp : parseB s.data.toList = false := by
        unfold parseB
        simp only [decide_eq_false_iff_not]
        exact HNO.out _ (by have := alphS_lt s.data.toList; omega)
      have hn : parseN s.data.toList = 0 := by simp [parseN, hp]
      have HP := Lib.hid hp; clear hp
      have HN := Lib.hid hn; clear hn
      go_wp2
      go_ret2
      exact ⟨by unfold ParseRet; rw [HP.out, HN.out]; rfl, hbel⟩


end Go.Proofs.Ytagegbhchljggaa
