/- Numbers and pieces of a text: the kit's l19Num, l19Dec, l19Cut, and l2Parse: that they end, and what shape they give. -/
import Derived.Test.YtnjakhojdhkihaaGreatDoorEOwn
import Derived.Test.YtnjakhojdhkihaaGreatDoorDraw2
namespace Go.Proofs.YtnjakhojdhkihaaGreatDoor
open Go.RowKit
set_option linter.unusedVariables false
set_option linter.unusedSimpArgs false
set_option maxRecDepth 100000

def NumRes (w : World) (e : Ending) (w' : World) : Prop := ∃ (n : Int) (b : Bool), e = .returned (.tuple #[.int .i64 n, .bool b]) ∧ w' = w
set_option maxHeartbeats 8000000 in
theorem l19Num_any (s : ByteArray) (hs : s.size ≤ 2000000) (w : World) : Calls Tryz.prog 19 #[.string s] w (NumRes w) := by
  by_cases h0 : s.size = 0
  · have h0' : (s.size : Int) = 0 := by omega
    go_enter Tryz.func19, Tryz.ntmps19
    go_wp2
    go_ret2
    exact ⟨_, _, rfl, rfl⟩
  · have hpos : 0 < s.size := by omega
    have h0' : ¬ (s.size : Int) = 0 := by omega
    have hpos' : (0 : Int) < (s.size : Int) := by omega
    obtain ⟨c0, hc0⟩ : ∃ c0, s[0] = c0 := ⟨_, rfl⟩
    by_cases hm : (c0.toNat : Int) = 45
    · have hts : (s.extract 1 s.size).size = s.size - 1 := by simp
      go_enter Tryz.func19, Tryz.ntmps19
      go_wp2
      all_goals first | (
           go_ret2
           exact ⟨_, _, rfl, rfl⟩) | (
           go_loopw [5, 6] (fun v i wr => ∃ (m : Int) (k : Nat), v = .int .i64 m ∧ i = .int .i64 k ∧ k ≤ ((s.extract 1 s.size)).size ∧ wr = w) (fun _ i _ => ((s.extract 1 s.size)).size - (intOf i).toNat)
           case atStart => exact ⟨0, 0, rfl, rfl, Nat.zero_le _, rfl⟩
           case round =>
             obtain ⟨m, k, rfl, rfl, hk, rfl⟩ := hrel
             by_cases hlt : k < ((s.extract 1 s.size)).size
             · obtain ⟨c, hc⟩ : ∃ c, ((s.extract 1 s.size))[k] = c := ⟨_, rfl⟩
               by_cases h1 : (c.toNat : Int) < 48
               · go_wp2
                 go_ret2
                 exact ⟨_, _, rfl, rfl⟩
               · by_cases h2 : (57 : Int) < (c.toNat : Int)
                 · go_wp2
                   go_ret2
                   exact ⟨_, _, rfl, rfl⟩
                 · go_wp2
                   go_roundw
                   case rel => exact ⟨_, k + 1, rfl, by go_num, by omega, by first | rfl | trivial⟩
                   case measure => simp [intOf] <;> omega
             · go_wp2
               go_ret2
               exact ⟨_, _, rfl, rfl⟩
           )
    · go_enter Tryz.func19, Tryz.ntmps19
      go_wp2
      all_goals first | (
           go_ret2
           exact ⟨_, _, rfl, rfl⟩) | (
           go_loopw [5, 6] (fun v i wr => ∃ (m : Int) (k : Nat), v = .int .i64 m ∧ i = .int .i64 k ∧ k ≤ (s).size ∧ wr = w) (fun _ i _ => (s).size - (intOf i).toNat)
           case atStart => exact ⟨0, 0, rfl, rfl, Nat.zero_le _, rfl⟩
           case round =>
             obtain ⟨m, k, rfl, rfl, hk, rfl⟩ := hrel
             by_cases hlt : k < (s).size
             · obtain ⟨c, hc⟩ : ∃ c, (s)[k] = c := ⟨_, rfl⟩
               by_cases h1 : (c.toNat : Int) < 48
               · go_wp2
                 go_ret2
                 exact ⟨_, _, rfl, rfl⟩
               · by_cases h2 : (57 : Int) < (c.toNat : Int)
                 · go_wp2
                   go_ret2
                   exact ⟨_, _, rfl, rfl⟩
                 · go_wp2
                   go_roundw
                   case rel => exact ⟨_, k + 1, rfl, by go_num, by omega, by first | rfl | trivial⟩
                   case measure => simp [intOf] <;> omega
             · go_wp2
               go_ret2
               exact ⟨_, _, rfl, rfl⟩
           )
end Go.Proofs.YtnjakhojdhkihaaGreatDoor
