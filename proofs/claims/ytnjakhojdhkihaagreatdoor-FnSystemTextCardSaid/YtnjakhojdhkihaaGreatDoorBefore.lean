/- cmp.Compare, cmp.Or, shortlex, WordBefore on both sides. -/
import Derived.Test.YtnjakhojdhkihaaGreatDoorNumber
namespace Go.Proofs.YtnjakhojdhkihaaGreatDoor
open Go.RowKit
set_option linter.unusedVariables false
set_option linter.unusedSimpArgs false
set_option maxRecDepth 100000

theorem cmpInt_any (x y : Int) (w : World) : Calls Tryz.prog 66 #[.int .i64 x, .int .i64 y] w (Ret (.int .i64 (cmpI x y)) w) := by
  by_cases h1 : x < y
  · have hr : cmpI x y = -1 := by simp [cmpI, h1]
    have HR := Lib.hid hr; clear hr
    go_enter Tryz.func66, Tryz.ntmps66
    go_wp2
    go_ret
    exact ⟨ret_int HR.out.symm, rfl⟩
  · by_cases h2 : y < x
    · have hr : cmpI x y = 1 := by simp [cmpI, h1, h2]
      have HR := Lib.hid hr; clear hr
      go_enter Tryz.func66, Tryz.ntmps66
      go_wp2
      go_ret
      exact ⟨ret_int HR.out.symm, rfl⟩
    · have hr : cmpI x y = 0 := by simp [cmpI, h1, h2]
      have HR := Lib.hid hr; clear hr
      go_enter Tryz.func66, Tryz.ntmps66
      go_wp2
      go_ret
      exact ⟨ret_int HR.out.symm, rfl⟩

def cmpS (a b : List UInt8) : Int := if Op.bytesLess a b = true then -1 else if a = b then 0 else 1
theorem or_yes (xs : List Int) (k : Nat) (h : k < xs.length) (he : xs[k]?.getD 0 ≠ 0) : orL (xs.drop k) = xs[k]?.getD 0 := by
  rw [List.drop_eq_getElem_cons h]; rw [List.getElem?_eq_getElem h] at he ⊢
  simp only [Option.getD_some] at he ⊢
  simp [orL, he]
theorem or_no (xs : List Int) (k : Nat) (h : k < xs.length) (he : xs[k]?.getD 0 = 0) : orL (xs.drop k) = orL (xs.drop (k + 1)) := by
  rw [List.drop_eq_getElem_cons h]; rw [List.getElem?_eq_getElem h] at he
  simp only [Option.getD_some] at he
  simp [orL, he]

set_option maxHeartbeats 400000 in
theorem or_any (g m cap : Nat) (xs : List Int) (w : World) (hc : Hid (∀ j, j < m → w.cell? ⟨g, j, none⟩ = some (.int .i64 (xs[j]?.getD 0)))) (HM : Hid (xs.length = m)) (hm : m ≤ 1000) (hcap : m ≤ cap) (hcap2 : cap ≤ 1000) : Calls Tryz.prog 65 #[.slice (some ⟨g, 0, none⟩) m cap] w (Ret (.int .i64 (orL xs)) w) := by
  go_enter Tryz.func65, Tryz.ntmps65
  go_wp2
  go_loop [8] (fun i => ∃ k : Nat, k ≤ m ∧ i = .int .i64 k ∧ orL (xs.drop k) = orL xs) (fun i => m - (intOf i).toNat)
  case atStart => exact ⟨0, by omega, rfl, rfl⟩
  case round =>
    obtain ⟨k, hk, rfl, hrest⟩ := hrel
    have HREST := Lib.hid hrest; clear hrest
    by_cases hlt : k < m
    · have hcell := hc.out k hlt
      obtain ⟨y, hy⟩ : ∃ y, xs[k]?.getD 0 = y := ⟨_, rfl⟩
      rw [hy] at hcell
      have HY := Lib.hid hy; clear hy
      by_cases he : y = 0
      · subst he
        go_wp2
        go_round
        case rel => exact ⟨k + 1, by omega, by go_num, by rw [← HREST.out, or_no xs k (by rw [HM.out]; exact hlt) HY.out]⟩
        case measure => simp [intOf] <;> omega
      · have heb : (y != 0) = true := by simpa using he
        have HE := Lib.hid he
        clear he
        go_wp2
        go_ret
        exact ⟨ret_int (by rw [← HREST.out, or_yes xs k (by rw [HM.out]; exact hlt) (by rw [HY.out]; exact HE.out), HY.out]), rfl⟩
    · go_wp2
      go_ret
      obtain rfl : k = m := by omega
      refine ⟨ret_int ?_, rfl⟩
      rw [← HREST.out, ← HM.out, List.drop_length]; rfl

def shortL (v w : ByteArray) : Int := orL [cmpI v.size w.size, cmpS v.toList w.toList]


end Go.Proofs.YtnjakhojdhkihaaGreatDoor
