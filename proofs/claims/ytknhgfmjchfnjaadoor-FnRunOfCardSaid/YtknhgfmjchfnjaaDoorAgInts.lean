/- agInts: whether two slices of numbers are alike. -/
import Derived.Test.YtknhgfmjchfnjaaDoorSame
namespace Go.Proofs.YtknhgfmjchfnjaaDoor
open Go.RowKit
set_option linter.unusedVariables false
set_option linter.unusedSimpArgs false
set_option maxRecDepth 100000

set_option maxHeartbeats 400000 in
theorem agInts_any (ao : Option Addr) (n cap : Nat) (bo : Option Addr) (m cap2 : Nat) (xs ys : List Int) (w : World) (h : IV w (.slice ao n cap) xs) (h2 : IV w (.slice bo m cap2) ys) :
    Calls Tryd.prog 30 #[.slice ao n cap, .slice bo m cap2] w (RetQ (.bool (decide (xs = ys))) w) := by
  obtain ⟨hn, hcap, hmax, hcell⟩ := SV.at h
  obtain ⟨hm, hcapm, hmaxm, hcellm⟩ := SV.at h2
  by_cases hl : n = m
  · subst hl
    have HC := Lib.hid hcell
    have HD := Lib.hid hcellm
    have HN := Lib.hid hn
    have HM := Lib.hid hm
    unfold maxLen at hmax
    clear hcell hcellm h h2 hn hm hcapm hmaxm
    go_enter Tryd.func30, Tryd.ntmps30
    go_wp2
    go_loopw [5] (fun i wr => ∃ k : Nat, k ≤ n ∧ i = .int .i64 k ∧ (∀ j, j < k → xs[j]?.getD 0 = ys[j]?.getD 0) ∧ ∃ q, wr = w.drewN q) (fun i _ => n - (intOf i).toNat)
    case atStart => exact ⟨0, by omega, rfl, fun j hj => by omega, 0, rfl⟩
    case round =>
      obtain ⟨k, hk, rfl, hall, q, rfl⟩ := hrel
      have HALL := Lib.hid hall; clear hall
      by_cases hlt : k < n
      · rcases HC.out with h0 | ⟨b, off, rfl, hb, hc⟩
        · omega
        · rcases HD.out with h0 | ⟨b2, off2, rfl, hb2, hc2⟩
          · omega
          · obtain ⟨u, hu, rfl⟩ := hc k hlt
            obtain ⟨u2, hu2, rfl⟩ := hc2 k hlt
            clear hc hc2
            obtain ⟨x, hx⟩ : ∃ x, xs[k]?.getD 0 = x := ⟨_, rfl⟩
            obtain ⟨y, hy⟩ : ∃ y, ys[k]?.getD 0 = y := ⟨_, rfl⟩
            rw [hx] at hu
            rw [hy] at hu2
            have HX := Lib.hid hx; clear hx
            have HY := Lib.hid hy; clear hy
            by_cases he : x = y
            · subst he
              go_wp2_with fail
              go_quiet (fail)
              rename_i nq
              go_wp2
              go_roundw
              case rel => exact ⟨k + 1, by omega, by go_num, fun j hj => by
                by_cases e : j = k
                · subst e; rw [HX.out, HY.out]
                · exact HALL.out j (by omega), _, rfl⟩
              case measure => simp [intOf] <;> omega
            · go_wp2_with fail
              go_quiet (fail)
              rename_i nq
              go_wp2
              go_ret
              exact ⟨ret_bool (by symm; simp only [decide_eq_false_iff_not]; intro h; exact he (by rw [← HX.out, ← HY.out, h])), q + nq, by first | rfl | rw [World.drewN_drewN]⟩
      · go_wp2
        go_ret
        obtain rfl : k = n := by omega
        exact ⟨ret_bool (by symm; simp only [decide_eq_true_eq]; exact ext_get 0 (by rw [← HN.out, ← HM.out]) (fun j hj => HALL.out j (by rw [HN.out]; exact hj))), q, rfl⟩
  · have hne : decide (xs = ys) = false := by
      simp only [decide_eq_false_iff_not]; intro h; apply hl; rw [hn, hm, h]
    have HNE := Lib.hid hne; clear hne
    have hq : ((n : Int) == (m : Int)) = false := by simp; omega
    clear hcell hcellm h h2 hn hm
    go_enter Tryd.func30, Tryd.ntmps30
    go_wp2
    go_ret
    exact ⟨ret_bool HNE.out.symm, 0, rfl⟩

theorem agInts_same (ao : Option Addr) (n cap : Nat) (bo : Option Addr) (m cap2 : Nat) (xs : List Int) (w : World) (h : IV w (.slice ao n cap) xs) (h2 : IV w (.slice bo m cap2) xs) :
    Calls Tryd.prog 30 #[.slice ao n cap, .slice bo m cap2] w (RetQ (.bool true) w) := by
  have := agInts_any ao n cap bo m cap2 xs xs w h h2
  simpa using this
end Go.Proofs.YtknhgfmjchfnjaaDoor
