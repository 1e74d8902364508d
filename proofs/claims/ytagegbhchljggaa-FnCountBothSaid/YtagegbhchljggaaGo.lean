/- l1Place, l3Go, l3Run: where letters and words lead. -/
import Derived.Test.YtagegbhchljggaaTable
namespace Go.Proofs.Ytagegbhchljggaa
open Go.RowKit
set_option linter.unusedVariables false
set_option linter.unusedSimpArgs false
set_option maxRecDepth 100000

set_option maxHeartbeats 400000 in
theorem l1Place_any (a x : Int) (h0 : 0 ≤ a) (h1 : a < 9223372036854775808) (hx0 : 0 ≤ x) (hx1 : x < 6) (w : World) : Calls Try.prog 69 #[.int .i64 a, .int .i64 x] w (Ret (.int .i64 (placeN a x : Int)) w) := by
  obtain ⟨m, rfl⟩ := Int.eq_ofNat_of_zero_le hx0
  go_enter Try.func69, Try.ntmps69
  go_wp2
  go_loop [5, 6] (fun v i => ∃ k : Nat, k ≤ m ∧ i = .int .i64 k ∧ v = .int .i64 ((letsTo a k).length : Nat)) (fun _ i => m - (intOf i).toNat)
  case atStart => exact ⟨0, by omega, rfl, rfl⟩
  case round =>
    obtain ⟨k, hk, rfl, rfl⟩ := hrel
    have hle := letsTo_len a k
    by_cases hlt : k < m
    · cases hh : hasB a k with
      | true =>
        have HH := Lib.hid hh; clear hh
        go_wp2_with (go_at_call 60; (with_reducible refine (l1Has_any a k h0 h1 (by omega) (by omega) _).mono ?_); rintro e w' ⟨rfl, rfl⟩; rw [HH.out])
        go_round
        case rel => exact ⟨k + 1, by omega, by go_num, by rw [letsTo_yes a k HH.out, List.length_append]; go_num⟩
        case measure => simp [intOf] <;> omega
      | false =>
        have HH := Lib.hid hh; clear hh
        go_wp2_with (go_at_call 60; (with_reducible refine (l1Has_any a k h0 h1 (by omega) (by omega) _).mono ?_); rintro e w' ⟨rfl, rfl⟩; rw [HH.out])
        go_round
        case rel => exact ⟨k + 1, by omega, by go_num, by rw [letsTo_no a k HH.out]⟩
        case measure => simp [intOf] <;> omega
    · go_wp2
      go_ret
      obtain rfl : k = m := by omega
      exact ⟨rfl, rfl⟩


set_option maxHeartbeats 1000000 in
theorem l3Go_any (al : Int) (a1 : Option Addr) (n1 c1 : Nat) (a2 : Option Addr) (n2 c2 : Nat) (xss : List (List Int)) (w : World) (ha : isA al = true) (h : MV w (.slice a1 n1 c1) xss) (hrow : ∀ l ∈ xss, l.length = (lets al).length)
    (q : Nat) (hq : q < n1) (hm : n1 ≤ 12) (x : Nat) (hx : x < 6) : Calls Try.prog 54 #[.agg #[.int .i64 al, .slice a1 n1 c1, .slice a2 n2 c2], .int .i64 q, .int .i64 x] w (RB (.int .i64 (goA al xss q x)) w) := by
  obtain ⟨h0, h1⟩ := (isA_iff al).1 ha
  have hbel0 := Lib.hid (below_new w 28 #[.int .i64 al, .slice a1 n1 c1, .slice a2 n2 c2])
  have hR := Lib.hid (agg3_cell w al (.slice a1 n1 c1) (.slice a2 n2 c2) 28)
  cases hh : hasB al (x : Int) with
  | false =>
    have hr : goA al xss q x = q := by unfold goA; rw [hh]; simp
    have HR := Lib.hid hr; clear hr
    have HH := Lib.hid hh; clear hh
    go_enter Try.func54, Try.ntmps54
    go_wp2_with (go_at_call 60; (with_reducible refine (l1Has_any al x h0 (by omega) (by omega) (by omega) _).mono ?_); rintro e w' ⟨rfl, rfl⟩; rw [HH.out])
    go_ret
    exact ⟨ret_int HR.out.symm, hbel0.out⟩
  | true =>
    obtain ⟨hn, hcap, hmax, hcell⟩ := SV.at h
    have hpl := (idx_place al (x : Int) ha (by omega) (by omega) hh).2.1
    rcases hcell with h0' | ⟨b, off, rfl, hb, hc⟩
    · omega
    obtain ⟨u, hu, hv⟩ := hc q hq
    clear hc
    obtain ⟨r, hr⟩ : ∃ r, xss[q]?.getD [] = r := ⟨_, rfl⟩
    rw [hr] at hv
    have hrl : r.length = (lets al).length := by
      rw [← hr]
      exact hrow _ (by rw [List.getElem?_eq_getElem (by omega), Option.getD_some]; exact List.getElem_mem _)
    have hgo : goA al xss q x = r[placeN al (x : Int)]?.getD 0 := by unfold goA; rw [if_pos hh, hr]
    obtain ⟨a3, n3, c3, rfl⟩ : ∃ a n c, u = .slice a n c := by obtain ⟨a, c, e, -⟩ := hv; exact ⟨a, _, c, e⟩
    obtain ⟨hn3, hcap3, hmax3, hcell3⟩ := SV.at hv
    rcases hcell3 with h0' | ⟨b3, off3, rfl, hb3, hc3⟩
    · omega
    obtain ⟨p, hp⟩ : ∃ p, placeN al (x : Int) = p := ⟨_, rfl⟩
    rw [hp] at hpl hgo
    have hp3 : p < n3 := by omega
    obtain ⟨v, hv3, rfl⟩ := hc3 p hp3
    obtain ⟨z, hz⟩ : ∃ z, r[p]?.getD 0 = z := ⟨_, rfl⟩
    rw [hz] at hv3 hgo
    have hp6 : p ≤ 6 := by have := lets_len al; omega
    unfold maxLen at hmax hmax3
    obtain ⟨w1, hw1⟩ : ∃ w1, w.alloc (.cells #[.int .i64 al, .slice (some ⟨b, off, none⟩) n1 c1, .slice a2 n2 c2] 28) = w1 := ⟨_, rfl⟩
    have hbel1 := hbel0.out
    have hR1 := hR.out
    rw [hw1] at hbel1 hR1
    have d1 : w1.cell? ⟨b, off + q, none⟩ = some (.slice (some ⟨b3, off3, none⟩) n3 c3) := by rw [cell_below hbel1 hb]; exact hu
    have d2 : w1.cell? ⟨b3, off3 + p, none⟩ = some (.int .i64 z) := by rw [cell_below hbel1 hb3]; exact hv3
    have e0 : w1.cell? ⟨w.heap.size, 0, none⟩ = some (.int .i64 al) := hR1.cell (by decide)
    have e1 : w1.cell? ⟨w.heap.size, 1, none⟩ = some (.slice (some ⟨b, off, none⟩) n1 c1) := hR1.cell (by decide)
    have HGO := Lib.hid hgo; clear hgo
    have HP := Lib.hid hp; clear hp
    have HH := Lib.hid hh; clear hh
    have HB1 := Lib.hid hbel1; clear hbel1
    clear hv hc3 hz hr hrl hpl hR1 hR hbel0 hu hv3 h hn hn3 hrow ha
    go_enter Try.func54, Try.ntmps54
    go_wp2_with fail
    clear hw1
    refine (l1Has_any al x h0 (by omega) (by omega) (by omega) _).mono ?_
    rintro e w' ⟨rfl, rfl⟩
    rw [HH.out]
    go_wp2_with fail
    go_region_with ((go_at_call 69; refine (l1Place_any al x h0 (by omega) (by omega) (by omega) _).mono ?_; rintro e w5 ⟨rfl, rfl⟩; rw [HP.out]))
    all_goals
      go_wp2
      go_ret
      exact ⟨ret_int HGO.out.symm, HB1.out.drew⟩
end Go.Proofs.Ytagegbhchljggaa
