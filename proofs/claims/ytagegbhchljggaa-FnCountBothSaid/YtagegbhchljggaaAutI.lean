/- AutomatonValid, the program's. -/
import Derived.Test.YtagegbhchljggaaAut
import Derived.Deep.RegionWith
namespace Go.Proofs.Ytagegbhchljggaa
open Go.RowKit
set_option linter.unusedVariables false
set_option linter.unusedSimpArgs false
set_option maxRecDepth 100000

set_option maxHeartbeats 4000000 in
theorem implAutValid_any (al : Int) (a1 : Option Addr) (n1 c1 : Nat) (a2 : Option Addr) (n2 c2 : Nat) (xss : List (List Int)) (bs : List Bool) (w : World) (h : MV w (.slice a1 n1 c1) xss) (hb : BV w (.slice a2 n2 c2) bs) :
    Calls Try.prog 15 #[.agg #[.int .i64 al, .slice a1 n1 c1, .slice a2 n2 c2]] w (RB (.bool (autV al xss bs)) w) := by
  obtain ⟨hn, hcap, hmax, hcell⟩ := SV.at h
  obtain ⟨hn2, hcap2, hmax2, -⟩ := SV.at hb
  unfold maxLen at hmax hmax2
  clear h hb
  have hbel0 : Below w.heap.size w (w.alloc (.cells #[.int .i64 al, .slice a1 n1 c1, .slice a2 n2 c2] 28)) := (Below.refl _ _).alloc (Nat.le_refl _) _
  have HB0 := Lib.hid hbel0
  clear hbel0
  cases ha : isA al with
  | false =>
    have hr := autV_no1 al xss bs ha
    have HR := Lib.hid hr; clear hr
    have HA := Lib.hid ha; clear ha
    clear hn hn2 hcell
    go_enter Try.func15, Try.ntmps15
    go_wp2_with (go_at_call 39; (with_reducible refine (isAlphabet_any al _).mono ?_); rintro e w' ⟨rfl, rfl⟩; rw [HA.out])
    go_ret
    exact ⟨ret_bool HR.out.symm, HB0.out⟩
  | true =>
    obtain ⟨h0, h1⟩ := (isA_iff al).1 ha
    by_cases hc1 : n1 < 1
    · have hr := autV_no2 al xss bs (by omega)
      have HR := Lib.hid hr; clear hr
      have HA := Lib.hid ha; clear ha
      clear hn hn2 hcell
      go_enter Try.func15, Try.ntmps15
      go_wp2_with (go_at_call 39; (with_reducible refine (isAlphabet_any al _).mono ?_); rintro e w' ⟨rfl, rfl⟩; rw [HA.out])
      go_ret
      exact ⟨ret_bool HR.out.symm, HB0.out⟩
    by_cases hc2 : 12 < n1
    · have hr := autV_no2 al xss bs (by omega)
      have HR := Lib.hid hr; clear hr
      have HA := Lib.hid ha; clear ha
      clear hn hn2 hcell
      go_enter Try.func15, Try.ntmps15
      go_wp2_with (go_at_call 39; (with_reducible refine (isAlphabet_any al _).mono ?_); rintro e w' ⟨rfl, rfl⟩; rw [HA.out])
      go_ret
      exact ⟨ret_bool HR.out.symm, HB0.out⟩
    by_cases hc3 : n2 = n1
    · have hr := autV_go al xss bs ha (by omega)
      subst hc3
      have HR := Lib.hid hr; clear hr
      have HA := Lib.hid ha; clear ha
      have HC := Lib.hid hcell; clear hcell
      have HN := Lib.hid hn; clear hn
      have hd1 : decide ((n2 : Int) < 1) = false := by simp; omega
      have hd2 : decide ((12 : Int) < (n2 : Int)) = false := by simp; omega
      clear hn2
      go_enter Try.func15, Try.ntmps15
      go_wp2_with (go_at_call 39; (with_reducible refine (isAlphabet_any al _).mono ?_); rintro e w' ⟨rfl, rfl⟩; rw [HA.out])
      refine (lettersOf_any al h0 (by omega) _).mono ?_
      rintro e w1 ⟨ao5, cap5, rfl, -, hb1⟩
      have hbel1 := HB0.out.trans (hb1.mono HB0.out.size)
      have hrow1 := rowIs_below (agg3_cell w al (.slice a1 n2 c1) (.slice a2 n2 c2) 28) hb1
      have e1 : w1.cell? ⟨w.heap.size, 1, none⟩ = some (.slice a1 n2 c1) := hrow1.cell (by decide)
      have HBEL := Lib.hid hbel1
      have HLT := Lib.hid (World.rowIs.lt hrow1)
      clear hb1 hbel1 hrow1 HB0
      go_wp2
      go_loop [40] (fun i => ∃ k : Nat, k ≤ n2 ∧ i = .int .i64 k ∧ (xss.take k).all (fun l => rowOK l (lets al).length xss.length) = true) (fun i => n2 - (intOf i).toNat)
      case atStart => exact ⟨0, by omega, rfl, by simp⟩
      case round =>
        obtain ⟨k, hk, rfl, hall⟩ := hrel
        have HALL := Lib.hid hall; clear hall
        by_cases hlt : k < n2
        · rcases HC.out with h0 | ⟨b, off, rfl, hb, hc⟩
          · omega
          · obtain ⟨u, hu, hv⟩ := hc k hlt
            clear hc
            obtain ⟨x, hx⟩ : ∃ x, xss[k]?.getD [] = x := ⟨_, rfl⟩
            rw [hx] at hv
            have HX := Lib.hid hx; clear hx
            obtain ⟨a3, n3, c3, rfl⟩ : ∃ a n c, u = .slice a n c := by obtain ⟨a, c, e, -⟩ := hv; exact ⟨a, _, c, e⟩
            have e2 : w1.cell? ⟨b, off + k, none⟩ = some (.slice a3 n3 c3) := by rw [cell_below HBEL.out hb]; exact hu
            obtain ⟨hn3, hcap3, hmax3, hcell3⟩ := SV.at (IV.below hv HBEL.out)
            unfold maxLen at hmax3
            have HC3 := Lib.hid hcell3
            have HN3 := Lib.hid hn3
            clear hu hv hcell3 hn3
            obtain ⟨m, hm⟩ : ∃ m, (lets al).length = m := ⟨_, rfl⟩
            rw [hm]
            have HM := Lib.hid hm
            have hm6 : m ≤ 6 := by rw [← hm]; exact lets_len al
            clear hm
            by_cases hw : n3 = m
            · subst hw
              go_wp2
              go_loop [50] (fun i => ∃ j : Nat, j ≤ n3 ∧ i = .int .i64 j ∧ (x.take j).all (fun q => decide (0 ≤ q ∧ q < (n2 : Int))) = true) (fun i => n3 - (intOf i).toNat)
              case atStart => exact ⟨0, by omega, rfl, by simp⟩
              case round =>
                obtain ⟨j, hj, rfl, hall2⟩ := hrel
                have HALL2 := Lib.hid hall2; clear hall2
                by_cases hlj : j < n3
                · rcases HC3.out with h0 | ⟨b3, off3, rfl, hb3, hc3⟩
                  · omega
                  · obtain ⟨u, hu, rfl⟩ := hc3 j hlj
                    clear hc3
                    obtain ⟨y, hy⟩ : ∃ y, x[j]?.getD 0 = y := ⟨_, rfl⟩
                    rw [hy] at hu
                    have HY := Lib.hid hy; clear hy
                    by_cases hy0 : 0 ≤ y ∧ y < (n2 : Int)
                    · obtain ⟨hy1, hy2⟩ := hy0
                      go_wp2
                      go_round
                      case rel => exact ⟨j + 1, by omega, by go_num, take_succ_all 0 _ x j (by rw [← HN3.out]; exact hlj) HALL2.out (by rw [HY.out]; simp; omega)⟩
                      case measure => simp [intOf] <;> omega
                    · go_wp2
                      all_goals
                        go_ret
                        exact ⟨ret_bool (by rw [HR.out]; exact (all_no [] _ xss k (by rw [← HN.out]; exact hlt) (by rw [HX.out, rowOK, all_no 0 _ x j (by rw [← HN3.out]; exact hlj) (by rw [HY.out, ← HN.out]; simp; omega)]; simp)).symm), HBEL.out⟩
                · go_wp2
                  go_round
                  case rel => exact ⟨k + 1, by omega, by go_num, take_succ_all [] _ xss k (by rw [← HN.out]; exact hlt) (by have hA := HALL.out; rw [HM.out] at hA; exact hA) (by
                    rw [HX.out, rowOK, ← HN.out, HN3.out]
                    have : j = n3 := by omega
                    subst this
                    have h2 := HALL2.out
                    rw [List.take_of_length_le (by rw [← HN3.out]; exact Nat.le_refl _)] at h2
                    rw [h2]; simp)⟩
                  case measure => simp [intOf] <;> omega
            · have hw' : ((n3 : Int) != (m : Int)) = true := by simp; omega
              go_wp2
              go_ret
              exact ⟨ret_bool (by rw [HR.out]; exact (all_no [] _ xss k (by rw [← HN.out]; exact hlt) (by rw [HX.out, rowOK, HM.out, decide_eq_false (by rw [← HN3.out]; exact hw)]; simp)).symm), HBEL.out⟩
        · go_wp2
          go_ret
          obtain rfl : k = n2 := by omega
          exact ⟨ret_bool (by rw [HR.out, ← HALL.out, List.take_of_length_le (by rw [← HN.out]; exact Nat.le_refl _)]), HBEL.out⟩
    · have hr := autV_no2 al xss bs (by omega)
      have hc3' : ((n2 : Int) != (n1 : Int)) = true := by simp; omega
      have HR := Lib.hid hr; clear hr
      have HA := Lib.hid ha; clear ha
      clear hn hn2 hcell
      go_enter Try.func15, Try.ntmps15
      go_wp2_with (go_at_call 39; (with_reducible refine (isAlphabet_any al _).mono ?_); rintro e w' ⟨rfl, rfl⟩; rw [HA.out])
      go_ret
      exact ⟨ret_bool HR.out.symm, HB0.out⟩

end Go.Proofs.Ytagegbhchljggaa
