/- The walk of the law that counts are of all words. -/
import Derived.Test.YtagegbhchljggaaA8
import Derived.Test.YtagegbhchljggaaComp


namespace Go.Proofs.Ytagegbhchljggaa
open Go.RowKit
set_option linter.unusedVariables false
set_option linter.unusedSimpArgs false
set_option maxRecDepth 100000

set_option maxHeartbeats 4000000 in
theorem fnCountBoth_walk (a0 : Option Addr) (len0 cap0 : Nat) (z0 : List Int) (w : World) (hrow : IsRow w a0 len0 cap0 z0) : Calls Try.prog 11 #[.slice a0 len0 cap0] w fun e w' => e = .returned (.bool true) ∧ Below w.heap.size w w' := by
  by_cases hl : 1048576 < len0
  · have hl' : (1048576 : Int) < (len0 : Int) := by omega
    go_enter Try.func11, Try.ntmps11
    go_wp2
    go_ret
    exact ⟨rfl, Below.refl _ _⟩
  have hl' : (len0 : Int) ≤ 1048576 := by omega
  clear hl
  go_enter Try.func11, Try.ntmps11
  go_wp2_with fail
  refine (drawCount_any _ _ _ _ _ hrow).mono ?_
  rintro e w1 ⟨al, a1, n1, c1, a2, n2, c2, xss, bs, n, rfl, hmv, hbv, hn1, hn2, hb1⟩
  obtain ⟨x0, hx0⟩ : ∃ x0, w1.heap.size = x0 := ⟨_, rfl⟩
  have hx2 := own_cells w1 #[.int .i64 al, .slice a1 n1 c1, .slice a2 n2 c2] 28 3 rfl
  have hb2 := below_newA w1 28 #[.int .i64 al, .slice a1 n1 c1, .slice a2 n2 c2]
  obtain ⟨w2, hw2⟩ : ∃ w2, (w1.alloc (.cells #[.int .i64 al, .slice a1 n1 c1, .slice a2 n2 c2] 28)) = w2 := ⟨_, rfl⟩
  rw [hx0] at hx2
  rw [hw2] at hx2 hb2
  have B2 := Lib.hid (hb1.trans (hb2.mono hb1.size))
  have X2 := Lib.hid hx2
  have M2 := Lib.hid (MV.below hmv hb2)
  have V2 := Lib.hid (BV.below hbv hb2)
  clear hrow hmv hbv hb1 hb2 hx2
  have c20 : w2.cell? ⟨x0, 0, none⟩ = some (.int .i64 al) := X2.out.cell (by decide)
  have c21 : w2.cell? ⟨x0, 1, none⟩ = some (.slice a1 n1 c1) := X2.out.cell (by decide)
  have c22 : w2.cell? ⟨x0, 2, none⟩ = some (.slice a2 n2 c2) := X2.out.cell (by decide)
  by_cases hv : autV al xss bs = true ∧ 0 ≤ n ∧ n ≤ 7
  · obtain ⟨hv, h0, h7⟩ := hv
    obtain ⟨N, rfl⟩ := Int.eq_ofNat_of_zero_le h0
    obtain ⟨k1, -, -, k3, k4, k5⟩ := count_facts hv N (by omega)
    obtain ⟨ha, hx1, hx2, hx3, hx4, hx5⟩ := autV_facts hv
    obtain ⟨K, hK⟩ : ∃ K, (lets al).length = K := ⟨_, rfl⟩
    have hK6 : K ≤ 6 := by have := lets_len al; omega
    rw [hK] at k3 hx4
    obtain ⟨q, hq⟩ : ∃ q, countA al xss bs (N : Int) = q := ⟨_, rfl⟩
    obtain ⟨q2, hq2⟩ : ∃ q2, countA al xss (bs.map not) (N : Int) = q2 := ⟨_, rfl⟩
    rw [hq] at k1 k3 k4
    rw [hq2] at k3 k5
    obtain ⟨T, hT⟩ : ∃ T, psum K (N + 1) = T := ⟨_, rfl⟩
    have hT8 : T ≤ 100000000 := by rw [← hT]; exact psum_le K hK6 _ (by omega)
    rw [hT] at k3
    have HQ := Lib.hid hq; clear hq
    have HQ2 := Lib.hid hq2; clear hq2
    have HV := Lib.hid hv; clear hv
    have HK3 := Lib.hid k3; clear k3
    have HT := Lib.hid hT; clear hT
    have HX4 := Lib.hid hx4; clear hx4
    have HX3 := Lib.hid hx3; clear hx3
    have hqn : ¬ q < 0 := by omega
    have hN7 : N ≤ 7 := by omega
    clear h0 h7 hn1 hn2 ha hx5 hK hx2
    go_wp2_with fail
    refine (implCount_any al a1 n1 c1 a2 n2 c2 xss bs ((N : Int)) w2 M2.out V2.out).mono ?_
    rintro e w3 ⟨rfl, hb⟩
    rw [HQ.out]
    have B3 := Lib.hid (B2.out.trans (hb.mono B2.out.size))
    have X3 := Lib.hid (rowIs_below X2.out hb)
    have M3 := Lib.hid (MV.below M2.out hb)
    have V3 := Lib.hid (BV.below V2.out hb)
    clear hb c20 c21 c22
    have c30 : w3.cell? ⟨x0, 0, none⟩ = some (.int .i64 al) := X3.out.cell (by decide)
    have c31 : w3.cell? ⟨x0, 1, none⟩ = some (.slice a1 n1 c1) := X3.out.cell (by decide)
    have c32 : w3.cell? ⟨x0, 2, none⟩ = some (.slice a2 n2 c2) := X3.out.cell (by decide)
    go_wp2_with fail
    refine (specCount_any al a1 n1 c1 a2 n2 c2 xss bs ((N : Int)) w3 M3.out V3.out).mono ?_
    rintro e w4 ⟨rfl, hb⟩
    rw [HQ.out]
    have B4 := Lib.hid (B3.out.trans (hb.mono B3.out.size))
    have X4 := Lib.hid (rowIs_below X3.out hb)
    have M4 := Lib.hid (MV.below M3.out hb)
    have V4 := Lib.hid (BV.below V3.out hb)
    clear hb c30 c31 c32
    have c40 : w4.cell? ⟨x0, 0, none⟩ = some (.int .i64 al) := X4.out.cell (by decide)
    have c41 : w4.cell? ⟨x0, 1, none⟩ = some (.slice a1 n1 c1) := X4.out.cell (by decide)
    have c42 : w4.cell? ⟨x0, 2, none⟩ = some (.slice a2 n2 c2) := X4.out.cell (by decide)
    go_wp2_with fail
    refine (implComp_any al a1 n1 c1 a2 n2 c2 xss bs w4 M4.out V4.out).mono ?_
    intro e w5 hmade
    rw [HV.out] at hmade
    obtain ⟨b0, b1, Bf, v1, v2, rfl, hwa, -, -, -, hb⟩ := hmade
    obtain ⟨a3, n3, c3, rfl⟩ : ∃ a n c, v1 = .slice a n c := by obtain ⟨a, c, e, -⟩ := hwa.1.view; exact ⟨a, _, c, e⟩
    obtain ⟨a4, n4, c4, rfl⟩ : ∃ a n c, v2 = .slice a n c := by obtain ⟨a, c, e, -⟩ := hwa.2.1.view; exact ⟨a, _, c, e⟩
    have MC5 := Lib.hid hwa.1.view
    have VC5 := Lib.hid hwa.2.1.view
    clear hwa
    have B5 := Lib.hid (B4.out.trans (hb.mono B4.out.size))
    have X5 := Lib.hid (rowIs_below X4.out hb)
    have M5 := Lib.hid (MV.below M4.out hb)
    have V5 := Lib.hid (BV.below V4.out hb)
    clear hb c40 c41 c42
    have c50 : w5.cell? ⟨x0, 0, none⟩ = some (.int .i64 al) := X5.out.cell (by decide)
    have c51 : w5.cell? ⟨x0, 1, none⟩ = some (.slice a1 n1 c1) := X5.out.cell (by decide)
    have c52 : w5.cell? ⟨x0, 2, none⟩ = some (.slice a2 n2 c2) := X5.out.cell (by decide)
    obtain ⟨x6, hx6⟩ : ∃ x6, w5.heap.size = x6 := ⟨_, rfl⟩
    have hr6 := own_cells w5 #[.int .i64 al, .slice a3 n3 c3, .slice a4 n4 c4] 28 3 rfl
    have hb6 := below_newA w5 28 #[.int .i64 al, .slice a3 n3 c3, .slice a4 n4 c4]
    obtain ⟨w6, hw6⟩ : ∃ w6, (w5.alloc (.cells #[.int .i64 al, .slice a3 n3 c3, .slice a4 n4 c4] 28)) = w6 := ⟨_, rfl⟩
    rw [hx6] at hr6
    rw [hw6] at hr6 hb6
    have MC6 := Lib.hid (MV.below MC5.out hb6)
    have VC6 := Lib.hid (BV.below VC5.out hb6)
    have R6 := Lib.hid hr6
    clear hr6 MC5 VC5
    have B6 := Lib.hid (B5.out.trans (hb6.mono B5.out.size))
    have X6 := Lib.hid (rowIs_below X5.out hb6)
    have M6 := Lib.hid (MV.below M5.out hb6)
    have V6 := Lib.hid (BV.below V5.out hb6)
    clear hb6 c50 c51 c52
    have c60 : w6.cell? ⟨x0, 0, none⟩ = some (.int .i64 al) := X6.out.cell (by decide)
    have c61 : w6.cell? ⟨x0, 1, none⟩ = some (.slice a1 n1 c1) := X6.out.cell (by decide)
    have c62 : w6.cell? ⟨x0, 2, none⟩ = some (.slice a2 n2 c2) := X6.out.cell (by decide)
    have hn1 : n1 = xss.length := (SV.at M6.out).1
    obtain ⟨br, or, ao, m3, cc3, rfl, hbr, hcr, hm3, hmc3, hc3, -⟩ := M6.out.row 0 (by omega)
    have hn10 : 0 < n1 := by omega
    have hm3K : m3 = K := by rw [hm3, List.getElem?_eq_getElem (by omega : 0 < xss.length), Option.getD_some]; exact HX4.out _ (List.getElem_mem _)
    subst hm3K
    have hcr' : w6.cell? ⟨br, or, none⟩ = some (.slice ao m3 cc3) := hcr
    clear hn1 hm3 hcr hx1
    go_wp2
    go_loopw [8, 9, 10] (fun v8 v9 i wr => ∃ (k P Q : Nat), i = .int .i64 k ∧ v8 = .int .i64 P ∧ v9 = .int .i64 Q ∧ k ≤ N + 1 ∧ psum m3 k = P ∧ m3 ^ k = Q ∧ wr = w6) (fun _ _ i _ => N + 1 - (intOf i).toNat)
    case atStart => exact ⟨0, 0, 1, rfl, rfl, rfl, Nat.zero_le _, rfl, rfl, rfl⟩
    case round =>
      obtain ⟨k, P, Q, rfl, rfl, rfl, hk, hP, hQ, hwr⟩ := hrel
      replace hwr := hwr.symm
      subst hwr
      by_cases hlt : k ≤ N
      · have hlt' : (k : Int) ≤ (N : Int) := by omega
        have hP1 : psum m3 (k + 1) = P + Q := by show psum m3 k + m3 ^ k = _; rw [hP, hQ]
        have hP8 : P + Q ≤ 100000000 := by rw [← hP1]; exact psum_le m3 hK6 _ (by omega)
        obtain ⟨r, hr⟩ : ∃ r, Q * m3 = r := ⟨_, rfl⟩
        have hQ1 : m3 ^ (k + 1) = r := by rw [Nat.pow_succ, hQ, hr]
        have hr8 : r ≤ 600000000 := by
          rw [← hr]
          exact Nat.le_trans (Nat.mul_le_mul (by omega : Q ≤ 100000000) hK6) (by decide)
        have hri : (Q : Int) * (m3 : Int) = (r : Int) := by rw [← hr, Int.natCast_mul]
        have HP := Lib.hid hP; clear hP
        have HQQ := Lib.hid hQ; clear hQ
        have HP1 := Lib.hid hP1; clear hP1
        have HQ1 := Lib.hid hQ1; clear hQ1
        have HRR := Lib.hid hr; clear hr
        go_wp2
        go_roundw
        case rel => exact ⟨k + 1, P + Q, r, by go_num, by go_num, by go_num, by omega, HP1.out, HQ1.out, by first | rfl | trivial⟩
        case measure => simp [intOf] <;> omega
      · obtain rfl : k = N + 1 := by omega
        have hPT : P = T := by rw [← hP]; exact HT.out
        subst hPT
        have d0 : w6.cell? ⟨x6, 0, none⟩ = some (.int .i64 al) := R6.out.cell (by decide)
        have d1 : w6.cell? ⟨x6, 1, none⟩ = some (.slice a3 n3 c3) := R6.out.cell (by decide)
        have d2 : w6.cell? ⟨x6, 2, none⟩ = some (.slice a4 n4 c4) := R6.out.cell (by decide)
        clear hP hQ
        go_wp2_with fail
        refine (implCount_any al a3 n3 c3 a4 n4 c4 xss (bs.map not) (N : Int) w6 MC6.out VC6.out).mono ?_
        rintro e w7 ⟨rfl, hb7⟩
        rw [HQ2.out]
        have B7 := Lib.hid (B6.out.trans (hb7.mono B6.out.size))
        have hsum : q + q2 = (P : Int) := HK3.out
        clear hb7 d0 d1 d2
        go_wp2
        go_wp2
        go_ret
        exact ⟨rfl, B7.out⟩
  · have hq := countA_no al xss bs n hv
    have HQ := Lib.hid hq; clear hq
    clear hv
    go_wp2_with fail
    refine (implCount_any al a1 n1 c1 a2 n2 c2 xss bs (n) w2 M2.out V2.out).mono ?_
    rintro e w3 ⟨rfl, hb⟩
    rw [HQ.out]
    have B3 := Lib.hid (B2.out.trans (hb.mono B2.out.size))
    have X3 := Lib.hid (rowIs_below X2.out hb)
    have M3 := Lib.hid (MV.below M2.out hb)
    have V3 := Lib.hid (BV.below V2.out hb)
    clear hb c20 c21 c22
    have c30 : w3.cell? ⟨x0, 0, none⟩ = some (.int .i64 al) := X3.out.cell (by decide)
    have c31 : w3.cell? ⟨x0, 1, none⟩ = some (.slice a1 n1 c1) := X3.out.cell (by decide)
    have c32 : w3.cell? ⟨x0, 2, none⟩ = some (.slice a2 n2 c2) := X3.out.cell (by decide)
    go_wp2_with fail
    refine (specCount_any al a1 n1 c1 a2 n2 c2 xss bs (n) w3 M3.out V3.out).mono ?_
    rintro e w4 ⟨rfl, hb⟩
    rw [HQ.out]
    have B4 := Lib.hid (B3.out.trans (hb.mono B3.out.size))
    have X4 := Lib.hid (rowIs_below X3.out hb)
    have M4 := Lib.hid (MV.below M3.out hb)
    have V4 := Lib.hid (BV.below V3.out hb)
    clear hb c30 c31 c32
    have c40 : w4.cell? ⟨x0, 0, none⟩ = some (.int .i64 al) := X4.out.cell (by decide)
    have c41 : w4.cell? ⟨x0, 1, none⟩ = some (.slice a1 n1 c1) := X4.out.cell (by decide)
    have c42 : w4.cell? ⟨x0, 2, none⟩ = some (.slice a2 n2 c2) := X4.out.cell (by decide)
    go_wp2_with fail
    refine (specCount_any al a1 n1 c1 a2 n2 c2 xss bs (n) w4 M4.out V4.out).mono ?_
    rintro e w5 ⟨rfl, hb⟩
    rw [HQ.out]
    have B5 := Lib.hid (B4.out.trans (hb.mono B4.out.size))
    have X5 := Lib.hid (rowIs_below X4.out hb)
    have M5 := Lib.hid (MV.below M4.out hb)
    have V5 := Lib.hid (BV.below V4.out hb)
    clear hb c40 c41 c42
    have c50 : w5.cell? ⟨x0, 0, none⟩ = some (.int .i64 al) := X5.out.cell (by decide)
    have c51 : w5.cell? ⟨x0, 1, none⟩ = some (.slice a1 n1 c1) := X5.out.cell (by decide)
    have c52 : w5.cell? ⟨x0, 2, none⟩ = some (.slice a2 n2 c2) := X5.out.cell (by decide)
    go_wp2
    go_ret
    exact ⟨rfl, B5.out⟩
end Go.Proofs.Ytagegbhchljggaa
