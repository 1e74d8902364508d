/- The walk of the law that counts grow. -/
import Derived.Test.YtagegbhchljggaaADraw3
import Derived.Test.YtagegbhchljggaaCountI
import Derived.Test.YtagegbhchljggaaCountS
import Derived.Test.YtagegbhchljggaaSums


namespace Go.Proofs.Ytagegbhchljggaa
open Go.RowKit
set_option linter.unusedVariables false
set_option linter.unusedSimpArgs false
set_option maxRecDepth 100000

/-- What the two laws need of the counts. -/
theorem count_facts {al : Int} {xss : List (List Int)} {bs : List Bool} (hv : autV al xss bs = true) (N : Nat) (hN : N ≤ 7) :
    0 ≤ countA al xss bs (N : Int) ∧ (N = 0 → countA al xss bs (N : Int) ≤ 1) ∧ (1 ≤ N → 0 ≤ countA al xss bs ((N : Int) - 1) ∧ countA al xss bs ((N : Int) - 1) ≤ countA al xss bs (N : Int)) ∧
    countA al xss bs (N : Int) + countA al xss (bs.map not) (N : Int) = (psum (lets al).length (N + 1) : Int) ∧ countA al xss bs (N : Int) ≤ 100000000 ∧ 0 ≤ countA al xss (bs.map not) (N : Int) := by
  obtain ⟨ha, hx1, hx2, hx3, hx4, hx5⟩ := autV_facts hv
  have hK := lets_len al
  have hp := psum_le (lets al).length hK (N + 1) (by omega)
  have hv2 : autV al xss (bs.map not) = true := by
    rw [autV_go al xss (bs.map not) ha ⟨hx1, hx2, by simpa using hx3⟩, ← autV_go al xss bs ha ⟨hx1, hx2, hx3⟩]; exact hv
  obtain ⟨s1, s2, s3, s4⟩ := ttlA_sum xss bs _ hK hx1 hx3 hx4 hx5 (N + 1) (by omega)
  rw [countA_yes al xss bs N hv hN, countA_yes al xss (bs.map not) N hv2 hN]
  refine ⟨s1, fun h0 => ?_, fun h1 => ?_, s3, by omega, s4⟩
  · subst h0
    have : psum (lets al).length (0 + 1) = 1 := rfl
    rw [this] at s2
    exact s2
  · obtain ⟨N', rfl⟩ : ∃ N', N = N' + 1 := ⟨N - 1, by omega⟩
    have e : ((N' + 1 : Nat) : Int) - 1 = (N' : Int) := by omega
    rw [e, countA_yes al xss bs N' hv (by omega)]
    exact ⟨(ttlA_sum xss bs _ hK hx1 hx3 hx4 hx5 (N' + 1) (by omega)).1, ttlA_grows xss bs _ hK hx1 hx3 hx4 hx5 (N' + 1) (by omega)⟩
set_option maxHeartbeats 4000000 in
theorem fnCountGrows_walk (a0 : Option Addr) (len0 cap0 : Nat) (z0 : List Int) (w : World) (hrow : IsRow w a0 len0 cap0 z0) : Calls Try.prog 10 #[.slice a0 len0 cap0] w fun e w' => e = .returned (.bool true) ∧ Below w.heap.size w w' := by
  by_cases hl : 1048576 < len0
  · have hl' : (1048576 : Int) < (len0 : Int) := by omega
    go_enter Try.func10, Try.ntmps10
    go_wp2
    go_ret
    exact ⟨rfl, Below.refl _ _⟩
  have hl' : (len0 : Int) ≤ 1048576 := by omega
  clear hl
  go_enter Try.func10, Try.ntmps10
  go_wp2_with fail
  refine (drawCount_any _ _ _ _ _ hrow).mono ?_
  rintro e w1 ⟨al, a1, n1, c1, a2, n2, c2, xss, bs, n, rfl, hmv, hbv, hn1, hn2, hb1⟩
  obtain ⟨x0, hx0⟩ : ∃ x0, w1.heap.size = x0 := ⟨_, rfl⟩
  have hx2 := own_cells w1 #[.int .i64 al, .slice a1 n1 c1, .slice a2 n2 c2] 28 3 rfl
  have hb2 := below_newA w1 28 #[.int .i64 al, .slice a1 n1 c1, .slice a2 n2 c2]
  obtain ⟨w2, hw2⟩ : ∃ w2, (w1.alloc (.cells #[.int .i64 al, .slice a1 n1 c1, .slice a2 n2 c2] 28)) = w2 := ⟨_, rfl⟩
  rw [hx0] at hx2
  rw [hw2] at hx2 hb2
  have B2 := Lib.hid (hb1.trans (hb2.mono hb1.size))
  have X2 := Lib.hid hx2
  have M2 := Lib.hid (MV.below hmv hb2)
  have V2 := Lib.hid (BV.below hbv hb2)
  clear hrow hmv hbv hb1 hb2 hx2
  have c20 : w2.cell? ⟨x0, 0, none⟩ = some (.int .i64 al) := X2.out.cell (by decide)
  have c21 : w2.cell? ⟨x0, 1, none⟩ = some (.slice a1 n1 c1) := X2.out.cell (by decide)
  have c22 : w2.cell? ⟨x0, 2, none⟩ = some (.slice a2 n2 c2) := X2.out.cell (by decide)
  by_cases hv : autV al xss bs = true ∧ 0 ≤ n ∧ n ≤ 7
  · obtain ⟨hv, h0, h7⟩ := hv
    obtain ⟨N, rfl⟩ := Int.eq_ofNat_of_zero_le h0
    obtain ⟨k1, k2, k3, -, k4, -⟩ := count_facts hv N (by omega)
    obtain ⟨l, hl⟩ : ∃ l, countA al xss bs ((N : Int) - 1) = l := ⟨_, rfl⟩
    obtain ⟨q, hq⟩ : ∃ q, countA al xss bs (N : Int) = q := ⟨_, rfl⟩
    rw [hl] at k3
    rw [hq] at k1 k2 k3 k4
    have HQ := Lib.hid hq; clear hq
    have HL := Lib.hid hl; clear hl
    clear hv
    have hqn : ¬ q < 0 := by omega
    have hN7 : N ≤ 7 := by omega
    clear h0 h7 hn1 hn2
    by_cases hN : N = 0
    · have k2' := k2 hN
      have hq2 : q < 2 := by omega
      have HQ0 := Lib.hid (show countA al xss bs 0 = q by have := HQ.out; rw [hN] at this; exact this)
      have HN0 := Lib.hid hN; clear hN
      clear k2 k3 HL k4
      go_wp2_with fail
      refine (implCount_any al a1 n1 c1 a2 n2 c2 xss bs ((N : Int)) w2 M2.out V2.out).mono ?_
      rintro e w3 ⟨rfl, hb⟩
      rw [HQ.out]
      have B3 := Lib.hid (B2.out.trans (hb.mono B2.out.size))
      have X3 := Lib.hid (rowIs_below X2.out hb)
      have M3 := Lib.hid (MV.below M2.out hb)
      have V3 := Lib.hid (BV.below V2.out hb)
      clear hb c20 c21 c22
      have c30 : w3.cell? ⟨x0, 0, none⟩ = some (.int .i64 al) := X3.out.cell (by decide)
      have c31 : w3.cell? ⟨x0, 1, none⟩ = some (.slice a1 n1 c1) := X3.out.cell (by decide)
      have c32 : w3.cell? ⟨x0, 2, none⟩ = some (.slice a2 n2 c2) := X3.out.cell (by decide)
      go_wp2_with fail
      refine (specCount_any al a1 n1 c1 a2 n2 c2 xss bs ((N : Int)) w3 M3.out V3.out).mono ?_
      rintro e w4 ⟨rfl, hb⟩
      rw [HQ.out]
      have B4 := Lib.hid (B3.out.trans (hb.mono B3.out.size))
      have X4 := Lib.hid (rowIs_below X3.out hb)
      have M4 := Lib.hid (MV.below M3.out hb)
      have V4 := Lib.hid (BV.below V3.out hb)
      clear hb c30 c31 c32
      have c40 : w4.cell? ⟨x0, 0, none⟩ = some (.int .i64 al) := X4.out.cell (by decide)
      have c41 : w4.cell? ⟨x0, 1, none⟩ = some (.slice a1 n1 c1) := X4.out.cell (by decide)
      have c42 : w4.cell? ⟨x0, 2, none⟩ = some (.slice a2 n2 c2) := X4.out.cell (by decide)
      have hN' : (N : Int) = 0 := by have := HN0.out; omega
      go_wp2_with fail
      refine (specCount_any al a1 n1 c1 a2 n2 c2 xss bs (0) w4 M4.out V4.out).mono ?_
      rintro e w5 ⟨rfl, hb⟩
      rw [HQ0.out]
      have B5 := Lib.hid (B4.out.trans (hb.mono B4.out.size))
      have X5 := Lib.hid (rowIs_below X4.out hb)
      have M5 := Lib.hid (MV.below M4.out hb)
      have V5 := Lib.hid (BV.below V4.out hb)
      clear hb c40 c41 c42
      have c50 : w5.cell? ⟨x0, 0, none⟩ = some (.int .i64 al) := X5.out.cell (by decide)
      have c51 : w5.cell? ⟨x0, 1, none⟩ = some (.slice a1 n1 c1) := X5.out.cell (by decide)
      have c52 : w5.cell? ⟨x0, 2, none⟩ = some (.slice a2 n2 c2) := X5.out.cell (by decide)
      go_wp2
      go_ret
      exact ⟨rfl, B5.out⟩
    · obtain ⟨k5, k6⟩ := k3 (by omega)
      have hN' : ¬ (N : Int) = 0 := by omega
      have hNb : ((N : Int) == 0) = false := by rw [beq_eq_false_iff_ne]; exact hN'
      clear k2 k3 k4
      go_wp2_with fail
      refine (implCount_any al a1 n1 c1 a2 n2 c2 xss bs ((N : Int)) w2 M2.out V2.out).mono ?_
      rintro e w3 ⟨rfl, hb⟩
      rw [HQ.out]
      have B3 := Lib.hid (B2.out.trans (hb.mono B2.out.size))
      have X3 := Lib.hid (rowIs_below X2.out hb)
      have M3 := Lib.hid (MV.below M2.out hb)
      have V3 := Lib.hid (BV.below V2.out hb)
      clear hb c20 c21 c22
      have c30 : w3.cell? ⟨x0, 0, none⟩ = some (.int .i64 al) := X3.out.cell (by decide)
      have c31 : w3.cell? ⟨x0, 1, none⟩ = some (.slice a1 n1 c1) := X3.out.cell (by decide)
      have c32 : w3.cell? ⟨x0, 2, none⟩ = some (.slice a2 n2 c2) := X3.out.cell (by decide)
      go_wp2_with fail
      refine (specCount_any al a1 n1 c1 a2 n2 c2 xss bs ((N : Int)) w3 M3.out V3.out).mono ?_
      rintro e w4 ⟨rfl, hb⟩
      rw [HQ.out]
      have B4 := Lib.hid (B3.out.trans (hb.mono B3.out.size))
      have X4 := Lib.hid (rowIs_below X3.out hb)
      have M4 := Lib.hid (MV.below M3.out hb)
      have V4 := Lib.hid (BV.below V3.out hb)
      clear hb c30 c31 c32
      have c40 : w4.cell? ⟨x0, 0, none⟩ = some (.int .i64 al) := X4.out.cell (by decide)
      have c41 : w4.cell? ⟨x0, 1, none⟩ = some (.slice a1 n1 c1) := X4.out.cell (by decide)
      have c42 : w4.cell? ⟨x0, 2, none⟩ = some (.slice a2 n2 c2) := X4.out.cell (by decide)
      go_wp2_with fail
      refine (implCount_any al a1 n1 c1 a2 n2 c2 xss bs ((N : Int) - 1) w4 M4.out V4.out).mono ?_
      rintro e w5 ⟨rfl, hb⟩
      rw [HL.out]
      have B5 := Lib.hid (B4.out.trans (hb.mono B4.out.size))
      have X5 := Lib.hid (rowIs_below X4.out hb)
      have M5 := Lib.hid (MV.below M4.out hb)
      have V5 := Lib.hid (BV.below V4.out hb)
      clear hb c40 c41 c42
      have c50 : w5.cell? ⟨x0, 0, none⟩ = some (.int .i64 al) := X5.out.cell (by decide)
      have c51 : w5.cell? ⟨x0, 1, none⟩ = some (.slice a1 n1 c1) := X5.out.cell (by decide)
      have c52 : w5.cell? ⟨x0, 2, none⟩ = some (.slice a2 n2 c2) := X5.out.cell (by decide)
      go_wp2
      go_ret
      exact ⟨rfl, B5.out⟩
  · have hq := countA_no al xss bs n hv
    have HQ := Lib.hid hq; clear hq
    clear hv
    go_wp2_with fail
    refine (implCount_any al a1 n1 c1 a2 n2 c2 xss bs (n) w2 M2.out V2.out).mono ?_
    rintro e w3 ⟨rfl, hb⟩
    rw [HQ.out]
    have B3 := Lib.hid (B2.out.trans (hb.mono B2.out.size))
    have X3 := Lib.hid (rowIs_below X2.out hb)
    have M3 := Lib.hid (MV.below M2.out hb)
    have V3 := Lib.hid (BV.below V2.out hb)
    clear hb c20 c21 c22
    have c30 : w3.cell? ⟨x0, 0, none⟩ = some (.int .i64 al) := X3.out.cell (by decide)
    have c31 : w3.cell? ⟨x0, 1, none⟩ = some (.slice a1 n1 c1) := X3.out.cell (by decide)
    have c32 : w3.cell? ⟨x0, 2, none⟩ = some (.slice a2 n2 c2) := X3.out.cell (by decide)
    go_wp2_with fail
    refine (specCount_any al a1 n1 c1 a2 n2 c2 xss bs (n) w3 M3.out V3.out).mono ?_
    rintro e w4 ⟨rfl, hb⟩
    rw [HQ.out]
    have B4 := Lib.hid (B3.out.trans (hb.mono B3.out.size))
    have X4 := Lib.hid (rowIs_below X3.out hb)
    have M4 := Lib.hid (MV.below M3.out hb)
    have V4 := Lib.hid (BV.below V3.out hb)
    clear hb c30 c31 c32
    have c40 : w4.cell? ⟨x0, 0, none⟩ = some (.int .i64 al) := X4.out.cell (by decide)
    have c41 : w4.cell? ⟨x0, 1, none⟩ = some (.slice a1 n1 c1) := X4.out.cell (by decide)
    have c42 : w4.cell? ⟨x0, 2, none⟩ = some (.slice a2 n2 c2) := X4.out.cell (by decide)
    go_wp2_with fail
    refine (specCount_any al a1 n1 c1 a2 n2 c2 xss bs (n) w4 M4.out V4.out).mono ?_
    rintro e w5 ⟨rfl, hb⟩
    rw [HQ.out]
    have B5 := Lib.hid (B4.out.trans (hb.mono B4.out.size))
    have X5 := Lib.hid (rowIs_below X4.out hb)
    have M5 := Lib.hid (MV.below M4.out hb)
    have V5 := Lib.hid (BV.below V4.out hb)
    clear hb c40 c41 c42
    have c50 : w5.cell? ⟨x0, 0, none⟩ = some (.int .i64 al) := X5.out.cell (by decide)
    have c51 : w5.cell? ⟨x0, 1, none⟩ = some (.slice a1 n1 c1) := X5.out.cell (by decide)
    have c52 : w5.cell? ⟨x0, 2, none⟩ = some (.slice a2 n2 c2) := X5.out.cell (by decide)
    go_wp2
    go_ret
    exact ⟨rfl, B5.out⟩
end Go.Proofs.Ytagegbhchljggaa
