/- The walks of the laws TracesGrow and SystemStill. -/
import Derived.Test.YtknhgfmjchfnjaaDoorL2
import Derived.Test.YtknhgfmjchfnjaaDoorSDraw4
import Derived.Test.YtknhgfmjchfnjaaDoorSysCntI


namespace Go.Proofs.YtknhgfmjchfnjaaDoor
open Go.RowKit
set_option linter.unusedVariables false
set_option linter.unusedSimpArgs false
set_option maxRecDepth 100000
theorem trP_no {al st : Int} {es : List Edg} {k : Int} (h : ¬ (sysV al st es = true ∧ 0 ≤ k ∧ k ≤ 7)) : trP al st es k = -1 := by unfold trP; rw [if_neg h]
theorem trP_yes {al st : Int} {es : List Edg} {k : Nat} (h : sysV al st es = true) (h2 : k ≤ 7) : trP al st es k = (cntS es (lets al) k 1 : Nat) := by unfold trP; rw [if_pos ⟨h, by omega, by omega⟩, Int.toNat_natCast]
set_option maxHeartbeats 4000000 in
theorem fnTracesGrow_walk (a : Option Addr) (len cap : Nat) (zs : List Int) (w : World) (hT : Tab w) (hrow : IsRow w a len cap zs) : Calls Tryd.prog 4 #[.slice a len cap] w fun e w' => e = .returned (.bool true) ∧ Below w.heap.size w w' := by
  by_cases hl : 1048576 < len
  · have hl' : (1048576 : Int) < (len : Int) := by omega
    go_enter Tryd.func4, Tryd.ntmps4
    go_wp2
    go_ret
    exact ⟨rfl, Below.refl _ _⟩
  have hl' : (len : Int) ≤ 1048576 := by omega
  clear hl
  go_enter Tryd.func4, Tryd.ntmps4
  go_wp2_with fail
  refine (drawTraces_any a len cap zs w hrow).mono ?_
  rintro e w1 ⟨al, st, ad, n, c, es, k, rfl, hkb, hev, hes, hb1⟩
  have hev1 := (hev 0 (Nat.zero_le _)).ev
  obtain ⟨hkb1, hkb2⟩ := hkb
  clear hev hrow
  obtain ⟨x0, hx0⟩ : ∃ x0, w1.heap.size = x0 := ⟨_, rfl⟩
  obtain ⟨w2, hw2⟩ : ∃ w2, (w1.alloc (.cells #[.int .i64 al, .int .i64 st, .slice ad n c] 25)) = w2 := ⟨_, rfl⟩
  have hb2 := below_new' w1 25 #[.int .i64 al, .int .i64 st, .slice ad n c]
  have hx2 := sys_cells w1 al st (.slice ad n c) 25
  rw [hx0] at hx2
  rw [hw2] at hb2 hx2
  have B2 := Lib.hid (hb1.trans (hb2.mono hb1.size))
  have X2 := Lib.hid hx2
  have E2 := Lib.hid (hev1.below hb2)
  have T2 := Lib.hid ((hT.below hb1).below hb2)
  clear hb1 hb2 hx2 hev1 hT
  have c20 : w2.cell? ⟨x0, 0, none⟩ = some (.int .i64 al) := X2.out.cell (by decide)
  have c21 : w2.cell? ⟨x0, 1, none⟩ = some (.int .i64 st) := X2.out.cell (by decide)
  have c22 : w2.cell? ⟨x0, 2, none⟩ = some (.slice ad n c) := X2.out.cell (by decide)
  go_wp2_with fail
  refine (implCount_any al st ad n c es k w2 T2.out E2.out).mono ?_
  rintro e w3 ⟨rfl, hb3⟩
  have B3 := Lib.hid (B2.out.trans (hb3.mono B2.out.size))
  have X3 := Lib.hid (rowIs_below' X2.out hb3)
  have E3 := Lib.hid (E2.out.below hb3)
  have T3 := Lib.hid (T2.out.below hb3)
  clear c20 c21 c22 hb3
  have c30 : w3.cell? ⟨x0, 0, none⟩ = some (.int .i64 al) := X3.out.cell (by decide)
  have c31 : w3.cell? ⟨x0, 1, none⟩ = some (.int .i64 st) := X3.out.cell (by decide)
  have c32 : w3.cell? ⟨x0, 2, none⟩ = some (.slice ad n c) := X3.out.cell (by decide)
  go_wp2_with fail
  refine (specCount_any al st ad n c es k w3 E3.out).mono ?_
  rintro e w4 ⟨rfl, hb4⟩
  have B4 := Lib.hid (B3.out.trans (hb4.mono B3.out.size))
  have X4 := Lib.hid (rowIs_below' X3.out hb4)
  have E4 := Lib.hid (E3.out.below hb4)
  have T4 := Lib.hid (T3.out.below hb4)
  clear c30 c31 c32 hb4
  have c40 : w4.cell? ⟨x0, 0, none⟩ = some (.int .i64 al) := X4.out.cell (by decide)
  have c41 : w4.cell? ⟨x0, 1, none⟩ = some (.int .i64 st) := X4.out.cell (by decide)
  have c42 : w4.cell? ⟨x0, 2, none⟩ = some (.slice ad n c) := X4.out.cell (by decide)
  by_cases hv : sysV al st es = true ∧ 0 ≤ k ∧ k ≤ 7
  · obtain ⟨hv1, hk0, hk7⟩ := hv
    obtain ⟨K, rfl⟩ := Int.eq_ofNat_of_zero_le hk0
    have hg := trP_yes (k := K) hv1 (by omega)
    have hle := Nat.le_trans (cntS_le es (lets al) (lets_len al) K 1) (seven_pow K (by omega))
    obtain ⟨G, hG⟩ : ∃ G, cntS es (lets al) K 1 = G := ⟨_, rfl⟩
    rw [hG] at hg hle
    have hG0 : decide ((G : Int) < 0) = false := by simp
    by_cases hK : K = 0
    · subst hK
      have hG1 : G = 1 := by rw [← hG]; rfl
      subst hG1
      have HG := Lib.hid hg
      have hsp := fun wq h => specCount_any al st ad n c es ((0 : Nat) : Int) wq h
      rw [hg] at hsp ⊢
      have HSP := Lib.hid hsp
      clear hg hsp hG
      go_wp2_with fail
      refine (HSP.out w4 E4.out).mono ?_
      rintro e w5 ⟨rfl, hb5⟩
      have B5 := Lib.hid (B4.out.trans (hb5.mono B4.out.size))
      have X5 := Lib.hid (rowIs_below' X4.out hb5)
      have E5 := Lib.hid (E4.out.below hb5)
      have T5 := Lib.hid (T4.out.below hb5)
      clear c40 c41 c42 hb5
      have c50 : w5.cell? ⟨x0, 0, none⟩ = some (.int .i64 al) := X5.out.cell (by decide)
      have c51 : w5.cell? ⟨x0, 1, none⟩ = some (.int .i64 st) := X5.out.cell (by decide)
      have c52 : w5.cell? ⟨x0, 2, none⟩ = some (.slice ad n c) := X5.out.cell (by decide)
      go_wp2
      go_ret
      exact ⟨rfl, B5.out⟩
    · obtain ⟨m, rfl⟩ : ∃ m, K = m + 1 := ⟨K - 1, by omega⟩
      have hKb : (((m + 1 : Nat) : Int) == 0) = false := by rw [beq_eq_false_iff_ne]; omega
      have hwm : IntKind.i64.wrap (((m + 1 : Nat) : Int) - 1) = (m : Int) := by rw [IntKind.wrap_i64]; omega
      have hwm2 : IntKind.i64.wrap ((m : Int)) = (m : Int) := by rw [IntKind.wrap_i64]; omega
      have hg1 := trP_yes (k := m) hv1 (by omega)
      have hg0 := trP_yes (k := 0) hv1 (by omega)
      have hmono := cntS_mono es (lets al) m 1
      rw [hG] at hmono
      obtain ⟨G1, hG1⟩ : ∃ G1, cntS es (lets al) m 1 = G1 := ⟨_, rfl⟩
      rw [hG1] at hg1 hmono
      have hle1 : decide ((G1 : Int) ≤ (G : Int)) = true := by simp; omega
      have hi1 := fun wq h1 h2 => implCount_any al st ad n c es (m : Int) wq h1 h2
      have hi0 := fun wq h1 h2 => implCount_any al st ad n c es ((0 : Nat) : Int) wq h1 h2
      rw [hg1] at hi1
      rw [hg0] at hi0
      have h01 : ((cntS es (lets al) 0 1 : Nat) : Int) = 1 := rfl
      rw [h01] at hi0
      rw [hg]
      have HI1 := Lib.hid hi1
      have HI0 := Lib.hid hi0
      clear hg hg1 hg0 hi1 hi0 h01 hG hG1
      go_wp2_with fail
      refine (HI1.out w4 T4.out E4.out).mono ?_
      rintro e w5 ⟨rfl, hb5⟩
      have B5 := Lib.hid (B4.out.trans (hb5.mono B4.out.size))
      have X5 := Lib.hid (rowIs_below' X4.out hb5)
      have E5 := Lib.hid (E4.out.below hb5)
      have T5 := Lib.hid (T4.out.below hb5)
      clear c40 c41 c42 hb5
      have c50 : w5.cell? ⟨x0, 0, none⟩ = some (.int .i64 al) := X5.out.cell (by decide)
      have c51 : w5.cell? ⟨x0, 1, none⟩ = some (.int .i64 st) := X5.out.cell (by decide)
      have c52 : w5.cell? ⟨x0, 2, none⟩ = some (.slice ad n c) := X5.out.cell (by decide)
      go_wp2_with fail
      refine (HI0.out w5 T5.out E5.out).mono ?_
      rintro e w6 ⟨rfl, hb6⟩
      have B6 := Lib.hid (B5.out.trans (hb6.mono B5.out.size))
      have X6 := Lib.hid (rowIs_below' X5.out hb6)
      have E6 := Lib.hid (E5.out.below hb6)
      have T6 := Lib.hid (T5.out.below hb6)
      clear c50 c51 c52 hb6
      have c60 : w6.cell? ⟨x0, 0, none⟩ = some (.int .i64 al) := X6.out.cell (by decide)
      have c61 : w6.cell? ⟨x0, 1, none⟩ = some (.int .i64 st) := X6.out.cell (by decide)
      have c62 : w6.cell? ⟨x0, 2, none⟩ = some (.slice ad n c) := X6.out.cell (by decide)
      go_wp2
      go_ret
      exact ⟨ret_bool (by simp), B6.out⟩
  · have hg := trP_no hv
    have hsp := fun wq h => specCount_any al st ad n c es k wq h
    rw [hg] at hsp ⊢
    have HSP := Lib.hid hsp
    clear hg hsp hv
    go_wp2_with fail
    refine (HSP.out w4 E4.out).mono ?_
    rintro e w5 ⟨rfl, hb5⟩
    have B5 := Lib.hid (B4.out.trans (hb5.mono B4.out.size))
    have X5 := Lib.hid (rowIs_below' X4.out hb5)
    have E5 := Lib.hid (E4.out.below hb5)
    have T5 := Lib.hid (T4.out.below hb5)
    clear c40 c41 c42 hb5
    have c50 : w5.cell? ⟨x0, 0, none⟩ = some (.int .i64 al) := X5.out.cell (by decide)
    have c51 : w5.cell? ⟨x0, 1, none⟩ = some (.int .i64 st) := X5.out.cell (by decide)
    have c52 : w5.cell? ⟨x0, 2, none⟩ = some (.slice ad n c) := X5.out.cell (by decide)
    go_wp2
    go_ret
    exact ⟨rfl, B5.out⟩
end Go.Proofs.YtknhgfmjchfnjaaDoor
