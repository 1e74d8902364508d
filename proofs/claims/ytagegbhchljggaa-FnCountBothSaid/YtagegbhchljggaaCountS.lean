/- The reference's CountAccepted. -/
import Derived.Test.YtagegbhchljggaaCount
import Derived.StillTailTactics
namespace Go.Proofs.Ytagegbhchljggaa
open Go.RowKit
set_option linter.unusedVariables false
set_option linter.unusedSimpArgs false
set_option maxRecDepth 100000
set_option maxHeartbeats 4000000 in
theorem specCount_any (al : Int) (a1 : Option Addr) (n1 c1 : Nat) (a2 : Option Addr) (n2 c2 : Nat) (xss : List (List Int)) (bs : List Bool) (n : Int) (w : World) (h : MV w (.slice a1 n1 c1) xss) (hb : BV w (.slice a2 n2 c2) bs) :
    Calls Try.prog 17 #[.agg #[.int .i64 al, .slice a1 n1 c1, .slice a2 n2 c2], .int .i64 n] w (RB (.int .i64 (countA al xss bs n)) w) := by
  have B0 := Lib.hid (below_new w 28 #[.int .i64 al, .slice a1 n1 c1, .slice a2 n2 c2])
  have R0 := Lib.hid (agg3_cell w al (.slice a1 n1 c1) (.slice a2 n2 c2) 28)
  obtain ⟨hn, hcap, hmax, -⟩ := SV.at h
  have hn2 := (SV.at hb).1
  have HN2 := Lib.hid hn2; clear hn2
  have HN := Lib.hid hn; clear hn
  have H := Lib.hid h; clear h
  have HB := Lib.hid hb; clear hb
  cases hv : autV al xss bs with
  | false =>
    · have hr := countA_no al xss bs n (by simp [hv])
      have HR := Lib.hid hr; clear hr
      have HV := Lib.hid hv; clear hv
      go_enter Try.func17, Try.ntmps17
      go_wp2_with fail
      refine (specAutValid_any al a1 n1 c1 a2 n2 c2 xss bs _ (MV.below H.out B0.out) (BV.below HB.out B0.out)).mono ?_
      rintro e w1 ⟨rfl, hb1⟩
      rw [HV.out]
      have B1 := Lib.hid (B0.out.trans (hb1.mono B0.out.size))
      clear hb1
      go_wp2
      go_ret
      exact ⟨ret_int HR.out.symm, B1.out⟩
  | true =>
    by_cases hn0 : n < 0
    · have hr := countA_no al xss bs n (by omega)
      have HR := Lib.hid hr; clear hr
      have HV := Lib.hid hv; clear hv
      go_enter Try.func17, Try.ntmps17
      go_wp2_with fail
      refine (specAutValid_any al a1 n1 c1 a2 n2 c2 xss bs _ (MV.below H.out B0.out) (BV.below HB.out B0.out)).mono ?_
      rintro e w1 ⟨rfl, hb1⟩
      rw [HV.out]
      have B1 := Lib.hid (B0.out.trans (hb1.mono B0.out.size))
      clear hb1
      go_wp2
      go_ret
      exact ⟨ret_int HR.out.symm, B1.out⟩
    by_cases hn7 : 7 < n
    · have hr := countA_no al xss bs n (by omega)
      have HR := Lib.hid hr; clear hr
      have HV := Lib.hid hv; clear hv
      go_enter Try.func17, Try.ntmps17
      go_wp2_with fail
      refine (specAutValid_any al a1 n1 c1 a2 n2 c2 xss bs _ (MV.below H.out B0.out) (BV.below HB.out B0.out)).mono ?_
      rintro e w1 ⟨rfl, hb1⟩
      rw [HV.out]
      have B1 := Lib.hid (B0.out.trans (hb1.mono B0.out.size))
      clear hb1
      go_wp2
      go_ret
      exact ⟨ret_int HR.out.symm, B1.out⟩
    obtain ⟨N, rfl⟩ := Int.eq_ofNat_of_zero_le (by omega : 0 ≤ n)
    have hr := countA_yes al xss bs N hv (by omega)
    obtain ⟨ha, hx1, hx2, hx3, hx4, hx5⟩ := autV_facts hv
    have hn12 : n1 ≤ 12 := by rw [HN.out]; exact hx2
    have hn1 : 0 < n1 := by rw [HN.out]; exact hx1
    have hn21 : n2 = n1 := by rw [HN2.out, HN.out]; exact hx3
    subst hn21
    have HROWS := Lib.hid hx4; clear hx4
    have HENT := Lib.hid hx5; clear hx5
    have HA := Lib.hid ha; clear ha
    have HR := Lib.hid hr; clear hr
    have HV := Lib.hid hv; clear hv
    have hN7 : N ≤ 7 := by omega
    have hmk := run_make_row' (P := Try.prog) 44 3 (.int .i64 0) 8 Try.underlying44 Try.infoInt rfl .i64 .i64 n2 (by omega) (by omega)
    clear hx1 hx2 hx3 hn0 hn7 hmax
    go_enter Try.func17, Try.ntmps17
    go_wp2_with fail
    refine (specAutValid_any al a1 n2 c1 a2 n2 c2 xss bs _ (MV.below H.out B0.out) (BV.below HB.out B0.out)).mono ?_
    rintro e w1 ⟨rfl, hb1⟩
    rw [HV.out]
    have B1 := Lib.hid (B0.out.trans (hb1.mono B0.out.size))
    have R1 := Lib.hid (rowIs_below R0.out hb1)
    have e1 : w1.cell? ⟨w.heap.size, 1, none⟩ = some (.slice a1 n2 c1) := R1.out.cell (by decide)
    have hlt1 := World.rowIs.lt R1.out
    clear hb1
    have hmade := World.rowIs_made w1 (.int .i64 0) n2 3
    have hc0 := hmade.cell (i := 0) hn1
    have hf0 := hmade.frozen 0
    have HMADE := Lib.hid (made_set0 w1 3 n2 hn1)
    have hd1 : decide ((N : Int) < 0) = false := by simp
    have hd2 : decide ((7 : Int) < (N : Int)) = false := by simp; omega
    clear hmade
    go_wp2_with fail
    go_loopw [1, 5, 6] (fun nv cv tv wr => ∃ m b : Nat, m ≤ N + 1 ∧ nv = .int .i64 ((N : Int) - m) ∧ tv = .int .i64 (ttlA xss bs m) ∧ cv = .slice (some ⟨b, 0, none⟩) n2 n2 ∧ wr.rowIs b 3 n2 (fun j => .int .i64 (cntA xss m j)) ∧ w.heap.size < b ∧ Below w.heap.size w wr ∧ wr.rowIs w.heap.size 28 3 (fun i => #[.int .i64 al, .slice a1 n2 c1, .slice a2 n2 c2][i]?.getD undef)) (fun n _ _ _ => ((intOf n) + 1).toNat)
    case atStart => exact ⟨0, w1.heap.size, by omega, by simp, rfl, rfl, HMADE.out.congr (fun j _ => rfl), hlt1, B1.out.alloc (Nat.le_of_lt hlt1) _, R1.out.alloc _⟩
    case round =>
      clear HMADE hf0 hc0 e1 R1 B1 hlt1
      obtain ⟨m, b, hm, rfl, rfl, rfl, hcnt, hb, hbel, hrow⟩ := hrel
      by_cases hmN : m = N + 1
      · have hneg : (N : Int) - m < 0 := by omega
        have HMN := Lib.hid hmN; clear hmN
        go_wp2
        go_ret
        exact ⟨ret_int (by rw [HR.out, HMN.out]), hbel⟩
      have hge : 0 ≤ (N : Int) - m := by omega
      have hmN2 : m ≤ N := by omega
      clear hmN hm
      obtain ⟨t, ht⟩ : ∃ t, ttlA xss bs m = t := ⟨_, rfl⟩
      obtain ⟨f, hf⟩ : ∃ f, cntA xss m = f := ⟨_, rfl⟩
      rw [hf] at hcnt
      rw [ht]
      have HT := Lib.hid ht; clear ht
      have HF := Lib.hid hf; clear hf
      have e1 : wr.cell? ⟨w.heap.size, 1, none⟩ = some (.slice a1 n2 c1) := hrow.cell (by decide)
      have hblt := World.rowIs.lt hcnt
      have hbl := Nat.lt_trans hb hblt
      have HCNT := Lib.hid hcnt
      have HBEL := Lib.hid hbel
      have HROW := Lib.hid hrow
      clear hcnt hbel hrow
      go_wp2_with fail
      obtain ⟨nb, hnb⟩ : ∃ nb, wr.heap.size = nb := ⟨_, rfl⟩
      obtain ⟨wa, hwa⟩ : ∃ wa, wr.alloc (.cells (madeCells #[.int .i64 0] n2) 3) = wa := ⟨_, rfl⟩
      have hnew := World.rowIs_made wr (.int .i64 0) n2 3
      have hcnt := HCNT.out.alloc (.cells (madeCells #[.int .i64 0] n2) 3)
      have hrow := HROW.out.alloc (.cells (madeCells #[.int .i64 0] n2) 3)
      have hbela := HBEL.out.alloc (Nat.le_of_lt hbl) (.cells (madeCells #[.int .i64 0] n2) 3)
      have hsa : wa.heap.size = nb + 1 := by rw [← hwa, ← hnb]; simp
      rw [hwa] at hnew hcnt hrow hbela ⊢
      rw [hnb] at hnew hblt hbl ⊢
      clear hwa hnb HBEL HROW HCNT
      have HCNT := Lib.hid hcnt
      have HROW := Lib.hid hrow
      have HBELA := Lib.hid hbela
      have HM := Lib.hid (MV.below H.out hbela)
      have HBV := Lib.hid (BV.below HB.out hbela)
      have HNEW := Lib.hid hnew
      clear hcnt hrow hbela hnew
      go_loopw [6, 8] (fun tv i wq => ∃ k : Nat, k ≤ n2 ∧ i = .int .i64 k ∧ tv = .int .i64 (totC bs f t k) ∧ wq.rowIs nb 3 n2 (fun j => .int .i64 (stepAll xss f k j)) ∧ But nb wa wq) (fun _ i _ => n2 - (intOf i).toNat)
      case atStart => exact ⟨0, by omega, rfl, rfl, HNEW.out, But.refl _ _⟩
      case round =>
        obtain ⟨k, hk, rfl, rfl, hrow, hbut⟩ := hrel
        obtain ⟨g, hg⟩ : ∃ g, stepAll xss f k = g := ⟨_, rfl⟩
        rw [hg] at hrow
        by_cases hlt : k < n2
        · obtain ⟨c, hc⟩ : ∃ c, f k = c := ⟨_, rfl⟩
          have d0 : wr.cell? ⟨b, k, none⟩ = some (.int .i64 c) := by rw [← hc]; exact hbut.cell (by omega) (HCNT.out.cell hlt)
          obtain ⟨ba, oa, rfl, hba, hca⟩ := HB.out.row k hlt
          obtain ⟨br, or, ao, m3, c3, rfl, hbr, hcr, hm3, hmc3, hc3, hent⟩ := H.out.row k hlt
          obtain ⟨x, hx⟩ : ∃ x, xss[k]?.getD [] = x := ⟨_, rfl⟩
          have hxe : ∀ q ∈ x, 0 ≤ q ∧ q < (n2 : Int) := by
            rw [← hx]
            intro q hq
            have := HENT.out _ (by
              have hkx : k < xss.length := by rw [← HN.out]; exact hlt
              rw [List.getElem?_eq_getElem hkx, Option.getD_some]
              exact List.getElem_mem hkx) q hq
            rwa [← HN.out] at this
          rw [hx] at hent hm3
          obtain ⟨bb, hbb⟩ : ∃ bb, bs[k]?.getD false = bb := ⟨_, rfl⟩
          rw [hbb] at hca
          have p1 : wr.cell? ⟨w.heap.size, 1, none⟩ = some (.slice (some ⟨br, or, none⟩) n2 c1) := hbut.cell (by omega) (HROW.out.cell (by decide))
          have p2 : wr.cell? ⟨w.heap.size, 2, none⟩ = some (.slice (some ⟨ba, oa, none⟩) n2 c2) := hbut.cell (by omega) (HROW.out.cell (by decide))
          have d1 : wr.cell? ⟨ba, oa + k, none⟩ = some (.bool bb) := hbut.cell (by omega) (by rw [cell_below HBELA.out hba]; exact hca)
          have d2 : wr.cell? ⟨br, or + k, none⟩ = some (.slice ao m3 c3) := hbut.cell (by omega) (by rw [cell_below HBELA.out hbr]; exact hcr)
          have hT : totC bs f t (k + 1) = if bb = true then wrap64 (totC bs f t k + c) else totC bs f t k := by rw [← hbb, ← hc]; rfl
          have hG : stepAll xss f (k + 1) = stepRow c g x x.length := by rw [← hg, ← hx, ← hc]; rfl
          have HROWK := Lib.hid hrow
          have HBUTK := Lib.hid hbut
          have HTK := Lib.hid hT; clear hT
          have HGK := Lib.hid hG; clear hG
          have HXE := Lib.hid hxe; clear hxe
          have HENTK := Lib.hid hent; clear hent
          have HM3 := Lib.hid hm3; clear hm3
          have HCR := Lib.hid hcr
          have HCK := Lib.hid hc
          clear hcr hca hrow hbut hx hbb hc hg
          cases bb with
          | true =>
            have hT : totC bs f t (k + 1) = wrap64 (totC bs f t k + c) := by rw [HTK.out]; rfl
            have HTT := Lib.hid hT; clear hT
            clear HTK
            go_wp2
            obtain ⟨wo, rfl⟩ : ∃ wo : World, wo = wr := ⟨_, rfl⟩
            go_loopw [9] (fun i wq => ∃ j : Nat, j ≤ m3 ∧ i = .int .i64 j ∧ wq.rowIs nb 3 n2 (fun y => .int .i64 (stepRow c g x j y)) ∧ But nb wa wq) (fun i _ => m3 - (intOf i).toNat)
            case atStart => exact ⟨0, by omega, rfl, HROWK.out, HBUTK.out⟩
            case round =>
              obtain ⟨j, hj, rfl, hrow, hbut⟩ := hrel
              have p1' : wr.cell? ⟨w.heap.size, 1, none⟩ = some (.slice (some ⟨br, or, none⟩) n2 c1) := hbut.cell (by omega) (HROW.out.cell (by decide))
              have d2' : wr.cell? ⟨br, or + k, none⟩ = some (.slice ao m3 c3) := hbut.cell (by omega) (by rw [cell_below HBELA.out hbr]; exact HCR.out)
              have d0' : wr.cell? ⟨b, k, none⟩ = some (.int .i64 c) := by rw [← HCK.out]; exact hbut.cell (by omega) (HCNT.out.cell hlt)
              by_cases hlj : j < m3
              · obtain ⟨b2, o2, hao, hb2, hc2⟩ := HENTK.out j hlj
                rw [hao] at d2'
                clear hao
                obtain ⟨z, hz⟩ : ∃ z, x[j]?.getD 0 = z := ⟨_, rfl⟩
                have hzx := HXE.out (x[j]?.getD 0) (by
                  have hjx : j < x.length := by rw [← HM3.out]; exact hlj
                  rw [List.getElem?_eq_getElem hjx, Option.getD_some]
                  exact List.getElem_mem hjx)
                rw [hz] at hc2 hzx
                obtain ⟨hz0, hz1⟩ := hzx
                obtain ⟨z, rfl⟩ := Int.eq_ofNat_of_zero_le hz0
                have hzn : z < n2 := by omega
                have q2 : wr.cell? ⟨b2, o2 + j, none⟩ = some (.int .i64 (z : Int)) := hbut.cell (by omega) (by rw [cell_below HBELA.out hb2]; exact hc2)
                have hS : stepRow c g x (j + 1) = updC (stepRow c g x j) z c := by
                  show updC (stepRow c g x j) (x[j]?.getD 0).toNat c = _
                  rw [hz]; rfl
                obtain ⟨y, hy⟩ : ∃ y, stepRow c g x j z = y := ⟨_, rfl⟩
                have q3 := hrow.cell hzn
                rw [hy] at q3
                have qf := hrow.frozen z
                have hst := upd_set hrow z c
                rw [hy] at hst
                have HST := Lib.hid hst; clear hst
                have HS := Lib.hid hS; clear hS
                have HBUTJ := Lib.hid hbut
                clear hc2 hz hrow hbut hy
                go_wp2_with fail
                go_still_tail 26, (by kernel_rfl)
                change wpList _ _ _ _ _ wr.drew
                go_wp2
                go_roundw
                case rel => exact ⟨j + 1, by omega, by go_num, by rw [HS.out]; exact HST.out, HBUTJ.out.set _ _⟩
                case measure => simp [intOf] <;> omega
              · have HROWJ := Lib.hid hrow
                have HBUTJ := Lib.hid hbut
                clear hrow hbut
                go_wp2
                go_roundw
                case rel => exact ⟨k + 1, by omega, by go_num, by rw [HTT.out], by rw [HGK.out]; exact HROWJ.out.congr (fun y _ => by rw [show j = x.length from by rw [← HM3.out]; omega]), HBUTJ.out⟩
                case measure => simp [intOf] <;> omega
          | false =>
            have hT : totC bs f t (k + 1) = totC bs f t k := by rw [HTK.out]; rfl
            have HTT := Lib.hid hT; clear hT
            clear HTK
            go_wp2
            obtain ⟨wo, rfl⟩ : ∃ wo : World, wo = wr := ⟨_, rfl⟩
            go_loopw [9] (fun i wq => ∃ j : Nat, j ≤ m3 ∧ i = .int .i64 j ∧ wq.rowIs nb 3 n2 (fun y => .int .i64 (stepRow c g x j y)) ∧ But nb wa wq) (fun i _ => m3 - (intOf i).toNat)
            case atStart => exact ⟨0, by omega, rfl, HROWK.out, HBUTK.out⟩
            case round =>
              obtain ⟨j, hj, rfl, hrow, hbut⟩ := hrel
              have p1' : wr.cell? ⟨w.heap.size, 1, none⟩ = some (.slice (some ⟨br, or, none⟩) n2 c1) := hbut.cell (by omega) (HROW.out.cell (by decide))
              have d2' : wr.cell? ⟨br, or + k, none⟩ = some (.slice ao m3 c3) := hbut.cell (by omega) (by rw [cell_below HBELA.out hbr]; exact HCR.out)
              have d0' : wr.cell? ⟨b, k, none⟩ = some (.int .i64 c) := by rw [← HCK.out]; exact hbut.cell (by omega) (HCNT.out.cell hlt)
              by_cases hlj : j < m3
              · obtain ⟨b2, o2, hao, hb2, hc2⟩ := HENTK.out j hlj
                rw [hao] at d2'
                clear hao
                obtain ⟨z, hz⟩ : ∃ z, x[j]?.getD 0 = z := ⟨_, rfl⟩
                have hzx := HXE.out (x[j]?.getD 0) (by
                  have hjx : j < x.length := by rw [← HM3.out]; exact hlj
                  rw [List.getElem?_eq_getElem hjx, Option.getD_some]
                  exact List.getElem_mem hjx)
                rw [hz] at hc2 hzx
                obtain ⟨hz0, hz1⟩ := hzx
                obtain ⟨z, rfl⟩ := Int.eq_ofNat_of_zero_le hz0
                have hzn : z < n2 := by omega
                have q2 : wr.cell? ⟨b2, o2 + j, none⟩ = some (.int .i64 (z : Int)) := hbut.cell (by omega) (by rw [cell_below HBELA.out hb2]; exact hc2)
                have hS : stepRow c g x (j + 1) = updC (stepRow c g x j) z c := by
                  show updC (stepRow c g x j) (x[j]?.getD 0).toNat c = _
                  rw [hz]; rfl
                obtain ⟨y, hy⟩ : ∃ y, stepRow c g x j z = y := ⟨_, rfl⟩
                have q3 := hrow.cell hzn
                rw [hy] at q3
                have qf := hrow.frozen z
                have hst := upd_set hrow z c
                rw [hy] at hst
                have HST := Lib.hid hst; clear hst
                have HS := Lib.hid hS; clear hS
                have HBUTJ := Lib.hid hbut
                clear hc2 hz hrow hbut hy
                go_wp2_with fail
                go_still_tail 26, (by kernel_rfl)
                change wpList _ _ _ _ _ wr.drew
                go_wp2
                go_roundw
                case rel => exact ⟨j + 1, by omega, by go_num, by rw [HS.out]; exact HST.out, HBUTJ.out.set _ _⟩
                case measure => simp [intOf] <;> omega
              · have HROWJ := Lib.hid hrow
                have HBUTJ := Lib.hid hbut
                clear hrow hbut
                go_wp2
                go_roundw
                case rel => exact ⟨k + 1, by omega, by go_num, by rw [HTT.out], by rw [HGK.out]; exact HROWJ.out.congr (fun y _ => by rw [show j = x.length from by rw [← HM3.out]; omega]), HBUTJ.out⟩
                case measure => simp [intOf] <;> omega
        · have hcnt' : wr.rowIs nb 3 n2 (fun j => .int .i64 (cntA xss (m + 1) j)) := by
            have : cntA xss (m + 1) = g := by
              rw [← hg]
              show stepAll xss (cntA xss m) xss.length = _
              rw [HF.out, ← HN.out]
              congr 1
              omega
            rw [this]; exact hrow
          have hT' : ttlA xss bs (m + 1) = totC bs f t k := by
            show totC bs (cntA xss m) (ttlA xss bs m) xss.length = _
            rw [HF.out, HT.out, ← HN.out]
            congr 1
            omega
          have hrowP : wr.rowIs w.heap.size 28 3 (fun i => #[.int .i64 al, .slice a1 n2 c1, .slice a2 n2 c2][i]?.getD undef) := HROW.out.of_block (hbut.2.2.2.2 _ (World.rowIs.lt HROW.out) (by omega))
          have hbelP : Below w.heap.size w wr := hbut.below HBELA.out (by omega) (by omega)
          have HT2 := Lib.hid hT'; clear hT'
          have HC2 := Lib.hid hcnt'; clear hcnt'
          have HRP := Lib.hid hrowP; clear hrowP
          have HBP := Lib.hid hbelP; clear hbelP
          go_wp2
          go_roundw
          case rel => exact ⟨m + 1, nb, by omega, by go_num, by rw [HT2.out], rfl, HC2.out, by omega, HBP.out, HRP.out⟩
          case measure => simp [intOf] <;> omega
end Go.Proofs.Ytagegbhchljggaa
