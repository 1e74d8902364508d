/- SafetyPart of the program. -/
import Derived.Test.YtagegbhchljggaaSafe
import Derived.StillTailTactics
namespace Go.Proofs.Ytagegbhchljggaa
open Go.RowKit
set_option linter.unusedVariables false
set_option linter.unusedSimpArgs false
set_option maxRecDepth 100000

set_option maxHeartbeats 2000000 in
theorem implSafe_any (al : Int) (a1 : Option Addr) (n1 c1 : Nat) (a2 : Option Addr) (n2 c2 : Nat) (xss : List (List Int)) (bs : List Bool) (w : World) (h : MV w (.slice a1 n1 c1) xss) (hb : BV w (.slice a2 n2 c2) bs) :
    Calls Try.prog 28 #[.agg #[.int .i64 al, .slice a1 n1 c1, .slice a2 n2 c2]] w (Made (autV al xss bs) al (safeAt xss bs xss.length 0) bs w) := by
  have H := Lib.hid h; clear h
  have HB := Lib.hid hb; clear hb
  have B0 := Lib.hid ((below_new w 28 #[.int .i64 al, .slice a1 n1 c1, .slice a2 n2 c2]).alloc (by simp) (.cells #[.int .i64 0, .slice none 0 0, .slice none 0 0] 28))
  have R0 := Lib.hid ((agg3_cell w al (.slice a1 n1 c1) (.slice a2 n2 c2) 28).alloc (.cells #[.int .i64 0, .slice none 0 0, .slice none 0 0] 28))
  have hz0 := own_cells (w.alloc (.cells #[.int .i64 al, .slice a1 n1 c1, .slice a2 n2 c2] 28)) #[.int .i64 0, .slice none 0 0, .slice none 0 0] 28 3 rfl
  have hs0 : (w.alloc (.cells #[.int .i64 al, .slice a1 n1 c1, .slice a2 n2 c2] 28)).heap.size = w.heap.size + 1 := by simp
  rw [hs0] at hz0
  have Z0 := Lib.hid hz0
  clear hz0 hs0
  cases hv : autV al xss bs with
  | false =>
    have HV := Lib.hid hv; clear hv
    go_enter Try.func28, Try.ntmps28
    go_wp2_with fail
    refine (implAutValid_any al a1 n1 c1 a2 n2 c2 xss bs _ (MV.below H.out B0.out) (BV.below HB.out B0.out)).mono ?_
    rintro e w1 ⟨rfl, hb1⟩
    rw [HV.out]
    have B1 := Lib.hid (B0.out.trans (hb1.mono B0.out.size))
    have hz1 := rowIs_below Z0.out hb1
    have z0 : w1.cell? ⟨w.heap.size + 1, 0, none⟩ = some (.int .i64 0) := hz1.cell (by decide)
    have z1 : w1.cell? ⟨w.heap.size + 1, 1, none⟩ = some (.slice none 0 0) := hz1.cell (by decide)
    have z2 : w1.cell? ⟨w.heap.size + 1, 2, none⟩ = some (.slice none 0 0) := hz1.cell (by decide)
    have zf0 := hz1.frozen 0
    have zf1 := hz1.frozen 1
    have zf2 := hz1.frozen 2
    have Z1 := Lib.hid hz1
    clear hb1 hz1
    go_wp2
    obtain ⟨wf, hwf⟩ : ∃ wf, (((w1.setCell ⟨w.heap.size + 1, 0, none⟩ (.int .i64 0)).setCell ⟨w.heap.size + 1, 1, none⟩ (.slice none 0 0)).setCell ⟨w.heap.size + 1, 2, none⟩ (.slice none 0 0)) = wf := ⟨_, rfl⟩
    have hfin := store3 Z1.out (.int .i64 0) (.slice none 0 0) (.slice none 0 0)
    have hbF : Below w.heap.size w _ := ((B1.out.setCell (p := ⟨w.heap.size + 1, 0, none⟩) (by simp) (.int .i64 0)).setCell (p := ⟨w.heap.size + 1, 1, none⟩) (by simp) (.slice none 0 0)).setCell (p := ⟨w.heap.size + 1, 2, none⟩) (by simp) (.slice none 0 0)
    rw [hwf] at hfin hbF ⊢
    have f0 : wf.cell? ⟨w.heap.size + 1, 0, none⟩ = some (.int .i64 0) := hfin.cell (by decide)
    have f1 : wf.cell? ⟨w.heap.size + 1, 1, none⟩ = some (.slice none 0 0) := hfin.cell (by decide)
    have f2 : wf.cell? ⟨w.heap.size + 1, 2, none⟩ = some (.slice none 0 0) := hfin.cell (by decide)
    refine bodyPost_ret (v := .tuple #[.agg #[.int .i64 0, .slice none 0 0, .slice none 0 0], .bool false]) ?_ rfl ?_
    · simp [results, Try.results28, go_sem, f0, f1, f2]
    · exact ⟨rfl, hbF⟩
  | true =>
    have HV := Lib.hid hv; clear hv
    go_enter Try.func28, Try.ntmps28
    go_wp2_with fail
    refine (implAutValid_any al a1 n1 c1 a2 n2 c2 xss bs _ (MV.below H.out B0.out) (BV.below HB.out B0.out)).mono ?_
    rintro e w1 ⟨rfl, hb1⟩
    rw [HV.out]
    have B1 := Lib.hid (B0.out.trans (hb1.mono B0.out.size))
    have R1 := Lib.hid (rowIs_below R0.out hb1)
    have Z1 := Lib.hid (rowIs_below Z0.out hb1)
    have c0 : w1.cell? ⟨w.heap.size, 0, none⟩ = some (.int .i64 al) := R1.out.cell (by decide)
    have c1' : w1.cell? ⟨w.heap.size, 1, none⟩ = some (.slice a1 n1 c1) := R1.out.cell (by decide)
    have c2' : w1.cell? ⟨w.heap.size, 2, none⟩ = some (.slice a2 n2 c2) := R1.out.cell (by decide)
    clear hb1
    go_wp2_with fail
    refine (copyAut_any al a1 n1 c1 a2 n2 c2 xss bs _ (MV.below H.out B1.out) (BV.below HB.out B1.out) HV.out).mono ?_
    rintro e w2 ⟨b0, b1, Bf, v1, v2, rfl, hwa, hl0, hl1, hlr, hb2⟩
    have B2 := Lib.hid (B1.out.trans (hb2.mono B1.out.size))
    have Z2 := Lib.hid (rowIs_below Z1.out hb2)
    obtain ⟨x1, y1, rfl⟩ := hwa.1.shape
    obtain ⟨x2, y2, rfl⟩ := hwa.2.1.shape
    have HWA := Lib.hid hwa
    have HLR := Lib.hid hlr
    have R2 := Lib.hid (rowIs_below R1.out hb2)
    clear hwa hlr hb2
    obtain ⟨hx0, hx1, hx2, hx3, hx4, hx5⟩ := autV_facts HV.out
    obtain ⟨off, rfl⟩ : ∃ off, x1 = some ⟨b0, off, none⟩ := by
      obtain ⟨q1, q2, q3, q4, q5, q6, -⟩ := HWA.out.1
      injection q3 with q7 q8 q9
      subst q7
      rcases q6 with q6 | ⟨off, q6, -⟩
      · omega
      · exact ⟨off, q6⟩
    have hlen : y1 ≤ maxLen ∧ xss.length ≤ y1 := by
      obtain ⟨q1, q2, q3, q4, q5, q6, -⟩ := HWA.out.1
      injection q3 with q7 q8 q9
      subst q9
      exact ⟨q5, q4⟩
    obtain ⟨hy1, hy1'⟩ := hlen
    unfold maxLen at hy1
    obtain ⟨hn2, hcap2, hmax2, hrow2⟩ := SV.at HB.out
    unfold maxLen at hmax2
    obtain ⟨ba, oa, rfl, hba, hca⟩ : ∃ ba oa, a2 = some ⟨ba, oa, none⟩ ∧ ba < w.heap.size ∧ ∀ j, j < n2 → w.cell? ⟨ba, oa + j, none⟩ = some (.bool (bs[j]?.getD false)) := by
      rcases hrow2 with h0 | ⟨b, off, rfl, hb, hc⟩
      · omega
      · refine ⟨b, off, rfl, hb, fun j hj => ?_⟩
        obtain ⟨u, hu, rfl⟩ := hc j hj
        exact hu
    have HCA := Lib.hid hca
    have hn2' : n2 = xss.length := by omega
    have HX4 := Lib.hid hx4; clear hx4
    clear hn2 hrow2 hca
    have HX3 := Lib.hid hx3; clear hx3
    subst hn2'
    clear hx0 hx5 c0 c1' c2'
    go_wp2_with fail
    obtain ⟨ob, hob⟩ : ∃ ob, w2.heap.size = ob := ⟨_, rfl⟩
    obtain ⟨w3, hw3⟩ : ∃ w3, w2.alloc (.cells #[.int .i64 al, .slice (some ⟨b0, off, none⟩) xss.length y1, .slice x2 bs.length y2] 28) = w3 := ⟨_, rfl⟩
    have ho3 := own_cells w2 #[.int .i64 al, .slice (some ⟨b0, off, none⟩) xss.length y1, .slice x2 bs.length y2] 28 3 rfl
    have hb3 := below_new w2 28 #[.int .i64 al, .slice (some ⟨b0, off, none⟩) xss.length y1, .slice x2 bs.length y2]
    rw [hob] at ho3
    rw [hw3] at ho3 hb3 ⊢
    rw [hob]
    have HWA3 := Lib.hid (HWA.out.below hb3)
    have HZ3 := Lib.hid (rowIs_below Z2.out hb3)
    have R3 := Lib.hid (rowIs_below R2.out hb3)
    have B3 := Lib.hid (B2.out.trans (hb3.mono B2.out.size))
    have HO3 := Lib.hid ho3
    have hs3 : ob < w3.heap.size := World.rowIs.lt ho3
    have hzlt : w.heap.size + 1 < w1.heap.size := World.rowIs.lt Z1.out
    have hSS : ∀ q, rowsOf Bf xss q → w1.heap.size ≤ q ∧ q < ob := fun q ⟨i, hi, h0, e⟩ => by
      have h1 := HLR.out i hi h0
      have h2 := HWA.out.2.2.2.2 i hi h0
      omega
    have HSS := Lib.hid hSS
    have hbw : w.heap.size ≤ w1.heap.size := B1.out.size
    have hb0r : ¬ rowsOf Bf xss b0 := fun ⟨i, hi, h0, e⟩ => by
      obtain ⟨q1, q2, q3, q4, q5, q6, q7, q8⟩ := HWA.out.1
      exact q8 i hi h0 e.symm
    have hb1r : ¬ rowsOf Bf xss b1 := fun ⟨i, hi, h0, e⟩ => HWA.out.2.2.2.1 i hi h0 e.symm
    have HB0R := Lib.hid hb0r
    have HB1R := Lib.hid hb1r
    have HKEEP := Lib.hid (fun (wr : World) (h : Only (rowsOf Bf xss) w3 wr) => (show wr.cell? ⟨ob, 0, none⟩ = some (.int .i64 al) ∧ wr.cell? ⟨ob, 1, none⟩ = some (.slice (some ⟨b0, off, none⟩) xss.length y1) ∧ wr.cell? ⟨ob, 2, none⟩ = some (.slice x2 bs.length y2) ∧ wr.cell? ⟨w.heap.size, 2, none⟩ = some (.slice (some ⟨ba, oa, none⟩) xss.length c2) ∧ ∀ j, j < xss.length → wr.cell? ⟨ba, oa + j, none⟩ = some (.bool (bs[j]?.getD false)) from by
      have h1 := HO3.out.of_block (h.2.2.2.2 ob hs3 (fun hq => by have := HSS.out _ hq; omega))
      have h2 := R3.out.of_block (h.2.2.2.2 w.heap.size (World.rowIs.lt R3.out) (fun hq => by have := HSS.out _ hq; omega))
      have h3 := h.below B3.out (fun q hq => by have := HSS.out q hq; omega) B3.out.size
      exact ⟨h1.cell (by decide), h1.cell (by decide), h1.cell (by decide), h2.cell (by decide), fun j hj => by rw [cell_below h3 hba]; exact HCA.out j hj⟩))
    have o0 : w3.cell? ⟨ob, 0, none⟩ = some (.int .i64 al) := HO3.out.cell (by decide)
    have o1 : w3.cell? ⟨ob, 1, none⟩ = some (.slice (some ⟨b0, off, none⟩) xss.length y1) := HO3.out.cell (by decide)
    have hXB : ∀ k, (xss[k]?.getD []).length ≤ 48 := fun k => by
      by_cases hk : k < xss.length
      · rw [List.getElem?_eq_getElem hk, Option.getD_some, HX4.out _ (List.getElem_mem hk)]
        have := lets_len al
        omega
      · rw [List.getElem?_eq_none (by omega)]; exact Nat.zero_le _
    have HXB := Lib.hid hXB
    clear hSS hb0r hb1r hXB hw3 hob ho3 hb3 HWA hcap2
    go_loopw [17] (fun i wr => ∃ k : Nat, k ≤ xss.length ∧ i = .int .i64 k ∧ WM wr b0 Bf (.slice (some ⟨b0, off, none⟩) xss.length y1) (safeAt xss bs k 0) ∧ Only (rowsOf Bf xss) w3 wr) (fun i _ => xss.length - (intOf i).toNat)
    case atStart => exact ⟨0, by omega, rfl, by rw [safeAt_zero]; exact HWA3.out.1, Only.refl _ _⟩
    case round =>
      clear o0 o1
      obtain ⟨k, hk, rfl, hwm, hon⟩ := hrel
      obtain ⟨o0, o1, o2, p2, pa⟩ := HKEEP.out wr hon
      have HWM := Lib.hid hwm
      have HON := Lib.hid hon
      clear hwm hon
      by_cases hlt : k < xss.length
      · obtain ⟨m, hm⟩ : ∃ m, (xss[k]?.getD []).length = m := ⟨_, rfl⟩
        have hm48 : m ≤ 48 := by rw [← hm]; exact HXB.out k
        have hpa := pa k (by omega)
        obtain ⟨bv, hbv⟩ : ∃ bv, bs[k]?.getD false = bv := ⟨_, rfl⟩
        rw [hbv] at hpa
        obtain ⟨ra, rc, hr1, hr2, hr3, hr4⟩ := HWM.out.row k hlt
        rw [safeAt_rlen, hm] at hr1 hr2 hr4
        unfold maxLen at hr3
        have HR4 := Lib.hid (fun h0 => (hr4 h0).1)
        have HM := Lib.hid hm; clear hm
        have HBV := Lib.hid hbv; clear hbv
        clear hr4 pa
        go_wp2
        go_loopw [24] (fun i wr => ∃ j : Nat, j ≤ m ∧ i = .int .i64 j ∧ WM wr b0 Bf (.slice (some ⟨b0, off, none⟩) xss.length y1) (safeAt xss bs k j) ∧ Only (rowsOf Bf xss) w3 wr) (fun i _ => m - (intOf i).toNat)
        case atStart => exact ⟨0, by omega, rfl, HWM.out, HON.out⟩
        case round =>
          clear o0 o1 o2 p2 hpa hr1 HWM HON
          obtain ⟨j, hj, rfl, hwm, hon⟩ := hrel
          obtain ⟨o0, o1, o2, p2, pa⟩ := HKEEP.out wr hon
          have hpa := pa k (by omega)
          rw [HBV.out] at hpa
          clear pa
          have HWM := Lib.hid hwm
          have HON := Lib.hid hon
          clear hwm hon
          by_cases hjm : j < m
          · cases bv with
            | false =>
              have hra := HR4.out (by omega)
              subst hra
              have hcc := (HWM.out.row k hlt)
              obtain ⟨ra', rc', -, -, -, hcc4⟩ := hcc
              rw [safeAt_rlen, HM.out] at hcc4
              obtain ⟨hcA, hcB, hcc6⟩ := hcc4 (by omega)
              obtain ⟨s1, s2⟩ := hcc6 j hjm
              clear hcc4 hcc6 hcA
              go_wp2
              go_roundw
              case rel => exact ⟨j + 1, by omega, by go_num, HWM.out.put hlt (by rw [HM.out]; exact hjm) HBV.out, HON.out.put (rowsOf_of hlt (by rw [HM.out]; omega)) _ _⟩
              case measure => simp [intOf] <;> omega
            | true =>
              go_wp2
              go_roundw
              case rel => exact ⟨j + 1, by omega, by go_num, by rw [safeAt_next xss bs k (j + 1) (.inr HBV.out), ← safeAt_next xss bs k j (.inr HBV.out)]; exact HWM.out, HON.out⟩
              case measure => simp [intOf] <;> omega
          · obtain rfl : j = m := by omega
            go_wp2
            go_roundw
            case rel => exact ⟨k + 1, by omega, by go_num, by rw [← safeAt_next xss bs k j (.inl (by rw [HM.out]; exact Nat.le_refl _))]; exact HWM.out, HON.out⟩
            case measure => simp [intOf] <;> omega
      · obtain rfl : k = xss.length := by omega
        have hz := HZ3.out.of_block (HON.out.2.2.2.2 (w.heap.size + 1) (World.rowIs.lt HZ3.out) (fun hq => by have := HSS.out _ hq; omega))
        have z0 : wr.cell? ⟨w.heap.size + 1, 0, none⟩ = some (.int .i64 0) := hz.cell (by decide)
        have z1 : wr.cell? ⟨w.heap.size + 1, 1, none⟩ = some (.slice none 0 0) := hz.cell (by decide)
        have z2 : wr.cell? ⟨w.heap.size + 1, 2, none⟩ = some (.slice none 0 0) := hz.cell (by decide)
        have zf0 := hz.frozen 0
        have zf1 := hz.frozen 1
        have zf2 := hz.frozen 2
        have HZR := Lib.hid hz
        clear hz pa
        go_wp2
        obtain ⟨wf, hwf⟩ : ∃ wf, (((wr.setCell ⟨w.heap.size + 1, 0, none⟩ (.int .i64 al)).setCell ⟨w.heap.size + 1, 1, none⟩ (.slice (some ⟨b0, off, none⟩) xss.length y1)).setCell ⟨w.heap.size + 1, 2, none⟩ (.slice x2 bs.length y2)) = wf := ⟨_, rfl⟩
        have hfin := store3 HZR.out (.int .i64 al) (.slice (some ⟨b0, off, none⟩) xss.length y1) (.slice x2 bs.length y2)
        have hbutf : But (w.heap.size + 1) wr wf := by rw [← hwf]; exact (((But.refl (w.heap.size + 1) wr).set 0 _).set 1 _).set 2 _
        rw [hwf] at hfin ⊢
        clear hwf
        have f0 : wf.cell? ⟨w.heap.size + 1, 0, none⟩ = some (.int .i64 al) := hfin.cell (by decide)
        have f1 : wf.cell? ⟨w.heap.size + 1, 1, none⟩ = some (.slice (some ⟨b0, off, none⟩) xss.length y1) := hfin.cell (by decide)
        have f2 : wf.cell? ⟨w.heap.size + 1, 2, none⟩ = some (.slice x2 bs.length y2) := hfin.cell (by decide)
        refine bodyPost_ret (v := .tuple #[.agg #[.int .i64 al, .slice (some ⟨b0, off, none⟩) xss.length y1, .slice x2 bs.length y2], .bool true]) ?_ rfl ?_
        · simp [results, Try.results28, go_sem, f0, f1, f2]
        · have hs1 := HON.out.2.2.2.1
          have hs2 := hbutf.2.2.2.1
          have hlr := HLR.out
          have hlt3 := HWA3.out.2.2.2.2
          have hm1 := HWM.out.only (Only.of_but hbutf) (by omega) (fun i hi h0 h => by rw [safeAt_len] at hi; rw [safeAt_rlen] at h0; have := hlr i hi h0; omega)
          have hm2 := (HWA3.out.2.1.only HON.out (fun _ => HB1R.out)).only (Only.of_but hbutf) (fun _ => by omega)
          refine ⟨b0, b1, Bf, _, _, rfl, ⟨hm1, hm2, HWA3.out.2.2.1, ?_, ?_⟩, by omega, by omega, ?_, ?_⟩
          · intro i hi h0
            rw [safeAt_len] at hi; rw [safeAt_rlen] at h0
            exact HWA3.out.2.2.2.1 i hi h0
          · intro i hi h0
            rw [safeAt_len] at hi; rw [safeAt_rlen] at h0
            have := hlt3 i hi h0
            omega
          · intro i hi h0
            rw [safeAt_len] at hi; rw [safeAt_rlen] at h0
            have := hlr i hi h0
            omega
          · exact hbutf.below (HON.out.below B3.out (fun q hq => by have := HSS.out q hq; omega) B3.out.size) (by omega) (by have := B3.out.size; omega)
end Go.Proofs.Ytagegbhchljggaa
