/- FormatAutomaton of the reference: that it ends with a string. -/
import Derived.Test.YtagegbhchljggaaAText
import Derived.Test.YtagegbhchljggaaAutS
import Derived.Test.YtagegbhchljggaaRun
import Derived.Test.YtagegbhchljggaaCount
namespace Go.Proofs.Ytagegbhchljggaa
open Go.RowKit
set_option linter.unusedVariables false
set_option linter.unusedSimpArgs false
set_option maxRecDepth 100000

theorem size_1 (x : UInt8) : (ByteArray.mk #[x]).size = 1 := rfl
theorem size_2 (x y : UInt8) : (ByteArray.mk #[x, y]).size = 2 := rfl
set_option maxHeartbeats 4000000 in
theorem specFormatAut_any (al : Int) (a1 : Option Addr) (n1 c1 : Nat) (a2 : Option Addr) (n2 c2 : Nat) (xss : List (List Int)) (bs : List Bool) (w : World) (h : MV w (.slice a1 n1 c1) xss) (hb : BV w (.slice a2 n2 c2) bs) :
    Calls Try.prog 83 #[.agg #[.int .i64 al, .slice a1 n1 c1, .slice a2 n2 c2]] w (FmtRes 10000000 w) := by
  have B0 := Lib.hid (below_new w 28 #[.int .i64 al, .slice a1 n1 c1, .slice a2 n2 c2])
  have R0 := Lib.hid (agg3_cell w al (.slice a1 n1 c1) (.slice a2 n2 c2) 28)
  obtain ⟨hn, hcap, hmax, -⟩ := SV.at h
  have hn2 := (SV.at hb).1
  have HN2 := Lib.hid hn2; clear hn2
  have HN := Lib.hid hn; clear hn
  have H := Lib.hid h; clear h
  have HB := Lib.hid hb; clear hb
  cases hv : autV al xss bs with
  | false =>
    have HV := Lib.hid hv; clear hv
    go_enter Try.func83, Try.ntmps83
    go_wp2_with fail
    refine (specAutValid_any al a1 n1 c1 a2 n2 c2 xss bs _ (MV.below H.out B0.out) (BV.below HB.out B0.out)).mono ?_
    rintro e w1 ⟨rfl, hb1⟩
    rw [HV.out]
    have B1 := Lib.hid (B0.out.trans (hb1.mono B0.out.size))
    clear hb1
    go_wp2
    go_ret
    exact ⟨_, rfl, by simp [ByteArray.size], B1.out⟩
  | true =>
    obtain ⟨ha, hx1, hx2, hx3, hx4, hx5⟩ := autV_facts hv
    have hn12 : n1 ≤ 12 := by rw [HN.out]; exact hx2
    have hn1 : 0 < n1 := by rw [HN.out]; exact hx1
    have hn21 : n2 = n1 := by rw [HN2.out, HN.out]; exact hx3
    have HN21 := Lib.hid hn21; clear hn21
    have HROWS := Lib.hid hx4; clear hx4
    have HENT := Lib.hid hx5; clear hx5
    have HA := Lib.hid ha; clear ha
    have HV := Lib.hid hv; clear hv
    clear hx1 hx3
    go_enter Try.func83, Try.ntmps83
    go_wp2_with fail
    refine (specAutValid_any al a1 n1 c1 a2 n2 c2 xss bs _ (MV.below H.out B0.out) (BV.below HB.out B0.out)).mono ?_
    rintro e w1 ⟨rfl, hb1⟩
    rw [HV.out]
    have B1 := Lib.hid (B0.out.trans (hb1.mono B0.out.size))
    have R1 := Lib.hid (rowIs_below R0.out hb1)
    have e0 : w1.cell? ⟨w.heap.size, 0, none⟩ = some (.int .i64 al) := R1.out.cell (by decide)
    clear hb1
    go_wp2_with fail
    refine (specFmt_sz al _).mono ?_
    rintro e w2 ⟨r1, rfl, hr1, hb2⟩
    have B2 := Lib.hid (B1.out.trans (hb2.mono B1.out.size))
    have R2 := Lib.hid (rowIs_below R1.out hb2)
    clear hb2 e0
    go_wp2
    go_loopw [3, 4] (fun v i wr => ∃ (k : Nat) (s : ByteArray), i = .int .i64 k ∧ v = .string s ∧ k ≤ n1 ∧ s.size ≤ 6 + k * 10000 ∧ Below w.heap.size w wr ∧ wr.rowIs w.heap.size 28 3 (fun i => #[.int .i64 al, .slice a1 n1 c1, .slice a2 n2 c2][i]?.getD undef)) (fun _ i _ => n1 - (intOf i).toNat)
    case atStart => exact ⟨0, r1, rfl, rfl, Nat.zero_le _, by omega, B2.out, R2.out⟩
    case round =>
      clear B2 R2 R1 B1 R0 B0
      obtain ⟨k, s, rfl, rfl, hk, hs, hbel, hrow⟩ := hrel
      have p1 : wr.cell? ⟨w.heap.size, 1, none⟩ = some (.slice a1 n1 c1) := hrow.cell (by decide)
      have p2 : wr.cell? ⟨w.heap.size, 2, none⟩ = some (.slice a2 n2 c2) := hrow.cell (by decide)
      have hq : (s.size : Int) + 2 ≤ 9223372036854775807 := by omega
      have hq' : ¬ (9223372036854775807 < s.size + 2) := by omega
      by_cases hlt : k < n1
      · have hlt2 : k < n2 := by have := HN21.out; omega
        obtain ⟨ba, oa, rfl, hba, hca⟩ := HB.out.row k hlt2
        obtain ⟨br, or, ao, m3, c3, rfl, hbr, hcr, hm3, hmc3, hc3, hent⟩ := H.out.row k hlt
        obtain ⟨x, hx⟩ : ∃ x, xss[k]?.getD [] = x := ⟨_, rfl⟩
        have hkx : k < xss.length := by rw [← HN.out]; exact hlt
        have hxm : xss[k]?.getD [] ∈ xss := by rw [List.getElem?_eq_getElem hkx, Option.getD_some]; exact List.getElem_mem hkx
        have hxe : ∀ q ∈ x, 0 ≤ q ∧ q < 1000 := by
          rw [← hx]
          intro q hq
          have := HENT.out _ hxm q hq
          omega
        have hm6 : m3 ≤ 6 := by
          have h1 := HROWS.out _ hxm
          have h2 := lets_len al
          omega
        rw [hx] at hent hm3
        obtain ⟨bb, hbb⟩ : ∃ bb, bs[k]?.getD false = bb := ⟨_, rfl⟩
        rw [hbb] at hca
        have d1 : wr.cell? ⟨ba, oa + k, none⟩ = some (.bool bb) := by rw [cell_below hbel hba]; exact hca
        have d2 : wr.cell? ⟨br, or + k, none⟩ = some (.slice ao m3 c3) := by rw [cell_below hbel hbr]; exact hcr
        have HBEL := Lib.hid hbel
        have HROW := Lib.hid hrow
        have HCR := Lib.hid hcr
        have HXE := Lib.hid hxe; clear hxe
        have HENTK := Lib.hid hent; clear hent
        have HM3 := Lib.hid hm3; clear hm3
        clear hbel hrow hcr hca hx hxm hbb
        cases bb with
        | true =>
          obtain ⟨s2, hs2⟩ : ∃ s2, s ++ ByteArray.mk #[32, 43] = s2 := ⟨_, rfl⟩
          have hs2z : s2.size ≤ 8 + k * 10000 := by rw [← hs2, append_size, size_2]; omega
          have HS2 := Lib.hid hs2; clear hs2
          go_wp2
          go_loopw [3, 6] (fun v i wq => ∃ (j : Nat) (s : ByteArray), i = .int .i64 j ∧ v = .string s ∧ j ≤ m3 ∧ s.size ≤ 8 + k * 10000 + j * 1100 ∧ Below w.heap.size w wq ∧ wq.rowIs w.heap.size 28 3 (fun i => #[.int .i64 al, .slice (some ⟨br, or, none⟩) n1 c1, .slice (some ⟨ba, oa, none⟩) n2 c2][i]?.getD undef)) (fun _ i _ => m3 - (intOf i).toNat)
          case atStart => exact ⟨0, s2, rfl, congrArg Value.string HS2.out, Nat.zero_le _, by omega, HBEL.out, HROW.out⟩
          case round =>
            clear HBEL HROW HS2 hs2z
            obtain ⟨j, s, rfl, rfl, hj, hs, hbel, hrow⟩ := hrel
            have p1 : wr.cell? ⟨w.heap.size, 1, none⟩ = some (.slice (some ⟨br, or, none⟩) n1 c1) := hrow.cell (by decide)
            have d2 : wr.cell? ⟨br, or + k, none⟩ = some (.slice ao m3 c3) := by rw [cell_below hbel hbr]; exact HCR.out
            have hq : (s.size : Int) + 1 ≤ 9223372036854775807 := by omega
            have hq' : ¬ (9223372036854775807 < s.size + 1) := by omega
            by_cases hltj : j < m3
            · obtain ⟨b2, off2, rfl, hb2, he2⟩ := HENTK.out j hltj
              obtain ⟨q, hqq⟩ : ∃ q, x[j]?.getD 0 = q := ⟨_, rfl⟩
              have hqb : 0 ≤ q ∧ q < 1000 := by
                have hjx : j < x.length := by rw [← HM3.out]; exact hltj
                rw [← hqq, List.getElem?_eq_getElem hjx, Option.getD_some]
                exact HXE.out _ (List.getElem_mem hjx)
              rw [hqq] at he2
              obtain ⟨q, rfl⟩ := Int.eq_ofNat_of_zero_le hqb.1
              have hq1000 : q < 1000 := by omega
              have d3 : wr.cell? ⟨b2, off2 + j, none⟩ = some (.int .i64 (q : Int)) := by rw [cell_below hbel hb2]; exact he2
              have HB := Lib.hid hbel
              have HR := Lib.hid hrow
              clear hbel hrow he2 hqq
              by_cases hj0 : 0 < j
              · have hj0' : (0 : Int) < (j : Int) := by omega
                obtain ⟨s3, hs3⟩ : ∃ s3, s ++ ByteArray.mk #[44] = s3 := ⟨_, rfl⟩
                have hs3z : s3.size ≤ 9 + k * 10000 + j * 1100 := by rw [← hs3, append_size, size_1]; omega
                go_wp2_with fail
                refine (l19Dec_any q hq1000 wr).mono ?_
                rintro e w5 ⟨r, rfl, hr, hb5⟩
                have hq5 : ((s3).size : Int) + (r.size : Int) ≤ 9223372036854775807 := by omega
                have hq5' : ¬ (9223372036854775807 < (s3).size + r.size) := by omega
                have HB5 := Lib.hid (HB.out.trans (hb5.mono HB.out.size))
                have HR5 := Lib.hid (rowIs_below HR.out hb5)
                have hsz : (s3 ++ r).size ≤ 9 + k * 10000 + j * 1100 + 1001 := by rw [append_size]; omega
                clear hb5
                go_wp2
                go_roundw
                case rel => exact ⟨j + 1, _, by go_num, rfl, by omega, by omega, HB5.out, HR5.out⟩
                case measure => simp [intOf] <;> omega
              · have hj0' : ¬ (0 : Int) < (j : Int) := by omega
                obtain ⟨s3, hs3⟩ : ∃ s3, s = s3 := ⟨_, rfl⟩
                have hs3z : s3.size ≤ 9 + k * 10000 + j * 1100 := by rw [← hs3]; omega
                subst hs3
                go_wp2_with fail
                refine (l19Dec_any q hq1000 wr).mono ?_
                rintro e w5 ⟨r, rfl, hr, hb5⟩
                have hq5 : ((s).size : Int) + (r.size : Int) ≤ 9223372036854775807 := by omega
                have hq5' : ¬ (9223372036854775807 < (s).size + r.size) := by omega
                have HB5 := Lib.hid (HB.out.trans (hb5.mono HB.out.size))
                have HR5 := Lib.hid (rowIs_below HR.out hb5)
                have hsz : (s ++ r).size ≤ 9 + k * 10000 + j * 1100 + 1001 := by rw [append_size]; omega
                clear hb5
                go_wp2
                go_roundw
                case rel => exact ⟨j + 1, _, by go_num, rfl, by omega, by omega, HB5.out, HR5.out⟩
                case measure => simp [intOf] <;> omega
            · obtain rfl : j = m3 := by omega
              have HB := Lib.hid hbel
              have HR := Lib.hid hrow
              clear hbel hrow
              go_wp2
              go_roundw
              case rel => exact ⟨k + 1, s, by go_num, rfl, by omega, by omega, HB.out, HR.out⟩
              case measure => simp [intOf] <;> omega
        | false =>
          obtain ⟨s2, hs2⟩ : ∃ s2, s ++ ByteArray.mk #[32, 45] = s2 := ⟨_, rfl⟩
          have hs2z : s2.size ≤ 8 + k * 10000 := by rw [← hs2, append_size, size_2]; omega
          have HS2 := Lib.hid hs2; clear hs2
          go_wp2
          go_loopw [3, 6] (fun v i wq => ∃ (j : Nat) (s : ByteArray), i = .int .i64 j ∧ v = .string s ∧ j ≤ m3 ∧ s.size ≤ 8 + k * 10000 + j * 1100 ∧ Below w.heap.size w wq ∧ wq.rowIs w.heap.size 28 3 (fun i => #[.int .i64 al, .slice (some ⟨br, or, none⟩) n1 c1, .slice (some ⟨ba, oa, none⟩) n2 c2][i]?.getD undef)) (fun _ i _ => m3 - (intOf i).toNat)
          case atStart => exact ⟨0, s2, rfl, congrArg Value.string HS2.out, Nat.zero_le _, by omega, HBEL.out, HROW.out⟩
          case round =>
            clear HBEL HROW HS2 hs2z
            obtain ⟨j, s, rfl, rfl, hj, hs, hbel, hrow⟩ := hrel
            have p1 : wr.cell? ⟨w.heap.size, 1, none⟩ = some (.slice (some ⟨br, or, none⟩) n1 c1) := hrow.cell (by decide)
            have d2 : wr.cell? ⟨br, or + k, none⟩ = some (.slice ao m3 c3) := by rw [cell_below hbel hbr]; exact HCR.out
            have hq : (s.size : Int) + 1 ≤ 9223372036854775807 := by omega
            have hq' : ¬ (9223372036854775807 < s.size + 1) := by omega
            by_cases hltj : j < m3
            · obtain ⟨b2, off2, rfl, hb2, he2⟩ := HENTK.out j hltj
              obtain ⟨q, hqq⟩ : ∃ q, x[j]?.getD 0 = q := ⟨_, rfl⟩
              have hqb : 0 ≤ q ∧ q < 1000 := by
                have hjx : j < x.length := by rw [← HM3.out]; exact hltj
                rw [← hqq, List.getElem?_eq_getElem hjx, Option.getD_some]
                exact HXE.out _ (List.getElem_mem hjx)
              rw [hqq] at he2
              obtain ⟨q, rfl⟩ := Int.eq_ofNat_of_zero_le hqb.1
              have hq1000 : q < 1000 := by omega
              have d3 : wr.cell? ⟨b2, off2 + j, none⟩ = some (.int .i64 (q : Int)) := by rw [cell_below hbel hb2]; exact he2
              have HB := Lib.hid hbel
              have HR := Lib.hid hrow
              clear hbel hrow he2 hqq
              by_cases hj0 : 0 < j
              · have hj0' : (0 : Int) < (j : Int) := by omega
                obtain ⟨s3, hs3⟩ : ∃ s3, s ++ ByteArray.mk #[44] = s3 := ⟨_, rfl⟩
                have hs3z : s3.size ≤ 9 + k * 10000 + j * 1100 := by rw [← hs3, append_size, size_1]; omega
                go_wp2_with fail
                refine (l19Dec_any q hq1000 wr).mono ?_
                rintro e w5 ⟨r, rfl, hr, hb5⟩
                have hq5 : ((s3).size : Int) + (r.size : Int) ≤ 9223372036854775807 := by omega
                have hq5' : ¬ (9223372036854775807 < (s3).size + r.size) := by omega
                have HB5 := Lib.hid (HB.out.trans (hb5.mono HB.out.size))
                have HR5 := Lib.hid (rowIs_below HR.out hb5)
                have hsz : (s3 ++ r).size ≤ 9 + k * 10000 + j * 1100 + 1001 := by rw [append_size]; omega
                clear hb5
                go_wp2
                go_roundw
                case rel => exact ⟨j + 1, _, by go_num, rfl, by omega, by omega, HB5.out, HR5.out⟩
                case measure => simp [intOf] <;> omega
              · have hj0' : ¬ (0 : Int) < (j : Int) := by omega
                obtain ⟨s3, hs3⟩ : ∃ s3, s = s3 := ⟨_, rfl⟩
                have hs3z : s3.size ≤ 9 + k * 10000 + j * 1100 := by rw [← hs3]; omega
                subst hs3
                go_wp2_with fail
                refine (l19Dec_any q hq1000 wr).mono ?_
                rintro e w5 ⟨r, rfl, hr, hb5⟩
                have hq5 : ((s).size : Int) + (r.size : Int) ≤ 9223372036854775807 := by omega
                have hq5' : ¬ (9223372036854775807 < (s).size + r.size) := by omega
                have HB5 := Lib.hid (HB.out.trans (hb5.mono HB.out.size))
                have HR5 := Lib.hid (rowIs_below HR.out hb5)
                have hsz : (s ++ r).size ≤ 9 + k * 10000 + j * 1100 + 1001 := by rw [append_size]; omega
                clear hb5
                go_wp2
                go_roundw
                case rel => exact ⟨j + 1, _, by go_num, rfl, by omega, by omega, HB5.out, HR5.out⟩
                case measure => simp [intOf] <;> omega
            · obtain rfl : j = m3 := by omega
              have HB := Lib.hid hbel
              have HR := Lib.hid hrow
              clear hbel hrow
              go_wp2
              go_roundw
              case rel => exact ⟨k + 1, s, by go_num, rfl, by omega, by omega, HB.out, HR.out⟩
              case measure => simp [intOf] <;> omega
      · obtain rfl : k = n1 := by omega
        go_wp2
        go_ret
        exact ⟨_, rfl, by omega, hbel⟩
end Go.Proofs.Ytagegbhchljggaa
