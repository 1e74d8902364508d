/- l3Draw, l3Any, DrawCountAccepted: what they draw. -/
import Derived.Test.YtagegbhchljggaaAParse2
import Derived.Test.YtagegbhchljggaaABig
import Derived.Test.YtagegbhchljggaaAWrong

namespace Go.Proofs.Ytagegbhchljggaa
open Go.RowKit
set_option linter.unusedVariables false
set_option linter.unusedSimpArgs false
set_option maxRecDepth 100000

/-- The texts, by their bytes (printed by a program off the text of l3Texts). -/
def textsA : List ByteArray := [ByteArray.mk #[97, 98, 32, 43, 49, 44, 48, 32, 45, 49, 44, 49], ByteArray.mk #[97, 98, 32, 43, 48, 44, 49, 32, 43, 50, 44, 49, 32, 45, 50, 44, 50], ByteArray.mk #[97, 99, 32, 43, 49, 44, 50, 32, 43, 49, 44, 50, 32, 45, 50, 44, 50], ByteArray.mk #[98, 32, 43, 49, 32, 45, 49], ByteArray.mk #[97, 98, 99, 32, 43, 49, 44, 48, 44, 50, 32, 43, 50, 44, 48, 44, 49, 32, 45, 50, 44, 50, 44, 50], ByteArray.mk #[45, 32, 43], ByteArray.mk #[45, 32, 45], ByteArray.mk #[97, 32, 43, 49, 32, 45, 48], ByteArray.mk #[97, 98, 32, 43, 48, 44, 49, 32, 45, 48, 44, 49], ByteArray.mk #[98, 99, 32, 43, 49, 44, 50, 32, 43, 50, 44, 48, 32, 45, 50, 44, 50], ByteArray.mk #[97, 98, 32, 43, 49, 44, 50, 32, 45, 49, 44, 51, 32, 43, 52, 44, 50, 32, 45, 49, 44, 51, 32, 43, 52, 44, 50], ByteArray.mk #[97, 98, 99, 32, 43, 48, 44, 49, 44, 48, 32, 43, 48, 44, 49, 44, 50, 32, 45, 50, 44, 50, 44, 50]]
theorem textsA_len : textsA.length = 12 := rfl
theorem textsA_sz : textsA.all (fun x => decide (x.size ≤ 60)) = true := by decide
theorem l3Texts_any (w : World) : Calls Try.prog 78 #[] w (fun e w' => e = .returned (.slice (some ⟨w.heap.size, 0, none⟩) 12 12) ∧ w' = w.alloc (.cells (textsA.map Value.string).toArray 9)) := by
  go_enter Try.func78, Try.ntmps78
  go_wp2
  go_ret
  exact ⟨rfl, rfl⟩
theorem DA.mono {R p K K' N N' : Nat} {w w' : World} {e : Ending} (h : DA R p K N w e w') (hK : K ≤ K') (hN : N ≤ N') : DA R p K' N' w e w' := by
  obtain ⟨al, a1, n1, c1, a2, n2, c2, us, xss, bs, h1, h2, h3, h4, h5, h6, h7⟩ := h
  exact ⟨al, a1, n1, c1, a2, n2, c2, us, xss, bs, h1, h2, h3, by omega, by omega, fun l hl => Nat.le_trans (h6 l hl) hN, adv_mono h7 hK⟩
set_option maxHeartbeats 8000000 in
theorem l3Draw_any (R p : Nat) (w : World) (hr : RdOk R p w) (hp : p ≤ 700000) : Calls Try.prog 73 #[.pointer (some ⟨R, 0, none⟩)] w (DA R p 150 100 w) := by
  have hRlt := hr.lt
  have hq0 := own_cells w #[.int .i64 0, .slice none 0 0, .slice none 0 0] 28 3 rfl
  have hb0 := below_newA w 28 #[.int .i64 0, .slice none 0 0, .slice none 0 0]
  obtain ⟨Z, hZ⟩ : ∃ Z, w.heap.size = Z := ⟨_, rfl⟩
  obtain ⟨w0, hw0⟩ : ∃ w0, (w.alloc (.cells #[.int .i64 0, .slice none 0 0, .slice none 0 0] 28)) = w0 := ⟨_, rfl⟩
  have hs0 : w0.heap.size = Z + 1 := by rw [← hw0, ← hZ]; simp
  rw [hZ] at hq0
  rw [hw0] at hq0 hb0
  have hr0 := hr.below hb0
  have hg0 := grown_below (some R) hb0
  have hRZ : Z ≠ R := by omega
  go_enter Try.func73, Try.ntmps73
  go_wp2_with fail
  refine (pick_any R p 3 w0 hr0 (by omega)).mono ?_
  rintro e w1 ⟨k, rfl, -, -, hr1, hg1⟩
  have HQ := Lib.hid (row_grownA hq0 hg1 hRZ)
  have HG := Lib.hid (grown_trans hg0 hg1)
  have HR := Lib.hid hr1
  have hz1 := hg1.size
  clear hr0 hg0 hq0 hb0 hg1 hw0 hr1
  by_cases hk : k = 0
  · subst hk
    go_wp2_with fail
    refine (l3Texts_any w1).mono ?_
    rintro e w2 ⟨rfl, rfl⟩
    go_wp2_with fail
    refine (of_lit R (p + 1) textsA _ _ w1 rfl HR.out (by omega) 12 textsA_len (by omega) (by omega)).mono ?_
    rintro e w3 ⟨j, x, hj, hx, rfl, p3, hp3, hr3, hg3⟩
    have hxs := getD_sz textsA 60 textsA_sz hj hx
    have HQ3 := Lib.hid (row_grownA HQ.out hg3 hRZ)
    have HG3 := Lib.hid (grown_trans HG.out hg3)
    have hz3 := hg3.size
    clear hj hx hg3 HQ HG HR
    go_wp2_with fail
    refine (specParseAut_any x hxs w3).mono ?_
    rintro e w4 ⟨al, a1, n1, c1, a2, n2, c2, us, xss, bs, b, rfl, hax, hxl, hbl, hxx, hb4⟩
    have hz4 := hb4.size
    obtain ⟨S, hS⟩ : ∃ S, w4.heap.size = S := ⟨_, rfl⟩
    have hs5 := own_cells w4 #[.int .i64 al, .slice a1 n1 c1, .slice a2 n2 c2] 28 3 rfl
    have hb5 := below_newA w4 28 #[.int .i64 al, .slice a1 n1 c1, .slice a2 n2 c2]
    obtain ⟨w5, hw5⟩ : ∃ w5, (w4.alloc (.cells #[.int .i64 al, .slice a1 n1 c1, .slice a2 n2 c2] 28)) = w5 := ⟨_, rfl⟩
    rw [hS] at hs5
    rw [hw5] at hs5 hb5
    have HAX := Lib.hid (hax.below hb5)
    have HQ := Lib.hid (rowIs_below (rowIs_below HQ3.out hb4) hb5)
    have HG := Lib.hid (grown_trans HG3.out (grown_trans (grown_below (some R) hb4) (grown_below (some R) hb5)))
    have HR := Lib.hid ((hr3.below hb4).below hb5)
    have HXL := Lib.hid hxl; clear hxl
    have HBL := Lib.hid hbl; clear hbl
    have HXX := Lib.hid hxx; clear hxx
    have s0 : w5.cell? ⟨S, 0, none⟩ = some (.int .i64 al) := hs5.cell (by decide)
    have s1 : w5.cell? ⟨S, 1, none⟩ = some (.slice a1 n1 c1) := hs5.cell (by decide)
    have s2 : w5.cell? ⟨S, 2, none⟩ = some (.slice a2 n2 c2) := hs5.cell (by decide)
    have hz5 := hb5.size
    clear hax hb4 hb5 HQ3 HG3 hr3 hs5
    cases b with
    | true =>
      have z0 : w5.cell? ⟨Z, 0, none⟩ = some (.int .i64 0) := HQ.out.cell (by decide)
      have z1 : w5.cell? ⟨Z, 1, none⟩ = some (.slice none 0 0) := HQ.out.cell (by decide)
      have z2 : w5.cell? ⟨Z, 2, none⟩ = some (.slice none 0 0) := HQ.out.cell (by decide)
      have zf0 := HQ.out.frozen 0
      have zf1 := HQ.out.frozen 1
      have zf2 := HQ.out.frozen 2
      go_wp2
      have hret := AX.ret HAX.out HR.out HG.out HQ.out (Nat.le_of_eq hZ) hRlt (u0 := .int .i64 al) (u1 := .slice a1 n1 c1) (u2 := .slice a2 n2 c2)
      have hfin := rowIs_set3A HQ.out (.int .i64 al) (.slice a1 n1 c1) (.slice a2 n2 c2)
      obtain ⟨wf, hwf⟩ : ∃ wf, (((w5.setCell ⟨Z, 0, none⟩ (.int .i64 al)).setCell ⟨Z, 1, none⟩ (.slice a1 n1 c1)).setCell ⟨Z, 2, none⟩ (.slice a2 n2 c2)) = wf := ⟨_, rfl⟩
      rw [hwf] at hfin hret ⊢
      clear hwf
      have f0 : wf.cell? ⟨Z, 0, none⟩ = some (.int .i64 al) := hfin.cell (by decide)
      have f1 : wf.cell? ⟨Z, 1, none⟩ = some (.slice a1 n1 c1) := hfin.cell (by decide)
      have f2 : wf.cell? ⟨Z, 2, none⟩ = some (.slice a2 n2 c2) := hfin.cell (by decide)
      refine bodyPost_ret (v := .agg #[.int .i64 al, .slice a1 n1 c1, .slice a2 n2 c2]) ?_ rfl ?_
      · simp [results, Try.results73, go_sem, f0, f1, f2]
      · exact ⟨_, _, _, _, _, _, _, _, _, _, rfl, hret.1.1.base (by omega), hret.1.2.base (by omega), HXL.out, HBL.out, HXX.out, ⟨p3, by omega, hret.2.1, hret.2.2⟩⟩
    | false =>
      clear HAX HXL HBL HXX s0 s1 s2
      go_wp2_with fail
      refine (num_lit R (p3) [3, 6, 7, 5, 1, 0, 2] _ _ w5 rfl HR.out (by omega) 7 rfl (by omega) (by omega)).mono ?_
      rintro e wa ⟨j1, al2, hj1, hx1, rfl, pa, hpa, hra, hga⟩
      have hal : isA al2 = true := getD_bd _ (fun x => isA x = true) (by decide) hj1 hx1
      have HAL := Lib.hid hal
      have HQ2 := Lib.hid (row_grownA HQ.out hga hRZ)
      have HG2 := Lib.hid (grown_trans HG.out hga)
      have hsza := hga.size
      clear hal hx1 hj1 hga HQ HG HR
      have HQ := HQ2
      have HG := HG2
      have HR := Lib.hid hra
      clear HQ2 HG2
      go_wp2_with fail
      refine (l3Over_any R pa al2 wa hra (by omega) HAL.out).mono ?_
      clear hra
      rintro e wd ⟨al', a1, n1, c1, a2, n2, c2, us, xss, bs, rfl, hro, htr, hxl, hbl, hxx, pd, hpd, hrd, hgd⟩
      have hsz2 := hgd.size
      have HAX := Lib.hid (show AX wa.heap.size wd (.slice a1 n1 c1) (.slice a2 n2 c2) us xss bs from ⟨hro, htr⟩)
      have HXL := Lib.hid hxl; clear hxl
      have HBL := Lib.hid hbl; clear hbl
      have HXX := Lib.hid hxx; clear hxx
      have HQD := Lib.hid (row_grownA HQ.out hgd hRZ)
      have HGD := Lib.hid (grown_trans HG.out hgd)
      have HRD := Lib.hid hrd
      clear hro htr hrd hgd HQ HG HR
      have HQ := HQD
      have HG := HGD
      have HR := HRD
      clear HQD HGD HRD
      have z0 : wd.cell? ⟨Z, 0, none⟩ = some (.int .i64 0) := HQ.out.cell (by decide)
      have z1 : wd.cell? ⟨Z, 1, none⟩ = some (.slice none 0 0) := HQ.out.cell (by decide)
      have z2 : wd.cell? ⟨Z, 2, none⟩ = some (.slice none 0 0) := HQ.out.cell (by decide)
      have zf0 := HQ.out.frozen 0
      have zf1 := HQ.out.frozen 1
      have zf2 := HQ.out.frozen 2
      go_wp2
      have hret := AX.ret HAX.out HR.out HG.out HQ.out (Nat.le_of_eq hZ) hRlt (u0 := .int .i64 al') (u1 := .slice a1 n1 c1) (u2 := .slice a2 n2 c2)
      have hfin := rowIs_set3A HQ.out (.int .i64 al') (.slice a1 n1 c1) (.slice a2 n2 c2)
      obtain ⟨wf, hwf⟩ : ∃ wf, (((wd.setCell ⟨Z, 0, none⟩ (.int .i64 al')).setCell ⟨Z, 1, none⟩ (.slice a1 n1 c1)).setCell ⟨Z, 2, none⟩ (.slice a2 n2 c2)) = wf := ⟨_, rfl⟩
      rw [hwf] at hfin hret ⊢
      clear hwf
      have f0 : wf.cell? ⟨Z, 0, none⟩ = some (.int .i64 al') := hfin.cell (by decide)
      have f1 : wf.cell? ⟨Z, 1, none⟩ = some (.slice a1 n1 c1) := hfin.cell (by decide)
      have f2 : wf.cell? ⟨Z, 2, none⟩ = some (.slice a2 n2 c2) := hfin.cell (by decide)
      refine bodyPost_ret (v := .agg #[.int .i64 al', .slice a1 n1 c1, .slice a2 n2 c2]) ?_ rfl ?_
      · simp [results, Try.results73, go_sem, f0, f1, f2]
      · exact ⟨_, _, _, _, _, _, _, _, _, _, rfl, hret.1.1.base (by omega), hret.1.2.base (by omega), HXL.out, HBL.out, HXX.out, ⟨pd, by omega, hret.2.1, hret.2.2⟩⟩
  · go_wp2_with fail
    refine (num_lit R (p + 1) [3, 6, 7, 5, 1, 0, 2] _ _ w1 rfl HR.out (by omega) 7 rfl (by omega) (by omega)).mono ?_
    rintro e wa ⟨j1, al2, hj1, hx1, rfl, pa, hpa, hra, hga⟩
    have hal : isA al2 = true := getD_bd _ (fun x => isA x = true) (by decide) hj1 hx1
    have HAL := Lib.hid hal
    have HQ2 := Lib.hid (row_grownA HQ.out hga hRZ)
    have HG2 := Lib.hid (grown_trans HG.out hga)
    have hsza := hga.size
    clear hal hx1 hj1 hga HQ HG HR
    have HQ := HQ2
    have HG := HG2
    have HR := Lib.hid hra
    clear HQ2 HG2
    go_wp2_with fail
    refine (l3Over_any R pa al2 wa hra (by omega) HAL.out).mono ?_
    clear hra
    rintro e wd ⟨al', a1, n1, c1, a2, n2, c2, us, xss, bs, rfl, hro, htr, hxl, hbl, hxx, pd, hpd, hrd, hgd⟩
    have hsz2 := hgd.size
    have HAX := Lib.hid (show AX wa.heap.size wd (.slice a1 n1 c1) (.slice a2 n2 c2) us xss bs from ⟨hro, htr⟩)
    have HXL := Lib.hid hxl; clear hxl
    have HBL := Lib.hid hbl; clear hbl
    have HXX := Lib.hid hxx; clear hxx
    have HQD := Lib.hid (row_grownA HQ.out hgd hRZ)
    have HGD := Lib.hid (grown_trans HG.out hgd)
    have HRD := Lib.hid hrd
    clear hro htr hrd hgd HQ HG HR
    have HQ := HQD
    have HG := HGD
    have HR := HRD
    clear HQD HGD HRD
    have z0 : wd.cell? ⟨Z, 0, none⟩ = some (.int .i64 0) := HQ.out.cell (by decide)
    have z1 : wd.cell? ⟨Z, 1, none⟩ = some (.slice none 0 0) := HQ.out.cell (by decide)
    have z2 : wd.cell? ⟨Z, 2, none⟩ = some (.slice none 0 0) := HQ.out.cell (by decide)
    have zf0 := HQ.out.frozen 0
    have zf1 := HQ.out.frozen 1
    have zf2 := HQ.out.frozen 2
    go_wp2
    have hret := AX.ret HAX.out HR.out HG.out HQ.out (Nat.le_of_eq hZ) hRlt (u0 := .int .i64 al') (u1 := .slice a1 n1 c1) (u2 := .slice a2 n2 c2)
    have hfin := rowIs_set3A HQ.out (.int .i64 al') (.slice a1 n1 c1) (.slice a2 n2 c2)
    obtain ⟨wf, hwf⟩ : ∃ wf, (((wd.setCell ⟨Z, 0, none⟩ (.int .i64 al')).setCell ⟨Z, 1, none⟩ (.slice a1 n1 c1)).setCell ⟨Z, 2, none⟩ (.slice a2 n2 c2)) = wf := ⟨_, rfl⟩
    rw [hwf] at hfin hret ⊢
    clear hwf
    have f0 : wf.cell? ⟨Z, 0, none⟩ = some (.int .i64 al') := hfin.cell (by decide)
    have f1 : wf.cell? ⟨Z, 1, none⟩ = some (.slice a1 n1 c1) := hfin.cell (by decide)
    have f2 : wf.cell? ⟨Z, 2, none⟩ = some (.slice a2 n2 c2) := hfin.cell (by decide)
    refine bodyPost_ret (v := .agg #[.int .i64 al', .slice a1 n1 c1, .slice a2 n2 c2]) ?_ rfl ?_
    · simp [results, Try.results73, go_sem, f0, f1, f2]
    · exact ⟨_, _, _, _, _, _, _, _, _, _, rfl, hret.1.1.base (by omega), hret.1.2.base (by omega), HXL.out, HBL.out, HXX.out, ⟨pd, by omega, hret.2.1, hret.2.2⟩⟩
set_option maxHeartbeats 8000000 in
theorem l3Any_any (R p : Nat) (w : World) (hr : RdOk R p w) (hp : p ≤ 600000) : Calls Try.prog 57 #[.pointer (some ⟨R, 0, none⟩)] w (DA R p 200 120 w) := by
  have hRlt := hr.lt
  have hq0 := own_cells w #[.int .i64 0, .slice none 0 0, .slice none 0 0] 28 3 rfl
  have hb0 := below_newA w 28 #[.int .i64 0, .slice none 0 0, .slice none 0 0]
  obtain ⟨Z, hZ⟩ : ∃ Z, w.heap.size = Z := ⟨_, rfl⟩
  obtain ⟨w0, hw0⟩ : ∃ w0, (w.alloc (.cells #[.int .i64 0, .slice none 0 0, .slice none 0 0] 28)) = w0 := ⟨_, rfl⟩
  have hs0 : w0.heap.size = Z + 1 := by rw [← hw0, ← hZ]; simp
  rw [hZ] at hq0
  rw [hw0] at hq0 hb0
  have hr0 := hr.below hb0
  have hg0 := grown_below (some R) hb0
  have hRZ : Z ≠ R := by omega
  go_enter Try.func57, Try.ntmps57
  go_wp2_with fail
  refine (pick_any R p 12 w0 hr0 (by omega)).mono ?_
  rintro e w1 ⟨k, rfl, -, -, hr1, hg1⟩
  have HQ := Lib.hid (row_grownA hq0 hg1 hRZ)
  have HG := Lib.hid (grown_trans hg0 hg1)
  have HR := Lib.hid hr1
  have hz1 := hg1.size
  clear hr0 hg0 hq0 hb0 hg1 hw0 hr1
  by_cases hk : k = 0
  · subst hk
    go_wp2_with fail
    refine ((l3Big_any R (p + 1) w1 HR.out (by omega)).mono (fun _ _ h => h.mono (N' := 120) (Nat.le_refl _) (by omega))).mono ?_
    rintro e w2 ⟨al', a1, n1, c1, a2, n2, c2, us, xss, bs, rfl, hro, htr, hxl, hbl, hxx, pd, hpd, hrd, hgd⟩
    have hsz2 := hgd.size
    have HAX := Lib.hid (show AX w1.heap.size w2 (.slice a1 n1 c1) (.slice a2 n2 c2) us xss bs from ⟨hro, htr⟩)
    have HXL := Lib.hid hxl; clear hxl
    have HBL := Lib.hid hbl; clear hbl
    have HXX := Lib.hid hxx; clear hxx
    have HQD := Lib.hid (row_grownA HQ.out hgd hRZ)
    have HGD := Lib.hid (grown_trans HG.out hgd)
    have HRD := Lib.hid hrd
    clear hro htr hrd hgd HQ HG HR
    have HQ := HQD
    have HG := HGD
    have HR := HRD
    clear HQD HGD HRD
    have z0 : w2.cell? ⟨Z, 0, none⟩ = some (.int .i64 0) := HQ.out.cell (by decide)
    have z1 : w2.cell? ⟨Z, 1, none⟩ = some (.slice none 0 0) := HQ.out.cell (by decide)
    have z2 : w2.cell? ⟨Z, 2, none⟩ = some (.slice none 0 0) := HQ.out.cell (by decide)
    have zf0 := HQ.out.frozen 0
    have zf1 := HQ.out.frozen 1
    have zf2 := HQ.out.frozen 2
    go_wp2
    have hret := AX.ret HAX.out HR.out HG.out HQ.out (Nat.le_of_eq hZ) hRlt (u0 := .int .i64 al') (u1 := .slice a1 n1 c1) (u2 := .slice a2 n2 c2)
    have hfin := rowIs_set3A HQ.out (.int .i64 al') (.slice a1 n1 c1) (.slice a2 n2 c2)
    obtain ⟨wf, hwf⟩ : ∃ wf, (((w2.setCell ⟨Z, 0, none⟩ (.int .i64 al')).setCell ⟨Z, 1, none⟩ (.slice a1 n1 c1)).setCell ⟨Z, 2, none⟩ (.slice a2 n2 c2)) = wf := ⟨_, rfl⟩
    rw [hwf] at hfin hret ⊢
    clear hwf
    have f0 : wf.cell? ⟨Z, 0, none⟩ = some (.int .i64 al') := hfin.cell (by decide)
    have f1 : wf.cell? ⟨Z, 1, none⟩ = some (.slice a1 n1 c1) := hfin.cell (by decide)
    have f2 : wf.cell? ⟨Z, 2, none⟩ = some (.slice a2 n2 c2) := hfin.cell (by decide)
    refine bodyPost_ret (v := .agg #[.int .i64 al', .slice a1 n1 c1, .slice a2 n2 c2]) ?_ rfl ?_
    · simp [results, Try.results57, go_sem, f0, f1, f2]
    · exact ⟨_, _, _, _, _, _, _, _, _, _, rfl, hret.1.1.base (by omega), hret.1.2.base (by omega), HXL.out, HBL.out, HXX.out, ⟨pd, by omega, hret.2.1, hret.2.2⟩⟩
  · go_wp2_with fail
    refine (l3Draw_any R (p + 1) w1 HR.out (by omega)).mono ?_
    rintro e w2 ⟨al', a1, n1, c1, a2, n2, c2, us, xss, bs, rfl, hro, htr, hxl, hbl, hxx, pd, hpd, hrd, hgd⟩
    have hsz2 := hgd.size
    have HAX := Lib.hid (show AX w1.heap.size w2 (.slice a1 n1 c1) (.slice a2 n2 c2) us xss bs from ⟨hro, htr⟩)
    have HXL := Lib.hid hxl; clear hxl
    have HBL := Lib.hid hbl; clear hbl
    have HXX := Lib.hid hxx; clear hxx
    have HQD := Lib.hid (row_grownA HQ.out hgd hRZ)
    have HGD := Lib.hid (grown_trans HG.out hgd)
    have HRD := Lib.hid hrd
    clear hro htr hrd hgd HQ HG HR
    have HQ := HQD
    have HG := HGD
    have HR := HRD
    clear HQD HGD HRD
    have hz2 := HG.out.size
    have hw12 : Z + 1 ≤ w1.heap.size := by omega
    have hw2 : w1.heap.size ≤ w2.heap.size := hsz2
    have hpd2 := hpd
    go_wp2_with fail
    refine (l3Wrong_any R pd al' a1 n1 c1 a2 n2 c2 xss bs w2 HR.out (by omega) (RO.mv HAX.out.1) (TRow.bv HAX.out.2) HXL.out HBL.out HXX.out).mono ?_
    obtain ⟨p2, hp2⟩ : ∃ p2, pd = p2 := ⟨_, rfl⟩
    rw [hp2] at hpd2 ⊢
    clear HXL HBL HXX HAX
    rintro e w3 ⟨al', a1, n1, c1, a2, n2, c2, us, xss, bs, rfl, hro, htr, hxl, hbl, hxx, pd, hpd, hrd, hgd⟩
    have hsz2 := hgd.size
    have HAX := Lib.hid (show AX w2.heap.size w3 (.slice a1 n1 c1) (.slice a2 n2 c2) us xss bs from ⟨hro, htr⟩)
    have HXL := Lib.hid hxl; clear hxl
    have HBL := Lib.hid hbl; clear hbl
    have HXX := Lib.hid hxx; clear hxx
    have HQD := Lib.hid (row_grownA HQ.out hgd hRZ)
    have HGD := Lib.hid (grown_trans HG.out hgd)
    have HRD := Lib.hid hrd
    clear hro htr hrd hgd HQ HG HR
    have HQ := HQD
    have HG := HGD
    have HR := HRD
    clear HQD HGD HRD
    have z0 : w3.cell? ⟨Z, 0, none⟩ = some (.int .i64 0) := HQ.out.cell (by decide)
    have z1 : w3.cell? ⟨Z, 1, none⟩ = some (.slice none 0 0) := HQ.out.cell (by decide)
    have z2 : w3.cell? ⟨Z, 2, none⟩ = some (.slice none 0 0) := HQ.out.cell (by decide)
    have zf0 := HQ.out.frozen 0
    have zf1 := HQ.out.frozen 1
    have zf2 := HQ.out.frozen 2
    go_wp2
    have hret := AX.ret HAX.out HR.out HG.out HQ.out (Nat.le_of_eq hZ) hRlt (u0 := .int .i64 al') (u1 := .slice a1 n1 c1) (u2 := .slice a2 n2 c2)
    have hfin := rowIs_set3A HQ.out (.int .i64 al') (.slice a1 n1 c1) (.slice a2 n2 c2)
    obtain ⟨wf, hwf⟩ : ∃ wf, (((w3.setCell ⟨Z, 0, none⟩ (.int .i64 al')).setCell ⟨Z, 1, none⟩ (.slice a1 n1 c1)).setCell ⟨Z, 2, none⟩ (.slice a2 n2 c2)) = wf := ⟨_, rfl⟩
    rw [hwf] at hfin hret ⊢
    clear hwf
    have f0 : wf.cell? ⟨Z, 0, none⟩ = some (.int .i64 al') := hfin.cell (by decide)
    have f1 : wf.cell? ⟨Z, 1, none⟩ = some (.slice a1 n1 c1) := hfin.cell (by decide)
    have f2 : wf.cell? ⟨Z, 2, none⟩ = some (.slice a2 n2 c2) := hfin.cell (by decide)
    refine bodyPost_ret (v := .agg #[.int .i64 al', .slice a1 n1 c1, .slice a2 n2 c2]) ?_ rfl ?_
    · simp [results, Try.results57, go_sem, f0, f1, f2]
    · exact ⟨_, _, _, _, _, _, _, _, _, _, rfl, hret.1.1.base (by omega), hret.1.2.base (by omega), HXL.out, HBL.out, HXX.out, ⟨pd, by omega, hret.2.1, hret.2.2⟩⟩
end Go.Proofs.Ytagegbhchljggaa
