/- l3Over: what it draws. -/
import Derived.Test.YtagegbhchljggaaASafe

namespace Go.Proofs.Ytagegbhchljggaa
open Go.RowKit
set_option linter.unusedVariables false
set_option linter.unusedSimpArgs false
set_option maxRecDepth 100000

theorem row_grownA {w w' : World} {R b n : Nat} {t : TypeId} {f : Nat → Value} (h : w.rowIs b t n f) (hg : w.grownBy w' (some R)) (hne : b ≠ R) : w'.rowIs b t n f :=
  h.of_block (hg.block b (World.rowIs.lt h) (fun e => by injection e with e; exact hne e))
theorem DAT.weak {al : Int} {R p K T N : Nat} {w w' : World} {e : Ending} (h : DAT al R p K T w e w') (hT : T ≤ N) (h6 : 6 ≤ N) : DA R p K N w e w' := by
  obtain ⟨a1, n1, c1, a2, n2, c2, us, xss, bs, h1, h2, h3, h4, h5, h7, h8⟩ := h
  exact ⟨al, a1, n1, c1, a2, n2, c2, us, xss, bs, h1, h2, h3, by omega, by omega, fun l hl => Nat.le_trans (h7 l hl) h6, h8⟩
set_option maxHeartbeats 4000000 in
theorem l3Over_any (R p : Nat) (al : Int) (w : World) (hr : RdOk R p w) (hp : p ≤ 800000) (hal : isA al = true) :
    Calls Try.prog 79 #[.pointer (some ⟨R, 0, none⟩), .int .i64 al] w (DA R p 110 100 w) := by
  have HAL := Lib.hid hal; clear hal
  have hRlt := hr.lt
  have hq0 := own_cells w #[.int .i64 0, .slice none 0 0, .slice none 0 0] 28 3 rfl
  have hb0 := below_newA w 28 #[.int .i64 0, .slice none 0 0, .slice none 0 0]
  obtain ⟨Z, hZ⟩ : ∃ Z, w.heap.size = Z := ⟨_, rfl⟩
  obtain ⟨w0, hw0⟩ : ∃ w0, (w.alloc (.cells #[.int .i64 0, .slice none 0 0, .slice none 0 0] 28)) = w0 := ⟨_, rfl⟩
  have hs0 : w0.heap.size = Z + 1 := by rw [← hw0, ← hZ]; simp
  rw [hZ] at hq0
  rw [hw0] at hq0 hb0
  have hr0 := hr.below hb0
  have hg0 := grown_below (some R) hb0
  have hRZ : Z ≠ R := by omega
  go_enter Try.func79, Try.ntmps79
  go_wp2_with fail
  refine (pick_any R p 2 w0 hr0 (by omega)).mono ?_
  rintro e w1 ⟨k, rfl, -, -, hr1, hg1⟩
  have HQ1 := Lib.hid (row_grownA hq0 hg1 hRZ)
  have HG1 := Lib.hid (grown_trans hg0 hg1)
  have hz1 := hg1.size
  clear hr0 hg0 hq0 hb0 hg1 hw0
  by_cases hk : k = 0
  · subst hk
    go_wp2_with fail
    refine (num_lit R (p + 1) [3, 2, 4, 1] _ _ w1 rfl hr1 (by omega) 4 rfl (by omega) (by omega)).mono ?_
    rintro e w2 ⟨j2, T, hj2, hx2, rfl, p2, hp2, hr2, hg2⟩
    obtain ⟨hT0', hT5⟩ : 1 ≤ T ∧ T ≤ 5 := getD_bd _ (fun x => 1 ≤ x ∧ x ≤ 5) (by decide) hj2 hx2
    obtain ⟨T, rfl⟩ := Int.eq_ofNat_of_zero_le (show 0 ≤ T by omega)
    have HQ := Lib.hid (row_grownA HQ1.out hg2 hRZ)
    have HG := Lib.hid (grown_trans HG1.out hg2)
    have hz2 := hg2.size
    clear hx2 hj2 hg2 hr1 HQ1 HG1
    go_wp2_with fail
    refine ((l3Safe_any R p2 al T w2 hr2 (by omega) HAL.out (by omega) (by omega)).mono (fun _ _ h => h.weak (N := 100) (by omega) (by omega))).mono ?_
    have HR := Lib.hid hr2
    clear hr2
    rintro e w3 ⟨al', a1, n1, c1, a2, n2, c2, us, xss, bs, rfl, hro, htr, hxl, hbl, hxx, pd, hpd, hrd, hgd⟩
    have HAX := Lib.hid (show AX w2.heap.size w3 (.slice a1 n1 c1) (.slice a2 n2 c2) us xss bs from ⟨hro, htr⟩)
    have HXL := Lib.hid hxl; clear hxl
    have HBL := Lib.hid hbl; clear hbl
    have HXX := Lib.hid hxx; clear hxx
    have HQD := Lib.hid (row_grownA HQ.out hgd hRZ)
    have HGD := Lib.hid (grown_trans HG.out hgd)
    have HRD := Lib.hid hrd
    clear hro htr hrd hgd HQ HG HR
    have HQ := HQD
    have HG := HGD
    have HR := HRD
    clear HQD HGD HRD
    have z0 : w3.cell? ⟨Z, 0, none⟩ = some (.int .i64 0) := HQ.out.cell (by decide)
    have z1 : w3.cell? ⟨Z, 1, none⟩ = some (.slice none 0 0) := HQ.out.cell (by decide)
    have z2 : w3.cell? ⟨Z, 2, none⟩ = some (.slice none 0 0) := HQ.out.cell (by decide)
    have zf0 := HQ.out.frozen 0
    have zf1 := HQ.out.frozen 1
    have zf2 := HQ.out.frozen 2
    go_wp2
    have hret := AX.ret HAX.out HR.out HG.out HQ.out (Nat.le_of_eq hZ) hRlt (u0 := .int .i64 al') (u1 := .slice a1 n1 c1) (u2 := .slice a2 n2 c2)
    have hfin := rowIs_set3A HQ.out (.int .i64 al') (.slice a1 n1 c1) (.slice a2 n2 c2)
    obtain ⟨wf, hwf⟩ : ∃ wf, (((w3.setCell ⟨Z, 0, none⟩ (.int .i64 al')).setCell ⟨Z, 1, none⟩ (.slice a1 n1 c1)).setCell ⟨Z, 2, none⟩ (.slice a2 n2 c2)) = wf := ⟨_, rfl⟩
    rw [hwf] at hfin hret ⊢
    clear hwf
    have f0 : wf.cell? ⟨Z, 0, none⟩ = some (.int .i64 al') := hfin.cell (by decide)
    have f1 : wf.cell? ⟨Z, 1, none⟩ = some (.slice a1 n1 c1) := hfin.cell (by decide)
    have f2 : wf.cell? ⟨Z, 2, none⟩ = some (.slice a2 n2 c2) := hfin.cell (by decide)
    refine bodyPost_ret (v := .agg #[.int .i64 al', .slice a1 n1 c1, .slice a2 n2 c2]) ?_ rfl ?_
    · simp [results, Try.results79, go_sem, f0, f1, f2]
    · exact ⟨_, _, _, _, _, _, _, _, _, _, rfl, hret.1.1.base (by omega), hret.1.2.base (by omega), HXL.out, HBL.out, HXX.out, ⟨pd, by omega, hret.2.1, hret.2.2⟩⟩
  · go_wp2_with fail
    refine (num_lit R (p + 1) [2, 3, 1, 4, 5] _ _ w1 rfl hr1 (by omega) 5 rfl (by omega) (by omega)).mono ?_
    rintro e w2 ⟨j2, T, hj2, hx2, rfl, p2, hp2, hr2, hg2⟩
    obtain ⟨hT0', hT5⟩ : 1 ≤ T ∧ T ≤ 5 := getD_bd _ (fun x => 1 ≤ x ∧ x ≤ 5) (by decide) hj2 hx2
    obtain ⟨T, rfl⟩ := Int.eq_ofNat_of_zero_le (show 0 ≤ T by omega)
    have HQ := Lib.hid (row_grownA HQ1.out hg2 hRZ)
    have HG := Lib.hid (grown_trans HG1.out hg2)
    have hz2 := hg2.size
    clear hx2 hj2 hg2 hr1 HQ1 HG1
    go_wp2_with fail
    refine ((l3Random_any R p2 al T w2 hr2 (by omega) HAL.out (by omega)).mono (fun _ _ h => h.weak (N := 100) (by omega) (by omega))).mono ?_
    have HR := Lib.hid hr2
    clear hr2
    rintro e w3 ⟨al', a1, n1, c1, a2, n2, c2, us, xss, bs, rfl, hro, htr, hxl, hbl, hxx, pd, hpd, hrd, hgd⟩
    have HAX := Lib.hid (show AX w2.heap.size w3 (.slice a1 n1 c1) (.slice a2 n2 c2) us xss bs from ⟨hro, htr⟩)
    have HXL := Lib.hid hxl; clear hxl
    have HBL := Lib.hid hbl; clear hbl
    have HXX := Lib.hid hxx; clear hxx
    have HQD := Lib.hid (row_grownA HQ.out hgd hRZ)
    have HGD := Lib.hid (grown_trans HG.out hgd)
    have HRD := Lib.hid hrd
    clear hro htr hrd hgd HQ HG HR
    have HQ := HQD
    have HG := HGD
    have HR := HRD
    clear HQD HGD HRD
    have z0 : w3.cell? ⟨Z, 0, none⟩ = some (.int .i64 0) := HQ.out.cell (by decide)
    have z1 : w3.cell? ⟨Z, 1, none⟩ = some (.slice none 0 0) := HQ.out.cell (by decide)
    have z2 : w3.cell? ⟨Z, 2, none⟩ = some (.slice none 0 0) := HQ.out.cell (by decide)
    have zf0 := HQ.out.frozen 0
    have zf1 := HQ.out.frozen 1
    have zf2 := HQ.out.frozen 2
    go_wp2
    have hret := AX.ret HAX.out HR.out HG.out HQ.out (Nat.le_of_eq hZ) hRlt (u0 := .int .i64 al') (u1 := .slice a1 n1 c1) (u2 := .slice a2 n2 c2)
    have hfin := rowIs_set3A HQ.out (.int .i64 al') (.slice a1 n1 c1) (.slice a2 n2 c2)
    obtain ⟨wf, hwf⟩ : ∃ wf, (((w3.setCell ⟨Z, 0, none⟩ (.int .i64 al')).setCell ⟨Z, 1, none⟩ (.slice a1 n1 c1)).setCell ⟨Z, 2, none⟩ (.slice a2 n2 c2)) = wf := ⟨_, rfl⟩
    rw [hwf] at hfin hret ⊢
    clear hwf
    have f0 : wf.cell? ⟨Z, 0, none⟩ = some (.int .i64 al') := hfin.cell (by decide)
    have f1 : wf.cell? ⟨Z, 1, none⟩ = some (.slice a1 n1 c1) := hfin.cell (by decide)
    have f2 : wf.cell? ⟨Z, 2, none⟩ = some (.slice a2 n2 c2) := hfin.cell (by decide)
    refine bodyPost_ret (v := .agg #[.int .i64 al', .slice a1 n1 c1, .slice a2 n2 c2]) ?_ rfl ?_
    · simp [results, Try.results79, go_sem, f0, f1, f2]
    · exact ⟨_, _, _, _, _, _, _, _, _, _, rfl, hret.1.1.base (by omega), hret.1.2.base (by omega), HXL.out, HBL.out, HXX.out, ⟨pd, by omega, hret.2.1, hret.2.2⟩⟩
end Go.Proofs.Ytagegbhchljggaa
