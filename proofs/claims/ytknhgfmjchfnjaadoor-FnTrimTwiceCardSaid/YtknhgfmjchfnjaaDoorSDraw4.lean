/- More draws of the laws on systems: runs, trimming, short traces. -/
import Derived.Test.YtknhgfmjchfnjaaDoorSDraw3


namespace Go.Proofs.YtknhgfmjchfnjaaDoor
open Go.RowKit
set_option linter.unusedVariables false
set_option linter.unusedSimpArgs false
set_option maxRecDepth 100000

set_option maxHeartbeats 1000000 in
theorem DrawRunOf_any (a : Option Addr) (len cap : Nat) (zs : List Int) (w : World) (hrow : IsRow w a len cap zs) : Calls Tryd.prog 27 #[.slice a len cap] w (DSysStr w) := by
  have hq0 := sys_cells w 0 0 (.slice none 0 0) 25
  have hb0 := below_new' w 25 #[.int .i64 0, .int .i64 0, .slice none 0 0]
  obtain ⟨Z, hZ⟩ : ∃ Z, w.heap.size = Z := ⟨_, rfl⟩
  obtain ⟨w0, hw0⟩ : ∃ w0, (w.alloc (.cells #[.int .i64 0, .int .i64 0, .slice none 0 0] 25)) = w0 := ⟨_, rfl⟩
  have hZw0 : w0.heap.size = w.heap.size + 1 := by rw [← hw0]; simp
  rw [hZ] at hq0
  rw [hw0] at hq0 hb0
  have hrow0 := IsRow.below hrow hb0
  go_enter Tryd.func27, Tryd.ntmps27
  go_wp2_with fail
  refine (drawStates_any a len cap zs w0 hrow0).mono ?_
  rintro e w1 ⟨al, st, ad, n, c, es, s, rfl, hs, hev, hes, hb1⟩
  have hQ7 := rowIs_below' hq0 hb1
  have hbw := hb0.trans (hb1.mono hb0.size)
  obtain ⟨wf, hwf⟩ : ∃ wf, (((w1.setCell ⟨Z, 0, none⟩ (.int .i64 al)).setCell ⟨Z, 1, none⟩ (.int .i64 st)).setCell ⟨Z, 2, none⟩ (.slice ad n c)) = wf := ⟨_, rfl⟩
  have hfin := rowIs_set3 hQ7 (.int .i64 al) (.int .i64 st) (.slice ad n c)
  have hbf : Below w.heap.size w _ := ((hbw.setCell (p := ⟨Z, 0, none⟩) (by simp; omega) (.int .i64 al)).setCell (p := ⟨Z, 1, none⟩) (by simp; omega) (.int .i64 st)).setCell (p := ⟨Z, 2, none⟩) (by simp; omega) (.slice ad n c)
  have e1 : EVR Z w1 (.slice ad n c) es := hev Z (by omega)
  have e2 : EVR Z (w1.setCell ⟨Z, 0, none⟩ (.int .i64 al)) (.slice ad n c) es := evr_set e1 e1
  have e3 : EVR Z ((w1.setCell ⟨Z, 0, none⟩ (.int .i64 al)).setCell ⟨Z, 1, none⟩ (.int .i64 st)) (.slice ad n c) es := evr_set e2 e2
  have e4 : EVR Z (((w1.setCell ⟨Z, 0, none⟩ (.int .i64 al)).setCell ⟨Z, 1, none⟩ (.int .i64 st)).setCell ⟨Z, 2, none⟩ (.slice ad n c)) (.slice ad n c) es := evr_set e3 e3
  have z0 : w1.cell? ⟨Z, 0, none⟩ = some (.int .i64 0) := hQ7.cell (by decide)
  have z1 : w1.cell? ⟨Z, 1, none⟩ = some (.int .i64 0) := hQ7.cell (by decide)
  have z2 : w1.cell? ⟨Z, 2, none⟩ = some (.slice none 0 0) := hQ7.cell (by decide)
  have zf0 := hQ7.frozen 0
  have zf1 := hQ7.frozen 1
  have zf2 := hQ7.frozen 2
  rw [hwf] at hfin hbf e4
  have f0 : wf.cell? ⟨Z, 0, none⟩ = some (.int .i64 al) := hfin.cell (by decide)
  have f1 : wf.cell? ⟨Z, 1, none⟩ = some (.int .i64 st) := hfin.cell (by decide)
  have f2 : wf.cell? ⟨Z, 2, none⟩ = some (.slice ad n c) := hfin.cell (by decide)
  clear hq0 hb0 hw0
  go_wp2
  refine bodyPost_ret (v := .tuple #[.agg #[.int .i64 al, .int .i64 st, .slice ad n c], .string s]) ?_ rfl ?_
  · simp [results, Tryd.results27, go_sem, f0, f1, f2]
  · exact ⟨al, st, ad, n, c, es, s, rfl, hs, fun R' hR' => EVR.le e4 (by omega), hes, hbf⟩
set_option maxHeartbeats 1000000 in
theorem drawTrim_any (a : Option Addr) (len cap : Nat) (zs : List Int) (w : World) (hrow : IsRow w a len cap zs) : Calls Tryd.prog 22 #[.slice a len cap] w (DSys w) := by
  have hq0 := sys_cells w 0 0 (.slice none 0 0) 25
  have hb0 := below_new' w 25 #[.int .i64 0, .int .i64 0, .slice none 0 0]
  obtain ⟨Z, hZ⟩ : ∃ Z, w.heap.size = Z := ⟨_, rfl⟩
  obtain ⟨w0, hw0⟩ : ∃ w0, (w.alloc (.cells #[.int .i64 0, .int .i64 0, .slice none 0 0] 25)) = w0 := ⟨_, rfl⟩
  have hZw0 : w0.heap.size = w.heap.size + 1 := by rw [← hw0]; simp
  rw [hZ] at hq0
  rw [hw0] at hq0 hb0
  have hrow0 := IsRow.below hrow hb0
  go_enter Tryd.func22, Tryd.ntmps22
  go_wp2_with fail
  refine (drawValid_any' a len cap zs w0 hrow0).mono ?_
  rintro e w1 ⟨al, st, ad, n, c, es, rfl, hev, hes, hb1⟩
  have hQ7 := rowIs_below' hq0 hb1
  have hbw := hb0.trans (hb1.mono hb0.size)
  obtain ⟨wf, hwf⟩ : ∃ wf, (((w1.setCell ⟨Z, 0, none⟩ (.int .i64 al)).setCell ⟨Z, 1, none⟩ (.int .i64 st)).setCell ⟨Z, 2, none⟩ (.slice ad n c)) = wf := ⟨_, rfl⟩
  have hfin := rowIs_set3 hQ7 (.int .i64 al) (.int .i64 st) (.slice ad n c)
  have hbf : Below w.heap.size w _ := ((hbw.setCell (p := ⟨Z, 0, none⟩) (by simp; omega) (.int .i64 al)).setCell (p := ⟨Z, 1, none⟩) (by simp; omega) (.int .i64 st)).setCell (p := ⟨Z, 2, none⟩) (by simp; omega) (.slice ad n c)
  have e1 : EVR Z w1 (.slice ad n c) es := hev Z (by omega)
  have e2 : EVR Z (w1.setCell ⟨Z, 0, none⟩ (.int .i64 al)) (.slice ad n c) es := evr_set e1 e1
  have e3 : EVR Z ((w1.setCell ⟨Z, 0, none⟩ (.int .i64 al)).setCell ⟨Z, 1, none⟩ (.int .i64 st)) (.slice ad n c) es := evr_set e2 e2
  have e4 : EVR Z (((w1.setCell ⟨Z, 0, none⟩ (.int .i64 al)).setCell ⟨Z, 1, none⟩ (.int .i64 st)).setCell ⟨Z, 2, none⟩ (.slice ad n c)) (.slice ad n c) es := evr_set e3 e3
  have z0 : w1.cell? ⟨Z, 0, none⟩ = some (.int .i64 0) := hQ7.cell (by decide)
  have z1 : w1.cell? ⟨Z, 1, none⟩ = some (.int .i64 0) := hQ7.cell (by decide)
  have z2 : w1.cell? ⟨Z, 2, none⟩ = some (.slice none 0 0) := hQ7.cell (by decide)
  have zf0 := hQ7.frozen 0
  have zf1 := hQ7.frozen 1
  have zf2 := hQ7.frozen 2
  rw [hwf] at hfin hbf e4
  have f0 : wf.cell? ⟨Z, 0, none⟩ = some (.int .i64 al) := hfin.cell (by decide)
  have f1 : wf.cell? ⟨Z, 1, none⟩ = some (.int .i64 st) := hfin.cell (by decide)
  have f2 : wf.cell? ⟨Z, 2, none⟩ = some (.slice ad n c) := hfin.cell (by decide)
  clear hq0 hb0 hw0
  go_wp2
  refine bodyPost_ret (v := .agg #[.int .i64 al, .int .i64 st, .slice ad n c]) ?_ rfl ?_
  · simp [results, Tryd.results22, go_sem, f0, f1, f2]
  · exact ⟨al, st, ad, n, c, es, rfl, fun R' hR' => EVR.le e4 (by omega), hes, hbf⟩
/-- A system and a number. -/
def DSysInt (w : World) (e : Ending) (w' : World) : Prop := ∃ (al st : Int) (a : Option Addr) (n c : Nat) (es : List Edg) (k : Int), e = .returned (.tuple #[.agg #[.int .i64 al, .int .i64 st, .slice a n c], .int .i64 k]) ∧ (-1 ≤ k ∧ k ≤ 8) ∧ (∀ R', R' ≤ w.heap.size → EVR R' w' (.slice a n c) es) ∧ es.length ≤ 5000 ∧ Below w.heap.size w w'
set_option maxHeartbeats 4000000 in
theorem drawTraces_any (a : Option Addr) (len cap : Nat) (zs : List Int) (w : World) (hrow : IsRow w a len cap zs) : Calls Tryd.prog 18 #[.slice a len cap] w (DSysInt w) := by
  have hq0 := sys_cells w 0 0 (.slice none 0 0) 25
  have hb0 := below_new' w 25 #[.int .i64 0, .int .i64 0, .slice none 0 0]
  obtain ⟨Z, hZ⟩ : ∃ Z, w.heap.size = Z := ⟨_, rfl⟩
  obtain ⟨w0, hw0⟩ : ∃ w0, (w.alloc (.cells #[.int .i64 0, .int .i64 0, .slice none 0 0] 25)) = w0 := ⟨_, rfl⟩
  have hZw0 : w0.heap.size = w.heap.size + 1 := by rw [← hw0]; simp
  rw [hZ] at hq0
  rw [hw0] at hq0 hb0
  have hrow0 := IsRow.below hrow hb0
  go_enter Tryd.func18, Tryd.ntmps18
  go_wp2_with fail
  refine (l19Open_any _ _ _ _ w0 hrow0).mono ?_
  rintro e w1 ⟨R, rfl, hr1, hR, hb1⟩
  have HB1 := Lib.hid (hb0.trans (hb1.mono hb0.size))
  have HQ1 := Lib.hid (rowIs_below' hq0 hb1)
  have hRZ : Z ≠ R := by omega
  have hZR : Z < R := by omega
  have hwR : w.heap.size ≤ R := by omega
  clear hb0 hq0 hb1 hw0 hrow0 hrow
  go_wp2_with fail
  refine (l2Draw_any R 0 w1 hr1 (by omega)).mono ?_
  rintro e w2 ⟨al, st, ad, n, c, es, rfl, hes, hev, p2, hp2, hr2, hg2⟩
  have hRw1 : R < w1.heap.size := hr1.lt
  have HE2 := Lib.hid (hev R hRw1)
  have HR2 := Lib.hid hr2
  have HG2 := Lib.hid hg2
  have HQ2 := Lib.hid (row_grown HQ1.out hg2 hRZ)
  clear hr1 hev hr2 hg2
  go_wp2_with fail
  refine (l2Wrong_any R p2 al st ad n c es w2 HR2.out (by omega) HE2.out (by omega)).mono ?_
  rintro e w3 ⟨al', st', ad', n', c', es', rfl, hes', hev', p3, hp3, hr3, hg3⟩
  have hRw2 : R < w2.heap.size := HR2.out.lt
  have HE3 := Lib.hid (hev' R hRw2)
  have HR3 := Lib.hid hr3
  have HG3 := Lib.hid (grown_trans HG2.out hg3)
  have HQ3 := Lib.hid (row_grown HQ2.out hg3 hRZ)
  clear hev' hr3 hg3
  go_wp2_with fail
  refine (num_lit R p3 [2, 3, 4, 1, 0, 5, -1, 8] _ _ w3 rfl HR3.out (by omega) 8 rfl (by omega) (by omega)).mono ?_
  rintro e w4 ⟨j, k, hj, hk, rfl, p4, hp4, hr4, hg4⟩
  have hkb : -1 ≤ k ∧ k ≤ 8 := getD_bd [2, 3, 4, 1, 0, 5, -1, 8] (fun k => -1 ≤ k ∧ k ≤ 8) (by decide) hj hk
  have hQ7 := row_grown HQ3.out hg4 hRZ
  have hbw : Below w.heap.size w w4 := draw_bel HB1.out hwR (grown_trans HG3.out hg4)
  have hev : ∀ R', R' ≤ Z → EVR R' w4 (.slice ad' n' c') es' := fun R' hR' => EVR.le (EVR.grown HE3.out hg4) (by omega)
  clear hr4 hg4 hj hk HE2 HR2 HG2 HQ2 HE3 HR3 HG3 HQ3 HB1 HQ1
  obtain ⟨wf, hwf⟩ : ∃ wf, (((w4.setCell ⟨Z, 0, none⟩ (.int .i64 al')).setCell ⟨Z, 1, none⟩ (.int .i64 st')).setCell ⟨Z, 2, none⟩ (.slice ad' n' c')) = wf := ⟨_, rfl⟩
  have hfin := rowIs_set3 hQ7 (.int .i64 al') (.int .i64 st') (.slice ad' n' c')
  have hbf : Below w.heap.size w _ := ((hbw.setCell (p := ⟨Z, 0, none⟩) (by simp; omega) (.int .i64 al')).setCell (p := ⟨Z, 1, none⟩) (by simp; omega) (.int .i64 st')).setCell (p := ⟨Z, 2, none⟩) (by simp; omega) (.slice ad' n' c')
  have e1 : EVR Z w4 (.slice ad' n' c') es' := hev Z (by omega)
  have e2 : EVR Z (w4.setCell ⟨Z, 0, none⟩ (.int .i64 al')) (.slice ad' n' c') es' := evr_set e1 e1
  have e3 : EVR Z ((w4.setCell ⟨Z, 0, none⟩ (.int .i64 al')).setCell ⟨Z, 1, none⟩ (.int .i64 st')) (.slice ad' n' c') es' := evr_set e2 e2
  have e4 : EVR Z (((w4.setCell ⟨Z, 0, none⟩ (.int .i64 al')).setCell ⟨Z, 1, none⟩ (.int .i64 st')).setCell ⟨Z, 2, none⟩ (.slice ad' n' c')) (.slice ad' n' c') es' := evr_set e3 e3
  have z0 : w4.cell? ⟨Z, 0, none⟩ = some (.int .i64 0) := hQ7.cell (by decide)
  have z1 : w4.cell? ⟨Z, 1, none⟩ = some (.int .i64 0) := hQ7.cell (by decide)
  have z2 : w4.cell? ⟨Z, 2, none⟩ = some (.slice none 0 0) := hQ7.cell (by decide)
  have zf0 := hQ7.frozen 0
  have zf1 := hQ7.frozen 1
  have zf2 := hQ7.frozen 2
  rw [hwf] at hfin hbf e4
  have f0 : wf.cell? ⟨Z, 0, none⟩ = some (.int .i64 al') := hfin.cell (by decide)
  have f1 : wf.cell? ⟨Z, 1, none⟩ = some (.int .i64 st') := hfin.cell (by decide)
  have f2 : wf.cell? ⟨Z, 2, none⟩ = some (.slice ad' n' c') := hfin.cell (by decide)
  go_wp2
  refine bodyPost_ret (v := .tuple #[.agg #[.int .i64 al', .int .i64 st', .slice ad' n' c'], .int .i64 k]) ?_ rfl ?_
  · simp [results, Tryd.results18, go_sem, f0, f1, f2]
  · exact ⟨al', st', ad', n', c', es', k, rfl, hkb, fun R' hR' => EVR.le e4 (by omega), by omega, hbf⟩
end Go.Proofs.YtknhgfmjchfnjaaDoor
