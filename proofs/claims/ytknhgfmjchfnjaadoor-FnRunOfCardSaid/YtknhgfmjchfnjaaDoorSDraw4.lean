/- More draws of the laws on systems: runs, trimming, short traces. -/
import Derived.Test.YtknhgfmjchfnjaaDoorSDraw3


namespace Go.Proofs.YtknhgfmjchfnjaaDoor
open Go.RowKit
set_option linter.unusedVariables false
set_option linter.unusedSimpArgs false
set_option maxRecDepth 100000

set_option maxHeartbeats 1000000 in
theorem DrawRunOf_any (a : Option Addr) (len cap : Nat) (zs : List Int) (w : World) (hrow : IsRow w a len cap zs) : Calls Tryd.prog 27 #[.slice a len cap] w (DSysStr w) := by
  have hq0 := sys_cells w 0 0 (.slice none 0 0) 25
  have hb0 := below_new' w 25 #[.int .i64 0, .int .i64 0, .slice none 0 0]
  obtain ⟨Z, hZ⟩ : ∃ Z, w.heap.size = Z := ⟨_, rfl⟩
  obtain ⟨w0, hw0⟩ : ∃ w0, (w.alloc (.cells #[.int .i64 0, .int .i64 0, .slice none 0 0] 25)) = w0 := ⟨_, rfl⟩
  have hZw0 : w0.heap.size = w.heap.size + 1 := by rw [← hw0]; simp
  rw [hZ] at hq0
  rw [hw0] at hq0 hb0
  have hrow0 := IsRow.below hrow hb0
  go_enter Tryd.func27, Tryd.ntmps27
  go_wp2_with fail
  refine (drawStates_any a len cap zs w0 hrow0).mono ?_
  rintro e w1 ⟨al, st, ad, n, c, es, s, rfl, hs, hev, hes, hb1⟩
  have hQ7 := rowIs_below' hq0 hb1
  have hbw := hb0.trans (hb1.mono hb0.size)
  obtain ⟨wf, hwf⟩ : ∃ wf, (((w1.setCell ⟨Z, 0, none⟩ (.int .i64 al)).setCell ⟨Z, 1, none⟩ (.int .i64 st)).setCell ⟨Z, 2, none⟩ (.slice ad n c)) = wf := ⟨_, rfl⟩
  have hfin := rowIs_set3 hQ7 (.int .i64 al) (.int .i64 st) (.slice ad n c)
  have hbf : Below w.heap.size w _ := ((hbw.setCell (p := ⟨Z, 0, none⟩) (by simp; omega) (.int .i64 al)).setCell (p := ⟨Z, 1, none⟩) (by simp; omega) (.int .i64 st)).setCell (p := ⟨Z, 2, none⟩) (by simp; omega) (.slice ad n c)
  have e1 : EVR Z w1 (.slice ad n c) es := hev Z (by omega)
  have e2 : EVR Z (w1.setCell ⟨Z, 0, none⟩ (.int .i64 al)) (.slice ad n c) es := evr_set e1 e1
  have e3 : EVR Z ((w1.setCell ⟨Z, 0, none⟩ (.int .i64 al)).setCell ⟨Z, 1, none⟩ (.int .i64 st)) (.slice ad n c) es := evr_set e2 e2
  have e4 : EVR Z (((w1.setCell ⟨Z, 0, none⟩ (.int .i64 al)).setCell ⟨Z, 1, none⟩ (.int .i64 st)).setCell ⟨Z, 2, none⟩ (.slice ad n c)) (.slice ad n c) es := evr_set e3 e3
  have z0 : w1.cell? ⟨Z, 0, none⟩ = some (.int .i64 0) := hQ7.cell (by decide)
  have z1 : w1.cell? ⟨Z, 1, none⟩ = some (.int .i64 0) := hQ7.cell (by decide)
  have z2 : w1.cell? ⟨Z, 2, none⟩ = some (.slice none 0 0) := hQ7.cell (by decide)
  have zf0 := hQ7.frozen 0
  have zf1 := hQ7.frozen 1
  have zf2 := hQ7.frozen 2
  rw [hwf] at hfin hbf e4
  have f0 : wf.cell? ⟨Z, 0, none⟩ = some (.int .i64 al) := hfin.cell (by decide)
  have f1 : wf.cell? ⟨Z, 1, none⟩ = some (.int .i64 st) := hfin.cell (by decide)
  have f2 : wf.cell? ⟨Z, 2, none⟩ = some (.slice ad n c) := hfin.cell (by decide)
  clear hq0 hb0 hw0
  go_wp2
  refine bodyPost_ret (v := .tuple #[.agg #[.int .i64 al, .int .i64 st, .slice ad n c], .string s]) ?_ rfl ?_
  · simp [results, Tryd.results27, go_sem, f0, f1, f2]
  · exact ⟨al, st, ad, n, c, es, s, rfl, hs, fun R' hR' => EVR.le e4 (by omega), hes, hbf⟩
set_option maxHeartbeats 1000000 in
theorem drawTrim_any (a : Option Addr) (len cap : Nat) (zs : List Int) (w : World) (hrow : IsRow w a len cap zs) : Calls Tryd.prog 22 #[.slice a len cap] w (DSys w) := by
  have hq0 := sys_cells w 0 0 (.slice none 0 0) 25
  have hb0 := below_new' w 25 #[.int .i64 0, .int .i64 0, .slice none 0 0]
  obtain ⟨Z, hZ⟩ : ∃ Z, w.heap.size = Z := ⟨_, rfl⟩
  obtain ⟨w0, hw0⟩ : ∃ w0, (w.alloc (.cells #[.int .i64 0, .int .i64 0, .slice none 0 0] 25)) = w0 := ⟨_, rfl⟩
  have hZw0 : w0.heap.size = w.heap.size + 1 := by rw [← hw0]; simp
  rw [hZ] at hq0
  rw [hw0] at hq0 hb0
  have hrow0 := IsRow.below hrow hb0
  go_enter Tryd.func22, Tryd.ntmps22
  go_wp2_with fail
  refine (drawValid_any' a len cap zs w0 hrow0).mono ?_
  rintro e w1 ⟨al, st, ad, n, c, es, rfl, hev, hes, hb1⟩
  have hQ7 := rowIs_below' hq0 hb1
  have hbw := hb0.trans (hb1.mono hb0.size)
  obtain ⟨wf, hwf⟩ : ∃ wf, (((w1.setCell ⟨Z, 0, none⟩ (.int .i64 al)).setCell ⟨Z, 1, none⟩ (.int .i64 st)).setCell ⟨Z, 2, none⟩ (.slice ad n c)) = wf := ⟨_, rfl⟩
  have hfin := rowIs_set3 hQ7 (.int .i64 al) (.int .i64 st) (.slice ad n c)
  have hbf : Below w.heap.size w _ := ((hbw.setCell (p := ⟨Z, 0, none⟩) (by simp; omega) (.int .i64 al)).setCell (p := ⟨Z, 1, none⟩) (by simp; omega) (.int .i64 st)).setCell (p := ⟨Z, 2, none⟩) (by simp; omega) (.slice ad n c)
  have e1 : EVR Z w1 (.slice ad n c) es := hev Z (by omega)
  have e2 : EVR Z (w1.setCell ⟨Z, 0, none⟩ (.int .i64 al)) (.slice ad n c) es := evr_set e1 e1
  have e3 : EVR Z ((w1.setCell ⟨Z, 0, none⟩ (.int .i64 al)).setCell ⟨Z, 1, none⟩ (.int .i64 st)) (.slice ad n c) es := evr_set e2 e2
  have e4 : EVR Z (((w1.setCell ⟨Z, 0, none⟩ (.int .i64 al)).setCell ⟨Z, 1, none⟩ (.int .i64 st)).setCell ⟨Z, 2, none⟩ (.slice ad n c)) (.slice ad n c) es := evr_set e3 e3
  have z0 : w1.cell? ⟨Z, 0, none⟩ = some (.int .i64 0) := hQ7.cell (by decide)
  have z1 : w1.cell? ⟨Z, 1, none⟩ = some (.int .i64 0) := hQ7.cell (by decide)
  have z2 : w1.cell? ⟨Z, 2, none⟩ = some (.slice none 0 0) := hQ7.cell (by decide)
  have zf0 := hQ7.frozen 0
  have zf1 := hQ7.frozen 1
  have zf2 := hQ7.frozen 2
  rw [hwf] at hfin hbf e4
  have f0 : wf.cell? ⟨Z, 0, none⟩ = some (.int .i64 al) := hfin.cell (by decide)
  have f1 : wf.cell? ⟨Z, 1, none⟩ = some (.int .i64 st) := hfin.cell (by decide)
  have f2 : wf.cell? ⟨Z, 2, none⟩ = some (.slice ad n c) := hfin.cell (by decide)
  clear hq0 hb0 hw0
  go_wp2
  refine bodyPost_ret (v := .agg #[.int .i64 al, .int .i64 st, .slice ad n c]) ?_ rfl ?_
  · simp [results, Tryd.results22, go_sem, f0, f1, f2]
  · exact ⟨al, st, ad, n, c, es, rfl, fun R' hR' => EVR.le e4 (by omega), hes, hbf⟩
end Go.Proofs.YtknhgfmjchfnjaaDoor
