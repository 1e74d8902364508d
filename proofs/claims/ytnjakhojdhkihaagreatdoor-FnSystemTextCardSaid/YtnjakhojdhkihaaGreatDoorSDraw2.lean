/- l2Any, l2Trace and the draws of the laws on systems. -/
import Derived.Test.YtnjakhojdhkihaaGreatDoorSWrong
import Derived.Test.YtnjakhojdhkihaaGreatDoorSysStep
import Derived.Test.YtnjakhojdhkihaaGreatDoorLetters
namespace Go.Proofs.YtnjakhojdhkihaaGreatDoor
open Go.RowKit
set_option linter.unusedVariables false
set_option linter.unusedSimpArgs false
set_option maxRecDepth 100000

set_option maxHeartbeats 4000000 in
theorem l2Any_any (R p : Nat) (w : World) (hr : RdOk R p w) (hp : p ≤ 700000) : Calls Tryz.prog 58 #[.pointer (some ⟨R, 0, none⟩)] w (SysR R p 400 1001 w) := by
  have hRlt := hr.lt
  have hq0 := sys_cells w 0 0 (.slice none 0 0) 24
  have hb0 := below_new' w 24 #[.int .i64 0, .int .i64 0, .slice none 0 0]
  obtain ⟨Z, hZ⟩ : ∃ Z, w.heap.size = Z := ⟨_, rfl⟩
  obtain ⟨w0, hw0⟩ : ∃ w0, (w.alloc (.cells #[.int .i64 0, .int .i64 0, .slice none 0 0] 24)) = w0 := ⟨_, rfl⟩
  rw [hZ] at hq0
  rw [hw0] at hq0 hb0
  have hr0 := hr.below hb0
  have hg0 := grown_below (some R) hb0
  have hRZ : Z ≠ R := by omega
  go_enter Tryz.func58, Tryz.ntmps58
  go_wp2_with fail
  refine (pick_any R p 12 w0 hr0 (by omega)).mono ?_
  rintro e w1 ⟨k, rfl, -, -, hr1, hg1⟩
  have HG1 := Lib.hid (grown_trans hg0 hg1)
  have HQ1 := Lib.hid (row_grown hq0 hg1 hRZ)
  clear hr0 hg0 hq0 hb0 hg1 hw0
  by_cases hk : k = 0
  · subst hk
    go_wp2_with fail
    refine (l2Big_any R (p + 1) w1 hr1 (by omega)).mono ?_
    rintro e w2 ⟨al, st, a, n, c, es, rfl, hes, hev, p2, hp2, hr2, hg2⟩
    have hZ1 : Z < w1.heap.size := World.rowIs.lt HQ1.out
    have HEV := Lib.hid (show ∀ R', R' ≤ Z → EVR R' w2 (.slice a n c) es from fun R' hR' => hev R' (by omega))
    have HGR := Lib.hid (grown_trans HG1.out hg2)
    have HQ := Lib.hid (row_grown HQ1.out hg2 hRZ)
    have HRD := Lib.hid hr2
    clear hr1 hev hg2 hr2
    have z0 : w2.cell? ⟨Z, 0, none⟩ = some (.int .i64 0) := HQ.out.cell (by decide)
    have z1 : w2.cell? ⟨Z, 1, none⟩ = some (.int .i64 0) := HQ.out.cell (by decide)
    have z2 : w2.cell? ⟨Z, 2, none⟩ = some (.slice none 0 0) := HQ.out.cell (by decide)
    have zf0 := HQ.out.frozen 0
    have zf1 := HQ.out.frozen 1
    have zf2 := HQ.out.frozen 2
    go_wp2
    have hdone := sys_done (al := al) (st := st) HRD.out HGR.out (Nat.le_of_eq hZ) hRlt HEV.out HQ.out
    obtain ⟨wf, hwf⟩ : ∃ wf, (((w2.setCell ⟨Z, 0, none⟩ (.int .i64 al)).setCell ⟨Z, 1, none⟩ (.int .i64 st)).setCell ⟨Z, 2, none⟩ (.slice a n c)) = wf := ⟨_, rfl⟩
    rw [hwf] at hdone ⊢
    clear hwf
    obtain ⟨d1, d2, d3, hfin⟩ := hdone
    have f0 : wf.cell? ⟨Z, 0, none⟩ = some (.int .i64 al) := hfin.cell (by decide)
    have f1 : wf.cell? ⟨Z, 1, none⟩ = some (.int .i64 st) := hfin.cell (by decide)
    have f2 : wf.cell? ⟨Z, 2, none⟩ = some (.slice a n c) := hfin.cell (by decide)
    refine bodyPost_ret (v := .agg #[.int .i64 al, .int .i64 st, .slice a n c]) ?_ rfl ?_
    · simp [results, Tryz.results58, go_sem, f0, f1, f2]
    · exact ⟨_, _, _, _, _, es, rfl, by omega, d1, p2, by omega, d2, d3⟩
  · have hk' : ¬ (k : Int) = 0 := hk
    go_wp2_with fail
    refine (l2Draw_any R (p + 1) w1 hr1 (by omega)).mono ?_
    rintro e w2 ⟨al, st, a, n, c, es, rfl, hes, hev, p2, hp2, hr2, hg2⟩
    have hZ1 : Z < w1.heap.size := World.rowIs.lt HQ1.out
    have hev2 := hev R (by omega)
    have HG2 := Lib.hid (grown_trans HG1.out hg2)
    have HQ2 := Lib.hid (row_grown HQ1.out hg2 hRZ)
    clear hr1 hev hg2
    go_wp2_with fail
    refine (l2Wrong_any R p2 al st a n c es w2 hr2 (by omega) hev2 (by omega)).mono ?_
    rintro e w3 ⟨al', st', a', n', c', es', rfl, hes', hev', p3, hp3, hr3, hg3⟩
    have hZ2 : Z < w2.heap.size := World.rowIs.lt HQ2.out
    have HEV := Lib.hid (show ∀ R', R' ≤ Z → EVR R' w3 (.slice a' n' c') es' from fun R' hR' => hev' R' (by omega))
    have HGR := Lib.hid (grown_trans HG2.out hg3)
    have HQ := Lib.hid (row_grown HQ2.out hg3 hRZ)
    have HRD := Lib.hid hr3
    clear hr2 hev' hg3 hr3 hev2
    have z0 : w3.cell? ⟨Z, 0, none⟩ = some (.int .i64 0) := HQ.out.cell (by decide)
    have z1 : w3.cell? ⟨Z, 1, none⟩ = some (.int .i64 0) := HQ.out.cell (by decide)
    have z2 : w3.cell? ⟨Z, 2, none⟩ = some (.slice none 0 0) := HQ.out.cell (by decide)
    have zf0 := HQ.out.frozen 0
    have zf1 := HQ.out.frozen 1
    have zf2 := HQ.out.frozen 2
    go_wp2
    have hdone := sys_done (al := al') (st := st') HRD.out HGR.out (Nat.le_of_eq hZ) hRlt HEV.out HQ.out
    obtain ⟨wf, hwf⟩ : ∃ wf, (((w3.setCell ⟨Z, 0, none⟩ (.int .i64 al')).setCell ⟨Z, 1, none⟩ (.int .i64 st')).setCell ⟨Z, 2, none⟩ (.slice a' n' c')) = wf := ⟨_, rfl⟩
    rw [hwf] at hdone ⊢
    clear hwf
    obtain ⟨d1, d2, d3, hfin⟩ := hdone
    have f0 : wf.cell? ⟨Z, 0, none⟩ = some (.int .i64 al') := hfin.cell (by decide)
    have f1 : wf.cell? ⟨Z, 1, none⟩ = some (.int .i64 st') := hfin.cell (by decide)
    have f2 : wf.cell? ⟨Z, 2, none⟩ = some (.slice a' n' c') := hfin.cell (by decide)
    refine bodyPost_ret (v := .agg #[.int .i64 al', .int .i64 st', .slice a' n' c']) ?_ rfl ?_
    · simp [results, Tryz.results58, go_sem, f0, f1, f2]
    · exact ⟨_, _, _, _, _, es', rfl, by omega, d1, p3, by omega, d2, d3⟩
theorem letN_small (al st : Int) (es : List Edg) (l : List UInt8) : letN es (aftN al st es l) < 64 := by
  by_cases h : aftN al st es l = 0
  · rw [h, letN_zero]; omega
  · exact letN_lt (sysV_ok (aftN_ne h).1) _
end Go.Proofs.YtnjakhojdhkihaaGreatDoor
