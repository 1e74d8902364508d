/- l2Any, l2Trace and the draws of the laws on systems. -/
import Derived.Test.YtknhgfmjchfnjaaDoorSWrong
import Derived.Test.YtknhgfmjchfnjaaDoorSysStep
import Derived.Test.YtknhgfmjchfnjaaDoorLetters
namespace Go.Proofs.YtknhgfmjchfnjaaDoor
open Go.RowKit
set_option linter.unusedVariables false
set_option linter.unusedSimpArgs false
set_option maxRecDepth 100000

set_option maxHeartbeats 4000000 in
theorem l2Any_any (R p : Nat) (w : World) (hr : RdOk R p w) (hp : p ≤ 700000) : Calls Tryd.prog 34 #[.pointer (some ⟨R, 0, none⟩)] w (SysR R p 400 1001 w) := by
  have hRlt := hr.lt
  have hq0 := sys_cells w 0 0 (.slice none 0 0) 25
  have hb0 := below_new' w 25 #[.int .i64 0, .int .i64 0, .slice none 0 0]
  obtain ⟨Z, hZ⟩ : ∃ Z, w.heap.size = Z := ⟨_, rfl⟩
  obtain ⟨w0, hw0⟩ : ∃ w0, (w.alloc (.cells #[.int .i64 0, .int .i64 0, .slice none 0 0] 25)) = w0 := ⟨_, rfl⟩
  rw [hZ] at hq0
  rw [hw0] at hq0 hb0
  have hr0 := hr.below hb0
  have hg0 := grown_below (some R) hb0
  have hRZ : Z ≠ R := by omega
  go_enter Tryd.func34, Tryd.ntmps34
  go_wp2_with fail
  refine (pick_any R p 12 w0 hr0 (by omega)).mono ?_
  rintro e w1 ⟨k, rfl, -, -, hr1, hg1⟩
  have HG1 := Lib.hid (grown_trans hg0 hg1)
  have HQ1 := Lib.hid (row_grown hq0 hg1 hRZ)
  clear hr0 hg0 hq0 hb0 hg1 hw0
  by_cases hk : k = 0
  · subst hk
    go_wp2_with fail
    refine (l2Big_any R (p + 1) w1 hr1 (by omega)).mono ?_
    rintro e w2 ⟨al, st, a, n, c, es, rfl, hes, hev, p2, hp2, hr2, hg2⟩
    have hZ1 : Z < w1.heap.size := World.rowIs.lt HQ1.out
    have HEV := Lib.hid (show ∀ R', R' ≤ Z → EVR R' w2 (.slice a n c) es from fun R' hR' => hev R' (by omega))
    have HGR := Lib.hid (grown_trans HG1.out hg2)
    have HQ := Lib.hid (row_grown HQ1.out hg2 hRZ)
    have HRD := Lib.hid hr2
    clear hr1 hev hg2 hr2
    have z0 : w2.cell? ⟨Z, 0, none⟩ = some (.int .i64 0) := HQ.out.cell (by decide)
    have z1 : w2.cell? ⟨Z, 1, none⟩ = some (.int .i64 0) := HQ.out.cell (by decide)
    have z2 : w2.cell? ⟨Z, 2, none⟩ = some (.slice none 0 0) := HQ.out.cell (by decide)
    have zf0 := HQ.out.frozen 0
    have zf1 := HQ.out.frozen 1
    have zf2 := HQ.out.frozen 2
    go_wp2
    have hdone := sys_done (al := al) (st := st) HRD.out HGR.out (Nat.le_of_eq hZ) hRlt HEV.out HQ.out
    obtain ⟨wf, hwf⟩ : ∃ wf, (((w2.setCell ⟨Z, 0, none⟩ (.int .i64 al)).setCell ⟨Z, 1, none⟩ (.int .i64 st)).setCell ⟨Z, 2, none⟩ (.slice a n c)) = wf := ⟨_, rfl⟩
    rw [hwf] at hdone ⊢
    clear hwf
    obtain ⟨d1, d2, d3, hfin⟩ := hdone
    have f0 : wf.cell? ⟨Z, 0, none⟩ = some (.int .i64 al) := hfin.cell (by decide)
    have f1 : wf.cell? ⟨Z, 1, none⟩ = some (.int .i64 st) := hfin.cell (by decide)
    have f2 : wf.cell? ⟨Z, 2, none⟩ = some (.slice a n c) := hfin.cell (by decide)
    refine bodyPost_ret (v := .agg #[.int .i64 al, .int .i64 st, .slice a n c]) ?_ rfl ?_
    · simp [results, Tryd.results34, go_sem, f0, f1, f2]
    · exact ⟨_, _, _, _, _, es, rfl, by omega, d1, p2, by omega, d2, d3⟩
  · have hk' : ¬ (k : Int) = 0 := hk
    go_wp2_with fail
    refine (l2Draw_any R (p + 1) w1 hr1 (by omega)).mono ?_
    rintro e w2 ⟨al, st, a, n, c, es, rfl, hes, hev, p2, hp2, hr2, hg2⟩
    have hZ1 : Z < w1.heap.size := World.rowIs.lt HQ1.out
    have hev2 := hev R (by omega)
    have HG2 := Lib.hid (grown_trans HG1.out hg2)
    have HQ2 := Lib.hid (row_grown HQ1.out hg2 hRZ)
    clear hr1 hev hg2
    go_wp2_with fail
    refine (l2Wrong_any R p2 al st a n c es w2 hr2 (by omega) hev2 (by omega)).mono ?_
    rintro e w3 ⟨al', st', a', n', c', es', rfl, hes', hev', p3, hp3, hr3, hg3⟩
    have hZ2 : Z < w2.heap.size := World.rowIs.lt HQ2.out
    have HEV := Lib.hid (show ∀ R', R' ≤ Z → EVR R' w3 (.slice a' n' c') es' from fun R' hR' => hev' R' (by omega))
    have HGR := Lib.hid (grown_trans HG2.out hg3)
    have HQ := Lib.hid (row_grown HQ2.out hg3 hRZ)
    have HRD := Lib.hid hr3
    clear hr2 hev' hg3 hr3 hev2
    have z0 : w3.cell? ⟨Z, 0, none⟩ = some (.int .i64 0) := HQ.out.cell (by decide)
    have z1 : w3.cell? ⟨Z, 1, none⟩ = some (.int .i64 0) := HQ.out.cell (by decide)
    have z2 : w3.cell? ⟨Z, 2, none⟩ = some (.slice none 0 0) := HQ.out.cell (by decide)
    have zf0 := HQ.out.frozen 0
    have zf1 := HQ.out.frozen 1
    have zf2 := HQ.out.frozen 2
    go_wp2
    have hdone := sys_done (al := al') (st := st') HRD.out HGR.out (Nat.le_of_eq hZ) hRlt HEV.out HQ.out
    obtain ⟨wf, hwf⟩ : ∃ wf, (((w3.setCell ⟨Z, 0, none⟩ (.int .i64 al')).setCell ⟨Z, 1, none⟩ (.int .i64 st')).setCell ⟨Z, 2, none⟩ (.slice a' n' c')) = wf := ⟨_, rfl⟩
    rw [hwf] at hdone ⊢
    clear hwf
    obtain ⟨d1, d2, d3, hfin⟩ := hdone
    have f0 : wf.cell? ⟨Z, 0, none⟩ = some (.int .i64 al') := hfin.cell (by decide)
    have f1 : wf.cell? ⟨Z, 1, none⟩ = some (.int .i64 st') := hfin.cell (by decide)
    have f2 : wf.cell? ⟨Z, 2, none⟩ = some (.slice a' n' c') := hfin.cell (by decide)
    refine bodyPost_ret (v := .agg #[.int .i64 al', .int .i64 st', .slice a' n' c']) ?_ rfl ?_
    · simp [results, Tryd.results34, go_sem, f0, f1, f2]
    · exact ⟨_, _, _, _, _, es', rfl, by omega, d1, p3, by omega, d2, d3⟩
theorem letN_small (al st : Int) (es : List Edg) (l : List UInt8) : letN es (aftN al st es l) < 64 := by
  by_cases h : aftN al st es l = 0
  · rw [h, letN_zero]; omega
  · exact letN_lt (sysV_ok (aftN_ne h).1) _
set_option maxHeartbeats 4000000 in
theorem l2Trace_any (R p : Nat) (al st : Int) (a : Option Addr) (n c : Nat) (es : List Edg) (w : World) (hr : RdOk R p w) (hp : p ≤ 700000) (h : EVR R w (.slice a n c) es) :
    Calls Tryd.prog 35 #[.pointer (some ⟨R, 0, none⟩), .agg #[.int .i64 al, .int .i64 st, .slice a n c], .int .i64 7] w (StrRet R p 20 10 w) := by
  have hRlt := hr.lt
  have hx0 := sys_cells w al st (.slice a n c) 25
  have hb0 := below_new' w 25 #[.int .i64 al, .int .i64 st, .slice a n c]
  obtain ⟨X, hX⟩ : ∃ X, w.heap.size = X := ⟨_, rfl⟩
  obtain ⟨w0, hw0⟩ : ∃ w0, (w.alloc (.cells #[.int .i64 al, .int .i64 st, .slice a n c] 25)) = w0 := ⟨_, rfl⟩
  rw [hX] at hx0
  rw [hw0] at hx0 hb0
  have hRX : X ≠ R := by omega
  have HR0 := Lib.hid (hr.below hb0)
  have HE0 := Lib.hid (h.below hb0)
  have HX0 := Lib.hid hx0
  have HG0 := Lib.hid (grown_below (some R) hb0)
  clear hr h hx0 hb0
  go_enter Tryd.func35, Tryd.ntmps35
  go_wp2_with fail
  refine (pick_any R p 8 w0 HR0.out (by omega)).mono ?_
  rintro e w1 ⟨i, rfl, hi, -, hr1, hg1⟩
  obtain ⟨hi0, hi1⟩ := hi (by omega)
  obtain ⟨i, rfl⟩ := Int.eq_ofNat_of_zero_le hi0
  have HR1 := Lib.hid hr1
  have HE1 := Lib.hid (HE0.out.grown hg1)
  have HX1 := Lib.hid (row_grown HX0.out hg1 hRX)
  have HG1 := Lib.hid (grown_trans HG0.out hg1)
  clear hr1 hg1 hi hw0
  go_wp2
  go_loopw [7, 8] (fun v7 v8 wr => ∃ (k p' : Nat) (s : ByteArray), v7 = .string s ∧ v8 = .int .i64 k ∧ k ≤ 7 ∧ s.size + k ≤ 7 ∧ p' + k ≤ p + 8 ∧ RdOk R p' wr ∧ EVR R wr (.slice a n c) es ∧ wr.rowIs X 25 3 (fun i => #[.int .i64 al, .int .i64 st, .slice a n c][i]?.getD undef) ∧ w.grownBy wr (some R)) (fun _ v8 _ => (intOf v8).toNat)
  case atStart => exact ⟨i, p + 1, _, rfl, rfl, by omega, by simp [ByteArray.size]; omega, by omega, HR1.out, HE1.out, HX1.out, HG1.out⟩
  case round =>
    obtain ⟨k, p', s, rfl, rfl, hk, hsk, hpk, hrr, hee, hxx, hgg⟩ := hrel
    have x0 : wr.cell? ⟨X, 0, none⟩ = some (.int .i64 al) := hxx.cell (by decide)
    have x1 : wr.cell? ⟨X, 1, none⟩ = some (.int .i64 st) := hxx.cell (by decide)
    have x2 : wr.cell? ⟨X, 2, none⟩ = some (.slice a n c) := hxx.cell (by decide)
    have HR := Lib.hid hrr
    have HE := Lib.hid hee
    have HX := Lib.hid hxx
    have HG := Lib.hid hgg
    clear hrr hee hxx hgg
    by_cases hk0 : k = 0
    · subst hk0
      go_wp2
      go_ret
      exact ⟨s, rfl, by omega, p', by omega, HR.out, HG.out⟩
    · have hkp : (0 : Int) < (k : Int) := by omega
      have hlt := letN_small al st es s.data.toList
      go_wp2_with fail
      refine (specLetters_any al st a n c es s (by omega) wr HE.out.ev).mono ?_
      rintro e w2 ⟨rfl, hb2⟩
      obtain ⟨q, hq⟩ : ∃ q, letN es (aftN al st es s.data.toList) = q := ⟨_, rfl⟩
      rw [hq] at hlt ⊢
      have HR2 := Lib.hid (HR.out.below hb2)
      have HE2 := Lib.hid (HE.out.below hb2)
      have HX2 := Lib.hid (rowIs_below' HX.out hb2)
      have HG2 := Lib.hid (grown_trans HG.out (grown_below _ hb2))
      clear hb2 hq x0 x1 x2
      go_wp2_with fail
      refine (l1Letters_any (q : Int) (by omega) (by omega) w2).mono ?_
      rintro e w3 ⟨ao, cap, rfl, hown, hb3⟩
      obtain ⟨m, hm⟩ : ∃ m, (lets (q : Int)).length = m := ⟨_, rfl⟩
      have hshape := hown.shape
      rw [hm] at hshape ⊢
      have HSH := Lib.hid hshape
      have HM := Lib.hid hm; clear hm
      have HR3 := Lib.hid (HR2.out.below hb3)
      have HE3 := Lib.hid (HE2.out.below hb3)
      have HX3 := Lib.hid (rowIs_below' HX2.out hb3)
      have HG3 := Lib.hid (grown_trans HG2.out (grown_below _ hb3))
      have hRw2 : R < w2.heap.size := HR2.out.lt
      clear hb3 hown hshape
      by_cases hm0 : m = 0
      · subst hm0
        go_wp2
        go_ret
        exact ⟨s, rfl, by omega, p', by omega, HR3.out, HG3.out⟩
      · have hm0' : ¬ (m : Int) = 0 := by omega
        rcases HSH.out with ⟨-, h0⟩ | ⟨g, capg, hvg, hg1, hg2, hgc, hgm, hgcell, -⟩
        · exfalso
          have := HM.out
          rw [h0] at this
          simp at this
          omega
        · injection hvg with hv1 hv2 hv3
          subst hv1; subst hv3
          have hcapm : m ≤ cap := by have := HM.out; omega
          unfold maxLen at hgm
          have HCELL := Lib.hid hgcell
          clear hgcell hv2
          go_wp2_with fail
          refine (pick_any R p' (m : Int) w3 HR3.out (by omega)).mono ?_
          rintro e w4 ⟨z, rfl, hz, -, hr4, hg4⟩
          obtain ⟨hz0, hz1⟩ := hz (by omega)
          obtain ⟨z, rfl⟩ := Int.eq_ofNat_of_zero_le hz0
          have hzm : z < m := by omega
          have hc4 := World.grownBy.cell hg4 (a := ⟨g, z, none⟩) (HCELL.out z hzm) (fun e => by have := Option.some.inj e; simp at this; omega)
          have hlx := lets_at (q : Int) z (by rw [HM.out]; exact hzm)
          obtain ⟨x, hx⟩ : ∃ x, (lets (q : Int))[z]?.getD 0 = x := ⟨_, rfl⟩
          rw [hx] at hc4
          have hxb : 0 ≤ x ∧ x < 6 := by
            rw [← hx, List.getElem?_eq_getElem (by rw [HM.out]; exact hzm), Option.getD_some]
            exact hlx
          obtain ⟨hx0, hx6⟩ := hxb
          have HR4 := Lib.hid hr4
          have HE4 := Lib.hid (HE3.out.grown hg4)
          have HX4 := Lib.hid (row_grown HX3.out hg4 hRX)
          have HG4 := Lib.hid (grown_trans HG3.out hg4)
          clear hz hr4 hg4 hlx hx
          go_wp2_with fail
          refine (l1Text_sz x hx0 hx6 w4).mono ?_
          rintro e w5 ⟨r, rfl, hrs, hb5⟩
          have HR5 := Lib.hid (HR4.out.below hb5)
          have HE5 := Lib.hid (HE4.out.below hb5)
          have HX5 := Lib.hid (rowIs_below' HX4.out hb5)
          have HG5 := Lib.hid (grown_trans HG4.out (grown_below _ hb5))
          have hsum : (s.size : Int) + (r.size : Int) ≤ 9223372036854775807 := by omega
          clear hb5 hc4
          go_wp2
          go_roundw
          case rel => exact ⟨k - 1, p' + 1, s ++ r, rfl, by go_num, by omega, by rw [append_size]; omega, by omega, HR5.out, HE5.out, HX5.out, HG5.out⟩
          case measure => simp [intOf] <;> omega
end Go.Proofs.YtknhgfmjchfnjaaDoor
