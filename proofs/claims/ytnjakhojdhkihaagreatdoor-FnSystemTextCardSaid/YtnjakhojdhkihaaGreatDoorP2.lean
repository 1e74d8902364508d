/- The walk of the law on the texts of systems. -/
import Derived.Test.YtnjakhojdhkihaaGreatDoorFDrawP
import Derived.Test.YtnjakhojdhkihaaGreatDoorSDraw3
import Derived.Deep.RegionHeld3
import Derived.Test.YtnjakhojdhkihaaGreatDoorFAg
import Derived.Test.YtnjakhojdhkihaaGreatDoorFParseI

namespace Go.Proofs.YtnjakhojdhkihaaGreatDoor
open Go.RowKit
set_option linter.unusedVariables false
set_option linter.unusedSimpArgs false
set_option maxRecDepth 100000

theorem target2 (l : List UInt8) : ∃ al0 st0 es0, Canon l al0 st0 es0 ∨ ∀ al st es, ¬ Canon l al st es := by
  by_cases h : ∃ al st es, Canon l al st es
  · obtain ⟨al, st, es, h⟩ := h
    exact ⟨al, st, es, .inl h⟩
  · exact ⟨0, 0, [], .inr (fun al st es hc => h ⟨al, st, es, hc⟩)⟩
theorem pf_unique2 {l : List UInt8} {al0 st0 al st al2 st2 : Int} {es0 es es2 : List Edg} {b b2 : Bool} (hT : Canon l al0 st0 es0 ∨ ∀ al st es, ¬ Canon l al st es) (h : PF l al0 st0 es0 al st es b) (h2 : PF l al0 st0 es0 al2 st2 es2 b2) : al = al2 ∧ st = st2 ∧ es = es2 ∧ b = b2 := by
  rcases hT with hT | hT
  · obtain ⟨h3, h4, h5, h6⟩ := h.2.2 hT
    obtain ⟨q3, q4, q5, q6⟩ := h2.2.2 hT
    exact ⟨h3.trans q3.symm, h4.trans q4.symm, h5.trans q5.symm, h6.trans q6.symm⟩
  · cases b with
    | true => exact absurd (h.1 rfl) (hT _ _ _)
    | false =>
      cases b2 with
      | true => exact absurd (h2.1 rfl) (hT _ _ _)
      | false =>
        obtain ⟨h3, h4, h5⟩ := h.2.1 rfl
        obtain ⟨q3, q4, q5⟩ := h2.2.1 rfl
        exact ⟨h3.trans q3.symm, h4.trans q4.symm, h5.trans q5.symm, rfl⟩
set_option maxHeartbeats 1000000 in
theorem drawFmt_any (a : Option Addr) (len cap : Nat) (zs : List Int) (w : World) (hrow : IsRow w a len cap zs) : Calls Tryz.prog 10 #[.slice a len cap] w (DSys w) := by
  have hq0 := sys_cells w 0 0 (.slice none 0 0) 24
  have hb0 := below_new' w 24 #[.int .i64 0, .int .i64 0, .slice none 0 0]
  obtain ⟨Z, hZ⟩ : ∃ Z, w.heap.size = Z := ⟨_, rfl⟩
  obtain ⟨w0, hw0⟩ : ∃ w0, (w.alloc (.cells #[.int .i64 0, .int .i64 0, .slice none 0 0] 24)) = w0 := ⟨_, rfl⟩
  have hZw0 : w0.heap.size = w.heap.size + 1 := by rw [← hw0]; simp
  rw [hZ] at hq0
  rw [hw0] at hq0 hb0
  have hrow0 := IsRow.below hrow hb0
  go_enter Tryz.func10, Tryz.ntmps10
  go_wp2_with fail
  refine (drawValid_any' a len cap zs w0 hrow0).mono ?_
  rintro e w1 ⟨al, st, ad, n, c, es, rfl, hev, hes, hb1⟩
  have hQ7 := rowIs_below' hq0 hb1
  have hbw := hb0.trans (hb1.mono hb0.size)
  obtain ⟨wf, hwf⟩ : ∃ wf, (((w1.setCell ⟨Z, 0, none⟩ (.int .i64 al)).setCell ⟨Z, 1, none⟩ (.int .i64 st)).setCell ⟨Z, 2, none⟩ (.slice ad n c)) = wf := ⟨_, rfl⟩
  have hfin := rowIs_set3 hQ7 (.int .i64 al) (.int .i64 st) (.slice ad n c)
  have hbf : Below w.heap.size w _ := ((hbw.setCell (p := ⟨Z, 0, none⟩) (by simp; omega) (.int .i64 al)).setCell (p := ⟨Z, 1, none⟩) (by simp; omega) (.int .i64 st)).setCell (p := ⟨Z, 2, none⟩) (by simp; omega) (.slice ad n c)
  have e1 : EVR Z w1 (.slice ad n c) es := hev Z (by omega)
  have e2 : EVR Z (w1.setCell ⟨Z, 0, none⟩ (.int .i64 al)) (.slice ad n c) es := evr_set e1 e1
  have e3 : EVR Z ((w1.setCell ⟨Z, 0, none⟩ (.int .i64 al)).setCell ⟨Z, 1, none⟩ (.int .i64 st)) (.slice ad n c) es := evr_set e2 e2
  have e4 : EVR Z (((w1.setCell ⟨Z, 0, none⟩ (.int .i64 al)).setCell ⟨Z, 1, none⟩ (.int .i64 st)).setCell ⟨Z, 2, none⟩ (.slice ad n c)) (.slice ad n c) es := evr_set e3 e3
  have z0 : w1.cell? ⟨Z, 0, none⟩ = some (.int .i64 0) := hQ7.cell (by decide)
  have z1 : w1.cell? ⟨Z, 1, none⟩ = some (.int .i64 0) := hQ7.cell (by decide)
  have z2 : w1.cell? ⟨Z, 2, none⟩ = some (.slice none 0 0) := hQ7.cell (by decide)
  have zf0 := hQ7.frozen 0
  have zf1 := hQ7.frozen 1
  have zf2 := hQ7.frozen 2
  rw [hwf] at hfin hbf e4
  have f0 : wf.cell? ⟨Z, 0, none⟩ = some (.int .i64 al) := hfin.cell (by decide)
  have f1 : wf.cell? ⟨Z, 1, none⟩ = some (.int .i64 st) := hfin.cell (by decide)
  have f2 : wf.cell? ⟨Z, 2, none⟩ = some (.slice ad n c) := hfin.cell (by decide)
  clear hq0 hb0 hw0
  go_wp2
  refine bodyPost_ret (v := .agg #[.int .i64 al, .int .i64 st, .slice ad n c]) ?_ rfl ?_
  · simp [results, Tryz.results10, go_sem, f0, f1, f2]
  · exact ⟨al, st, ad, n, c, es, rfl, fun R' hR' => EVR.le e4 (by omega), hes, hbf⟩
set_option maxHeartbeats 8000000 in
theorem fnSystemText_walk (a0 : Option Addr) (len0 cap0 : Nat) (z0 : List Int) (a1 : Option Addr) (len1 cap1 : Nat) (z1 : List Int) (w : World) (hv : Vars w) (w0 : IsRow w a0 len0 cap0 z0) (w1 : IsRow w a1 len1 cap1 z1) :
    Calls Tryz.prog 4 #[.slice a0 len0 cap0, .slice a1 len1 cap1] w fun e w' => e = .returned (.bool true) ∧ Below w.heap.size w w' := by
  have H0 := Lib.hid w0
  have H1 := Lib.hid w1
  clear w0 w1
  have hw0 : 0 < w.heap.size := by
    obtain ⟨⟨m, hm⟩, -⟩ := hv
    exact Nat.lt_of_le_of_lt (Nat.zero_le _) (cell_lt hm)
  have HV := Lib.hid hv; clear hv
  by_cases hl : 1048576 < len0
  · have hl' : (1048576 : Int) < (len0 : Int) := by omega
    go_enter Tryz.func4, Tryz.ntmps4
    go_wp2
    go_ret
    exact ⟨rfl, Below.refl _ _⟩
  have hl' : (len0 : Int) ≤ 1048576 := by omega
  clear hl
  by_cases hm : 1048576 < len1
  · have hm' : (1048576 : Int) < (len1 : Int) := by omega
    go_enter Tryz.func4, Tryz.ntmps4
    go_wp2
    go_ret
    exact ⟨rfl, Below.refl _ _⟩
  have hm' : (len1 : Int) ≤ 1048576 := by omega
  clear hm
  go_enter Tryz.func4, Tryz.ntmps4
  go_wp2_with fail
  refine (drawFmt_any a0 len0 cap0 z0 w H0.out).mono ?_
  rintro e w1 ⟨al, st, a, n, c, es, rfl, hev, hes, hb1⟩
  have HB1 := Lib.hid hb1
  have HE1 := Lib.hid (hev 0 (Nat.zero_le _)).ev
  clear hev hb1
  have hbx : Below w1.heap.size w1 (w1.alloc (.cells #[.int .i64 al, .int .i64 st, .slice a n c] 24)) := below_new' _ _ _
  have hrx := sys_cells w1 al st (.slice a n c) 24
  obtain ⟨xs, hxs⟩ : ∃ xs, w1.heap.size = xs := ⟨_, rfl⟩
  rw [hxs] at hrx
  obtain ⟨w2, hw2⟩ : ∃ w2, (w1.alloc (.cells #[.int .i64 al, .int .i64 st, .slice a n c] 24)) = w2 := ⟨_, rfl⟩
  rw [hw2] at hbx hrx
  have HB2 := Lib.hid (HB1.out.trans (hbx.mono HB1.out.size))
  have HE2 := Lib.hid (HE1.out.below hbx)
  have HX2 := Lib.hid hrx
  clear hbx hrx
  have c20 : w2.cell? ⟨xs, 0, none⟩ = some (.int .i64 al) := HX2.out.cell (by decide)
  have c21 : w2.cell? ⟨xs, 1, none⟩ = some (.int .i64 st) := HX2.out.cell (by decide)
  have c22 : w2.cell? ⟨xs, 2, none⟩ = some (.slice a n c) := HX2.out.cell (by decide)
  go_wp2_with fail
  refine (implFormat_tx al st _ _ _ es w2 HE2.out (by omega)).mono ?_
  rintro e w3 ⟨r, rfl, hrd, hb3⟩
  have HB3 := Lib.hid (HB2.out.trans (hb3.mono HB2.out.size))
  have HE3 := Lib.hid (HE2.out.below hb3)
  have HX3 := Lib.hid (rowIs_below' HX2.out hb3)
  have HRD := Lib.hid hrd; clear hrd
  clear hb3 c20 c21 c22
  have c30 : w3.cell? ⟨xs, 0, none⟩ = some (.int .i64 al) := HX3.out.cell (by decide)
  have c31 : w3.cell? ⟨xs, 1, none⟩ = some (.int .i64 st) := HX3.out.cell (by decide)
  have c32 : w3.cell? ⟨xs, 2, none⟩ = some (.slice a n c) := HX3.out.cell (by decide)
  go_wp2_with fail
  refine (implSysValid_any al st _ _ _ es w3 HE3.out).mono ?_
  rintro e w4 ⟨rfl, hb4⟩
  obtain ⟨v, hvv⟩ : ∃ v, sysV al st es = v := ⟨_, rfl⟩
  have HB4 := Lib.hid (HB3.out.trans (hb4.mono HB3.out.size))
  have HE4 := Lib.hid (HE3.out.below hb4)
  have HX4 := Lib.hid (rowIs_below' HX3.out hb4)
  rw [hvv]
  have HVV := Lib.hid hvv; clear hvv
  clear hb4 c30 c31 c32
  have c40 : w4.cell? ⟨xs, 0, none⟩ = some (.int .i64 al) := HX4.out.cell (by decide)
  have c41 : w4.cell? ⟨xs, 1, none⟩ = some (.int .i64 st) := HX4.out.cell (by decide)
  have c42 : w4.cell? ⟨xs, 2, none⟩ = some (.slice a n c) := HX4.out.cell (by decide)
  go_wp2_with fail
  refine (specFormat_tx al st _ _ _ es w4 HE4.out (by omega)).mono ?_
  rintro e w5 ⟨r2, rfl, hrd2, hb5⟩
  obtain rfl : r = r2 := bytes_eq (HRD.out.trans hrd2.symm)
  have HB5 := Lib.hid (HB4.out.trans (hb5.mono HB4.out.size))
  have HE5 := Lib.hid (HE4.out.below hb5)
  have HX5 := Lib.hid (rowIs_below' HX4.out hb5)
  have heq : (r.toList == r.toList) = true := by simp
  clear hb5 hrd2 c40 c41 c42
  have c50 : w5.cell? ⟨xs, 0, none⟩ = some (.int .i64 al) := HX5.out.cell (by decide)
  have c51 : w5.cell? ⟨xs, 1, none⟩ = some (.int .i64 st) := HX5.out.cell (by decide)
  have c52 : w5.cell? ⟨xs, 2, none⟩ = some (.slice a n c) := HX5.out.cell (by decide)
  cases v with
  | false =>
    have hem : r.toList.isEmpty = true := by
      have h := HRD.out
      unfold fmtS at h
      rw [HVV.out, if_neg (by simp)] at h
      rw [ByteArray.toList_eq, h]
      rfl
    go_wp2_with fail
    refine (specSysValid_any al st _ _ _ es w5 HE5.out).mono ?_
    rintro e w6 ⟨rfl, hb6⟩
    rw [HVV.out]
    have HB6 := Lib.hid (HB5.out.trans (hb6.mono HB5.out.size))
    clear hb6 c50 c51 c52
    go_wp2_with fail
    refine (drawParse_any a1 len1 cap1 z1 w6 (IsRow.below H1.out HB6.out)).mono ?_
    rintro e wa ⟨s, rfl, hsz, hba⟩
    have HBA := Lib.hid (HB6.out.trans (hba.mono HB6.out.size))
    obtain ⟨al0, st0, es0, hT⟩ := target2 s.data.toList
    have HT := Lib.hid hT; clear hT
    clear hba
    go_wp2_with fail
    refine (implParseSys_for al0 st0 es0 s (by omega) wa (HV.out.below HBA.out)).mono ?_
    rintro e wb ⟨al2, st2, a2, n2, c2, es2, b2, rfl, hn2, hes2, ho2, hbb, hpf2⟩
    have HBB := Lib.hid (HBA.out.trans (hbb.mono HBA.out.size))
    have hev2 := (ho2.evr (R := 0) (Nat.lt_of_lt_of_le hw0 HBA.out.size)).ev
    have HE2 := Lib.hid hev2
    have HN2 := Lib.hid hn2; clear hn2
    have HPF2 := Lib.hid hpf2; clear hpf2
    clear hbb ho2 hev2
    have hbx : Below wb.heap.size wb (wb.alloc (.cells #[.int .i64 al2, .int .i64 st2, .slice a2 n2 c2] 24)) := below_new' _ _ _
    have hrx := sys_cells wb al2 st2 (.slice a2 n2 c2) 24
    obtain ⟨xb, hxb⟩ : ∃ xb, wb.heap.size = xb := ⟨_, rfl⟩
    rw [hxb] at hrx
    obtain ⟨wc, hwc⟩ : ∃ wc, (wb.alloc (.cells #[.int .i64 al2, .int .i64 st2, .slice a2 n2 c2] 24)) = wc := ⟨_, rfl⟩
    rw [hwc] at hbx hrx
    have HBC := Lib.hid (HBB.out.trans (hbx.mono HBB.out.size))
    have HEC := Lib.hid (HE2.out.below hbx)
    have HXC := Lib.hid hrx
    clear hbx hrx
    go_wp2_with fail
    refine (specParseSys_for al0 st0 es0 s (by omega) wc).mono ?_
    rintro e wd ⟨al3, st3, a3, n3, c3, es3, b3, rfl, hn3, hes3, ho3, hbd, hpf3⟩
    obtain ⟨rfl, rfl, rfl, rfl⟩ := pf_unique2 HT.out HPF2.out hpf3
    have HBD := Lib.hid (HBC.out.trans (hbd.mono HBC.out.size))
    have hev3 := (ho3.evr (R := 0) (Nat.lt_of_lt_of_le hw0 HBC.out.size)).ev
    have HED := Lib.hid (HEC.out.below hbd)
    have HXD := Lib.hid (rowIs_below' HXC.out hbd)
    have HE3 := Lib.hid hev3
    have HN3 := Lib.hid hn3; clear hn3
    clear hbd ho3 hev3 hpf3
    have hbx : Below wd.heap.size wd (wd.alloc (.cells #[.int .i64 al2, .int .i64 st2, .slice a3 n3 c3] 24)) := below_new' _ _ _
    have hrx := sys_cells wd al2 st2 (.slice a3 n3 c3) 24
    obtain ⟨xd, hxd⟩ : ∃ xd, wd.heap.size = xd := ⟨_, rfl⟩
    rw [hxd] at hrx
    obtain ⟨we, hwe⟩ : ∃ we, (wd.alloc (.cells #[.int .i64 al2, .int .i64 st2, .slice a3 n3 c3] 24)) = we := ⟨_, rfl⟩
    rw [hwe] at hbx hrx
    have HBE := Lib.hid (HBD.out.trans (hbx.mono HBD.out.size))
    have HEE := Lib.hid (HED.out.below hbx)
    have HE4 := Lib.hid (HE3.out.below hbx)
    have HXE := Lib.hid (rowIs_below' HXD.out hbx)
    have HYE := Lib.hid hrx
    clear hbx hrx
    have g0 : we.cell? ⟨xb, 0, none⟩ = some (.int .i64 al2) := HXE.out.cell (by decide)
    have g1 : we.cell? ⟨xb, 1, none⟩ = some (.int .i64 st2) := HXE.out.cell (by decide)
    have g2 : we.cell? ⟨xb, 2, none⟩ = some (.slice a2 n2 c2) := HXE.out.cell (by decide)
    have h0 : we.cell? ⟨xd, 0, none⟩ = some (.int .i64 al2) := HYE.out.cell (by decide)
    have h1 : we.cell? ⟨xd, 1, none⟩ = some (.int .i64 st2) := HYE.out.cell (by decide)
    have h2 : we.cell? ⟨xd, 2, none⟩ = some (.slice a3 n3 c3) := HYE.out.cell (by decide)
    go_wp2_with fail
    refine (agSys_same al2 st2 _ _ _ _ _ _ es2 we HEE.out HE4.out).mono ?_
    rintro e wf ⟨rfl, hbf⟩
    have HBF := Lib.hid (HBE.out.trans (hbf.mono HBE.out.size))
    have HEF := Lib.hid (HEE.out.below hbf)
    have HXF := Lib.hid (rowIs_below' HXE.out hbf)
    clear hbf g0 g1 g2 h0 h1 h2
    have g0 : wf.cell? ⟨xb, 0, none⟩ = some (.int .i64 al2) := HXF.out.cell (by decide)
    have g1 : wf.cell? ⟨xb, 1, none⟩ = some (.int .i64 st2) := HXF.out.cell (by decide)
    have g2 : wf.cell? ⟨xb, 2, none⟩ = some (.slice a2 n2 c2) := HXF.out.cell (by decide)
    cases b2 with
    | false =>
      go_wp2
      go_ret
      exact ⟨rfl, HBF.out⟩
    | true =>
      go_wp2_with fail
      refine (implFormat_tx al2 st2 _ _ _ es2 wf HEF.out (by omega)).mono ?_
      rintro e wg ⟨r, rfl, hrd, hbg⟩
      have hcn := HPF2.out.1 (by trivial)
      obtain rfl : r = s := bytes_eq (hrd.trans hcn.fmt)
      have HBG := Lib.hid (HBF.out.trans (hbg.mono HBF.out.size))
      have heq : (r.toList == r.toList) = true := by simp
      clear hrd hcn hbg
      go_wp2
      go_ret
      exact ⟨rfl, HBG.out⟩
  | true =>
    have hcan : Canon r.data.toList al st es := ⟨HVV.out, by
      have h := HRD.out
      unfold fmtS at h
      rw [if_pos HVV.out] at h
      exact h.symm⟩
    have hem : r.toList.isEmpty = false := by
      have h := hcan.2
      have h2 := sysT_ne al st es
      rw [h] at h2
      rw [ByteArray.toList_eq]
      cases hr : r.data.toList with
      | nil => exact absurd hr h2
      | cons x y => rfl
    have hrz : r.size ≤ 1048576 := by
      have h := sysT_len (st := st) al (by have := sysV_facts HVV.out; omega) (sysV_ok HVV.out)
      rw [hcan.2, data_len] at h
      omega
    have HCAN := Lib.hid hcan; clear hcan
    go_wp2_with fail
    refine (specSysValid_any al st _ _ _ es w5 HE5.out).mono ?_
    rintro e w6 ⟨rfl, hb6⟩
    rw [HVV.out]
    have HB6 := Lib.hid (HB5.out.trans (hb6.mono HB5.out.size))
    have HE6 := Lib.hid (HE5.out.below hb6)
    have HX6 := Lib.hid (rowIs_below' HX5.out hb6)
    clear hb6 c50 c51 c52
    go_wp2_with fail
    refine (implParseSys_for al st es r hrz w6 (HV.out.below HB6.out)).mono ?_
    rintro e w7 ⟨al', st', a', n', c', es', b', rfl, hn', hes', ho', hb7, hpf'⟩
    obtain ⟨rfl, rfl, rfl, rfl⟩ := hpf'.2.2 HCAN.out
    have HB7 := Lib.hid (HB6.out.trans (hb7.mono HB6.out.size))
    have HE7 := Lib.hid (HE6.out.below hb7)
    have HX7 := Lib.hid (rowIs_below' HX6.out hb7)
    have HF7 := Lib.hid ((ho'.evr (R := 0) (Nat.lt_of_lt_of_le hw0 HB6.out.size)).ev)
    have HN' := Lib.hid hn'; clear hn'
    clear hb7 ho' hpf'
    have hbx : Below w7.heap.size w7 (w7.alloc (.cells #[.int .i64 al', .int .i64 st', .slice a' n' c'] 24)) := below_new' _ _ _
    have hrx := sys_cells w7 al' st' (.slice a' n' c') 24
    obtain ⟨xk, hxk⟩ : ∃ xk, w7.heap.size = xk := ⟨_, rfl⟩
    rw [hxk] at hrx
    obtain ⟨w8, hw8⟩ : ∃ w8, (w7.alloc (.cells #[.int .i64 al', .int .i64 st', .slice a' n' c'] 24)) = w8 := ⟨_, rfl⟩
    rw [hw8] at hbx hrx
    have HB8 := Lib.hid (HB7.out.trans (hbx.mono HB7.out.size))
    have HE8 := Lib.hid (HE7.out.below hbx)
    have HX8 := Lib.hid (rowIs_below' HX7.out hbx)
    have HF8 := Lib.hid (HF7.out.below hbx)
    have HK8 := Lib.hid hrx
    clear hbx hrx
    have c80 : w8.cell? ⟨xs, 0, none⟩ = some (.int .i64 al') := HX8.out.cell (by decide)
    have c81 : w8.cell? ⟨xs, 1, none⟩ = some (.int .i64 st') := HX8.out.cell (by decide)
    have c82 : w8.cell? ⟨xs, 2, none⟩ = some (.slice a n c) := HX8.out.cell (by decide)
    have k80 : w8.cell? ⟨xk, 0, none⟩ = some (.int .i64 al') := HK8.out.cell (by decide)
    have k81 : w8.cell? ⟨xk, 1, none⟩ = some (.int .i64 st') := HK8.out.cell (by decide)
    have k82 : w8.cell? ⟨xk, 2, none⟩ = some (.slice a' n' c') := HK8.out.cell (by decide)
    go_wp2_with fail
    refine (agSys_same al' st' _ _ _ _ _ _ es' w8 HF8.out HE8.out).mono ?_
    rintro e w9 ⟨rfl, hb9⟩
    have HB9 := Lib.hid (HB8.out.trans (hb9.mono HB8.out.size))
    clear hb9 c80 c81 c82 k80 k81 k82
    go_wp2_with fail
    refine (drawParse_any a1 len1 cap1 z1 w9 (IsRow.below H1.out HB9.out)).mono ?_
    rintro e wa ⟨s, rfl, hsz, hba⟩
    have HBA := Lib.hid (HB9.out.trans (hba.mono HB9.out.size))
    obtain ⟨al0, st0, es0, hT⟩ := target2 s.data.toList
    have HT := Lib.hid hT; clear hT
    clear hba
    go_wp2_with fail
    refine (implParseSys_for al0 st0 es0 s (by omega) wa (HV.out.below HBA.out)).mono ?_
    rintro e wb ⟨al2, st2, a2, n2, c2, es2, b2, rfl, hn2, hes2, ho2, hbb, hpf2⟩
    have HBB := Lib.hid (HBA.out.trans (hbb.mono HBA.out.size))
    have hev2 := (ho2.evr (R := 0) (Nat.lt_of_lt_of_le hw0 HBA.out.size)).ev
    have HE2 := Lib.hid hev2
    have HN2 := Lib.hid hn2; clear hn2
    have HPF2 := Lib.hid hpf2; clear hpf2
    clear hbb ho2 hev2
    have hbx : Below wb.heap.size wb (wb.alloc (.cells #[.int .i64 al2, .int .i64 st2, .slice a2 n2 c2] 24)) := below_new' _ _ _
    have hrx := sys_cells wb al2 st2 (.slice a2 n2 c2) 24
    obtain ⟨xb, hxb⟩ : ∃ xb, wb.heap.size = xb := ⟨_, rfl⟩
    rw [hxb] at hrx
    obtain ⟨wc, hwc⟩ : ∃ wc, (wb.alloc (.cells #[.int .i64 al2, .int .i64 st2, .slice a2 n2 c2] 24)) = wc := ⟨_, rfl⟩
    rw [hwc] at hbx hrx
    have HBC := Lib.hid (HBB.out.trans (hbx.mono HBB.out.size))
    have HEC := Lib.hid (HE2.out.below hbx)
    have HXC := Lib.hid hrx
    clear hbx hrx
    go_wp2_with fail
    refine (specParseSys_for al0 st0 es0 s (by omega) wc).mono ?_
    rintro e wd ⟨al3, st3, a3, n3, c3, es3, b3, rfl, hn3, hes3, ho3, hbd, hpf3⟩
    obtain ⟨rfl, rfl, rfl, rfl⟩ := pf_unique2 HT.out HPF2.out hpf3
    have HBD := Lib.hid (HBC.out.trans (hbd.mono HBC.out.size))
    have hev3 := (ho3.evr (R := 0) (Nat.lt_of_lt_of_le hw0 HBC.out.size)).ev
    have HED := Lib.hid (HEC.out.below hbd)
    have HXD := Lib.hid (rowIs_below' HXC.out hbd)
    have HE3 := Lib.hid hev3
    have HN3 := Lib.hid hn3; clear hn3
    clear hbd ho3 hev3 hpf3
    have hbx : Below wd.heap.size wd (wd.alloc (.cells #[.int .i64 al2, .int .i64 st2, .slice a3 n3 c3] 24)) := below_new' _ _ _
    have hrx := sys_cells wd al2 st2 (.slice a3 n3 c3) 24
    obtain ⟨xd, hxd⟩ : ∃ xd, wd.heap.size = xd := ⟨_, rfl⟩
    rw [hxd] at hrx
    obtain ⟨we, hwe⟩ : ∃ we, (wd.alloc (.cells #[.int .i64 al2, .int .i64 st2, .slice a3 n3 c3] 24)) = we := ⟨_, rfl⟩
    rw [hwe] at hbx hrx
    have HBE := Lib.hid (HBD.out.trans (hbx.mono HBD.out.size))
    have HEE := Lib.hid (HED.out.below hbx)
    have HE4 := Lib.hid (HE3.out.below hbx)
    have HXE := Lib.hid (rowIs_below' HXD.out hbx)
    have HYE := Lib.hid hrx
    clear hbx hrx
    have g0 : we.cell? ⟨xb, 0, none⟩ = some (.int .i64 al2) := HXE.out.cell (by decide)
    have g1 : we.cell? ⟨xb, 1, none⟩ = some (.int .i64 st2) := HXE.out.cell (by decide)
    have g2 : we.cell? ⟨xb, 2, none⟩ = some (.slice a2 n2 c2) := HXE.out.cell (by decide)
    have h0 : we.cell? ⟨xd, 0, none⟩ = some (.int .i64 al2) := HYE.out.cell (by decide)
    have h1 : we.cell? ⟨xd, 1, none⟩ = some (.int .i64 st2) := HYE.out.cell (by decide)
    have h2 : we.cell? ⟨xd, 2, none⟩ = some (.slice a3 n3 c3) := HYE.out.cell (by decide)
    go_wp2_with fail
    refine (agSys_same al2 st2 _ _ _ _ _ _ es2 we HEE.out HE4.out).mono ?_
    rintro e wf ⟨rfl, hbf⟩
    have HBF := Lib.hid (HBE.out.trans (hbf.mono HBE.out.size))
    have HEF := Lib.hid (HEE.out.below hbf)
    have HXF := Lib.hid (rowIs_below' HXE.out hbf)
    clear hbf g0 g1 g2 h0 h1 h2
    have g0 : wf.cell? ⟨xb, 0, none⟩ = some (.int .i64 al2) := HXF.out.cell (by decide)
    have g1 : wf.cell? ⟨xb, 1, none⟩ = some (.int .i64 st2) := HXF.out.cell (by decide)
    have g2 : wf.cell? ⟨xb, 2, none⟩ = some (.slice a2 n2 c2) := HXF.out.cell (by decide)
    cases b2 with
    | false =>
      go_wp2
      go_ret
      exact ⟨rfl, HBF.out⟩
    | true =>
      go_wp2_with fail
      refine (implFormat_tx al2 st2 _ _ _ es2 wf HEF.out (by omega)).mono ?_
      rintro e wg ⟨r, rfl, hrd, hbg⟩
      have hcn := HPF2.out.1 (by trivial)
      obtain rfl : r = s := bytes_eq (hrd.trans hcn.fmt)
      have HBG := Lib.hid (HBF.out.trans (hbg.mono HBF.out.size))
      have heq : (r.toList == r.toList) = true := by simp
      clear hrd hcn hbg
      go_wp2
      go_ret
      exact ⟨rfl, HBG.out⟩
end Go.Proofs.YtnjakhojdhkihaaGreatDoor
