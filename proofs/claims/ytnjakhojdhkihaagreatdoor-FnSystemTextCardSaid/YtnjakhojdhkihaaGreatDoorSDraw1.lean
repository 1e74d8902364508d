/- l2Texts and l2Draw: what they draw. -/
import Derived.Test.YtnjakhojdhkihaaGreatDoorFParseS
import Derived.Test.YtnjakhojdhkihaaGreatDoorSRandom
import Derived.Test.YtnjakhojdhkihaaGreatDoorSBig
namespace Go.Proofs.YtnjakhojdhkihaaGreatDoor
open Go.RowKit
set_option linter.unusedVariables false
set_option linter.unusedSimpArgs false
set_option maxRecDepth 100000

/-- The texts, by their bytes (printed by a program off the text of l2Texts). -/
def texts : List ByteArray := [ByteArray.mk #[97, 98, 32, 50, 32, 48, 97, 49, 32, 49, 98, 48], ByteArray.mk #[97, 98, 99, 32, 51, 32, 48, 97, 49, 32, 49, 98, 50, 32, 50, 99, 48], ByteArray.mk #[97, 98, 32, 51, 32, 48, 97, 48, 32, 48, 97, 49, 32, 48, 98, 48, 32, 49, 98, 50, 32, 50, 97, 50], ByteArray.mk #[98, 99, 32, 50, 32, 48, 98, 49, 32, 49, 99, 48], ByteArray.mk #[98, 99, 32, 51, 32, 48, 98, 49, 32, 48, 99, 48, 32, 49, 99, 50, 32, 50, 98, 50, 32, 50, 99, 50], ByteArray.mk #[45, 32, 49], ByteArray.mk #[97, 32, 49, 32, 48, 97, 48], ByteArray.mk #[97, 99, 32, 52, 32, 48, 97, 49, 32, 48, 97, 50, 32, 49, 99, 51, 32, 50, 97, 50, 32, 51, 97, 48, 32, 51, 99, 51], ByteArray.mk #[97, 98, 99, 32, 52, 32, 48, 97, 48, 32, 48, 98, 49, 32, 49, 98, 50, 32, 49, 99, 48, 32, 50, 99, 51, 32, 51, 97, 49], ByteArray.mk #[97, 98, 32, 53, 32, 48, 97, 48, 32, 48, 97, 49, 32, 48, 98, 48, 32, 49, 97, 50, 32, 49, 98, 50, 32, 50, 97, 51, 32, 50, 98, 51, 32, 51, 97, 52, 32, 51, 98, 52], ByteArray.mk #[97, 98, 100, 32, 51, 32, 48, 97, 49, 32, 48, 100, 48, 32, 49, 98, 48, 32, 49, 100, 50]]
theorem texts_len : texts.length = 11 := rfl
theorem texts_sz : texts.all (fun x => decide (x.size ≤ 900)) = true := by decide
theorem l2Texts_any (w : World) : Calls Tryz.prog 69 #[] w (fun e w' => e = .returned (.slice (some ⟨w.heap.size, 0, none⟩) 11 11) ∧ w' = w.alloc (.cells (texts.map Value.string).toArray 9)) := by
  go_enter Tryz.func69, Tryz.ntmps69
  go_wp2
  go_ret
  exact ⟨rfl, rfl⟩
theorem row_grown {w w' : World} {R b n : Nat} {t : TypeId} {f : Nat → Value} (h : w.rowIs b t n f) (hg : w.grownBy w' (some R)) (hne : b ≠ R) : w'.rowIs b t n f :=
  h.of_block (hg.block b (World.rowIs.lt h) (fun e => by injection e with e; exact hne e))
theorem evr_ne {R' Z : Nat} {w : World} {v : Value} {es : List Edg} (h : EVR Z w v es) : ∀ a n c b off, v = .slice a n c → a = some ⟨b, off, none⟩ → es.length ≠ 0 → b ≠ Z := by
  intro a n c b off hv ha h0
  obtain ⟨ao, cap, h1, h2, h3, h4⟩ := h
  rw [hv] at h1
  injection h1 with e1 e2 e3
  rcases h4 with h4 | ⟨b', off', h5, hR, h6, h7⟩
  · exact absurd h4 h0
  · rw [← e1, ha] at h5
    injection h5 with h5
    injection h5 with h5 _ _
    omega
/-- Three cells of a block that is not the edges' are written. -/
theorem evr_set {R Z j : Nat} {w : World} {v u : Value} {es : List Edg} (h : EVR R w v es) (hz : EVR Z w v es) : EVR R (w.setCell ⟨Z, j, none⟩ u) v es := by
  obtain ⟨ao, cap, h1, h2, h3, h4⟩ := h
  refine ⟨ao, cap, h1, h2, h3, ?_⟩
  rcases h4 with h4 | ⟨b, off, h5, hR, h6, h7⟩
  · exact .inl h4
  · by_cases h0 : es.length = 0
    · exact .inl h0
    · have hb0 := evr_ne (R' := 0) hz ao _ cap b off h1 h5 h0
      refine .inr ⟨b, off, h5, hR, by simpa using h6, fun i hi => ?_⟩
      have hb : (w.setCell ⟨Z, j, none⟩ u).heap[b]? = w.heap[b]? := Below.heap_setCell _ _ _ _ (by simpa using hb0)
      rw [World.cell?_of_block (w := w) (a := ⟨b, off + i * 3, none⟩) hb, World.cell?_of_block (w := w) (a := ⟨b, off + i * 3 + 1, none⟩) hb, World.cell?_of_block (w := w) (a := ⟨b, off + i * 3 + 2, none⟩) hb]
      exact h7 i hi
/-- A result is stored in its box Z and handed back. -/
theorem sys_done {R p Z : Nat} {al st : Int} {w0 w : World} {v : Value} {es : List Edg} (hr : RdOk R p w) (hg : w0.grownBy w (some R)) (hZ : w0.heap.size ≤ Z) (hR : R < w0.heap.size) (hE : ∀ R', R' ≤ Z → EVR R' w v es) (hq : w.rowIs Z 24 3 (fun i => #[.int .i64 0, .int .i64 0, .slice none 0 0][i]?.getD undef)) :
    (∀ R', R' < w0.heap.size → EVR R' (((w.setCell ⟨Z, 0, none⟩ (.int .i64 al)).setCell ⟨Z, 1, none⟩ (.int .i64 st)).setCell ⟨Z, 2, none⟩ v) v es) ∧ RdOk R p (((w.setCell ⟨Z, 0, none⟩ (.int .i64 al)).setCell ⟨Z, 1, none⟩ (.int .i64 st)).setCell ⟨Z, 2, none⟩ v) ∧ w0.grownBy (((w.setCell ⟨Z, 0, none⟩ (.int .i64 al)).setCell ⟨Z, 1, none⟩ (.int .i64 st)).setCell ⟨Z, 2, none⟩ v) (some R) ∧
    (((w.setCell ⟨Z, 0, none⟩ (.int .i64 al)).setCell ⟨Z, 1, none⟩ (.int .i64 st)).setCell ⟨Z, 2, none⟩ v).rowIs Z 24 3 (fun i => #[.int .i64 al, .int .i64 st, v][i]?.getD undef) := by
  have e1 : EVR Z (w.setCell ⟨Z, 0, none⟩ (.int .i64 al)) v es := evr_set (hE Z (Nat.le_refl _)) (hE Z (Nat.le_refl _))
  have e2 : EVR Z ((w.setCell ⟨Z, 0, none⟩ (.int .i64 al)).setCell ⟨Z, 1, none⟩ (.int .i64 st)) v es := evr_set e1 e1
  refine ⟨fun R' hR' => evr_set (evr_set (evr_set (hE R' (by omega)) (hE Z (Nat.le_refl _))) e1) e2, ((hr.set (by omega)).set (by omega)).set (by omega), grown_set _ (grown_set _ (grown_set _ hg hZ) hZ) hZ, rowIs_set3 hq _ _ _⟩
set_option maxHeartbeats 8000000 in
theorem l2Draw_ok (R p : Nat) (w : World) (hr : RdOk R p w) (hp : p ≤ 800000) : Calls Tryz.prog 45 #[.pointer (some ⟨R, 0, none⟩)] w (SysRV R p 300 1000 w) := by
  have hRlt := hr.lt
  have hq0 := sys_cells w 0 0 (.slice none 0 0) 24
  have hb0 := below_new' w 24 #[.int .i64 0, .int .i64 0, .slice none 0 0]
  obtain ⟨Z, hZ⟩ : ∃ Z, w.heap.size = Z := ⟨_, rfl⟩
  obtain ⟨w0, hw0⟩ : ∃ w0, (w.alloc (.cells #[.int .i64 0, .int .i64 0, .slice none 0 0] 24)) = w0 := ⟨_, rfl⟩
  rw [hZ] at hq0
  rw [hw0] at hq0 hb0
  have hr0 := hr.below hb0
  have hg0 := grown_below (some R) hb0
  have hRZ : Z ≠ R := by omega
  go_enter Tryz.func45, Tryz.ntmps45
  go_wp2_with fail
  refine (pick_any R p 3 w0 hr0 (by omega)).mono ?_
  rintro e w1 ⟨k, rfl, -, -, hr1, hg1⟩
  have HRD := Lib.hid hr1
  have HGR := Lib.hid (grown_trans hg0 hg1)
  have HQ := Lib.hid (row_grown hq0 hg1 hRZ)
  clear hr0 hg0 hq0 hb0 hr1 hg1 hw0
  by_cases hk : k = 0
  · subst hk
    go_wp2_with fail
    refine (l2Texts_any w1).mono ?_
    rintro e w2 ⟨rfl, rfl⟩
    go_wp2_with fail
    refine (of_lit R (p + 1) texts _ _ w1 rfl HRD.out (by omega) 11 texts_len (by omega) (by omega)).mono ?_
    rintro e w3 ⟨j, x, hj, hx, rfl, p3, hp3, hr3, hg3⟩
    have hxs := getD_sz texts 900 texts_sz hj hx
    have HG3 := Lib.hid (grown_trans HGR.out hg3)
    have HQ3 := Lib.hid (row_grown HQ.out hg3 hRZ)
    clear hj hx hg3 HGR HQ HRD
    go_wp2_with fail
    refine (specParseSys_for 0 0 [] x (by omega) w3).mono ?_
    rintro e w4 ⟨al, st, a, n, c, es, b, rfl, -, hes, hown, hb4, hpf⟩
    have hev : ∀ R', R' < w3.heap.size → EVR R' w4 (.slice a n c) es := fun R' hR' => hown.evr hR'
    have hvb := hpf.1
    have HVB := Lib.hid hvb; clear hvb
    clear hown hpf
    have hZ3 : Z < w3.heap.size := World.rowIs.lt HQ3.out
    have HEV4 := Lib.hid (show ∀ R', R' ≤ Z → EVR R' w4 (.slice a n c) es from fun R' hR' => hev R' (by omega))
    have HG4 := Lib.hid (grown_trans HG3.out (grown_below (some R) hb4))
    have HQ4 := Lib.hid (rowIs_below' HQ3.out hb4)
    have HR4 := Lib.hid (hr3.below hb4)
    obtain ⟨x5, hx5⟩ : ∃ x5, w4.heap.size = x5 := ⟨_, rfl⟩
    obtain ⟨w5, hw5⟩ : ∃ w5, (w4.alloc (.cells #[.int .i64 al, .int .i64 st, .slice a n c] 24)) = w5 := ⟨_, rfl⟩
    have hb5 := below_new' w4 24 #[.int .i64 al, .int .i64 st, .slice a n c]
    have hr5 := sys_cells w4 al st (.slice a n c) 24
    rw [hx5] at hr5
    rw [hw5] at hb5 hr5
    have HEV := Lib.hid (show ∀ R', R' ≤ Z → EVR R' w5 (.slice a n c) es from fun R' hR' => (HEV4.out R' hR').below hb5)
    have HGR := Lib.hid (grown_trans HG4.out (grown_below (some R) hb5))
    have HQ := Lib.hid (rowIs_below' HQ4.out hb5)
    have HRD := Lib.hid (HR4.out.below hb5)
    have s0 : w5.cell? ⟨x5, 0, none⟩ = some (.int .i64 al) := hr5.cell (by decide)
    have s1 : w5.cell? ⟨x5, 1, none⟩ = some (.int .i64 st) := hr5.cell (by decide)
    have s2 : w5.cell? ⟨x5, 2, none⟩ = some (.slice a n c) := hr5.cell (by decide)
    clear hev hb4 hb5 hr5 hr3
    cases b with
    | true =>
      have z0 : w5.cell? ⟨Z, 0, none⟩ = some (.int .i64 0) := HQ.out.cell (by decide)
      have z1 : w5.cell? ⟨Z, 1, none⟩ = some (.int .i64 0) := HQ.out.cell (by decide)
      have z2 : w5.cell? ⟨Z, 2, none⟩ = some (.slice none 0 0) := HQ.out.cell (by decide)
      have zf0 := HQ.out.frozen 0
      have zf1 := HQ.out.frozen 1
      have zf2 := HQ.out.frozen 2
      go_wp2
      have hdone := sys_done (al := al) (st := st) HRD.out HGR.out (Nat.le_of_eq hZ) hRlt HEV.out HQ.out
      obtain ⟨wf, hwf⟩ : ∃ wf, (((w5.setCell ⟨Z, 0, none⟩ (.int .i64 al)).setCell ⟨Z, 1, none⟩ (.int .i64 st)).setCell ⟨Z, 2, none⟩ (.slice a n c)) = wf := ⟨_, rfl⟩
      rw [hwf] at hdone ⊢
      clear hwf
      obtain ⟨d1, d2, d3, hfin⟩ := hdone
      have f0 : wf.cell? ⟨Z, 0, none⟩ = some (.int .i64 al) := hfin.cell (by decide)
      have f1 : wf.cell? ⟨Z, 1, none⟩ = some (.int .i64 st) := hfin.cell (by decide)
      have f2 : wf.cell? ⟨Z, 2, none⟩ = some (.slice a n c) := hfin.cell (by decide)
      refine bodyPost_ret (v := .agg #[.int .i64 al, .int .i64 st, .slice a n c]) ?_ rfl ?_
      · simp [results, Tryz.results45, go_sem, f0, f1, f2]
      · exact ⟨_, _, _, _, _, es, rfl, by omega, d1, ⟨p3, by omega, d2, d3⟩, (HVB.out (by trivial)).1⟩
    | false =>
      clear HEV HEV4 HG4 HQ4 HR4
      go_wp2_with fail
      refine (num_lit R (p3) [3, 6, 7, 5, 1, 0, 12] _ _ w5 rfl HRD.out (by omega) 7 rfl (by omega) (by omega)).mono ?_
      rintro e wa ⟨j1, al, hj1, hx1, rfl, pa, hpa, hra, hga⟩
      have hal : isA al = true := getD_bd _ (fun x => isA x = true) (by decide) hj1 hx1
      have HAL := Lib.hid hal
      have HGA := Lib.hid (grown_trans HGR.out hga)
      have HQA := Lib.hid (row_grown HQ.out hga hRZ)
      clear hal hx1 hj1 hga
      go_wp2_with fail
      refine (num_lit R pa [3, 2, 4, 1, 5] _ _ wa rfl hra (by omega) 5 rfl (by omega) (by omega)).mono ?_
      rintro e wb ⟨j2, T, hj2, hx2, rfl, pb, hpb, hrb, hgb⟩
      obtain ⟨hT0', hT5⟩ : 1 ≤ T ∧ T ≤ 5 := getD_bd _ (fun x => 1 ≤ x ∧ x ≤ 5) (by decide) hj2 hx2
      have hT0 : 0 ≤ T := by omega
      obtain ⟨T, rfl⟩ := Int.eq_ofNat_of_zero_le hT0
      have HGB := Lib.hid (grown_trans HGA.out hgb)
      have HQB := Lib.hid (row_grown HQA.out hgb hRZ)
      clear hx2 hj2 hgb hra
      go_wp2_with fail
      refine (num_lit R pb [3, 2, 4, 6] _ _ wb rfl hrb (by omega) 4 rfl (by omega) (by omega)).mono ?_
      rintro e wc ⟨j3, few, hj3, hx3, rfl, pc, hpc, hrc, hgc⟩
      have hfew : 1 ≤ few := getD_bd _ (fun x => 1 ≤ x) (by decide) hj3 hx3
      have HGC := Lib.hid (grown_trans HGB.out hgc)
      have HQC := Lib.hid (row_grown HQB.out hgc hRZ)
      clear hx3 hj3 hgc hrb
      go_wp2_with fail
      refine (l2Random_ok R pc al T few wc hrc (by omega) HAL.out (by omega) (by omega) hfew).mono ?_
      rintro e wd ⟨al', st', ad, nd, cd, esd, rfl, hesd, hevd, ⟨pd, hpd, hrd, hgd⟩, hvd⟩
      have HVD := Lib.hid hvd; clear hvd
      have hZc : Z < wc.heap.size := World.rowIs.lt HQC.out
      have HEVR := Lib.hid (show ∀ R', R' ≤ Z → EVR R' wd (.slice ad nd cd) esd from fun R' hR' => hevd R' (by omega))
      have HGD := Lib.hid (grown_trans HGC.out hgd)
      have HQD := Lib.hid (row_grown HQC.out hgd hRZ)
      have HRDD := Lib.hid hrd
      clear hgd hrc hrd hevd HRD HGR HQ
      have HEV := HEVR
      have HGR := HGD
      have HQ := HQD
      have HRD := HRDD
      have z0 : wd.cell? ⟨Z, 0, none⟩ = some (.int .i64 0) := HQ.out.cell (by decide)
      have z1 : wd.cell? ⟨Z, 1, none⟩ = some (.int .i64 0) := HQ.out.cell (by decide)
      have z2 : wd.cell? ⟨Z, 2, none⟩ = some (.slice none 0 0) := HQ.out.cell (by decide)
      have zf0 := HQ.out.frozen 0
      have zf1 := HQ.out.frozen 1
      have zf2 := HQ.out.frozen 2
      go_wp2
      have hdone := sys_done (al := al') (st := st') HRD.out HGR.out (Nat.le_of_eq hZ) hRlt HEV.out HQ.out
      obtain ⟨wf, hwf⟩ : ∃ wf, (((wd.setCell ⟨Z, 0, none⟩ (.int .i64 al')).setCell ⟨Z, 1, none⟩ (.int .i64 st')).setCell ⟨Z, 2, none⟩ (.slice ad nd cd)) = wf := ⟨_, rfl⟩
      rw [hwf] at hdone ⊢
      clear hwf
      obtain ⟨d1, d2, d3, hfin⟩ := hdone
      have f0 : wf.cell? ⟨Z, 0, none⟩ = some (.int .i64 al') := hfin.cell (by decide)
      have f1 : wf.cell? ⟨Z, 1, none⟩ = some (.int .i64 st') := hfin.cell (by decide)
      have f2 : wf.cell? ⟨Z, 2, none⟩ = some (.slice ad nd cd) := hfin.cell (by decide)
      refine bodyPost_ret (v := .agg #[.int .i64 al', .int .i64 st', .slice ad nd cd]) ?_ rfl ?_
      · simp [results, Tryz.results45, go_sem, f0, f1, f2]
      · exact ⟨_, _, _, _, _, esd, rfl, by omega, d1, ⟨pd, by omega, d2, d3⟩, HVD.out⟩
  · have hk' : ¬ (k : Int) = 0 := hk
    go_wp2_with fail
    refine (num_lit R (p + 1) [3, 6, 7, 5, 1, 0, 12] _ _ w1 rfl HRD.out (by omega) 7 rfl (by omega) (by omega)).mono ?_
    rintro e wa ⟨j1, al, hj1, hx1, rfl, pa, hpa, hra, hga⟩
    have hal : isA al = true := getD_bd _ (fun x => isA x = true) (by decide) hj1 hx1
    have HAL := Lib.hid hal
    have HGA := Lib.hid (grown_trans HGR.out hga)
    have HQA := Lib.hid (row_grown HQ.out hga hRZ)
    clear hal hx1 hj1 hga
    go_wp2_with fail
    refine (num_lit R pa [3, 2, 4, 1, 5] _ _ wa rfl hra (by omega) 5 rfl (by omega) (by omega)).mono ?_
    rintro e wb ⟨j2, T, hj2, hx2, rfl, pb, hpb, hrb, hgb⟩
    obtain ⟨hT0', hT5⟩ : 1 ≤ T ∧ T ≤ 5 := getD_bd _ (fun x => 1 ≤ x ∧ x ≤ 5) (by decide) hj2 hx2
    have hT0 : 0 ≤ T := by omega
    obtain ⟨T, rfl⟩ := Int.eq_ofNat_of_zero_le hT0
    have HGB := Lib.hid (grown_trans HGA.out hgb)
    have HQB := Lib.hid (row_grown HQA.out hgb hRZ)
    clear hx2 hj2 hgb hra
    go_wp2_with fail
    refine (num_lit R pb [3, 2, 4, 6] _ _ wb rfl hrb (by omega) 4 rfl (by omega) (by omega)).mono ?_
    rintro e wc ⟨j3, few, hj3, hx3, rfl, pc, hpc, hrc, hgc⟩
    have hfew : 1 ≤ few := getD_bd _ (fun x => 1 ≤ x) (by decide) hj3 hx3
    have HGC := Lib.hid (grown_trans HGB.out hgc)
    have HQC := Lib.hid (row_grown HQB.out hgc hRZ)
    clear hx3 hj3 hgc hrb
    go_wp2_with fail
    refine (l2Random_ok R pc al T few wc hrc (by omega) HAL.out (by omega) (by omega) hfew).mono ?_
    rintro e wd ⟨al', st', ad, nd, cd, esd, rfl, hesd, hevd, ⟨pd, hpd, hrd, hgd⟩, hvd⟩
    have HVD := Lib.hid hvd; clear hvd
    have hZc : Z < wc.heap.size := World.rowIs.lt HQC.out
    have HEVR := Lib.hid (show ∀ R', R' ≤ Z → EVR R' wd (.slice ad nd cd) esd from fun R' hR' => hevd R' (by omega))
    have HGD := Lib.hid (grown_trans HGC.out hgd)
    have HQD := Lib.hid (row_grown HQC.out hgd hRZ)
    have HRDD := Lib.hid hrd
    clear hgd hrc hrd hevd HRD HGR HQ
    have HEV := HEVR
    have HGR := HGD
    have HQ := HQD
    have HRD := HRDD
    have z0 : wd.cell? ⟨Z, 0, none⟩ = some (.int .i64 0) := HQ.out.cell (by decide)
    have z1 : wd.cell? ⟨Z, 1, none⟩ = some (.int .i64 0) := HQ.out.cell (by decide)
    have z2 : wd.cell? ⟨Z, 2, none⟩ = some (.slice none 0 0) := HQ.out.cell (by decide)
    have zf0 := HQ.out.frozen 0
    have zf1 := HQ.out.frozen 1
    have zf2 := HQ.out.frozen 2
    go_wp2
    have hdone := sys_done (al := al') (st := st') HRD.out HGR.out (Nat.le_of_eq hZ) hRlt HEV.out HQ.out
    obtain ⟨wf, hwf⟩ : ∃ wf, (((wd.setCell ⟨Z, 0, none⟩ (.int .i64 al')).setCell ⟨Z, 1, none⟩ (.int .i64 st')).setCell ⟨Z, 2, none⟩ (.slice ad nd cd)) = wf := ⟨_, rfl⟩
    rw [hwf] at hdone ⊢
    clear hwf
    obtain ⟨d1, d2, d3, hfin⟩ := hdone
    have f0 : wf.cell? ⟨Z, 0, none⟩ = some (.int .i64 al') := hfin.cell (by decide)
    have f1 : wf.cell? ⟨Z, 1, none⟩ = some (.int .i64 st') := hfin.cell (by decide)
    have f2 : wf.cell? ⟨Z, 2, none⟩ = some (.slice ad nd cd) := hfin.cell (by decide)
    refine bodyPost_ret (v := .agg #[.int .i64 al', .int .i64 st', .slice ad nd cd]) ?_ rfl ?_
    · simp [results, Tryz.results45, go_sem, f0, f1, f2]
    · exact ⟨_, _, _, _, _, esd, rfl, by omega, d1, ⟨pd, by omega, d2, d3⟩, HVD.out⟩
theorem l2Draw_any (R p : Nat) (w : World) (hr : RdOk R p w) (hp : p ≤ 800000) : Calls Tryz.prog 45 #[.pointer (some ⟨R, 0, none⟩)] w (SysR R p 300 1000 w) := (l2Draw_ok R p w hr hp).mono fun _ _ h => h.weak
end Go.Proofs.YtnjakhojdhkihaaGreatDoor
