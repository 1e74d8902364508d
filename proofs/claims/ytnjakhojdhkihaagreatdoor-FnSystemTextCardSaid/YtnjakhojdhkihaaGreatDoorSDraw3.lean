/- The draws of the laws on systems. -/
import Derived.Test.YtnjakhojdhkihaaGreatDoorSDraw2
import Derived.Deep.RegionHeld3

namespace Go.Proofs.YtnjakhojdhkihaaGreatDoor
open Go.RowKit
set_option linter.unusedVariables false
set_option linter.unusedSimpArgs false
set_option maxRecDepth 100000

/-- A system and a word. -/
def DSysStr (w : World) (e : Ending) (w' : World) : Prop := ∃ (al st : Int) (a : Option Addr) (n c : Nat) (es : List Edg) (s : ByteArray), e = .returned (.tuple #[.agg #[.int .i64 al, .int .i64 st, .slice a n c], .string s]) ∧ s.size ≤ 60000 ∧ (∀ R', R' ≤ w.heap.size → EVR R' w' (.slice a n c) es) ∧ es.length ≤ 5000 ∧ Below w.heap.size w w'
def DSys (w : World) (e : Ending) (w' : World) : Prop := ∃ (al st : Int) (a : Option Addr) (n c : Nat) (es : List Edg), e = .returned (.agg #[.int .i64 al, .int .i64 st, .slice a n c]) ∧ (∀ R', R' ≤ w.heap.size → EVR R' w' (.slice a n c) es) ∧ es.length ≤ 5000 ∧ Below w.heap.size w w'
theorem draw_bel {w w1 w2 : World} {R : Nat} (hb : Below w.heap.size w w1) (hR : w.heap.size ≤ R) (hg : w1.grownBy w2 (some R)) : Below w.heap.size w w2 :=
  ⟨hg.os.trans hb.os, hg.tape.trans hb.tape, hg.output.trans hb.output, Nat.le_trans hb.size hg.size, fun k hk => (hg.block k (by have := hb.size; omega) (fun e => by injection e with e; omega)).trans (hb.block k hk)⟩
theorem EVR.le {R R' : Nat} {w : World} {v : Value} {es : List Edg} (h : EVR R w v es) (hR : R' ≤ R) : EVR R' w v es := by
  obtain ⟨ao, cap, h1, h2, h3, h4⟩ := h
  refine ⟨ao, cap, h1, h2, h3, ?_⟩
  rcases h4 with h4 | ⟨b, off, h5, h6, h7, h8⟩
  · exact .inl h4
  · exact .inr ⟨b, off, h5, by omega, h7, h8⟩
set_option maxHeartbeats 4000000 in
theorem drawValid_any' (a : Option Addr) (len cap : Nat) (zs : List Int) (w : World) (hrow : IsRow w a len cap zs) : Calls Tryz.prog 29 #[.slice a len cap] w (DSys w) := by
  have hq0 := sys_cells w 0 0 (.slice none 0 0) 24
  have hb0 := below_new' w 24 #[.int .i64 0, .int .i64 0, .slice none 0 0]
  obtain ⟨Z, hZ⟩ : ∃ Z, w.heap.size = Z := ⟨_, rfl⟩
  obtain ⟨w0, hw0⟩ : ∃ w0, (w.alloc (.cells #[.int .i64 0, .int .i64 0, .slice none 0 0] 24)) = w0 := ⟨_, rfl⟩
  have hZw0 : w0.heap.size = w.heap.size + 1 := by rw [← hw0]; simp
  rw [hZ] at hq0
  rw [hw0] at hq0 hb0
  have hrow0 := IsRow.below hrow hb0
  go_enter Tryz.func29, Tryz.ntmps29
  go_wp2_with fail
  refine (l19Open_any _ _ _ _ w0 hrow0).mono ?_
  rintro e w1 ⟨R, rfl, hr1, hR, hb1⟩
  have HB1 := Lib.hid (hb0.trans (hb1.mono hb0.size))
  have HQ1 := Lib.hid (rowIs_below' hq0 hb1)
  have hRZ : Z ≠ R := by omega
  have hZR : Z < R := by omega
  have hwR : w.heap.size ≤ R := by omega
  clear hb0 hq0 hb1 hw0 hrow0 hrow
  go_wp2_with fail
  refine (l2Any_any R 0 w1 hr1 (by omega)).mono ?_
  rintro e w2 ⟨al, st, ad, n, c, es, rfl, hes, hev, p2, hp2, hr2, hg2⟩
  have hRw1 : R < w1.heap.size := hr1.lt
  have HE2 := Lib.hid (hev R hRw1)
  have HR2 := Lib.hid hr2
  have HG2 := Lib.hid hg2
  have HQ2 := Lib.hid (row_grown HQ1.out hg2 hRZ)
  clear hr1 hev hr2 hg2
  go_wp2_with fail
  refine (l2Wrong_any R p2 al st ad n c es w2 HR2.out (by omega) HE2.out (by omega)).mono ?_
  rintro e w1' ⟨al', st', ad', n', c', es', rfl, hes', hev', p3, hp3, hr3, hg3⟩
  have hZ2 : Z < w2.heap.size := World.rowIs.lt HQ2.out
  have hQ7 := row_grown HQ2.out hg3 hRZ
  have hbw : Below w.heap.size w w1' := draw_bel HB1.out hwR (grown_trans HG2.out hg3)
  have hev : ∀ R', R' ≤ Z → EVR R' w1' (.slice ad' n' c') es' := fun R' hR' => hev' R' (by omega)
  clear hev' hr3 hg3 HE2 HR2 HG2 HQ2 HB1 HQ1
  obtain ⟨wf, hwf⟩ : ∃ wf, (((w1'.setCell ⟨Z, 0, none⟩ (.int .i64 al')).setCell ⟨Z, 1, none⟩ (.int .i64 st')).setCell ⟨Z, 2, none⟩ (.slice ad' n' c')) = wf := ⟨_, rfl⟩
  have hfin := rowIs_set3 hQ7 (.int .i64 al') (.int .i64 st') (.slice ad' n' c')
  have hbf : Below w.heap.size w _ := ((hbw.setCell (p := ⟨Z, 0, none⟩) (by simp; omega) (.int .i64 al')).setCell (p := ⟨Z, 1, none⟩) (by simp; omega) (.int .i64 st')).setCell (p := ⟨Z, 2, none⟩) (by simp; omega) (.slice ad' n' c')
  have e1 : EVR Z w1' (.slice ad' n' c') es' := hev Z (by omega)
  have e2 : EVR Z (w1'.setCell ⟨Z, 0, none⟩ (.int .i64 al')) (.slice ad' n' c') es' := evr_set e1 e1
  have e3 : EVR Z ((w1'.setCell ⟨Z, 0, none⟩ (.int .i64 al')).setCell ⟨Z, 1, none⟩ (.int .i64 st')) (.slice ad' n' c') es' := evr_set e2 e2
  have e4 : EVR Z (((w1'.setCell ⟨Z, 0, none⟩ (.int .i64 al')).setCell ⟨Z, 1, none⟩ (.int .i64 st')).setCell ⟨Z, 2, none⟩ (.slice ad' n' c')) (.slice ad' n' c') es' := evr_set e3 e3
  have z0 : w1'.cell? ⟨Z, 0, none⟩ = some (.int .i64 0) := hQ7.cell (by decide)
  have z1 : w1'.cell? ⟨Z, 1, none⟩ = some (.int .i64 0) := hQ7.cell (by decide)
  have z2 : w1'.cell? ⟨Z, 2, none⟩ = some (.slice none 0 0) := hQ7.cell (by decide)
  have zf0 := hQ7.frozen 0
  have zf1 := hQ7.frozen 1
  have zf2 := hQ7.frozen 2
  rw [hwf] at hfin hbf e4
  have f0 : wf.cell? ⟨Z, 0, none⟩ = some (.int .i64 al') := hfin.cell (by decide)
  have f1 : wf.cell? ⟨Z, 1, none⟩ = some (.int .i64 st') := hfin.cell (by decide)
  have f2 : wf.cell? ⟨Z, 2, none⟩ = some (.slice ad' n' c') := hfin.cell (by decide)
  go_wp2
  refine bodyPost_ret (v := .agg #[.int .i64 al', .int .i64 st', .slice ad' n' c']) ?_ rfl ?_
  · simp [results, Tryz.results29, go_sem, f0, f1, f2]
  · exact ⟨al', st', ad', n', c', es', rfl, fun R' hR' => EVR.le e4 (by omega), by omega, hbf⟩
end Go.Proofs.YtnjakhojdhkihaaGreatDoor
