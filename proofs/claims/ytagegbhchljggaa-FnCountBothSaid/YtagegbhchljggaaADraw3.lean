/- DrawCountAccepted: what it draws. -/
import Derived.Test.YtagegbhchljggaaADraw2

namespace Go.Proofs.Ytagegbhchljggaa
open Go.RowKit
set_option linter.unusedVariables false
set_option linter.unusedSimpArgs false
set_option maxRecDepth 100000

/-- An automaton and a number. -/
def DAut (w : World) (e : Ending) (w' : World) : Prop := ∃ (al : Int) (a1 : Option Addr) (n1 c1 : Nat) (a2 : Option Addr) (n2 c2 : Nat) (xss : List (List Int)) (bs : List Bool) (n : Int),
  e = .returned (.tuple #[.agg #[.int .i64 al, .slice a1 n1 c1, .slice a2 n2 c2], .int .i64 n]) ∧ MV w' (.slice a1 n1 c1) xss ∧ BV w' (.slice a2 n2 c2) bs ∧ -1 ≤ n ∧ n ≤ 8 ∧ Below w.heap.size w w'
theorem draw_belA {w w1 w2 : World} {R : Nat} (hb : Below w.heap.size w w1) (hR : w.heap.size ≤ R) (hg : w1.grownBy w2 (some R)) : Below w.heap.size w w2 :=
  ⟨hg.os.trans hb.os, hg.tape.trans hb.tape, hg.output.trans hb.output, Nat.le_trans hb.size hg.size, fun k hk => (hg.block k (by have := hb.size; omega) (fun e => by injection e with e; omega)).trans (hb.block k hk)⟩
set_option maxHeartbeats 4000000 in
theorem drawCount_any (a : Option Addr) (len cap : Nat) (zs : List Int) (w : World) (hrow : IsRow w a len cap zs) : Calls Try.prog 31 #[.slice a len cap] w (DAut w) := by
  have hq0 := own_cells w #[.int .i64 0, .slice none 0 0, .slice none 0 0] 28 3 rfl
  have hb0 := below_newA w 28 #[.int .i64 0, .slice none 0 0, .slice none 0 0]
  obtain ⟨Z, hZ⟩ : ∃ Z, w.heap.size = Z := ⟨_, rfl⟩
  obtain ⟨w0, hw0⟩ : ∃ w0, (w.alloc (.cells #[.int .i64 0, .slice none 0 0, .slice none 0 0] 28)) = w0 := ⟨_, rfl⟩
  have hs0 : w0.heap.size = Z + 1 := by rw [← hw0, ← hZ]; simp
  rw [hZ] at hq0
  rw [hw0] at hq0 hb0
  have hrow0 := IsRow.below hrow hb0
  go_enter Try.func31, Try.ntmps31
  go_wp2_with fail
  refine (l19Open_any _ _ _ _ w0 hrow0).mono ?_
  rintro e w1 ⟨R, rfl, hr1, hR, hb1⟩
  have HB1 := Lib.hid (hb0.trans (hb1.mono hb0.size))
  have HQ1 := Lib.hid (rowIs_below hq0 hb1)
  have hRZ : Z ≠ R := by omega
  have hZR : Z < R := by omega
  have hwR : w.heap.size ≤ R := by omega
  have hz1 := hb1.size
  clear hb0 hq0 hb1 hw0 hrow0 hrow
  go_wp2_with fail
  refine (l3Any_any R 0 w1 hr1 (by omega)).mono ?_
  have hRw1 : R < w1.heap.size := hr1.lt
  rintro e w2 ⟨al, a1, n1, c1, a2, n2, c2, us, xss, bs, rfl, hro, htr, hxl, hbl, hxx, p2, hp2, hr2, hg2⟩
  have HAX := Lib.hid (show AX w1.heap.size w2 (.slice a1 n1 c1) (.slice a2 n2 c2) us xss bs from ⟨hro, htr⟩)
  have HR := Lib.hid hr2
  have HG := Lib.hid hg2
  have HQ := Lib.hid (row_grownA HQ1.out hg2 hRZ)
  clear hr1 hr2 hg2 hro htr HQ1 hxx
  go_wp2_with fail
  refine (num_lit R p2 [3, 2, 4, 1, 0, 7, 8, -1] _ _ w2 rfl HR.out (by omega) 8 rfl (by omega) (by omega)).mono ?_
  rintro e w3 ⟨j, n, hj, hx, rfl, p3, hp3, hr3, hg3⟩
  obtain ⟨hn1, hn2⟩ : -1 ≤ n ∧ n ≤ 8 := getD_bd _ (fun x => -1 ≤ x ∧ x ≤ 8) (by decide) hj hx
  have hq3 := row_grownA HQ.out hg3 hRZ
  have hax3 := HAX.out.low (by omega) hg3
  have hb3 := draw_belA HB1.out hwR (grown_trans HG.out hg3)
  have z0 : w3.cell? ⟨Z, 0, none⟩ = some (.int .i64 0) := hq3.cell (by decide)
  have z1 : w3.cell? ⟨Z, 1, none⟩ = some (.slice none 0 0) := hq3.cell (by decide)
  have z2 : w3.cell? ⟨Z, 2, none⟩ = some (.slice none 0 0) := hq3.cell (by decide)
  have zf0 := hq3.frozen 0
  have zf1 := hq3.frozen 1
  have zf2 := hq3.frozen 2
  have HQ3 := Lib.hid hq3
  have HAX3 := Lib.hid hax3
  have HB3 := Lib.hid hb3
  clear hj hx hr3 hg3 hq3 hax3 hb3 HAX HR HG HQ
  go_wp2
  have hq := HQ3.out
  have hfin := rowIs_set3A hq (.int .i64 al) (.slice a1 n1 c1) (.slice a2 n2 c2)
  have hax : AX w1.heap.size (((w3.setCell ⟨Z, 0, none⟩ (.int .i64 al)).setCell ⟨Z, 1, none⟩ (.slice a1 n1 c1)).setCell ⟨Z, 2, none⟩ (.slice a2 n2 c2)) (.slice a1 n1 c1) (.slice a2 n2 c2) us xss bs := ((HAX3.out.box hq).box (hq.set 0 _)).box ((hq.set 0 _).set 1 _)
  have hbf : Below w.heap.size w _ := ((HB3.out.setCell (p := ⟨Z, 0, none⟩) (by simp; omega) (.int .i64 al)).setCell (p := ⟨Z, 1, none⟩) (by simp; omega) (.slice a1 n1 c1)).setCell (p := ⟨Z, 2, none⟩) (by simp; omega) (.slice a2 n2 c2)
  obtain ⟨wf, hwf⟩ : ∃ wf, (((w3.setCell ⟨Z, 0, none⟩ (.int .i64 al)).setCell ⟨Z, 1, none⟩ (.slice a1 n1 c1)).setCell ⟨Z, 2, none⟩ (.slice a2 n2 c2)) = wf := ⟨_, rfl⟩
  rw [hwf] at hfin hax hbf ⊢
  clear hwf
  have f0 : wf.cell? ⟨Z, 0, none⟩ = some (.int .i64 al) := hfin.cell (by decide)
  have f1 : wf.cell? ⟨Z, 1, none⟩ = some (.slice a1 n1 c1) := hfin.cell (by decide)
  have f2 : wf.cell? ⟨Z, 2, none⟩ = some (.slice a2 n2 c2) := hfin.cell (by decide)
  refine bodyPost_ret (v := .tuple #[.agg #[.int .i64 al, .slice a1 n1 c1, .slice a2 n2 c2], .int .i64 n]) ?_ rfl ?_
  · simp [results, Try.results31, go_sem, f0, f1, f2]
  · exact ⟨al, a1, n1, c1, a2, n2, c2, xss, bs, n, rfl, RO.mv hax.1, TRow.bv hax.2, hn1, hn2, hbf⟩
end Go.Proofs.Ytagegbhchljggaa
