/- ComplementAutomaton of the program. -/
import Derived.Test.YtagegbhchljggaaCopy
import Derived.Test.YtagegbhchljggaaAutI
import Derived.StillTailTactics
namespace Go.Proofs.Ytagegbhchljggaa
open Go.RowKit
set_option linter.unusedVariables false
set_option linter.unusedSimpArgs false
set_option maxRecDepth 100000

/-- The result of a function that makes an automaton of a valid one. -/
def Made (ok : Bool) (al : Int) (xss : List (List Int)) (bs : List Bool) (w : World) (e : Ending) (w' : World) : Prop :=
  match ok with
  | true => ∃ b0 b1 Bf v1 v2, e = .returned (.tuple #[.agg #[.int .i64 al, v1, v2], .bool true]) ∧ WA w' b0 b1 Bf v1 v2 xss bs ∧ w.heap.size ≤ b0 ∧ w.heap.size ≤ b1 ∧ (∀ i, i < xss.length → (xss[i]?.getD []).length ≠ 0 → w.heap.size ≤ Bf i) ∧ Below w.heap.size w w'
  | false => e = .returned (.tuple #[.agg #[.int .i64 0, .slice none 0 0, .slice none 0 0], .bool false]) ∧ Below w.heap.size w w'
set_option maxHeartbeats 2000000 in
theorem implComp_any (al : Int) (a1 : Option Addr) (n1 c1 : Nat) (a2 : Option Addr) (n2 c2 : Nat) (xss : List (List Int)) (bs : List Bool) (w : World) (h : MV w (.slice a1 n1 c1) xss) (hb : BV w (.slice a2 n2 c2) bs) :
    Calls Try.prog 24 #[.agg #[.int .i64 al, .slice a1 n1 c1, .slice a2 n2 c2]] w (Made (autV al xss bs) al xss (bs.map not) w) := by
  have H := Lib.hid h; clear h
  have HB := Lib.hid hb; clear hb
  have B0 := Lib.hid ((below_new w 28 #[.int .i64 al, .slice a1 n1 c1, .slice a2 n2 c2]).alloc (by simp) (.cells #[.int .i64 0, .slice none 0 0, .slice none 0 0] 28))
  have R0 := Lib.hid ((agg3_cell w al (.slice a1 n1 c1) (.slice a2 n2 c2) 28).alloc (.cells #[.int .i64 0, .slice none 0 0, .slice none 0 0] 28))
  have hz0 := own_cells (w.alloc (.cells #[.int .i64 al, .slice a1 n1 c1, .slice a2 n2 c2] 28)) #[.int .i64 0, .slice none 0 0, .slice none 0 0] 28 3 rfl
  have hs0 : (w.alloc (.cells #[.int .i64 al, .slice a1 n1 c1, .slice a2 n2 c2] 28)).heap.size = w.heap.size + 1 := by simp
  rw [hs0] at hz0
  have Z0 := Lib.hid hz0
  clear hz0 hs0
  cases hv : autV al xss bs with
  | false =>
    have HV := Lib.hid hv; clear hv
    go_enter Try.func24, Try.ntmps24
    go_wp2_with fail
    refine (implAutValid_any al a1 n1 c1 a2 n2 c2 xss bs _ (MV.below H.out B0.out) (BV.below HB.out B0.out)).mono ?_
    rintro e w1 ⟨rfl, hb1⟩
    rw [HV.out]
    have B1 := Lib.hid (B0.out.trans (hb1.mono B0.out.size))
    have hz1 := rowIs_below Z0.out hb1
    have z0 : w1.cell? ⟨w.heap.size + 1, 0, none⟩ = some (.int .i64 0) := hz1.cell (by decide)
    have z1 : w1.cell? ⟨w.heap.size + 1, 1, none⟩ = some (.slice none 0 0) := hz1.cell (by decide)
    have z2 : w1.cell? ⟨w.heap.size + 1, 2, none⟩ = some (.slice none 0 0) := hz1.cell (by decide)
    have zf0 := hz1.frozen 0
    have zf1 := hz1.frozen 1
    have zf2 := hz1.frozen 2
    have Z1 := Lib.hid hz1
    clear hb1 hz1
    go_wp2
    obtain ⟨wf, hwf⟩ : ∃ wf, (((w1.setCell ⟨w.heap.size + 1, 0, none⟩ (.int .i64 0)).setCell ⟨w.heap.size + 1, 1, none⟩ (.slice none 0 0)).setCell ⟨w.heap.size + 1, 2, none⟩ (.slice none 0 0)) = wf := ⟨_, rfl⟩
    have hfin := store3 Z1.out (.int .i64 0) (.slice none 0 0) (.slice none 0 0)
    have hbF : Below w.heap.size w _ := ((B1.out.setCell (p := ⟨w.heap.size + 1, 0, none⟩) (by simp) (.int .i64 0)).setCell (p := ⟨w.heap.size + 1, 1, none⟩) (by simp) (.slice none 0 0)).setCell (p := ⟨w.heap.size + 1, 2, none⟩) (by simp) (.slice none 0 0)
    rw [hwf] at hfin hbF ⊢
    have f0 : wf.cell? ⟨w.heap.size + 1, 0, none⟩ = some (.int .i64 0) := hfin.cell (by decide)
    have f1 : wf.cell? ⟨w.heap.size + 1, 1, none⟩ = some (.slice none 0 0) := hfin.cell (by decide)
    have f2 : wf.cell? ⟨w.heap.size + 1, 2, none⟩ = some (.slice none 0 0) := hfin.cell (by decide)
    refine bodyPost_ret (v := .tuple #[.agg #[.int .i64 0, .slice none 0 0, .slice none 0 0], .bool false]) ?_ rfl ?_
    · simp [results, Try.results24, go_sem, f0, f1, f2]
    · exact ⟨rfl, hbF⟩
  | true =>
    have HV := Lib.hid hv; clear hv
    go_enter Try.func24, Try.ntmps24
    go_wp2_with fail
    refine (implAutValid_any al a1 n1 c1 a2 n2 c2 xss bs _ (MV.below H.out B0.out) (BV.below HB.out B0.out)).mono ?_
    rintro e w1 ⟨rfl, hb1⟩
    rw [HV.out]
    have B1 := Lib.hid (B0.out.trans (hb1.mono B0.out.size))
    have R1 := Lib.hid (rowIs_below R0.out hb1)
    have Z1 := Lib.hid (rowIs_below Z0.out hb1)
    have c0 : w1.cell? ⟨w.heap.size, 0, none⟩ = some (.int .i64 al) := R1.out.cell (by decide)
    have c1' : w1.cell? ⟨w.heap.size, 1, none⟩ = some (.slice a1 n1 c1) := R1.out.cell (by decide)
    have c2' : w1.cell? ⟨w.heap.size, 2, none⟩ = some (.slice a2 n2 c2) := R1.out.cell (by decide)
    clear hb1
    go_wp2_with fail
    refine (copyAut_any al a1 n1 c1 a2 n2 c2 xss bs _ (MV.below H.out B1.out) (BV.below HB.out B1.out) HV.out).mono ?_
    rintro e w2 ⟨b0, b1, Bf, v1, v2, rfl, hwa, hl0, hl1, hlr, hb2⟩
    have B2 := Lib.hid (B1.out.trans (hb2.mono B1.out.size))
    have Z2 := Lib.hid (rowIs_below Z1.out hb2)
    obtain ⟨x1, y1, rfl⟩ := hwa.1.shape
    obtain ⟨x2, y2, rfl⟩ := hwa.2.1.shape
    have HWA := Lib.hid hwa
    have HLR := Lib.hid hlr
    clear hwa hlr hb2
    obtain ⟨hx0, hx1, hx2, hx3, hx4, hx5⟩ := autV_facts HV.out
    have hbs : bs.length ≠ 0 := by omega
    obtain ⟨hx2b, hcells⟩ : x2 = some ⟨b1, 0, none⟩ ∧ (b1 < w2.heap.size ∧ ∀ j, j < bs.length → w2.cell? ⟨b1, j, none⟩ = some (.bool (bs[j]?.getD false)) ∧ w2.frozen? ⟨b1, j, none⟩ = false) := by
      obtain ⟨q1, q2, q3, q4, q5, q6⟩ := HWA.out.2.1
      injection q3 with q7 q8 q9
      subst q7
      rcases q6 with q6 | ⟨q6, q10, q11⟩
      · omega
      · exact ⟨q6, q10, q11⟩
    obtain ⟨hcap2, hmax2⟩ : bs.length ≤ y2 ∧ y2 ≤ maxLen := by
      obtain ⟨q1, q2, q3, q4, q5, q6⟩ := HWA.out.2.1
      injection q3 with q7 q8 q9
      subst q9
      exact ⟨q4, q5⟩
    subst hx2b
    obtain ⟨hb1lt, hcl⟩ := hcells
    have HCL := Lib.hid hcl
    have hbl12 : bs.length ≤ 12 := by omega
    have HX3 := Lib.hid hx3; clear hx3
    clear hcl hx0 hx4 hx5 c0 c1' c2'
    go_wp2_with fail
    obtain ⟨ob, hob⟩ : ∃ ob, w2.heap.size = ob := ⟨_, rfl⟩
    obtain ⟨w3, hw3⟩ : ∃ w3, w2.alloc (.cells #[.int .i64 al, .slice x1 xss.length y1, .slice (some ⟨b1, 0, none⟩) bs.length y2] 28) = w3 := ⟨_, rfl⟩
    have ho3 := own_cells w2 #[.int .i64 al, .slice x1 xss.length y1, .slice (some ⟨b1, 0, none⟩) bs.length y2] 28 3 rfl
    have hb3 := below_new w2 28 #[.int .i64 al, .slice x1 xss.length y1, .slice (some ⟨b1, 0, none⟩) bs.length y2]
    rw [hob] at ho3
    rw [hw3] at ho3 hb3 ⊢
    rw [hob]
    have hwa3 := HWA.out.below hb3
    have hz3 := rowIs_below Z2.out hb3
    have hb23 := B2.out.trans (hb3.mono B2.out.size)
    have HC3 := Lib.hid (fun (j : Nat) (hj : j < bs.length) => (show w3.cell? ⟨b1, j, none⟩ = some (.bool (bs[j]?.getD false)) ∧ w3.frozen? ⟨b1, j, none⟩ = false by
      rw [World.cell?_of_block (w := w2) (w' := w3) (a := ⟨b1, j, none⟩) (hb3.block b1 hb1lt), World.frozen?_of_block (w := w2) (w' := w3) (a := ⟨b1, j, none⟩) (hb3.block b1 hb1lt)]
      exact HCL.out j hj))
    have hs3 : ob < w3.heap.size := World.rowIs.lt ho3
    have hb1o : b1 < ob := by omega
    have hzlt : w.heap.size + 1 < w1.heap.size := World.rowIs.lt Z1.out
    have HO3 := Lib.hid ho3
    have HZ3 := Lib.hid hz3
    have HWA3 := Lib.hid hwa3
    have HB23 := Lib.hid hb23
    clear hw3 hob ho3 hb3 hwa3 hz3 hb23 HCL HWA
    go_loopw [15] (fun i wr => ∃ k : Nat, k ≤ bs.length ∧ i = .int .i64 k ∧ But b1 w3 wr ∧ ∀ j, j < bs.length → wr.cell? ⟨b1, j, none⟩ = some (.bool (if j < k then !(bs[j]?.getD false) else bs[j]?.getD false)) ∧ wr.frozen? ⟨b1, j, none⟩ = false) (fun i _ => bs.length - (intOf i).toNat)
    case atStart => exact ⟨0, by omega, rfl, But.refl _ _, fun j hj => by simpa using HC3.out j hj⟩
    case round =>
      obtain ⟨k, hk, rfl, hbut, hcell⟩ := hrel
      have o2 : wr.cell? ⟨ob, 2, none⟩ = some (.slice (some ⟨b1, 0, none⟩) bs.length y2) := hbut.cell (by omega) (HO3.out.cell (by decide))
      have o0 : wr.cell? ⟨ob, 0, none⟩ = some (.int .i64 al) := hbut.cell (by omega) (HO3.out.cell (by decide))
      have o1 : wr.cell? ⟨ob, 1, none⟩ = some (.slice x1 xss.length y1) := hbut.cell (by omega) (HO3.out.cell (by decide))
      have HBUT := Lib.hid hbut
      by_cases hlt : k < bs.length
      · obtain ⟨hc1, hc2⟩ := hcell k hlt
        rw [if_neg (by omega)] at hc1
        obtain ⟨bv, hbv⟩ : ∃ bv, bs[k]?.getD false = bv := ⟨_, rfl⟩
        rw [hbv] at hc1
        have HBV := Lib.hid hbv; clear hbv
        have HCELL := Lib.hid hcell
        clear hcell hbut
        go_wp2_with fail
        go_still_tail 10, (by kernel_rfl)
        change wpList _ _ _ _ _ wr.drew
        go_wp2
        go_roundw
        case rel => exact ⟨k + 1, by omega, by go_num, HBUT.out.set _ _, fun j hj => ⟨by
          by_cases e : j = k
          · subst e
            rw [if_pos (by omega), HBV.out]
            exact cell_set_same wr b1 j (.bool (!bv)) _ hc1
          · have h1 := (HCELL.out j hj).1
            have h2 := cell_set_other wr b1 k j (.bool (!bv)) e
            have : (j < k + 1) = (j < k) := by simp only [eq_iff_iff]; omega
            simp only [this]
            exact h2.trans h1, by
          have h1 := (HCELL.out j hj).2
          have h2 := frozen_set wr ⟨b1, k, none⟩ ⟨b1, j, none⟩ (.bool (!bv))
          exact h2.trans h1⟩⟩
        case measure => simp [intOf] <;> omega
      · obtain rfl : k = bs.length := by omega
        have hwlt : w.heap.size + 1 < b1 := by omega
        have hz := HZ3.out.of_block (hbut.2.2.2.2 (w.heap.size + 1) (World.rowIs.lt HZ3.out) (by omega))
        have z0 : wr.cell? ⟨w.heap.size + 1, 0, none⟩ = some (.int .i64 0) := hz.cell (by decide)
        have z1 : wr.cell? ⟨w.heap.size + 1, 1, none⟩ = some (.slice none 0 0) := hz.cell (by decide)
        have z2 : wr.cell? ⟨w.heap.size + 1, 2, none⟩ = some (.slice none 0 0) := hz.cell (by decide)
        have zf0 := hz.frozen 0
        have zf1 := hz.frozen 1
        have zf2 := hz.frozen 2
        have HZR := Lib.hid hz
        have HCELL := Lib.hid hcell
        clear hz hcell hbut
        go_wp2
        obtain ⟨wf, hwf⟩ : ∃ wf, (((wr.setCell ⟨w.heap.size + 1, 0, none⟩ (.int .i64 al)).setCell ⟨w.heap.size + 1, 1, none⟩ (.slice x1 xss.length y1)).setCell ⟨w.heap.size + 1, 2, none⟩ (.slice (some ⟨b1, 0, none⟩) bs.length y2)) = wf := ⟨_, rfl⟩
        have hfin := store3 HZR.out (.int .i64 al) (.slice x1 xss.length y1) (.slice (some ⟨b1, 0, none⟩) bs.length y2)
        have hbutf : But (w.heap.size + 1) wr wf := by rw [← hwf]; exact (((But.refl (w.heap.size + 1) wr).set 0 _).set 1 _).set 2 _
        rw [hwf] at hfin ⊢
        clear hwf
        have f0 : wf.cell? ⟨w.heap.size + 1, 0, none⟩ = some (.int .i64 al) := hfin.cell (by decide)
        have f1 : wf.cell? ⟨w.heap.size + 1, 1, none⟩ = some (.slice x1 xss.length y1) := hfin.cell (by decide)
        have f2 : wf.cell? ⟨w.heap.size + 1, 2, none⟩ = some (.slice (some ⟨b1, 0, none⟩) bs.length y2) := hfin.cell (by decide)
        refine bodyPost_ret (v := .tuple #[.agg #[.int .i64 al, .slice x1 xss.length y1, .slice (some ⟨b1, 0, none⟩) bs.length y2], .bool true]) ?_ rfl ?_
        · simp [results, Try.results24, go_sem, f0, f1, f2]
        · have hs1 := HBUT.out.2.2.2.1
          have hs2 := hbutf.2.2.2.1
          have hbw : w.heap.size ≤ w1.heap.size := B1.out.size
          have hm1 := (HWA3.out.1.only (Only.of_but HBUT.out) (fun h => HWA3.out.2.2.1 h.symm) (fun i hi h0 h => HWA3.out.2.2.2.1 i hi h0 h)).only (Only.of_but hbutf) (by omega) (fun i hi h0 h => by have := HLR.out i hi h0; omega)
          refine ⟨b0, b1, Bf, _, _, rfl, ⟨hm1, ⟨some ⟨b1, 0, none⟩, y2, by rw [List.length_map], by rw [List.length_map]; exact hcap2, hmax2, .inr ⟨rfl, by omega, fun j hj => ?_⟩⟩, HWA3.out.2.2.1, HWA3.out.2.2.2.1, fun i hi h0 => by have := HWA3.out.2.2.2.2 i hi h0; omega⟩, by omega, by omega, fun i hi h0 => by have := HLR.out i hi h0; omega, ?_⟩
          · have hj' : j < bs.length := by simpa using hj
            have hk := hbutf.2.2.2.2 b1 (by omega) (by omega)
            rw [World.cell?_of_block (w := wr) (w' := wf) (a := ⟨b1, j, none⟩) hk, World.frozen?_of_block (w := wr) (w' := wf) (a := ⟨b1, j, none⟩) hk]
            obtain ⟨q1, q2⟩ := HCELL.out j hj'
            rw [if_pos hj'] at q1
            refine ⟨?_, q2⟩
            rw [q1]
            simp [List.getElem?_eq_getElem hj']
          · exact hbutf.below (HBUT.out.below HB23.out (by omega) (by omega)) (by omega) (by omega)
end Go.Proofs.Ytagegbhchljggaa
