/- The walk of the law on ExtendAutomaton. -/
import Derived.Test.YtagegbhchljggaaExact
import Derived.Test.YtagegbhchljggaaAutMade
import Derived.Test.YtagegbhchljggaaExtI
import Derived.Test.YtagegbhchljggaaExtS



namespace Go.Proofs.Ytagegbhchljggaa
open Go.RowKit
set_option linter.unusedVariables false
set_option linter.unusedSimpArgs false
set_option maxRecDepth 100000

set_option maxHeartbeats 8000000 in
theorem fnExactExtendAutomaton_walk (al : Int) (a1 : Option Addr) (n1 c1 : Nat) (a2 : Option Addr) (n2 c2 : Nat) (xss : List (List Int)) (bs : List Bool) (be : Int) (w : World) (h : MV w (.slice a1 n1 c1) xss) (hb : BV w (.slice a2 n2 c2) bs) (hw : (Lit.int .i64 be).wf = true) :
    Calls Try.prog 9 #[.agg #[.int .i64 al, .slice a1 n1 c1, .slice a2 n2 c2], .int .i64 be] w fun e w' => e = .returned (.bool true) ∧ Below w.heap.size w w' := by
  clear hw
  have H := Lib.hid h; clear h
  have HB := Lib.hid hb; clear hb
  have B0 := Lib.hid (below_new w 25 #[.int .i64 al, .slice a1 n1 c1, .slice a2 n2 c2])
  have R0 := Lib.hid (agg3_cell w al (.slice a1 n1 c1) (.slice a2 n2 c2) 25)
  go_enter Try.func9, Try.ntmps9
  go_wp2_with fail
  refine (szAut_any al a1 n1 c1 a2 n2 c2 xss bs 1048576 _ (MV.below H.out B0.out) (BV.below HB.out B0.out) (by omega) (by omega)).mono ?_
  rintro e w1 ⟨r, rfl, hr, hall, hb1⟩
  have HALL := Lib.hid hall; clear hall
  have B1 := Lib.hid (B0.out.trans (hb1.mono B0.out.size))
  have R1 := Lib.hid (rowIs_below R0.out hb1)
  clear hb1
  by_cases hs : r < 0
  · go_wp2
    go_ret
    exact ⟨rfl, B1.out⟩
  have hs0 : 0 ≤ r := by omega
  clear hs
  obtain ⟨hm, hl, hbl⟩ := HALL.out hs0
  have HL := Lib.hid hl; clear hl
  clear HALL R0 B0
  have c10 : w1.cell? ⟨w.heap.size, 0, none⟩ = some (.int .i64 al) := R1.out.cell (by decide)
  have c11 : w1.cell? ⟨w.heap.size, 1, none⟩ = some (.slice a1 n1 c1) := R1.out.cell (by decide)
  have c12 : w1.cell? ⟨w.heap.size, 2, none⟩ = some (.slice a2 n2 c2) := R1.out.cell (by decide)
  obtain ⟨ok, hok⟩ : ∃ ok, (autV al xss bs && isA be) = ok := ⟨_, rfl⟩
  obtain ⟨A, hA⟩ : ∃ A, (if ok = true then bits .or .i64 al be else 0) = A := ⟨_, rfl⟩
  obtain ⟨X, hX⟩ : ∃ X, (if ok = true then extM al (bits .or .i64 al be) xss else []) = X := ⟨_, rfl⟩
  obtain ⟨Y, hY⟩ : ∃ Y, (if ok = true then bs else []) = Y := ⟨_, rfl⟩
  have hXm : X.length ≤ 1048576 := by
    rw [← hX]; split
    · rw [extM_len]; exact hm
    · exact Nat.zero_le _
  have hXL : ∀ l ∈ X, l.length ≤ 1048576 := by rw [← hX]; split; exact extM_lens _ _ _; intro l hl; cases hl
  have hYm : Y.length ≤ 1048576 := by
    rw [← hY]; split
    · exact hbl
    · exact Nat.zero_le _
  have hS := fun a1 n1 c1 a2 n2 c2 w h hb => (specExt_any al be a1 n1 c1 a2 n2 c2 xss bs w h hb).mono (fun _ _ h => Made.uni h)
  have hI := fun a1 n1 c1 a2 n2 c2 w h hb => (implExt_any al be a1 n1 c1 a2 n2 c2 xss bs w h hb).mono (fun _ _ h => Made.uni h)
  rw [hok, hA, hX, hY] at hS hI
  have HXL := Lib.hid hXL
  have HSP := Lib.hid hS
  have HIM := Lib.hid hI
  clear hok hA hX hY hXL hS hI
  go_wp2_with fail
  refine (toAut_any al a1 n1 c1 a2 n2 c2 xss bs _ (MV.below H.out B1.out) (BV.below HB.out B1.out) hm HL.out hbl).mono ?_
  rintro e w2 ⟨p2, q2, Bf2, rfl, hr2, hb2⟩
  have B2 := Lib.hid (B1.out.trans (hb2.mono B1.out.size))
  have R2 := Lib.hid (rowIs_below R1.out hb2)
  obtain ⟨hv2, hv2'⟩ := hr2.views hm HL.out hbl
  have HV2 := Lib.hid hv2; clear hv2
  have HV2' := Lib.hid hv2'; clear hv2'
  clear c10 c11 c12
  have c20 : w2.cell? ⟨w.heap.size, 0, none⟩ = some (.int .i64 al) := R2.out.cell (by decide)
  have c21 : w2.cell? ⟨w.heap.size, 1, none⟩ = some (.slice a1 n1 c1) := R2.out.cell (by decide)
  have c22 : w2.cell? ⟨w.heap.size, 2, none⟩ = some (.slice a2 n2 c2) := R2.out.cell (by decide)
  go_wp2_with fail
  refine (HSP.out _ _ _ _ _ _ _ HV2.out HV2'.out).mono ?_
  rintro e w3 ⟨d0, d1, Bd, u1, u2, rfl, hwa, -, -, -, hb3⟩
  obtain ⟨ua, uc, rfl⟩ := hwa.1.shape
  obtain ⟨va, vc, rfl⟩ := hwa.2.1.shape
  have V3 := Lib.hid hwa.1.view
  have V3' := Lib.hid hwa.2.1.view
  have B3 := Lib.hid (B2.out.trans (hb3.mono B2.out.size))
  have R3 := Lib.hid (rowIs_below R2.out hb3)
  clear c20 c21 c22
  have c30 : w3.cell? ⟨w.heap.size, 0, none⟩ = some (.int .i64 al) := R3.out.cell (by decide)
  have c31 : w3.cell? ⟨w.heap.size, 1, none⟩ = some (.slice a1 n1 c1) := R3.out.cell (by decide)
  have c32 : w3.cell? ⟨w.heap.size, 2, none⟩ = some (.slice a2 n2 c2) := R3.out.cell (by decide)
  have hw3 : w.heap.size < w3.heap.size := World.rowIs.lt R3.out
  clear hb3 hwa
  have hbx : Below w3.heap.size w3 (w3.alloc (.cells #[.int .i64 A, (.slice ua X.length uc), (.slice va Y.length vc)] 28)) := below_new _ _ _
  have hrx := agg3_cell w3 A ((.slice ua X.length uc)) ((.slice va Y.length vc)) 28
  obtain ⟨xw, hxw⟩ : ∃ xw, w3.heap.size = xw := ⟨_, rfl⟩
  rw [hxw] at hrx
  obtain ⟨w4, hw4⟩ : ∃ w4, (w3.alloc (.cells #[.int .i64 A, (.slice ua X.length uc), (.slice va Y.length vc)] 28)) = w4 := ⟨_, rfl⟩
  have hz4 : w4.heap.size = xw + 1 := by rw [← hw4, ← hxw]; simp
  rw [hw4] at hbx hrx
  have XW4 := Lib.hid hrx
  have L4 := Lib.hid hbx
  have hLx : w3.heap.size ≤ xw := Nat.le_of_eq hxw
  have hwxw : w.heap.size < xw := by omega
  have B4 := Lib.hid (B3.out.trans (hbx.mono B3.out.size))
  have R4 := Lib.hid (rowIs_below R3.out hbx)
  clear c30 c31 c32
  have c40 : w4.cell? ⟨w.heap.size, 0, none⟩ = some (.int .i64 al) := R4.out.cell (by decide)
  have c41 : w4.cell? ⟨w.heap.size, 1, none⟩ = some (.slice a1 n1 c1) := R4.out.cell (by decide)
  have c42 : w4.cell? ⟨w.heap.size, 2, none⟩ = some (.slice a2 n2 c2) := R4.out.cell (by decide)
  clear hbx hrx
  go_wp2_with fail
  refine (toAut_any al a1 n1 c1 a2 n2 c2 xss bs _ (MV.below H.out B4.out) (BV.below HB.out B4.out) hm HL.out hbl).mono ?_
  rintro e w5 ⟨p5, q5, Bf5, rfl, hr5, hb5⟩
  have B5 := Lib.hid (B4.out.trans (hb5.mono B4.out.size))
  have R5 := Lib.hid (rowIs_below R4.out hb5)
  have L5 := Lib.hid (L4.out.trans (hb5.mono L4.out.size))
  have XW5 := Lib.hid (rowIs_below XW4.out hb5)
  have A5 := Lib.hid hr5
  have hx5 : xw + 1 ≤ w5.heap.size := by have := hb5.size; omega
  clear hr5 hb5 c40 c41 c42
  have hbx : Below w5.heap.size w5 (w5.alloc (.cells #[.int .i64 al, (.slice (some ⟨p5, 0, none⟩) xss.length xss.length), (.slice (some ⟨q5, 0, none⟩) bs.length bs.length)] 28)) := below_new _ _ _
  have hrx := agg3_cell w5 al ((.slice (some ⟨p5, 0, none⟩) xss.length xss.length)) ((.slice (some ⟨q5, 0, none⟩) bs.length bs.length)) 28
  obtain ⟨x0, hx0⟩ : ∃ x0, w5.heap.size = x0 := ⟨_, rfl⟩
  rw [hx0] at hrx
  obtain ⟨w6, hw6⟩ : ∃ w6, (w5.alloc (.cells #[.int .i64 al, (.slice (some ⟨p5, 0, none⟩) xss.length xss.length), (.slice (some ⟨q5, 0, none⟩) bs.length bs.length)] 28)) = w6 := ⟨_, rfl⟩
  have hz6 : w6.heap.size = x0 + 1 := by rw [← hw6, ← hx0]; simp
  rw [hw6] at hbx hrx
  have XR6 := Lib.hid hrx
  have A6 := Lib.hid (A5.out.below hbx)
  have B6 := Lib.hid (B5.out.trans (hbx.mono B5.out.size))
  have R6 := Lib.hid (rowIs_below R5.out hbx)
  have L6 := Lib.hid (L5.out.trans (hbx.mono L5.out.size))
  have XW6 := Lib.hid (rowIs_below XW5.out hbx)
  have hx0w : xw + 1 ≤ x0 := by omega
  have hAS : ∀ q, blocksOf q5 Bf5 xss bs q → xw + 1 ≤ q ∧ q < x0 := fun q hq => by have h1 := A5.out.lo q hq; have h2 := A5.out.hi q hq; omega
  clear hbx hrx
  have cy0 : w6.cell? ⟨x0, 0, none⟩ = some (.int .i64 al) := XR6.out.cell (by decide)
  have cy1 : w6.cell? ⟨x0, 1, none⟩ = some ((.slice (some ⟨p5, 0, none⟩) xss.length xss.length)) := XR6.out.cell (by decide)
  have cy2 : w6.cell? ⟨x0, 2, none⟩ = some ((.slice (some ⟨q5, 0, none⟩) bs.length bs.length)) := XR6.out.cell (by decide)
  go_wp2_with fail
  have hvw6 := A6.out.views hm HL.out hbl
  refine (HIM.out _ _ _ _ _ _ _ hvw6.1 hvw6.2).mono ?_
  rintro e w7 ⟨g0, g1, Bg, v1, v2, rfl, hga, hg0, hg1, hgr, hb7⟩
  obtain ⟨ga, gc, rfl⟩ := hga.1.shape
  obtain ⟨ha, hc, rfl⟩ := hga.2.1.shape
  clear hvw6
  have B7 := Lib.hid (B6.out.trans (hb7.mono B6.out.size))
  have R7 := Lib.hid (rowIs_below R6.out hb7)
  have L7 := Lib.hid (L6.out.trans (hb7.mono L6.out.size))
  have XW7 := Lib.hid (rowIs_below XW6.out hb7)
  have XR7 := Lib.hid (rowIs_below XR6.out hb7)
  have A7 := Lib.hid (A6.out.below hb7)
  have hx7 : x0 + 1 ≤ w7.heap.size := by have := hb7.size; omega
  have hGS : ∀ q, blocksOf g1 Bg X Y q → x0 + 1 ≤ q ∧ q < w7.heap.size := fun q hq => by
    rcases hq with ⟨i, hi, h0, rfl⟩ | ⟨h0, rfl⟩
    · have h1 := hgr i hi h0
      have h2 := hga.2.2.2.2 i hi h0
      omega
    · obtain ⟨q1, q2, q3, q4, q5, q6⟩ := hga.2.1
      rcases q6 with q6 | ⟨-, q6, -⟩
      · exact absurd q6 h0
      · omega
  have hGA : ∀ q, blocksOf q5 Bf5 xss bs q → q ≠ g0 ∧ q ≠ g1 ∧ ∀ i, i < X.length → (X[i]?.getD []).length ≠ 0 → q ≠ Bg i := fun q hq => by
    have h1 := hAS q hq
    refine ⟨by omega, by omega, fun i hi h0 => ?_⟩
    have := hgr i hi h0
    omega
  clear hgr
  have hbx : Below w7.heap.size w7 (w7.alloc (.cells #[.int .i64 A, (.slice ga X.length gc), (.slice ha Y.length hc)] 28)) := below_new _ _ _
  have hrx := agg3_cell w7 A ((.slice ga X.length gc)) ((.slice ha Y.length hc)) 28
  obtain ⟨xg, hxg⟩ : ∃ xg, w7.heap.size = xg := ⟨_, rfl⟩
  rw [hxg] at hrx
  obtain ⟨w8, hw8⟩ : ∃ w8, (w7.alloc (.cells #[.int .i64 A, (.slice ga X.length gc), (.slice ha Y.length hc)] 28)) = w8 := ⟨_, rfl⟩
  have hz8 : w8.heap.size = xg + 1 := by rw [← hw8, ← hxg]; simp
  rw [hw8] at hbx hrx
  have XG8 := Lib.hid hrx
  have hxgx : x0 + 1 ≤ xg := by omega
  have hGS' : ∀ q, blocksOf g1 Bg X Y q → x0 + 1 ≤ q ∧ q < xg := fun q hq => by have := hGS q hq; omega
  have G8 := Lib.hid (hga.below hbx)
  have XR8 := Lib.hid (rowIs_below XR7.out hbx)
  have A8 := Lib.hid (A7.out.below hbx)
  have B8 := Lib.hid (B7.out.trans (hbx.mono B7.out.size))
  have R8 := Lib.hid (rowIs_below R7.out hbx)
  have L8 := Lib.hid (L7.out.trans (hbx.mono L7.out.size))
  have XW8 := Lib.hid (rowIs_below XW7.out hbx)
  clear hbx hrx hga hb7 cy0 cy1 cy2
  have cv0 : w8.cell? ⟨xw, 0, none⟩ = some (.int .i64 A) := XW8.out.cell (by decide)
  have cv1 : w8.cell? ⟨xw, 1, none⟩ = some ((.slice ua X.length uc)) := XW8.out.cell (by decide)
  have cv2 : w8.cell? ⟨xw, 2, none⟩ = some ((.slice va Y.length vc)) := XW8.out.cell (by decide)
  have cg0 : w8.cell? ⟨xg, 0, none⟩ = some (.int .i64 A) := XG8.out.cell (by decide)
  have cg1 : w8.cell? ⟨xg, 1, none⟩ = some ((.slice ga X.length gc)) := XG8.out.cell (by decide)
  have cg2 : w8.cell? ⟨xg, 2, none⟩ = some ((.slice ha Y.length hc)) := XG8.out.cell (by decide)
  have hbb : (ok != ok) = false := by cases ok <;> rfl
  go_wp2_with fail
  refine (eqAut_same A _ _ _ _ _ _ _ _ _ _ _ _ X Y _ G8.out.1.view G8.out.2.1.view (MV.below V3.out L8.out) (BV.below V3'.out L8.out)).mono ?_
  rintro e w9 ⟨rfl, hb9⟩
  have B9 := Lib.hid (B8.out.trans (hb9.mono B8.out.size))
  have R9 := Lib.hid (rowIs_below R8.out hb9)
  have L9 := Lib.hid (L8.out.trans (hb9.mono L8.out.size))
  have XW9 := Lib.hid (rowIs_below XW8.out hb9)
  have XG9 := Lib.hid (rowIs_below XG8.out hb9)
  have G9 := Lib.hid (G8.out.below hb9)
  have XR9 := Lib.hid (rowIs_below XR8.out hb9)
  have A9 := Lib.hid (A8.out.below hb9)
  clear hb9 cv0 cv1 cv2 cg0 cg1 cg2
  go_wp2_with fail
  have HS := Lib.hid (fun (w' : World) (hb : Below w9.heap.size w9 w') => (show (w'.cell? ⟨x0, 0, none⟩ = some (.int .i64 al) ∧ w'.cell? ⟨x0, 1, none⟩ = some (.slice (some ⟨p5, 0, none⟩) xss.length xss.length) ∧ w'.cell? ⟨x0, 2, none⟩ = some (.slice (some ⟨q5, 0, none⟩) bs.length bs.length)) ∧ (w'.cell? ⟨w.heap.size, 0, none⟩ = some (.int .i64 al) ∧ w'.cell? ⟨w.heap.size, 1, none⟩ = some (.slice a1 n1 c1) ∧ w'.cell? ⟨w.heap.size, 2, none⟩ = some (.slice a2 n2 c2)) from ⟨⟨(rowIs_below XR9.out hb).cell (by decide), (rowIs_below XR9.out hb).cell (by decide), (rowIs_below XR9.out hb).cell (by decide)⟩, (rowIs_below R9.out hb).cell (by decide), (rowIs_below R9.out hb).cell (by decide), (rowIs_below R9.out hb).cell (by decide)⟩))
  refine wp_region_held_drew (S := fun w' => (w'.cell? ⟨x0, 0, none⟩ = some (.int .i64 al) ∧ w'.cell? ⟨x0, 1, none⟩ = some (.slice (some ⟨p5, 0, none⟩) xss.length xss.length) ∧ w'.cell? ⟨x0, 2, none⟩ = some (.slice (some ⟨q5, 0, none⟩) bs.length bs.length)) ∧ (w'.cell? ⟨w.heap.size, 0, none⟩ = some (.int .i64 al) ∧ w'.cell? ⟨w.heap.size, 1, none⟩ = some (.slice a1 n1 c1) ∧ w'.cell? ⟨w.heap.size, 2, none⟩ = some (.slice a2 n2 c2))) (by kernel_rfl) (HS.out _ (Below.refl _ _).drew) (fun hHeld => ?_)
  have hbd : Below w9.heap.size w9 w9.drew := (Below.refl _ _).drew
  first | (refine wpAnyH_take (i := 0) (get_of_drop rfl) (by kernel_rfl) (by kernel_rfl) (by kernel_rfl) (fun _ _ _ h => h) (Or.inr ⟨?_, rfl⟩) hHeld ?_; (focus (simp [Region.wanted, yielded, undef]; done)); (try simp only [Act.put, List.setIfInBounds_toArray, List.set_cons_zero, List.set_cons_succ])) | (refine wpAnyH_take (i := 0) (v := ?_) (get_of_drop rfl) (by kernel_rfl) (by kernel_rfl) (by kernel_rfl) (fun _ _ _ h => h) (Or.inl ⟨?_, ?_⟩) hHeld ?_; rotate_left; (focus rfl); (focus (intro w hSw; (try dsimp only at hSw); go_simp; (try (with_reducible rfl)))); (try simp only [Act.put, List.setIfInBounds_toArray, List.set_cons_zero, List.set_cons_succ]))
  first | (refine wpAnyH_take (i := 1) (get_of_drop rfl) (by kernel_rfl) (by kernel_rfl) (by kernel_rfl) (fun _ _ _ h => h) (Or.inr ⟨?_, rfl⟩) hHeld ?_; (focus (simp [Region.wanted, yielded, undef]; done)); (try simp only [Act.put, List.setIfInBounds_toArray, List.set_cons_zero, List.set_cons_succ])) | (refine wpAnyH_take (i := 1) (v := ?_) (get_of_drop rfl) (by kernel_rfl) (by kernel_rfl) (by kernel_rfl) (fun _ _ _ h => h) (Or.inl ⟨?_, ?_⟩) hHeld ?_; rotate_left; (focus rfl); (focus (intro w hSw; (try dsimp only at hSw); go_simp; (try (with_reducible rfl)))); (try simp only [Act.put, List.setIfInBounds_toArray, List.set_cons_zero, List.set_cons_succ]))
  refine wpAnyH_ready (rs := [2]) (by kernel_rfl) (by simp) ?_
  refine AllReadyH.cons (get_of_drop rfl) (fun K hK => ?_) AllReadyH.nil
  go_simp
  go_at_call 14
  refine (toAut_any al a1 n1 c1 a2 n2 c2 xss bs _ (MV.below H.out (B9.out.trans (hbd.mono B9.out.size))) (BV.below HB.out (B9.out.trans (hbd.mono B9.out.size))) hm HL.out hbl).mono ?_
  rintro e w10 ⟨p10, q10, Bf10, rfl, hr10, hb10'⟩
  have hb10 := hbd.trans hb10'
  have hv10 := hr10.views hm HL.out hbl
  go_wp2_with fail
  refine hK.out _ _ (HS.out w10 hb10) (fun hHeld => ?_)
  clear hK K
  try simp only [Act.put, List.setIfInBounds_toArray, List.set_cons_zero, List.set_cons_succ]
  refine wpAnyH_ready (rs := [3]) (by kernel_rfl) (by simp) ?_
  refine AllReadyH.cons (get_of_drop rfl) (fun K hK => ?_) AllReadyH.nil
  go_simp
  go_at_call 16
  have hva := (A9.out.below hb10).views hm HL.out hbl
  refine (eqAut_same al _ _ _ _ _ _ _ _ _ _ _ _ xss bs _ hva.1 hva.2 hv10.1 hv10.2).mono ?_
  rintro e w11 ⟨rfl, hb11'⟩
  have hb11 := hb10.trans (hb11'.mono hb10.size)
  have B11 := Lib.hid (B9.out.trans (hb11.mono B9.out.size))
  have R11 := Lib.hid (rowIs_below R9.out hb11)
  have L11 := Lib.hid (L9.out.trans (hb11.mono L9.out.size))
  have XW11 := Lib.hid (rowIs_below XW9.out hb11)
  have XG11 := Lib.hid (rowIs_below XG9.out hb11)
  have G11 := Lib.hid (G9.out.below hb11)
  have XR11 := Lib.hid (rowIs_below XR9.out hb11)
  have A11 := Lib.hid (A9.out.below hb11)
  go_wp2_with fail
  refine hK.out _ _ (HS.out w11 hb11) (fun hHeld => ?_)
  clear hK K
  try simp only [Act.put, List.setIfInBounds_toArray, List.set_cons_zero, List.set_cons_succ]
  first | (refine wpAnyH_take (i := 4) (get_of_drop rfl) (by kernel_rfl) (by kernel_rfl) (by kernel_rfl) (fun _ _ _ h => h) (Or.inr ⟨?_, rfl⟩) hHeld ?_; (focus (simp [Region.wanted, yielded, undef]; done)); (try simp only [Act.put, List.setIfInBounds_toArray, List.set_cons_zero, List.set_cons_succ])) | (refine wpAnyH_take (i := 4) (v := ?_) (get_of_drop rfl) (by kernel_rfl) (by kernel_rfl) (by kernel_rfl) (fun _ _ _ h => h) (Or.inl ⟨?_, ?_⟩) hHeld ?_; rotate_left; (focus rfl); (focus (intro w hSw; (try dsimp only at hSw); go_simp; (try (with_reducible rfl)))); (try simp only [Act.put, List.setIfInBounds_toArray, List.set_cons_zero, List.set_cons_succ]))
  refine wpAnyH_done (by kernel_rfl) ?_ _
  clear hbd hr10 hb10' hb10 hv10 hb11' hb11 hva
  have cy0 : w11.cell? ⟨x0, 0, none⟩ = some (.int .i64 al) := XR11.out.cell (by decide)
  have cy1 : w11.cell? ⟨x0, 1, none⟩ = some ((.slice (some ⟨p5, 0, none⟩) xss.length xss.length)) := XR11.out.cell (by decide)
  have cy2 : w11.cell? ⟨x0, 2, none⟩ = some ((.slice (some ⟨q5, 0, none⟩) bs.length bs.length)) := XR11.out.cell (by decide)
  go_wp2_with fail
  refine (markAut_any al p5 q5 Bf5 _ _ xss bs 1 _ (A11.out.wa hm HL.out hbl) (by omega) (by omega) hm HL.out hbl).mono ?_
  rintro e w12 ⟨rfl, -, ho⟩
  have R12 := Lib.hid (R11.out.of_block (ho.2.2.2.2 _ (World.rowIs.lt R11.out) (fun hq => by have := hAS _ hq; omega)))
  have XW12 := Lib.hid (XW11.out.of_block (ho.2.2.2.2 _ (World.rowIs.lt XW11.out) (fun hq => by have := hAS _ hq; omega)))
  have XG12 := Lib.hid (XG11.out.of_block (ho.2.2.2.2 _ (World.rowIs.lt XG11.out) (fun hq => by have := hAS _ hq; omega)))
  have G12 := Lib.hid (G11.out.only ho (fun hq => (hGA _ hq).1 rfl) (fun hq => (hGA _ hq).2.1 rfl) (fun i hi h0 hq => (hGA _ hq).2.2 i hi h0 rfl))
  have L12 := Lib.hid (ho.below L11.out (fun q hq => by have := hAS q hq; omega) L11.out.size)
  have B12 := Lib.hid (ho.below B11.out (fun q hq => by have := hAS q hq; omega) B11.out.size)
  obtain ⟨M1, hM1⟩ : ∃ M1 : Int, markV 1 xss bs.length = M1 := ⟨_, rfl⟩
  have hM10 : decide (M1 < 0) = false := by rw [decide_eq_false_iff_not, ← hM1]; unfold markV; omega
  rw [hM1]
  clear hM1 ho cy0 cy1 cy2
  have cv0 : w12.cell? ⟨xw, 0, none⟩ = some (.int .i64 A) := XW12.out.cell (by decide)
  have cv1 : w12.cell? ⟨xw, 1, none⟩ = some ((.slice ua X.length uc)) := XW12.out.cell (by decide)
  have cv2 : w12.cell? ⟨xw, 2, none⟩ = some ((.slice va Y.length vc)) := XW12.out.cell (by decide)
  have cg0 : w12.cell? ⟨xg, 0, none⟩ = some (.int .i64 A) := XG12.out.cell (by decide)
  have cg1 : w12.cell? ⟨xg, 1, none⟩ = some ((.slice ga X.length gc)) := XG12.out.cell (by decide)
  have cg2 : w12.cell? ⟨xg, 2, none⟩ = some ((.slice ha Y.length hc)) := XG12.out.cell (by decide)
  go_wp2_with fail
  refine (eqAut_same A _ _ _ _ _ _ _ _ _ _ _ _ X Y _ G12.out.1.view G12.out.2.1.view (MV.below V3.out L12.out) (BV.below V3'.out L12.out)).mono ?_
  rintro e w13 ⟨rfl, hb13⟩
  have B13 := Lib.hid (B12.out.trans (hb13.mono B12.out.size))
  have R13 := Lib.hid (rowIs_below R12.out hb13)
  have L13 := Lib.hid (L12.out.trans (hb13.mono L12.out.size))
  have XW13 := Lib.hid (rowIs_below XW12.out hb13)
  have XG13 := Lib.hid (rowIs_below XG12.out hb13)
  have G13 := Lib.hid (G12.out.below hb13)
  clear hb13 cv0 cv1 cv2 cg0 cg1 cg2
  have cg0 : w13.cell? ⟨xg, 0, none⟩ = some (.int .i64 A) := XG13.out.cell (by decide)
  have cg1 : w13.cell? ⟨xg, 1, none⟩ = some ((.slice ga X.length gc)) := XG13.out.cell (by decide)
  have cg2 : w13.cell? ⟨xg, 2, none⟩ = some ((.slice ha Y.length hc)) := XG13.out.cell (by decide)
  obtain ⟨M2, hM2⟩ : ∃ M2 : Int, markV 1 X Y.length = M2 := ⟨_, rfl⟩
  have hM20 : decide (M2 < 0) = false := by rw [decide_eq_false_iff_not, ← hM2]; unfold markV; omega
  go_wp2_with fail
  refine (markAut_any A g0 g1 Bg _ _ X Y 1 _ G13.out (by omega) (by omega) hXm HXL.out hYm).mono ?_
  rintro e w14 ⟨rfl, hma, ho⟩
  rw [hM2]
  have R14 := Lib.hid (R13.out.of_block (ho.2.2.2.2 _ (World.rowIs.lt R13.out) (fun hq => by have := hGS' _ hq; omega)))
  have XW14 := Lib.hid (XW13.out.of_block (ho.2.2.2.2 _ (World.rowIs.lt XW13.out) (fun hq => by have := hGS' _ hq; omega)))
  have XG14 := Lib.hid (XG13.out.of_block (ho.2.2.2.2 _ (World.rowIs.lt XG13.out) (fun hq => by have := hGS' _ hq; omega)))
  have L14 := Lib.hid (ho.below L13.out (fun q hq => by have := hGS' q hq; omega) L13.out.size)
  have B14 := Lib.hid (ho.below B13.out (fun q hq => by have := hGS' q hq; omega) B13.out.size)
  have G14 := Lib.hid hma
  have HELD := Lib.hid (fun (wq : World) (h : WA wq g0 g1 Bg (.slice ga X.length gc) (.slice ha Y.length hc) (markM 1 X) (seqB (1 + (offs X X.length : Int)) Y.length)) => hM2 ▸ heldAut_any A _ _ X Y.length 1 wq h.1.view h.2.1.view (by omega) (by omega) hXm HXL.out hYm)
  clear hma ho hM2 cg0 cg1 cg2
  have cg0 : w14.cell? ⟨xg, 0, none⟩ = some (.int .i64 A) := XG14.out.cell (by decide)
  have cg1 : w14.cell? ⟨xg, 1, none⟩ = some ((.slice ga X.length gc)) := XG14.out.cell (by decide)
  have cg2 : w14.cell? ⟨xg, 2, none⟩ = some ((.slice ha Y.length hc)) := XG14.out.cell (by decide)
  go_wp2_with fail
  refine (HELD.out w14 G14.out).mono ?_
  rintro e w15 ⟨rfl, hb15⟩
  have B15 := Lib.hid (B14.out.trans (hb15.mono B14.out.size))
  have R15 := Lib.hid (rowIs_below R14.out hb15)
  have L15 := Lib.hid (L14.out.trans (hb15.mono L14.out.size))
  have XW15 := Lib.hid (rowIs_below XW14.out hb15)
  have XG15 := Lib.hid (rowIs_below XG14.out hb15)
  have G15 := Lib.hid (G14.out.below hb15)
  clear hb15 cg0 cg1 cg2
  have c150 : w15.cell? ⟨w.heap.size, 0, none⟩ = some (.int .i64 al) := R15.out.cell (by decide)
  have c151 : w15.cell? ⟨w.heap.size, 1, none⟩ = some (.slice a1 n1 c1) := R15.out.cell (by decide)
  have c152 : w15.cell? ⟨w.heap.size, 2, none⟩ = some (.slice a2 n2 c2) := R15.out.cell (by decide)
  have hMM : (M2 != M2) = false := by simp
  go_wp2_with fail
  refine (toAut_any al a1 n1 c1 a2 n2 c2 xss bs _ (MV.below H.out B15.out) (BV.below HB.out B15.out) hm HL.out hbl).mono ?_
  rintro e w16 ⟨p16, q16, Bf16, rfl, hr16, hb16⟩
  have B16 := Lib.hid (B15.out.trans (hb16.mono B15.out.size))
  have R16 := Lib.hid (rowIs_below R15.out hb16)
  have L16 := Lib.hid (L15.out.trans (hb16.mono L15.out.size))
  have XW16 := Lib.hid (rowIs_below XW15.out hb16)
  have XG16 := Lib.hid (rowIs_below XG15.out hb16)
  have G16 := Lib.hid (G15.out.below hb16)
  have hvw := hr16.views hm HL.out hbl
  have V16 := Lib.hid hvw.1
  have V16' := Lib.hid hvw.2
  clear hb16 hr16 hvw c150 c151 c152
  go_wp2_with fail
  refine (HIM.out _ _ _ _ _ _ _ V16.out V16'.out).mono ?_
  rintro e w17 ⟨k0, k1, Bk, z1, z2, rfl, hka, -, -, -, hb17⟩
  obtain ⟨ka, kc, rfl⟩ := hka.1.shape
  obtain ⟨la, lc, rfl⟩ := hka.2.1.shape
  have B17 := Lib.hid (B16.out.trans (hb17.mono B16.out.size))
  have R17 := Lib.hid (rowIs_below R16.out hb17)
  have L17 := Lib.hid (L16.out.trans (hb17.mono L16.out.size))
  have XW17 := Lib.hid (rowIs_below XW16.out hb17)
  have XG17 := Lib.hid (rowIs_below XG16.out hb17)
  have G17 := Lib.hid (G16.out.below hb17)
  have hbx : Below w17.heap.size w17 (w17.alloc (.cells #[.int .i64 A, (.slice ka X.length kc), (.slice la Y.length lc)] 28)) := below_new _ _ _
  have hrx := agg3_cell w17 A ((.slice ka X.length kc)) ((.slice la Y.length lc)) 28
  obtain ⟨xh, hxh⟩ : ∃ xh, w17.heap.size = xh := ⟨_, rfl⟩
  rw [hxh] at hrx
  obtain ⟨w18, hw18⟩ : ∃ w18, (w17.alloc (.cells #[.int .i64 A, (.slice ka X.length kc), (.slice la Y.length lc)] 28)) = w18 := ⟨_, rfl⟩
  have hz18 : w18.heap.size = xh + 1 := by rw [← hw18, ← hxh]; simp
  rw [hw18] at hbx hrx
  have XH18 := Lib.hid hrx
  have K18 := Lib.hid (hka.below hbx)
  have B18 := Lib.hid (B17.out.trans (hbx.mono B17.out.size))
  have R18 := Lib.hid (rowIs_below R17.out hbx)
  have L18 := Lib.hid (L17.out.trans (hbx.mono L17.out.size))
  have XW18 := Lib.hid (rowIs_below XW17.out hbx)
  have XG18 := Lib.hid (rowIs_below XG17.out hbx)
  have G18 := Lib.hid (G17.out.below hbx)
  clear hbx hrx hka hb17
  have ch0 : w18.cell? ⟨xh, 0, none⟩ = some (.int .i64 A) := XH18.out.cell (by decide)
  have ch1 : w18.cell? ⟨xh, 1, none⟩ = some ((.slice ka X.length kc)) := XH18.out.cell (by decide)
  have ch2 : w18.cell? ⟨xh, 2, none⟩ = some ((.slice la Y.length lc)) := XH18.out.cell (by decide)
  have cv0 : w18.cell? ⟨xw, 0, none⟩ = some (.int .i64 A) := XW18.out.cell (by decide)
  have cv1 : w18.cell? ⟨xw, 1, none⟩ = some ((.slice ua X.length uc)) := XW18.out.cell (by decide)
  have cv2 : w18.cell? ⟨xw, 2, none⟩ = some ((.slice va Y.length vc)) := XW18.out.cell (by decide)
  go_wp2_with fail
  refine (eqAut_same A _ _ _ _ _ _ _ _ _ _ _ _ X Y _ K18.out.1.view K18.out.2.1.view (MV.below V3.out L18.out) (BV.below V3'.out L18.out)).mono ?_
  rintro e w19 ⟨rfl, hb19⟩
  have B19 := Lib.hid (B18.out.trans (hb19.mono B18.out.size))
  have R19 := Lib.hid (rowIs_below R18.out hb19)
  have L19 := Lib.hid (L18.out.trans (hb19.mono L18.out.size))
  have XW19 := Lib.hid (rowIs_below XW18.out hb19)
  have XG19 := Lib.hid (rowIs_below XG18.out hb19)
  have G19 := Lib.hid (G18.out.below hb19)
  clear hb19 ch0 ch1 ch2 cv0 cv1 cv2
  have cg0 : w19.cell? ⟨xg, 0, none⟩ = some (.int .i64 A) := XG19.out.cell (by decide)
  have cg1 : w19.cell? ⟨xg, 1, none⟩ = some ((.slice ga X.length gc)) := XG19.out.cell (by decide)
  have cg2 : w19.cell? ⟨xg, 2, none⟩ = some ((.slice ha Y.length hc)) := XG19.out.cell (by decide)
  go_wp2_with fail
  refine (HELD.out w19 G19.out).mono ?_
  rintro e w20 ⟨rfl, hb20⟩
  have B20 := Lib.hid (B19.out.trans (hb20.mono B19.out.size))
  go_wp2
  go_ret
  exact ⟨rfl, B20.out⟩
end Go.Proofs.Ytagegbhchljggaa
