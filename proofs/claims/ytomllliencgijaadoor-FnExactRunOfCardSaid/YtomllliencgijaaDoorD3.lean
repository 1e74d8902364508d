/- The walk of the law on RunOf. -/
import Derived.Test.YtomllliencgijaaDoorSysExact
import Derived.Test.YtomllliencgijaaDoorSysRunI
import Derived.Test.YtomllliencgijaaDoorEMark
import Derived.Test.YtomllliencgijaaDoorSame


namespace Go.Proofs.YtomllliencgijaaDoor
open Go.RowKit
set_option linter.unusedVariables false
set_option linter.unusedSimpArgs false
set_option maxRecDepth 100000

theorem runP_len {al st : Int} {es : List Edg} {l : List UInt8} {xs : List Int} {b : Bool} (h : runP al st es l xs b) : xs.length ≤ 50001 := by
  unfold runP at h
  split at h
  · rename_i h0
    obtain ⟨T, -, -, -, -, -, -, -, -, -, hl⟩ := aft_facts h0
    rw [h.1, runL_len]
    omega
  · rw [h.1]; simp
set_option maxHeartbeats 8000000 in
theorem fnExactRunOf_walk (al st : Int) (a1 : Option Addr) (n1 c1 : Nat) (es : List Edg) (s : ByteArray) (w : World) (hT : Tab w) (h : EV w (.slice a1 n1 c1) es) :
    Calls Tryd.prog 9 #[.agg #[.int .i64 al, .int .i64 st, .slice a1 n1 c1], .string s] w fun e w' => e = .returned (.bool true) ∧ Below w.heap.size w w' := by
  have HT := Lib.hid hT; clear hT
  have H := Lib.hid h; clear h
  have B0 := Lib.hid (below_new' w 24 #[.int .i64 al, .int .i64 st, .slice a1 n1 c1])
  have R0 := Lib.hid (sys_cells w al st (.slice a1 n1 c1) 24)
  by_cases hlw : 1048576 < s.size
  · have hlw' : (1048576 : Int) < (s.size : Int) := by omega
    go_enter Tryd.func9, Tryd.ntmps9
    go_wp2
    go_ret
    exact ⟨rfl, B0.out⟩
  have hlw' : (s.size : Int) ≤ 1048576 := by omega
  have hsz : s.size ≤ 9223372036854775807 := by omega
  clear hlw
  go_enter Tryd.func9, Tryd.ntmps9
  go_wp2_with fail
  refine (szSys_any al st a1 n1 c1 es 1048576 _ (EV.below H.out B0.out) (by omega) (by omega)).mono ?_
  rintro e w1 ⟨r, rfl, hr, hall, hb1⟩
  have HALL := Lib.hid hall; clear hall
  have B1 := Lib.hid (B0.out.trans (hb1.mono B0.out.size))
  have R1 := Lib.hid (rowIs_below' R0.out hb1)
  clear hb1
  by_cases hs : r < 0
  · go_wp2
    go_ret
    exact ⟨rfl, B1.out⟩
  have hs0 : 0 ≤ r := by omega
  clear hs
  have hm := HALL.out hs0
  clear HALL R0 B0
  have c10 : w1.cell? ⟨w.heap.size, 0, none⟩ = some (.int .i64 al) := R1.out.cell (by decide)
  have c11 : w1.cell? ⟨w.heap.size, 1, none⟩ = some (.int .i64 st) := R1.out.cell (by decide)
  have c12 : w1.cell? ⟨w.heap.size, 2, none⟩ = some (.slice a1 n1 c1) := R1.out.cell (by decide)
  go_wp2_with fail
  refine (toSys_any al st a1 n1 c1 es _ (EV.below H.out B1.out) hm).mono ?_
  rintro e w2 ⟨p2, rfl, hr2, hlo2, hb2⟩
  have B2 := Lib.hid (B1.out.trans (hb2.mono B1.out.size))
  have R2 := Lib.hid (rowIs_below' R1.out hb2)
  have hv2 := ER.view hr2 hm
  have HV2 := Lib.hid hv2; clear hv2
  clear c10 c11 c12
  have c20 : w2.cell? ⟨w.heap.size, 0, none⟩ = some (.int .i64 al) := R2.out.cell (by decide)
  have c21 : w2.cell? ⟨w.heap.size, 1, none⟩ = some (.int .i64 st) := R2.out.cell (by decide)
  have c22 : w2.cell? ⟨w.heap.size, 2, none⟩ = some (.slice a1 n1 c1) := R2.out.cell (by decide)
  go_wp2_with fail
  refine (specRun_any al st _ _ _ es s hsz _ HV2.out).mono ?_
  rintro e w3 ⟨a, n, c, xs, b, ob, rfl, hob, hog, hb3, hrp⟩
  have hxl := runP_len hrp
  have HRP := Lib.hid hrp; clear hrp
  have HOB := Lib.hid hob; clear hob
  have B3 := Lib.hid (B2.out.trans (hb3.mono B2.out.size))
  have R3 := Lib.hid (rowIs_below' R2.out hb3)
  clear c20 c21 c22
  have c30 : w3.cell? ⟨w.heap.size, 0, none⟩ = some (.int .i64 al) := R3.out.cell (by decide)
  have c31 : w3.cell? ⟨w.heap.size, 1, none⟩ = some (.int .i64 st) := R3.out.cell (by decide)
  have c32 : w3.cell? ⟨w.heap.size, 2, none⟩ = some (.slice a1 n1 c1) := R3.out.cell (by decide)
  have O3 := Lib.hid hog
  clear hb3 hb2 hr2 hog
  go_wp2_with fail
  refine (toSys_any al st a1 n1 c1 es _ (EV.below H.out B3.out) hm).mono ?_
  rintro e w4 ⟨p4, rfl, hr4, hlo4, hb4⟩
  have B4 := Lib.hid (B3.out.trans (hb4.mono B3.out.size))
  have R4 := Lib.hid (rowIs_below' R3.out hb4)
  have hv4 := ER.view hr4 hm
  have HV4 := Lib.hid hv4; clear hv4
  clear c30 c31 c32
  have c40 : w4.cell? ⟨w.heap.size, 0, none⟩ = some (.int .i64 al) := R4.out.cell (by decide)
  have c41 : w4.cell? ⟨w.heap.size, 1, none⟩ = some (.int .i64 st) := R4.out.cell (by decide)
  have c42 : w4.cell? ⟨w.heap.size, 2, none⟩ = some (.slice a1 n1 c1) := R4.out.cell (by decide)
  have O4 := Lib.hid (O3.out.below hb4)
  have P4 := Lib.hid hr4
  have hp4 : p4 < w4.heap.size := World.rowIs.lt hr4
  have hw3 : w.heap.size < w3.heap.size := World.rowIs.lt R3.out
  clear hb4 hr4
  have hbx : Below w4.heap.size w4 (w4.alloc (.cells #[.int .i64 al, .int .i64 st, .slice (some ⟨p4, 0, none⟩) es.length es.length] 29)) := below_new' _ _ _
  have hrx := sys_cells w4 al st (.slice (some ⟨p4, 0, none⟩) es.length es.length) 29
  obtain ⟨x0, hx0⟩ : ∃ x0, w4.heap.size = x0 := ⟨_, rfl⟩
  rw [hx0] at hrx
  obtain ⟨w5, hw5⟩ : ∃ w5, (w4.alloc (.cells #[.int .i64 al, .int .i64 st, .slice (some ⟨p4, 0, none⟩) es.length es.length] 29)) = w5 := ⟨_, rfl⟩
  have hz5 : w5.heap.size = x0 + 1 := by rw [← hw5, ← hx0]; simp
  rw [hw5] at hbx hrx
  have XR5 := Lib.hid hrx
  have O5 := Lib.hid (O4.out.below hbx)
  have P5 := Lib.hid (rowIs_below' P4.out hbx)
  have B5 := Lib.hid (B4.out.trans (hbx.mono B4.out.size))
  have R5 := Lib.hid (rowIs_below' R4.out hbx)
  clear c40 c41 c42
  have c50 : w5.cell? ⟨w.heap.size, 0, none⟩ = some (.int .i64 al) := R5.out.cell (by decide)
  have c51 : w5.cell? ⟨w.heap.size, 1, none⟩ = some (.int .i64 st) := R5.out.cell (by decide)
  have c52 : w5.cell? ⟨w.heap.size, 2, none⟩ = some (.slice a1 n1 c1) := R5.out.cell (by decide)
  clear hbx hrx
  have y0 : w5.cell? ⟨x0, 0, none⟩ = some (.int .i64 al) := XR5.out.cell (by decide)
  have y1 : w5.cell? ⟨x0, 1, none⟩ = some (.int .i64 st) := XR5.out.cell (by decide)
  have y2 : w5.cell? ⟨x0, 2, none⟩ = some (.slice (some ⟨p4, 0, none⟩) es.length es.length) := XR5.out.cell (by decide)
  go_wp2_with fail
  refine (implRun_any al st _ _ _ es s hsz _ (HT.out.below B5.out) (ER.view P5.out hm)).mono ?_
  rintro e w6 ⟨a2, n2, cc2, xs2, b2, gb, rfl, hgb, hgg, hb6, hrp2⟩
  obtain ⟨rfl, rfl⟩ := runP_unique HRP.out hrp2
  have XR6 := Lib.hid (rowIs_below' XR5.out hb6)
  have O6 := Lib.hid (O5.out.below hb6)
  have P6 := Lib.hid (rowIs_below' P5.out hb6)
  have G6 := Lib.hid hgg
  have HGB := Lib.hid hgb; clear hgb
  have B6 := Lib.hid (B5.out.trans (hb6.mono B5.out.size))
  have R6 := Lib.hid (rowIs_below' R5.out hb6)
  clear c50 c51 c52
  have c60 : w6.cell? ⟨w.heap.size, 0, none⟩ = some (.int .i64 al) := R6.out.cell (by decide)
  have c61 : w6.cell? ⟨w.heap.size, 1, none⟩ = some (.int .i64 st) := R6.out.cell (by decide)
  have c62 : w6.cell? ⟨w.heap.size, 2, none⟩ = some (.slice a1 n1 c1) := R6.out.cell (by decide)
  clear hb6 hgg hrp2 y0 y1 y2
  have hbb : (b != b) = false := by cases b <;> rfl
  go_wp2_with fail
  refine (eqIntS_b a2 n2 cc2 a n c xs xs _ true (by simp) G6.out.view O6.out.view).mono ?_
  rintro e w7 hq7
  obtain ⟨rfl, hb7⟩ := hq7.below
  clear hq7 c60 c61 c62
  have XR7 := Lib.hid (rowIs_below' XR6.out hb7)
  have O7 := Lib.hid (O6.out.below hb7)
  have G7 := Lib.hid (G6.out.below hb7)
  have B7 := Lib.hid (B6.out.trans (hb7.mono B6.out.size))
  have R7 := Lib.hid (rowIs_below' R6.out hb7)
  have P7 := Lib.hid (rowIs_below' P6.out hb7)
  clear hb7
  go_wp2_with fail
  have HS := Lib.hid (fun (w' : World) (hb : Below w7.heap.size w7 w') => (show (w'.cell? ⟨x0, 0, none⟩ = some (.int .i64 al) ∧ w'.cell? ⟨x0, 1, none⟩ = some (.int .i64 st) ∧ w'.cell? ⟨x0, 2, none⟩ = some (.slice (some ⟨p4, 0, none⟩) es.length es.length)) ∧ (w'.cell? ⟨w.heap.size, 0, none⟩ = some (.int .i64 al) ∧ w'.cell? ⟨w.heap.size, 1, none⟩ = some (.int .i64 st) ∧ w'.cell? ⟨w.heap.size, 2, none⟩ = some (.slice a1 n1 c1)) from ⟨⟨(rowIs_below' XR7.out hb).cell (by decide), (rowIs_below' XR7.out hb).cell (by decide), (rowIs_below' XR7.out hb).cell (by decide)⟩, (rowIs_below' R7.out hb).cell (by decide), (rowIs_below' R7.out hb).cell (by decide), (rowIs_below' R7.out hb).cell (by decide)⟩))
  refine wp_region_held_drew (S := fun w' => (w'.cell? ⟨x0, 0, none⟩ = some (.int .i64 al) ∧ w'.cell? ⟨x0, 1, none⟩ = some (.int .i64 st) ∧ w'.cell? ⟨x0, 2, none⟩ = some (.slice (some ⟨p4, 0, none⟩) es.length es.length)) ∧ (w'.cell? ⟨w.heap.size, 0, none⟩ = some (.int .i64 al) ∧ w'.cell? ⟨w.heap.size, 1, none⟩ = some (.int .i64 st) ∧ w'.cell? ⟨w.heap.size, 2, none⟩ = some (.slice a1 n1 c1))) (by kernel_rfl) (HS.out _ (Below.refl _ _).drew) (fun hHeld => ?_)
  have hbd : Below w7.heap.size w7 w7.drew := (Below.refl _ _).drew
  first | (refine wpAnyH_take (i := 0) (get_of_drop' rfl) (by kernel_rfl) (by kernel_rfl) (by kernel_rfl) (fun _ _ _ h => h) (Or.inr ⟨?_, rfl⟩) hHeld ?_; (focus (simp [Region.wanted, yielded, undef]; done)); (try simp only [Act.put, List.setIfInBounds_toArray, List.set_cons_zero, List.set_cons_succ])) | (refine wpAnyH_take (i := 0) (v := ?_) (get_of_drop' rfl) (by kernel_rfl) (by kernel_rfl) (by kernel_rfl) (fun _ _ _ h => h) (Or.inl ⟨?_, ?_⟩) hHeld ?_; rotate_left; (focus rfl); (focus (intro w hSw; (try dsimp only at hSw); go_simp; (try (with_reducible rfl)))); (try simp only [Act.put, List.setIfInBounds_toArray, List.set_cons_zero, List.set_cons_succ]))
  first | (refine wpAnyH_take (i := 1) (get_of_drop' rfl) (by kernel_rfl) (by kernel_rfl) (by kernel_rfl) (fun _ _ _ h => h) (Or.inr ⟨?_, rfl⟩) hHeld ?_; (focus (simp [Region.wanted, yielded, undef]; done)); (try simp only [Act.put, List.setIfInBounds_toArray, List.set_cons_zero, List.set_cons_succ])) | (refine wpAnyH_take (i := 1) (v := ?_) (get_of_drop' rfl) (by kernel_rfl) (by kernel_rfl) (by kernel_rfl) (fun _ _ _ h => h) (Or.inl ⟨?_, ?_⟩) hHeld ?_; rotate_left; (focus rfl); (focus (intro w hSw; (try dsimp only at hSw); go_simp; (try (with_reducible rfl)))); (try simp only [Act.put, List.setIfInBounds_toArray, List.set_cons_zero, List.set_cons_succ]))
  refine wpAnyH_ready (rs := [2]) (by kernel_rfl) (by simp) ?_
  refine AllReadyH.cons (get_of_drop' rfl) (fun K hK => ?_) AllReadyH.nil
  go_simp
  go_at_call 12
  refine (toSys_any al st a1 n1 c1 es _ (EV.below H.out (B7.out.trans (hbd.mono B7.out.size))) hm).mono ?_
  rintro e w10 ⟨p10, rfl, hr10, hlo10, hb10'⟩
  have hb10 := hbd.trans hb10'
  have hv10 := ER.view hr10 hm
  go_wp2_with fail
  refine hK.out _ _ (HS.out w10 hb10) (fun hHeld => ?_)
  clear hK K
  try simp only [Act.put, List.setIfInBounds_toArray, List.set_cons_zero, List.set_cons_succ]
  refine wpAnyH_ready (rs := [3]) (by kernel_rfl) (by simp) ?_
  refine AllReadyH.cons (get_of_drop' rfl) (fun K hK => ?_) AllReadyH.nil
  go_simp
  go_at_call 14
  refine (eqSys_same al st _ _ _ _ _ _ es _ (ER.view (rowIs_below' P7.out hb10) hm) hv10).mono ?_
  rintro e w11 ⟨rfl, hb11'⟩
  have hb11 := hb10.trans (hb11'.mono hb10.size)
  have XR11 := Lib.hid (rowIs_below' XR7.out hb11)
  have O11 := Lib.hid (O7.out.below hb11)
  have G11 := Lib.hid (G7.out.below hb11)
  have B11 := Lib.hid (B7.out.trans (hb11.mono B7.out.size))
  have R11 := Lib.hid (rowIs_below' R7.out hb11)
  have P11 := Lib.hid (rowIs_below' P7.out hb11)
  go_wp2_with fail
  refine hK.out _ _ (HS.out w11 hb11) (fun hHeld => ?_)
  clear hK K
  try simp only [Act.put, List.setIfInBounds_toArray, List.set_cons_zero, List.set_cons_succ]
  first | (refine wpAnyH_take (i := 4) (get_of_drop' rfl) (by kernel_rfl) (by kernel_rfl) (by kernel_rfl) (fun _ _ _ h => h) (Or.inr ⟨?_, rfl⟩) hHeld ?_; (focus (simp [Region.wanted, yielded, undef]; done)); (try simp only [Act.put, List.setIfInBounds_toArray, List.set_cons_zero, List.set_cons_succ])) | (refine wpAnyH_take (i := 4) (v := ?_) (get_of_drop' rfl) (by kernel_rfl) (by kernel_rfl) (by kernel_rfl) (fun _ _ _ h => h) (Or.inl ⟨?_, ?_⟩) hHeld ?_; rotate_left; (focus rfl); (focus (intro w hSw; (try dsimp only at hSw); go_simp; (try (with_reducible rfl)))); (try simp only [Act.put, List.setIfInBounds_toArray, List.set_cons_zero, List.set_cons_succ]))
  refine wpAnyH_done (by kernel_rfl) ?_ _
  clear hbd hr10 hb10' hb10 hv10 hb11' hb11
  have y0 : w11.cell? ⟨x0, 0, none⟩ = some (.int .i64 al) := XR11.out.cell (by decide)
  have y1 : w11.cell? ⟨x0, 1, none⟩ = some (.int .i64 st) := XR11.out.cell (by decide)
  have y2 : w11.cell? ⟨x0, 2, none⟩ = some (.slice (some ⟨p4, 0, none⟩) es.length es.length) := XR11.out.cell (by decide)
  go_wp2_with fail
  refine (markSystem_any al st p4 _ _ _ 1 _ (fun _ => rfl) hm (fun _ => World.rowIs.lt P11.out) (fun _ => rowIs_MC P11.out) (by omega) (by omega)).mono ?_
  rintro e w12 ⟨rfl, -, ho⟩
  have R12 := Lib.hid (ho.row R11.out (fun e => absurd e.2 (by omega)))
  have O12 := Lib.hid (O11.out.only (show Only _ _ _ from ho) (fun h0 e => by have h1 := HOB.out h0; have h2 := e.2; omega))
  have G12 := Lib.hid (G11.out.only (show Only _ _ _ from ho) (fun h0 e => by have h1 := HGB.out h0; have h2 := e.2; omega))
  have B12 := Lib.hid (below_onl B11.out ho (fun q e => by have h2 := e.2; omega))
  obtain ⟨M1, hM1⟩ : ∃ M1 : Int, 1 + ((es.length * 3 : Nat) : Int) = M1 := ⟨_, rfl⟩
  have hM10 : decide (M1 < 0) = false := by rw [decide_eq_false_iff_not]; omega
  rw [hM1]
  clear hM1 ho y0 y1 y2
  go_wp2_with fail
  refine (eqIntS_b a2 n2 cc2 a n c xs xs _ true (by simp) G12.out.view O12.out.view).mono ?_
  rintro e w13 hq13
  obtain ⟨rfl, hb13⟩ := hq13.below
  clear hq13
  have O13 := Lib.hid (O12.out.below hb13)
  have G13 := Lib.hid (G12.out.below hb13)
  have B13 := Lib.hid (B12.out.trans (hb13.mono B12.out.size))
  have R13 := Lib.hid (rowIs_below' R12.out hb13)
  clear hb13
  have hn2 : n2 = xs.length := G13.out.at.1
  have HN2 := Lib.hid hn2; clear hn2
  have hn2m : n2 ≤ 1048576 := by have := HN2.out; omega
  obtain ⟨M2, hM2⟩ : ∃ M2 : Int, 1 + (n2 : Int) = M2 := ⟨_, rfl⟩
  have hM20 : decide (M2 < 0) = false := by rw [decide_eq_false_iff_not]; omega
  go_wp2_with fail
  refine (markIntS_any gb a2 n2 cc2 xs 1 _ G13.out (by omega) (by omega) (by omega)).mono ?_
  rintro e w14 ⟨rfl, hg14, ho⟩
  rw [hM2]
  have hne : ∀ q, (n2 ≠ 0 ∧ q = gb) → x0 + 1 ≤ q := fun q e => by
    have h1 := HGB.out (by rw [← HN2.out]; exact e.1)
    have h2 := e.2
    omega
  have R14 := Lib.hid ((show Onl _ _ _ from ho).row R13.out (fun e => by have := hne _ e; omega))
  have O14 := Lib.hid (O13.out.only ho (fun h0 e => by have h1 := HOB.out h0; have h2 := hne _ e; omega))
  have B14 := Lib.hid (below_onl B13.out (show Onl _ _ _ from ho) (fun q e => by have h2 := hne _ e; omega))
  have G14 := Lib.hid hg14
  have HELD := Lib.hid (fun (wq : World) (h : WI wq gb (.slice a2 n2 cc2) (seqI 1 n2)) => hM2 ▸ heldIntS_any a2 n2 cc2 1 wq h.view (by omega) (by omega) hn2m)
  clear hg14 ho hM2
  go_wp2_with fail
  refine (HELD.out w14 G14.out).mono ?_
  rintro e w15 ⟨rfl, rfl⟩
  have hMM : (M2 != M2) = false := by simp
  have c140 : w14.cell? ⟨w.heap.size, 0, none⟩ = some (.int .i64 al) := R14.out.cell (by decide)
  have c141 : w14.cell? ⟨w.heap.size, 1, none⟩ = some (.int .i64 st) := R14.out.cell (by decide)
  have c142 : w14.cell? ⟨w.heap.size, 2, none⟩ = some (.slice a1 n1 c1) := R14.out.cell (by decide)
  go_wp2_with fail
  refine (toSys_any al st a1 n1 c1 es _ (EV.below H.out B14.out) hm).mono ?_
  rintro e w16 ⟨p16, rfl, hr16, hlo16, hb16⟩
  have O16 := Lib.hid (O14.out.below hb16)
  have G16 := Lib.hid (G14.out.below hb16)
  have B16 := Lib.hid (B14.out.trans (hb16.mono B14.out.size))
  have R16 := Lib.hid (rowIs_below' R14.out hb16)
  have V16 := Lib.hid (ER.view hr16 hm)
  clear hb16 hr16 c140 c141 c142
  go_wp2_with fail
  refine (implRun_any al st _ _ _ es s hsz _ (HT.out.below B16.out) V16.out).mono ?_
  rintro e w17 ⟨a3, n3, cc3, xs3, b3, gb3, rfl, hgb3, hgg3, hb17, hrp3⟩
  obtain ⟨rfl, rfl⟩ := runP_unique HRP.out hrp3
  have O17 := Lib.hid (O16.out.below hb17)
  have G17 := Lib.hid (G16.out.below hb17)
  have B17 := Lib.hid (B16.out.trans (hb17.mono B16.out.size))
  have R17 := Lib.hid (rowIs_below' R16.out hb17)
  have E17 := Lib.hid hgg3
  clear hb17 hgg3 hrp3 hgb3
  go_wp2_with fail
  refine (eqIntS_b a3 n3 cc3 a n c xs xs _ true (by simp) E17.out.view O17.out.view).mono ?_
  rintro e w18 hq18
  obtain ⟨rfl, hb18⟩ := hq18.below
  clear hq18
  have O18 := Lib.hid (O17.out.below hb18)
  have G18 := Lib.hid (G17.out.below hb18)
  have B18 := Lib.hid (B17.out.trans (hb18.mono B17.out.size))
  have R18 := Lib.hid (rowIs_below' R17.out hb18)
  clear hb18
  go_wp2_with fail
  refine (HELD.out w18 G18.out).mono ?_
  rintro e w19 ⟨rfl, rfl⟩
  go_wp2
  go_ret
  exact ⟨rfl, B18.out⟩
end Go.Proofs.YtomllliencgijaaDoor
