/- The walk of the law on FormatSystem. -/
import Derived.Test.YtnjakhojdhkihaaDoorSysExact
import Derived.Test.YtnjakhojdhkihaaDoorFImpl

namespace Go.Proofs.YtnjakhojdhkihaaDoor
open Go.RowKit
set_option linter.unusedVariables false
set_option linter.unusedSimpArgs false
set_option maxRecDepth 100000

theorem bytes_ext {a b : ByteArray} (h : a.data.toList = b.data.toList) : a = b := by
  cases a; cases b
  simp at h
  simp [h]
set_option maxHeartbeats 800000 in
theorem fnExactFormatSystem_walk (al st : Int) (a1 : Option Addr) (n1 c1 : Nat) (es : List Edg) (w : World) (h : EV w (.slice a1 n1 c1) es) :
    Calls Tryd.prog 3 #[.agg #[.int .i64 al, .int .i64 st, .slice a1 n1 c1]] w fun e w' => e = .returned (.bool true) ∧ Below w.heap.size w w' := by
  have H := Lib.hid h; clear h
  have B0 := Lib.hid (below_new' w 24 #[.int .i64 al, .int .i64 st, .slice a1 n1 c1])
  have R0 := Lib.hid (sys_cells w al st (.slice a1 n1 c1) 24)
  go_enter Tryd.func3, Tryd.ntmps3
  go_wp2_with fail
  refine (szSys_any al st a1 n1 c1 es 1048576 _ (EV.below H.out B0.out) (by omega) (by omega)).mono ?_
  rintro e w1 ⟨r, rfl, hr, hall, hb1⟩
  have HALL := Lib.hid hall; clear hall
  have B1 := Lib.hid (B0.out.trans (hb1.mono B0.out.size))
  have R1 := Lib.hid (rowIs_below' R0.out hb1)
  clear hb1
  by_cases hs : r < 0
  · go_wp2
    go_ret
    exact ⟨rfl, B1.out⟩
  have hs0 : 0 ≤ r := by omega
  clear hs
  have hm := HALL.out hs0
  clear HALL R0 B0
  have c10 : w1.cell? ⟨w.heap.size, 0, none⟩ = some (.int .i64 al) := R1.out.cell (by decide)
  have c11 : w1.cell? ⟨w.heap.size, 1, none⟩ = some (.int .i64 st) := R1.out.cell (by decide)
  have c12 : w1.cell? ⟨w.heap.size, 2, none⟩ = some (.slice a1 n1 c1) := R1.out.cell (by decide)
  go_wp2_with fail
  refine (toSys_any al st a1 n1 c1 es _ (EV.below H.out B1.out) hm).mono ?_
  rintro e w2 ⟨p2, rfl, hr2, hlo2, hb2⟩
  have B2 := Lib.hid (B1.out.trans (hb2.mono B1.out.size))
  have R2 := Lib.hid (rowIs_below' R1.out hb2)
  have hv2 := ER.view hr2 hm
  have HV2 := Lib.hid hv2; clear hv2
  clear c10 c11 c12
  have c20 : w2.cell? ⟨w.heap.size, 0, none⟩ = some (.int .i64 al) := R2.out.cell (by decide)
  have c21 : w2.cell? ⟨w.heap.size, 1, none⟩ = some (.int .i64 st) := R2.out.cell (by decide)
  have c22 : w2.cell? ⟨w.heap.size, 2, none⟩ = some (.slice a1 n1 c1) := R2.out.cell (by decide)
  go_wp2_with fail
  refine (specFormat_tx al st _ _ _ es _ HV2.out hm).mono ?_
  rintro e w3 ⟨r1, rfl, hd1, hb3⟩
  have B3 := Lib.hid (B2.out.trans (hb3.mono B2.out.size))
  have R3 := Lib.hid (rowIs_below' R2.out hb3)
  clear c20 c21 c22
  have c30 : w3.cell? ⟨w.heap.size, 0, none⟩ = some (.int .i64 al) := R3.out.cell (by decide)
  have c31 : w3.cell? ⟨w.heap.size, 1, none⟩ = some (.int .i64 st) := R3.out.cell (by decide)
  have c32 : w3.cell? ⟨w.heap.size, 2, none⟩ = some (.slice a1 n1 c1) := R3.out.cell (by decide)
  clear hb3 hb2 hr2
  go_wp2_with fail
  refine (toSys_any al st a1 n1 c1 es _ (EV.below H.out B3.out) hm).mono ?_
  rintro e w4 ⟨p4, rfl, hr4, hlo4, hb4⟩
  have B4 := Lib.hid (B3.out.trans (hb4.mono B3.out.size))
  have R4 := Lib.hid (rowIs_below' R3.out hb4)
  have hv4 := ER.view hr4 hm
  have HV4 := Lib.hid hv4; clear hv4
  clear c30 c31 c32
  have c40 : w4.cell? ⟨w.heap.size, 0, none⟩ = some (.int .i64 al) := R4.out.cell (by decide)
  have c41 : w4.cell? ⟨w.heap.size, 1, none⟩ = some (.int .i64 st) := R4.out.cell (by decide)
  have c42 : w4.cell? ⟨w.heap.size, 2, none⟩ = some (.slice a1 n1 c1) := R4.out.cell (by decide)
  go_wp2_with fail
  have hbx : Below w4.heap.size w4 (w4.alloc (.cells #[.int .i64 al, .int .i64 st, .slice (some ⟨p4, 0, none⟩) es.length es.length] 29)) := below_new' _ _ _
  have hrx := sys_cells w4 al st (.slice (some ⟨p4, 0, none⟩) es.length es.length) 29
  obtain ⟨x0, hx0⟩ : ∃ x0, w4.heap.size = x0 := ⟨_, rfl⟩
  rw [hx0] at hrx
  obtain ⟨w5, hw5⟩ : ∃ w5, (w4.alloc (.cells #[.int .i64 al, .int .i64 st, .slice (some ⟨p4, 0, none⟩) es.length es.length] 29)) = w5 := ⟨_, rfl⟩
  rw [hw5] at hbx hrx ⊢
  have XR5 := Lib.hid hrx
  have XV5 := Lib.hid (EV.below HV4.out hbx)
  clear hrx hw5
  have B5 := Lib.hid (B4.out.trans (hbx.mono B4.out.size))
  have R5 := Lib.hid (rowIs_below' R4.out hbx)
  clear c40 c41 c42
  have c50 : w5.cell? ⟨w.heap.size, 0, none⟩ = some (.int .i64 al) := R5.out.cell (by decide)
  have c51 : w5.cell? ⟨w.heap.size, 1, none⟩ = some (.int .i64 st) := R5.out.cell (by decide)
  have c52 : w5.cell? ⟨w.heap.size, 2, none⟩ = some (.slice a1 n1 c1) := R5.out.cell (by decide)
  clear hbx
  clear hb4 hr4
  refine (implFormat_tx al st _ _ _ es _ XV5.out hm).mono ?_
  rintro e w6 ⟨r2, rfl, hd2, hb6⟩
  obtain rfl : r2 = r1 := bytes_ext (hd2.trans hd1.symm)
  clear hd1 hd2
  have heq : (r2.toList == r2.toList) = true := by simp
  have B6 := Lib.hid (B5.out.trans (hb6.mono B5.out.size))
  have R6 := Lib.hid (rowIs_below' R5.out hb6)
  clear c50 c51 c52
  have c60 : w6.cell? ⟨w.heap.size, 0, none⟩ = some (.int .i64 al) := R6.out.cell (by decide)
  have c61 : w6.cell? ⟨w.heap.size, 1, none⟩ = some (.int .i64 st) := R6.out.cell (by decide)
  have c62 : w6.cell? ⟨w.heap.size, 2, none⟩ = some (.slice a1 n1 c1) := R6.out.cell (by decide)
  have XR6 := Lib.hid (rowIs_below' XR5.out hb6)
  have XV6 := Lib.hid (EV.below XV5.out hb6)
  have x60 : w6.cell? ⟨x0, 0, none⟩ = some (.int .i64 al) := XR6.out.cell (by decide)
  have x61 : w6.cell? ⟨x0, 1, none⟩ = some (.int .i64 st) := XR6.out.cell (by decide)
  have x62 : w6.cell? ⟨x0, 2, none⟩ = some (.slice (some ⟨p4, 0, none⟩) es.length es.length) := XR6.out.cell (by decide)
  clear hb6
  go_wp2_with fail
  go_region_with (first | (go_at_call 6; refine (toSys_any al st a1 n1 c1 es _ (EV.drew (EV.below H.out B6.out)) hm).mono ?_; rintro e wy ⟨py, rfl, hry, hloy, hby'⟩; have hby := ((Below.refl w6.heap.size w6).drew).trans hby'; have hRX := rowIs_below' XR6.out hby; have y0 : wy.cell? ⟨x0, 0, none⟩ = some (.int .i64 al) := hRX.cell (by decide); have y1 : wy.cell? ⟨x0, 1, none⟩ = some (.int .i64 st) := hRX.cell (by decide); have y2 : wy.cell? ⟨x0, 2, none⟩ = some (.slice (some ⟨p4, 0, none⟩) es.length es.length) := hRX.cell (by decide); have HBY := Lib.hid hby; have HVY := Lib.hid (ER.view hry hm); clear hRX hry hby hby') | (go_at_call 8; refine (eqSys_same al st _ _ _ _ _ _ es _ (EV.below XV6.out HBY.out) HVY.out).mono ?_; rintro e wz ⟨rfl, hbz'⟩; have HBZ := Lib.hid (HBY.out.trans (hbz'.mono HBY.out.size)); clear hbz'))
  all_goals
    go_wp2
    go_ret
    exact ⟨rfl, B6.out.trans (HBZ.out.mono B6.out.size)⟩
end Go.Proofs.YtnjakhojdhkihaaDoor
