/- The walk of the law SystemStill. -/
import Derived.Test.YtknhgfmjchfnjaaDoorL2
import Derived.Test.YtknhgfmjchfnjaaDoorSysReach
import Derived.Test.YtknhgfmjchfnjaaDoorSysCntI
import Derived.Test.YtknhgfmjchfnjaaDoorSysRunI


namespace Go.Proofs.YtknhgfmjchfnjaaDoor
open Go.RowKit
set_option linter.unusedVariables false
set_option linter.unusedSimpArgs false
set_option maxRecDepth 100000
theorem still_valid {al st : Int} {es : List Edg} (h : sysV al st es = true) : sysV al st [] = true := by
  obtain ⟨h1, h2, h3, -⟩ := sysV_facts h
  unfold sysV
  simp [h1, h2, h3]
theorem still_run (al st : Int) (h : sysV al st [] = true) (l : List UInt8) : decide (aftN al st [] l ≠ 0) = decide (l = []) := by
  cases l with
  | nil => rw [aft_nil al st [] h]; rfl
  | cons c r =>
    have h0 : runN [] (c :: r) = 0 := by
      show r.foldl (fun s c => stepN [] s (ltr c)) (stepN [] 1 (ltr c)) = 0
      rw [stepN_nil]
      exact foldl_zero [] r
    have : aftN al st [] (c :: r) = 0 := by
      unfold aftN
      split
      · exact h0
      · rfl
    simp [this]
theorem still_reach : IsReach [] 1 := ⟨by decide, rfl, fun e he => (by cases he), fun c h0 _ j hj => bit0_one c h0 j hj⟩
theorem ev_none (w : World) : EV w (.slice none 0 0) [] := ⟨none, 0, rfl, Nat.le_refl _, by decide, .inl rfl⟩
set_option maxHeartbeats 4000000 in
theorem fnSystemStill_walk (a : Option Addr) (len cap : Nat) (zs : List Int) (w : World) (hT : Tab w) (hrow : IsRow w a len cap zs) : Calls Tryd.prog 7 #[.slice a len cap] w fun e w' => e = .returned (.bool true) ∧ Below w.heap.size w w' := by
  by_cases hl : 1048576 < len
  · have hl' : (1048576 : Int) < (len : Int) := by omega
    go_enter Tryd.func7, Tryd.ntmps7
    go_wp2
    go_ret
    exact ⟨rfl, Below.refl _ _⟩
  have hl' : (len : Int) ≤ 1048576 := by omega
  clear hl
  go_enter Tryd.func7, Tryd.ntmps7
  go_wp2_with fail
  refine (DrawHasTrace_any a len cap zs w hrow).mono ?_
  rintro e w1 ⟨al, st, ad, n, c, es, s, rfl, hs, hev, hes, hb1⟩
  have hev1 := (hev 0 (Nat.zero_le _)).ev
  have hsz : s.size ≤ 9223372036854775807 := by omega
  clear hev hrow
  obtain ⟨x0, hx0⟩ : ∃ x0, w1.heap.size = x0 := ⟨_, rfl⟩
  obtain ⟨w2, hw2⟩ : ∃ w2, (w1.alloc (.cells #[.int .i64 al, .int .i64 st, .slice ad n c] 25)) = w2 := ⟨_, rfl⟩
  have hb2 := below_new' w1 25 #[.int .i64 al, .int .i64 st, .slice ad n c]
  have hx2 := sys_cells w1 al st (.slice ad n c) 25
  rw [hx0] at hx2
  rw [hw2] at hb2 hx2
  have B2 := Lib.hid (hb1.trans (hb2.mono hb1.size))
  have X2 := Lib.hid hx2
  have E2 := Lib.hid (hev1.below hb2)
  have T2 := Lib.hid ((hT.below hb1).below hb2)
  clear hb1 hb2 hx2 hev1 hT
  have c20 : w2.cell? ⟨x0, 0, none⟩ = some (.int .i64 al) := X2.out.cell (by decide)
  have c21 : w2.cell? ⟨x0, 1, none⟩ = some (.int .i64 st) := X2.out.cell (by decide)
  have c22 : w2.cell? ⟨x0, 2, none⟩ = some (.slice ad n c) := X2.out.cell (by decide)
  obtain ⟨tr, htr⟩ : ∃ tr, decide (aftN al st es s.data.toList ≠ 0) = tr := ⟨_, rfl⟩
  have hit := fun w h1 h2 => implTrace_of (a1 := ad) (n1 := n) (c1 := c) (al := al) (st := st) (es := es) hsz htr w h1 h2
  have hst := fun w h => specTrace_of (a1 := ad) (n1 := n) (c1 := c) (al := al) (st := st) (es := es) hsz htr w h
  have HIT := Lib.hid hit
  have HST := Lib.hid hst
  clear hit hst htr
  go_wp2_with fail
  refine (HIT.out w2 T2.out E2.out).mono ?_
  rintro e w3 ⟨rfl, hb3⟩
  have B3 := Lib.hid (B2.out.trans (hb3.mono B2.out.size))
  have X3 := Lib.hid (rowIs_below' X2.out hb3)
  have E3 := Lib.hid (E2.out.below hb3)
  have T3 := Lib.hid (T2.out.below hb3)
  clear c20 c21 c22 hb3
  have c30 : w3.cell? ⟨x0, 0, none⟩ = some (.int .i64 al) := X3.out.cell (by decide)
  have c31 : w3.cell? ⟨x0, 1, none⟩ = some (.int .i64 st) := X3.out.cell (by decide)
  have c32 : w3.cell? ⟨x0, 2, none⟩ = some (.slice ad n c) := X3.out.cell (by decide)
  go_wp2_with fail
  refine (HST.out w3 E3.out).mono ?_
  rintro e w4 ⟨rfl, hb4⟩
  have B4 := Lib.hid (B3.out.trans (hb4.mono B3.out.size))
  have X4 := Lib.hid (rowIs_below' X3.out hb4)
  have E4 := Lib.hid (E3.out.below hb4)
  have T4 := Lib.hid (T3.out.below hb4)
  clear c30 c31 c32 hb4
  have c40 : w4.cell? ⟨x0, 0, none⟩ = some (.int .i64 al) := X4.out.cell (by decide)
  have c41 : w4.cell? ⟨x0, 1, none⟩ = some (.int .i64 st) := X4.out.cell (by decide)
  have c42 : w4.cell? ⟨x0, 2, none⟩ = some (.slice ad n c) := X4.out.cell (by decide)
  have htt : (tr != tr) = false := by cases tr <;> rfl
  have hte : (tr == tr) = true := by cases tr <;> rfl
  cases hv : sysV al st es with
  | false =>
    have HV := Lib.hid hv; clear hv
    go_wp2_with fail
    refine (implSysValid_any al st ad n c es w4 E4.out).mono ?_
    rintro e w5 ⟨rfl, hb5⟩
    rw [HV.out]
    have B5 := Lib.hid (B4.out.trans (hb5.mono B4.out.size))
    have X5 := Lib.hid (rowIs_below' X4.out hb5)
    have E5 := Lib.hid (E4.out.below hb5)
    have T5 := Lib.hid (T4.out.below hb5)
    clear c40 c41 c42 hb5
    have c50 : w5.cell? ⟨x0, 0, none⟩ = some (.int .i64 al) := X5.out.cell (by decide)
    have c51 : w5.cell? ⟨x0, 1, none⟩ = some (.int .i64 st) := X5.out.cell (by decide)
    have c52 : w5.cell? ⟨x0, 2, none⟩ = some (.slice ad n c) := X5.out.cell (by decide)
    go_wp2_with fail
    refine (HST.out w5 E5.out).mono ?_
    rintro e w6 ⟨rfl, hb6⟩
    have B6 := Lib.hid (B5.out.trans (hb6.mono B5.out.size))
    have X6 := Lib.hid (rowIs_below' X5.out hb6)
    have E6 := Lib.hid (E5.out.below hb6)
    have T6 := Lib.hid (T5.out.below hb6)
    clear c50 c51 c52 hb6
    have c60 : w6.cell? ⟨x0, 0, none⟩ = some (.int .i64 al) := X6.out.cell (by decide)
    have c61 : w6.cell? ⟨x0, 1, none⟩ = some (.int .i64 st) := X6.out.cell (by decide)
    have c62 : w6.cell? ⟨x0, 2, none⟩ = some (.slice ad n c) := X6.out.cell (by decide)
    go_wp2
    go_ret
    exact ⟨ret_bool (by simp), B6.out⟩
  | true =>
    have hv0 := still_valid hv
    have hi0 := fun w h1 h2 => implTrace_of (a1 := none) (n1 := 0) (c1 := 0) (al := al) (st := st) (es := []) hsz (still_run al st hv0 s.data.toList) w h1 h2
    have hc0 : trP al st [] 7 = 1 := by
      unfold trP
      rw [if_pos ⟨hv0, by omega, by omega⟩, cntS_none _ _ _ (by decide)]
      rfl
    have hcn := fun w h1 h2 => implCount_any al st none 0 0 [] 7 w h1 h2
    rw [hc0] at hcn
    have hre : ∀ r, reachP al st [] r → r = 1 := fun r hr => by
      unfold reachP at hr
      rw [if_pos hv0] at hr
      exact hr.unique still_reach
    have HI0 := Lib.hid hi0
    have HCN := Lib.hid hcn
    have HRE := Lib.hid hre
    have HV := Lib.hid hv; clear hv
    clear hv0 hi0 hc0 hcn hre
    go_wp2_with fail
    refine (implSysValid_any al st ad n c es w4 E4.out).mono ?_
    rintro e w5 ⟨rfl, hb5⟩
    rw [HV.out]
    have B5 := Lib.hid (B4.out.trans (hb5.mono B4.out.size))
    have X5 := Lib.hid (rowIs_below' X4.out hb5)
    have E5 := Lib.hid (E4.out.below hb5)
    have T5 := Lib.hid (T4.out.below hb5)
    clear c40 c41 c42 hb5
    have c50 : w5.cell? ⟨x0, 0, none⟩ = some (.int .i64 al) := X5.out.cell (by decide)
    have c51 : w5.cell? ⟨x0, 1, none⟩ = some (.int .i64 st) := X5.out.cell (by decide)
    have c52 : w5.cell? ⟨x0, 2, none⟩ = some (.slice ad n c) := X5.out.cell (by decide)
    obtain ⟨x1, hx1⟩ : ∃ x1, w5.heap.size = x1 := ⟨_, rfl⟩
    obtain ⟨wz, hwz⟩ : ∃ wz, (w5.alloc (.cells #[.int .i64 0, .int .i64 0, .slice none 0 0] 25)) = wz := ⟨_, rfl⟩
    have hbz := below_new' w5 25 #[.int .i64 0, .int .i64 0, .slice none 0 0]
    have hrz := sys_cells w5 0 0 (.slice none 0 0) 25
    rw [hx1] at hrz
    rw [hwz] at hbz hrz
    have z0 : wz.cell? ⟨x1, 0, none⟩ = some (.int .i64 0) := hrz.cell (by decide)
    have z1 : wz.cell? ⟨x1, 1, none⟩ = some (.int .i64 0) := hrz.cell (by decide)
    have z2 : wz.cell? ⟨x1, 2, none⟩ = some (.slice none 0 0) := hrz.cell (by decide)
    have zf0 := hrz.frozen 0
    have zf1 := hrz.frozen 1
    have zf2 := hrz.frozen 2
    obtain ⟨w6, hw6⟩ : ∃ w6, (((wz.setCell ⟨x1, 0, none⟩ (.int .i64 al)).setCell ⟨x1, 1, none⟩ (.int .i64 st)).setCell ⟨x1, 2, none⟩ (.slice none 0 0)) = w6 := ⟨_, rfl⟩
    have hr6 := rowIs_set3 hrz (.int .i64 al) (.int .i64 st) (.slice none 0 0)
    have hb6 : Below w5.heap.size w5 w6 := by rw [← hw6]; exact ((hbz.setCell (p := ⟨x1, 0, none⟩) (by simp; omega) _).setCell (p := ⟨x1, 1, none⟩) (by simp; omega) _).setCell (p := ⟨x1, 2, none⟩) (by simp; omega) _
    rw [hw6] at hr6
    have B6 := Lib.hid (B5.out.trans (hb6.mono B5.out.size))
    have T6 := Lib.hid (T5.out.below hb6)
    have Y6 := Lib.hid hr6
    have u0 : w6.cell? ⟨x1, 0, none⟩ = some (.int .i64 al) := hr6.cell (by decide)
    have u1 : w6.cell? ⟨x1, 1, none⟩ = some (.int .i64 st) := hr6.cell (by decide)
    have u2 : w6.cell? ⟨x1, 2, none⟩ = some (.slice none 0 0) := hr6.cell (by decide)
    clear hb6 hr6
    go_wp2_with fail
    refine (HI0.out w6 T6.out (ev_none w6)).mono ?_
    rintro e w7 ⟨rfl, hb7⟩
    have B7 := Lib.hid (B6.out.trans (hb7.mono B6.out.size))
    have T7 := Lib.hid (T6.out.below hb7)
    have Y7 := Lib.hid (rowIs_below' Y6.out hb7)
    have v0 : w7.cell? ⟨x1, 0, none⟩ = some (.int .i64 al) := Y7.out.cell (by decide)
    have v1 : w7.cell? ⟨x1, 1, none⟩ = some (.int .i64 st) := Y7.out.cell (by decide)
    have v2 : w7.cell? ⟨x1, 2, none⟩ = some (.slice none 0 0) := Y7.out.cell (by decide)
    clear hb7 u0 u1 u2
    obtain ⟨q, hq⟩ : ∃ q, decide (s.data.toList = []) = q := ⟨_, rfl⟩
    have hqe : s.toList.isEmpty = q := by
      rw [← hq, ByteArray.toList_eq]
      cases s.data.toList <;> rfl
    rw [hq]
    clear hq
    go_wp2_with fail
    refine (HCN.out w7 T7.out (ev_none w7)).mono ?_
    rintro e w8 ⟨rfl, hb8⟩
    have B8 := Lib.hid (B7.out.trans (hb8.mono B7.out.size))
    have T8 := Lib.hid (T7.out.below hb8)
    have Y8 := Lib.hid (rowIs_below' Y7.out hb8)
    have t0 : w8.cell? ⟨x1, 0, none⟩ = some (.int .i64 al) := Y8.out.cell (by decide)
    have t1 : w8.cell? ⟨x1, 1, none⟩ = some (.int .i64 st) := Y8.out.cell (by decide)
    have t2 : w8.cell? ⟨x1, 2, none⟩ = some (.slice none 0 0) := Y8.out.cell (by decide)
    clear hb8 v0 v1 v2
    go_wp2_with fail
    refine (implReach_any al st none 0 0 [] w8 T8.out (ev_none w8)).mono ?_
    rintro e w9 ⟨r, rfl, hr, hb9⟩
    obtain rfl := HRE.out r hr
    have B9 := Lib.hid (B8.out.trans (hb9.mono B8.out.size))
    clear hb9 hr
    go_wp2
    go_ret
    exact ⟨ret_bool (by simp), B9.out⟩
end Go.Proofs.YtknhgfmjchfnjaaDoor
