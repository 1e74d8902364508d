/- The walk of the law TrimTwice. -/
import Derived.Test.YtknhgfmjchfnjaaDoorL11



namespace Go.Proofs.YtknhgfmjchfnjaaDoor
open Go.RowKit
set_option linter.unusedVariables false
set_option linter.unusedSimpArgs false
set_option maxRecDepth 100000
theorem trim_again {al st : Int} {es : List Edg} {r : Nat} (hv : sysV al st es = true) (hr : IsReach es r) : trimP al ((cnt 16 r : Nat) : Int) (keepE es r) al ((cnt 16 r : Nat) : Int) (keepE es r) true := by
  have h1 := sysV_keep hv hr
  have h2 := reach_keep hv hr
  obtain ⟨h3, h4⟩ := keep_twice hv hr
  unfold trimP
  rw [if_pos h1]
  exact ⟨_, h2, rfl, by rw [h4], h3.symm, rfl⟩
set_option maxHeartbeats 8000000 in
theorem fnTrimTwice_walk (a : Option Addr) (len cap : Nat) (zs : List Int) (w : World) (hT : Tab w) (hrow : IsRow w a len cap zs) : Calls Tryd.prog 6 #[.slice a len cap] w fun e w' => e = .returned (.bool true) ∧ Below w.heap.size w w' := by
  by_cases hl : 1048576 < len
  · have hl' : (1048576 : Int) < (len : Int) := by omega
    go_enter Tryd.func6, Tryd.ntmps6
    go_wp2
    go_ret
    exact ⟨rfl, Below.refl _ _⟩
  have hl' : (len : Int) ≤ 1048576 := by omega
  clear hl
  go_enter Tryd.func6, Tryd.ntmps6
  go_wp2_with fail
  refine (drawTrim_any a len cap zs w hrow).mono ?_
  rintro e w1 ⟨al, st, ad, n, c, es, rfl, hev, hes, hb1⟩
  have hev1 := (hev 0 (Nat.zero_le _)).ev
  clear hev hrow
  obtain ⟨x0, hx0⟩ : ∃ x0, w1.heap.size = x0 := ⟨_, rfl⟩
  obtain ⟨w2, hw2⟩ : ∃ w2, (w1.alloc (.cells #[.int .i64 al, .int .i64 st, .slice ad n c] 25)) = w2 := ⟨_, rfl⟩
  have hb2 := below_new' w1 25 #[.int .i64 al, .int .i64 st, .slice ad n c]
  have hx2 := sys_cells w1 al st (.slice ad n c) 25
  rw [hx0] at hx2
  rw [hw2] at hb2 hx2
  have B2 := Lib.hid (hb1.trans (hb2.mono hb1.size))
  have X2 := Lib.hid hx2
  have E2 := Lib.hid (hev1.below hb2)
  have T2 := Lib.hid ((hT.below hb1).below hb2)
  clear hb1 hb2 hx2 hev1 hT
  have c20 : w2.cell? ⟨x0, 0, none⟩ = some (.int .i64 al) := X2.out.cell (by decide)
  have c21 : w2.cell? ⟨x0, 1, none⟩ = some (.int .i64 st) := X2.out.cell (by decide)
  have c22 : w2.cell? ⟨x0, 2, none⟩ = some (.slice ad n c) := X2.out.cell (by decide)
  go_wp2_with fail
  refine (implTrim_any al st ad n c es w2 T2.out E2.out).mono ?_
  rintro e w3 ⟨al', st', a', n', c', es', b, rfl, hn', ho, hb3, htp⟩
  have hw2 : 0 < w2.heap.size := Nat.lt_of_le_of_lt (Nat.zero_le _) (World.rowIs.lt X2.out)
  have HTP := Lib.hid htp
  have Q3 := Lib.hid (((ho _ (Nat.le_refl _)).evr (R := 0) hw2).ev)
  have B3 := Lib.hid (B2.out.trans (hb3.mono B2.out.size))
  have X3 := Lib.hid (rowIs_below' X2.out hb3)
  have E3 := Lib.hid (E2.out.below hb3)
  have T3 := Lib.hid (T2.out.below hb3)
  clear c20 c21 c22 ho htp hb3 hn'
  have c30 : w3.cell? ⟨x0, 0, none⟩ = some (.int .i64 al) := X3.out.cell (by decide)
  have c31 : w3.cell? ⟨x0, 1, none⟩ = some (.int .i64 st) := X3.out.cell (by decide)
  have c32 : w3.cell? ⟨x0, 2, none⟩ = some (.slice ad n c) := X3.out.cell (by decide)
  obtain ⟨y, hy⟩ : ∃ y, w3.heap.size = y := ⟨_, rfl⟩
  obtain ⟨wz4, hwz4⟩ : ∃ wz, (w3.alloc (.cells #[.int .i64 0, .int .i64 0, .slice none 0 0] 25)) = wz := ⟨_, rfl⟩
  have hbz4 := below_new' w3 25 #[.int .i64 0, .int .i64 0, .slice none 0 0]
  have hrz4 := sys_cells w3 0 0 (.slice none 0 0) 25
  rw [hy] at hrz4
  rw [hwz4] at hbz4 hrz4
  have z40 : wz4.cell? ⟨y, 0, none⟩ = some (.int .i64 0) := hrz4.cell (by decide)
  have z41 : wz4.cell? ⟨y, 1, none⟩ = some (.int .i64 0) := hrz4.cell (by decide)
  have z42 : wz4.cell? ⟨y, 2, none⟩ = some (.slice none 0 0) := hrz4.cell (by decide)
  have zf40 := hrz4.frozen 0
  have zf41 := hrz4.frozen 1
  have zf42 := hrz4.frozen 2
  obtain ⟨w4, hw4⟩ : ∃ w4, (((wz4.setCell ⟨y, 0, none⟩ (.int .i64 al')).setCell ⟨y, 1, none⟩ (.int .i64 st')).setCell ⟨y, 2, none⟩ (.slice a' n' c')) = w4 := ⟨_, rfl⟩
  have hrs4 := rowIs_set3 hrz4 (.int .i64 al') (.int .i64 st') (.slice a' n' c')
  have hbs4 : Below w3.heap.size w3 w4 := by rw [← hw4]; exact ((hbz4.setCell (p := ⟨y, 0, none⟩) (by simp; omega) _).setCell (p := ⟨y, 1, none⟩) (by simp; omega) _).setCell (p := ⟨y, 2, none⟩) (by simp; omega) _
  rw [hw4] at hrs4
  clear hbz4
  have B4 := Lib.hid (B3.out.trans (hbs4.mono B3.out.size))
  have X4 := Lib.hid (rowIs_below' X3.out hbs4)
  have E4 := Lib.hid (E3.out.below hbs4)
  have T4 := Lib.hid (T3.out.below hbs4)
  have Y4 := Lib.hid hrs4
  have Q4 := Lib.hid (Q3.out.below hbs4)
  clear hbs4 hrs4 c30 c31 c32
  have c40 : w4.cell? ⟨x0, 0, none⟩ = some (.int .i64 al) := X4.out.cell (by decide)
  have c41 : w4.cell? ⟨x0, 1, none⟩ = some (.int .i64 st) := X4.out.cell (by decide)
  have c42 : w4.cell? ⟨x0, 2, none⟩ = some (.slice ad n c) := X4.out.cell (by decide)
  go_wp2_with fail
  refine (specTrim_any al st ad n c es w4 E4.out).mono ?_
  rintro e w5 ⟨al2, st2, a2, n2, c2, es2, b2, rfl, hn2, ho2, hb5, htp2⟩
  obtain ⟨rfl, rfl, rfl, rfl⟩ := trimP_unique HTP.out htp2
  have hw4 : 0 < w4.heap.size := Nat.lt_of_le_of_lt (Nat.zero_le _) (World.rowIs.lt X4.out)
  have S5 := Lib.hid (((ho2 _ (Nat.le_refl _)).evr (R := 0) hw4).ev)
  have B5 := Lib.hid (B4.out.trans (hb5.mono B4.out.size))
  have X5 := Lib.hid (rowIs_below' X4.out hb5)
  have E5 := Lib.hid (E4.out.below hb5)
  have T5 := Lib.hid (T4.out.below hb5)
  have Y5 := Lib.hid (rowIs_below' Y4.out hb5)
  have Q5 := Lib.hid (Q4.out.below hb5)
  clear hb5 ho2 htp2 hn2 c40 c41 c42 z40 z41 z42 zf40 zf41 zf42 hw4 hwz4
  obtain ⟨v, hv⟩ : ∃ v, w5.heap.size = v := ⟨_, rfl⟩
  obtain ⟨wz6, hwz6⟩ : ∃ wz, (w5.alloc (.cells #[.int .i64 0, .int .i64 0, .slice none 0 0] 25)) = wz := ⟨_, rfl⟩
  have hbz6 := below_new' w5 25 #[.int .i64 0, .int .i64 0, .slice none 0 0]
  have hrz6 := sys_cells w5 0 0 (.slice none 0 0) 25
  rw [hv] at hrz6
  rw [hwz6] at hbz6 hrz6
  have z60 : wz6.cell? ⟨v, 0, none⟩ = some (.int .i64 0) := hrz6.cell (by decide)
  have z61 : wz6.cell? ⟨v, 1, none⟩ = some (.int .i64 0) := hrz6.cell (by decide)
  have z62 : wz6.cell? ⟨v, 2, none⟩ = some (.slice none 0 0) := hrz6.cell (by decide)
  have zf60 := hrz6.frozen 0
  have zf61 := hrz6.frozen 1
  have zf62 := hrz6.frozen 2
  obtain ⟨w6, hw6⟩ : ∃ w6, (((wz6.setCell ⟨v, 0, none⟩ (.int .i64 al')).setCell ⟨v, 1, none⟩ (.int .i64 st')).setCell ⟨v, 2, none⟩ (.slice a2 n2 c2)) = w6 := ⟨_, rfl⟩
  have hrs6 := rowIs_set3 hrz6 (.int .i64 al') (.int .i64 st') (.slice a2 n2 c2)
  have hbs6 : Below w5.heap.size w5 w6 := by rw [← hw6]; exact ((hbz6.setCell (p := ⟨v, 0, none⟩) (by simp; omega) _).setCell (p := ⟨v, 1, none⟩) (by simp; omega) _).setCell (p := ⟨v, 2, none⟩) (by simp; omega) _
  rw [hw6] at hrs6
  clear hbz6
  have B6 := Lib.hid (B5.out.trans (hbs6.mono B5.out.size))
  have X6 := Lib.hid (rowIs_below' X5.out hbs6)
  have E6 := Lib.hid (E5.out.below hbs6)
  have T6 := Lib.hid (T5.out.below hbs6)
  have V6 := Lib.hid hrs6
  have Y6 := Lib.hid (rowIs_below' Y5.out hbs6)
  have Q6 := Lib.hid (Q5.out.below hbs6)
  have S6 := Lib.hid (S5.out.below hbs6)
  clear hbs6 hrs6
  have y0 : w6.cell? ⟨y, 0, none⟩ = some (.int .i64 al') := Y6.out.cell (by decide)
  have y1 : w6.cell? ⟨y, 1, none⟩ = some (.int .i64 st') := Y6.out.cell (by decide)
  have y2 : w6.cell? ⟨y, 2, none⟩ = some (.slice a' n' c') := Y6.out.cell (by decide)
  have v0 : w6.cell? ⟨v, 0, none⟩ = some (.int .i64 al') := V6.out.cell (by decide)
  have v1 : w6.cell? ⟨v, 1, none⟩ = some (.int .i64 st') := V6.out.cell (by decide)
  have v2 : w6.cell? ⟨v, 2, none⟩ = some (.slice a2 n2 c2) := V6.out.cell (by decide)
  go_wp2_with fail
  refine (agSys_same al' st' a' n' c' a2 n2 c2 es' w6 Q6.out S6.out).mono ?_
  rintro e w7 ⟨rfl, hb7⟩
  have B7 := Lib.hid (B6.out.trans (hb7.mono B6.out.size))
  have X7 := Lib.hid (rowIs_below' X6.out hb7)
  have E7 := Lib.hid (E6.out.below hb7)
  have T7 := Lib.hid (T6.out.below hb7)
  have Y7 := Lib.hid (rowIs_below' Y6.out hb7)
  have V7 := Lib.hid (rowIs_below' V6.out hb7)
  have Q7 := Lib.hid (Q6.out.below hb7)
  have S7 := Lib.hid (S6.out.below hb7)
  clear hb7 y0 y1 y2 v0 v1 v2 z60 z61 z62 zf60 zf61 zf62 hw6 hwz6
  have hbb : (b != b) = false := by cases b <;> rfl
  have hbe : (b == b) = true := by cases b <;> rfl
  have HVAL := Lib.hid (trimP_val HTP.out)
  have c70 : w7.cell? ⟨x0, 0, none⟩ = some (.int .i64 al) := X7.out.cell (by decide)
  have c71 : w7.cell? ⟨x0, 1, none⟩ = some (.int .i64 st) := X7.out.cell (by decide)
  have c72 : w7.cell? ⟨x0, 2, none⟩ = some (.slice ad n c) := X7.out.cell (by decide)
  go_wp2_with fail
  refine (implSysValid_any al st ad n c es w7 E7.out).mono ?_
  rintro e w8 ⟨rfl, hb8⟩
  rw [HVAL.out]
  have B8 := Lib.hid (B7.out.trans (hb8.mono B7.out.size))
  have X8 := Lib.hid (rowIs_below' X7.out hb8)
  have E8 := Lib.hid (E7.out.below hb8)
  have T8 := Lib.hid (T7.out.below hb8)
  have Y8 := Lib.hid (rowIs_below' Y7.out hb8)
  have V8 := Lib.hid (rowIs_below' V7.out hb8)
  have Q8 := Lib.hid (Q7.out.below hb8)
  have S8 := Lib.hid (S7.out.below hb8)
  clear hb8 c70 c71 c72
  cases b with
  | false =>
    have y0 : w8.cell? ⟨y, 0, none⟩ = some (.int .i64 al') := Y8.out.cell (by decide)
    have y1 : w8.cell? ⟨y, 1, none⟩ = some (.int .i64 st') := Y8.out.cell (by decide)
    have y2 : w8.cell? ⟨y, 2, none⟩ = some (.slice a' n' c') := Y8.out.cell (by decide)
    have v0 : w8.cell? ⟨v, 0, none⟩ = some (.int .i64 al') := V8.out.cell (by decide)
    have v1 : w8.cell? ⟨v, 1, none⟩ = some (.int .i64 st') := V8.out.cell (by decide)
    have v2 : w8.cell? ⟨v, 2, none⟩ = some (.slice a2 n2 c2) := V8.out.cell (by decide)
    go_wp2_with fail
    refine (agSys_same al' st' a' n' c' a2 n2 c2 es' w8 Q8.out S8.out).mono ?_
    rintro e w9 ⟨rfl, hb9⟩
    have B9 := Lib.hid (B8.out.trans (hb9.mono B8.out.size))
    have X9 := Lib.hid (rowIs_below' X8.out hb9)
    have E9 := Lib.hid (E8.out.below hb9)
    have T9 := Lib.hid (T8.out.below hb9)
    have c90 : w9.cell? ⟨x0, 0, none⟩ = some (.int .i64 al) := X9.out.cell (by decide)
    have c91 : w9.cell? ⟨x0, 1, none⟩ = some (.int .i64 st) := X9.out.cell (by decide)
    have c92 : w9.cell? ⟨x0, 2, none⟩ = some (.slice ad n c) := X9.out.cell (by decide)
    go_wp2_with fail
    refine (implSysValid_any al st ad n c es w9 E9.out).mono ?_
    rintro e w10 ⟨rfl, hb10⟩
    rw [HVAL.out]
    have B10 := Lib.hid (B9.out.trans (hb10.mono B9.out.size))
    have X10 := Lib.hid (rowIs_below' X9.out hb10)
    have E10 := Lib.hid (E9.out.below hb10)
    have T10 := Lib.hid (T9.out.below hb10)
    go_wp2
    go_ret
    exact ⟨rfl, B10.out⟩
  | true =>
    obtain ⟨hv, r, hr, rfl, rfl, rfl⟩ := trimP_yes HTP.out
    have hag := trim_again hv hr
    have hvk := sysV_keep hv hr
    have hrk := reach_keep hv hr
    have hrl := hr.1
    have hc2 := cnt_le 16 r
    have hreach : ∀ q, reachP al' st es q → q = r := fun q hq => by
      unfold reachP at hq
      rw [if_pos hv] at hq
      exact hq.unique hr
    obtain ⟨C, hC⟩ : ∃ C, cnt 16 r = C := ⟨_, rfl⟩
    rw [hC] at hag hvk hrk hc2 Y8
    have hreach2 : ∀ q, reachP al' (C : Int) (keepE es r) q → q = 2 ^ C - 1 := fun q hq => by
      unfold reachP at hq
      rw [if_pos hvk] at hq
      exact hq.unique hrk
    have hct := agCount_any r hrl
    rw [hC] at hct
    have hwS := wrap64_pow2 (C : Int) (by omega)
    rw [Int.toNat_natCast] at hwS
    obtain ⟨P, hP⟩ : ∃ P, 2 ^ C = P := ⟨_, rfl⟩
    have hP1 : 1 ≤ P := by rw [← hP]; exact Nat.pow_pos (by decide)
    have hP2 : P ≤ 65536 := by rw [← hP]; exact Nat.pow_le_pow_right (by decide) hc2
    rw [hP] at hwS hreach2
    have hwS2 : IntKind.i64.wrap ((2 : Int) ^ C) = (P : Int) := by rw [IntWalk.i64_left]; exact hwS
    have hwP : IntKind.i64.wrap ((P : Int) - 1) = ((P - 1 : Nat) : Int) := by rw [IntKind.wrap_i64]; omega
    have hwu : IntKind.u64.wrap (C : Int) = (C : Int) := by rw [IntKind.wrap_u64]; omega
    have HAG := Lib.hid hag
    have HVK := Lib.hid hvk
    have HR := Lib.hid hreach
    have HR2 := Lib.hid hreach2
    have HCT := Lib.hid hct
    clear hag hvk hrk hreach hreach2 hct hC hP hr hv hrl HTP hbe
    have y0 : w8.cell? ⟨y, 0, none⟩ = some (.int .i64 al') := Y8.out.cell (by decide)
    have y1 : w8.cell? ⟨y, 1, none⟩ = some (.int .i64 (C : Int)) := Y8.out.cell (by decide)
    have y2 : w8.cell? ⟨y, 2, none⟩ = some (.slice a' n' c') := Y8.out.cell (by decide)
    go_wp2_with fail
    refine (implTrim_any al' (C : Int) a' n' c' (keepE es r) w8 T8.out Q8.out).mono ?_
    rintro e w9 ⟨al3, st3, a3, n3, c3, es3, b3, rfl, hn3, ho3, hb9, htp3⟩
    obtain ⟨rfl, rfl, rfl, rfl⟩ := trimP_unique HAG.out htp3
    have hw8 : 0 < w8.heap.size := Nat.lt_of_le_of_lt (Nat.zero_le _) (World.rowIs.lt X8.out)
    have P9 := Lib.hid (((ho3 _ (Nat.le_refl _)).evr (R := 0) hw8).ev)
    have B9 := Lib.hid (B8.out.trans (hb9.mono B8.out.size))
    have X9 := Lib.hid (rowIs_below' X8.out hb9)
    have E9 := Lib.hid (E8.out.below hb9)
    have T9 := Lib.hid (T8.out.below hb9)
    have Y9 := Lib.hid (rowIs_below' Y8.out hb9)
    have Q9 := Lib.hid (Q8.out.below hb9)
    clear hb9 ho3 htp3 hn3 y0 y1 y2
    obtain ⟨u, hu⟩ : ∃ u, w9.heap.size = u := ⟨_, rfl⟩
    obtain ⟨wz10, hwz10⟩ : ∃ wz, (w9.alloc (.cells #[.int .i64 0, .int .i64 0, .slice none 0 0] 25)) = wz := ⟨_, rfl⟩
    have hbz10 := below_new' w9 25 #[.int .i64 0, .int .i64 0, .slice none 0 0]
    have hrz10 := sys_cells w9 0 0 (.slice none 0 0) 25
    rw [hu] at hrz10
    rw [hwz10] at hbz10 hrz10
    have z100 : wz10.cell? ⟨u, 0, none⟩ = some (.int .i64 0) := hrz10.cell (by decide)
    have z101 : wz10.cell? ⟨u, 1, none⟩ = some (.int .i64 0) := hrz10.cell (by decide)
    have z102 : wz10.cell? ⟨u, 2, none⟩ = some (.slice none 0 0) := hrz10.cell (by decide)
    have zf100 := hrz10.frozen 0
    have zf101 := hrz10.frozen 1
    have zf102 := hrz10.frozen 2
    obtain ⟨w10, hw10⟩ : ∃ w10, (((wz10.setCell ⟨u, 0, none⟩ (.int .i64 al')).setCell ⟨u, 1, none⟩ (.int .i64 (C : Int))).setCell ⟨u, 2, none⟩ (.slice a3 n3 c3)) = w10 := ⟨_, rfl⟩
    have hrs10 := rowIs_set3 hrz10 (.int .i64 al') (.int .i64 (C : Int)) (.slice a3 n3 c3)
    have hbs10 : Below w9.heap.size w9 w10 := by rw [← hw10]; exact ((hbz10.setCell (p := ⟨u, 0, none⟩) (by simp; omega) _).setCell (p := ⟨u, 1, none⟩) (by simp; omega) _).setCell (p := ⟨u, 2, none⟩) (by simp; omega) _
    rw [hw10] at hrs10
    clear hbz10
    have B10 := Lib.hid (B9.out.trans (hbs10.mono B9.out.size))
    have X10 := Lib.hid (rowIs_below' X9.out hbs10)
    have E10 := Lib.hid (E9.out.below hbs10)
    have T10 := Lib.hid (T9.out.below hbs10)
    have Y10 := Lib.hid (rowIs_below' Y9.out hbs10)
    have Q10 := Lib.hid (Q9.out.below hbs10)
    have P10 := Lib.hid (P9.out.below hbs10)
    have U10 := Lib.hid hrs10
    clear hbs10 hrs10
    have HSX := Lib.hid (fun (w' : World) (hb : Below w10.heap.size w10 w') => (show (w'.cell? ⟨u, 0, none⟩ = some (.int .i64 al') ∧ w'.cell? ⟨u, 1, none⟩ = some (.int .i64 (C : Int)) ∧ w'.cell? ⟨u, 2, none⟩ = some (.slice a3 n3 c3)) ∧ (w'.cell? ⟨y, 0, none⟩ = some (.int .i64 al') ∧ w'.cell? ⟨y, 1, none⟩ = some (.int .i64 (C : Int)) ∧ w'.cell? ⟨y, 2, none⟩ = some (.slice a' n' c')) ∧ (w'.cell? ⟨x0, 0, none⟩ = some (.int .i64 al') ∧ w'.cell? ⟨x0, 1, none⟩ = some (.int .i64 st) ∧ w'.cell? ⟨x0, 2, none⟩ = some (.slice ad n c)) from ⟨⟨(rowIs_below' U10.out hb).cell (by decide), (rowIs_below' U10.out hb).cell (by decide), (rowIs_below' U10.out hb).cell (by decide)⟩, ⟨(rowIs_below' Y10.out hb).cell (by decide), (rowIs_below' Y10.out hb).cell (by decide), (rowIs_below' Y10.out hb).cell (by decide)⟩, (rowIs_below' X10.out hb).cell (by decide), (rowIs_below' X10.out hb).cell (by decide), (rowIs_below' X10.out hb).cell (by decide)⟩))
    have W10 := Lib.hid (show Below w10.heap.size w10 w10.drew from (Below.refl _ _).drew)
    have hPP : (((P - 1 : Nat) : Int) == ((P - 1 : Nat) : Int)) = true := by simp
    have hCC : ((C : Int) == (C : Int)) = true := by simp
    go_wp2_with fail
    refine wp_region_held_drew (S := fun w' => (w'.cell? ⟨u, 0, none⟩ = some (.int .i64 al') ∧ w'.cell? ⟨u, 1, none⟩ = some (.int .i64 (C : Int)) ∧ w'.cell? ⟨u, 2, none⟩ = some (.slice a3 n3 c3)) ∧ (w'.cell? ⟨y, 0, none⟩ = some (.int .i64 al') ∧ w'.cell? ⟨y, 1, none⟩ = some (.int .i64 (C : Int)) ∧ w'.cell? ⟨y, 2, none⟩ = some (.slice a' n' c')) ∧ (w'.cell? ⟨x0, 0, none⟩ = some (.int .i64 al') ∧ w'.cell? ⟨x0, 1, none⟩ = some (.int .i64 st) ∧ w'.cell? ⟨x0, 2, none⟩ = some (.slice ad n c))) (by kernel_rfl) (HSX.out _ W10.out) (fun hHeld => ?_)
    first | (refine wpAnyH_take (i := 0) (get_of_drop' rfl) (by kernel_rfl) (by kernel_rfl) (by kernel_rfl) (fun _ _ _ h => h) (Or.inr ⟨?_, rfl⟩) hHeld ?_; (focus (simp [Region.wanted, yielded, undef]; done)); (try simp only [Act.put, List.setIfInBounds_toArray, List.set_cons_zero, List.set_cons_succ])) | (refine wpAnyH_take (i := 0) (v := ?_) (get_of_drop' rfl) (by kernel_rfl) (by kernel_rfl) (by kernel_rfl) (fun _ _ _ h => h) (Or.inl ⟨?_, ?_⟩) hHeld ?_; rotate_left; (focus rfl); (focus (intro w hSw; (try dsimp only at hSw); go_simp; (try (with_reducible rfl)))); (try simp only [Act.put, List.setIfInBounds_toArray, List.set_cons_zero, List.set_cons_succ]))
    first | (refine wpAnyH_take (i := 1) (get_of_drop' rfl) (by kernel_rfl) (by kernel_rfl) (by kernel_rfl) (fun _ _ _ h => h) (Or.inr ⟨?_, rfl⟩) hHeld ?_; (focus (simp [Region.wanted, yielded, undef]; done)); (try simp only [Act.put, List.setIfInBounds_toArray, List.set_cons_zero, List.set_cons_succ])) | (refine wpAnyH_take (i := 1) (v := ?_) (get_of_drop' rfl) (by kernel_rfl) (by kernel_rfl) (by kernel_rfl) (fun _ _ _ h => h) (Or.inl ⟨?_, ?_⟩) hHeld ?_; rotate_left; (focus rfl); (focus (intro w hSw; (try dsimp only at hSw); go_simp; (try (with_reducible rfl)))); (try simp only [Act.put, List.setIfInBounds_toArray, List.set_cons_zero, List.set_cons_succ]))
    first | (refine wpAnyH_take (i := 2) (get_of_drop' rfl) (by kernel_rfl) (by kernel_rfl) (by kernel_rfl) (fun _ _ _ h => h) (Or.inr ⟨?_, rfl⟩) hHeld ?_; (focus (simp [Region.wanted, yielded, undef]; done)); (try simp only [Act.put, List.setIfInBounds_toArray, List.set_cons_zero, List.set_cons_succ])) | (refine wpAnyH_take (i := 2) (v := ?_) (get_of_drop' rfl) (by kernel_rfl) (by kernel_rfl) (by kernel_rfl) (fun _ _ _ h => h) (Or.inl ⟨?_, ?_⟩) hHeld ?_; rotate_left; (focus rfl); (focus (intro w hSw; (try dsimp only at hSw); go_simp; (try (with_reducible rfl)))); (try simp only [Act.put, List.setIfInBounds_toArray, List.set_cons_zero, List.set_cons_succ]))
    first | (refine wpAnyH_take (i := 3) (get_of_drop' rfl) (by kernel_rfl) (by kernel_rfl) (by kernel_rfl) (fun _ _ _ h => h) (Or.inr ⟨?_, rfl⟩) hHeld ?_; (focus (simp [Region.wanted, yielded, undef]; done)); (try simp only [Act.put, List.setIfInBounds_toArray, List.set_cons_zero, List.set_cons_succ])) | (refine wpAnyH_take (i := 3) (v := ?_) (get_of_drop' rfl) (by kernel_rfl) (by kernel_rfl) (by kernel_rfl) (fun _ _ _ h => h) (Or.inl ⟨?_, ?_⟩) hHeld ?_; rotate_left; (focus rfl); (focus (intro w hSw; (try dsimp only at hSw); go_simp; (try (with_reducible rfl)))); (try simp only [Act.put, List.setIfInBounds_toArray, List.set_cons_zero, List.set_cons_succ]))
    refine wpAnyH_ready (rs := [4]) (by kernel_rfl) (by simp) ?_
    refine AllReadyH.cons (get_of_drop' rfl) (fun K hK => ?_) AllReadyH.nil
    go_simp
    go_at_call 13
    refine (agSys_same al' (C : Int) a3 n3 c3 a' n' c' (keepE es r) _ (P10.out.below W10.out) (Q10.out.below W10.out)).mono ?_
    rintro e w11 ⟨rfl, hbj⟩
    have W11 := Lib.hid (W10.out.trans (hbj.mono W10.out.size))
    clear hbj
    go_wp2_with fail
    refine hK.out _ _ (HSX.out w11 W11.out) (fun hHeld => ?_)
    clear hK K
    try simp only [Act.put, List.setIfInBounds_toArray, List.set_cons_zero, List.set_cons_succ]
    first | (refine wpAnyH_take (i := 5) (get_of_drop' rfl) (by kernel_rfl) (by kernel_rfl) (by kernel_rfl) (fun _ _ _ h => h) (Or.inr ⟨?_, rfl⟩) hHeld ?_; (focus (simp [Region.wanted, yielded, undef]; done)); (try simp only [Act.put, List.setIfInBounds_toArray, List.set_cons_zero, List.set_cons_succ])) | (refine wpAnyH_take (i := 5) (v := ?_) (get_of_drop' rfl) (by kernel_rfl) (by kernel_rfl) (by kernel_rfl) (fun _ _ _ h => h) (Or.inl ⟨?_, ?_⟩) hHeld ?_; rotate_left; (focus rfl); (focus (intro w hSw; (try dsimp only at hSw); go_simp; (try (with_reducible rfl)))); (try simp only [Act.put, List.setIfInBounds_toArray, List.set_cons_zero, List.set_cons_succ]))
    first | (refine wpAnyH_take (i := 6) (get_of_drop' rfl) (by kernel_rfl) (by kernel_rfl) (by kernel_rfl) (fun _ _ _ h => h) (Or.inr ⟨?_, rfl⟩) hHeld ?_; (focus (simp [Region.wanted, yielded, undef]; done)); (try simp only [Act.put, List.setIfInBounds_toArray, List.set_cons_zero, List.set_cons_succ])) | (refine wpAnyH_take (i := 6) (v := ?_) (get_of_drop' rfl) (by kernel_rfl) (by kernel_rfl) (by kernel_rfl) (fun _ _ _ h => h) (Or.inl ⟨?_, ?_⟩) hHeld ?_; rotate_left; (focus rfl); (focus (intro w hSw; (try dsimp only at hSw); go_simp; (try (with_reducible rfl)))); (try simp only [Act.put, List.setIfInBounds_toArray, List.set_cons_zero, List.set_cons_succ]))
    first | (refine wpAnyH_take (i := 7) (get_of_drop' rfl) (by kernel_rfl) (by kernel_rfl) (by kernel_rfl) (fun _ _ _ h => h) (Or.inr ⟨?_, rfl⟩) hHeld ?_; (focus (simp [Region.wanted, yielded, undef]; done)); (try simp only [Act.put, List.setIfInBounds_toArray, List.set_cons_zero, List.set_cons_succ])) | (refine wpAnyH_take (i := 7) (v := ?_) (get_of_drop' rfl) (by kernel_rfl) (by kernel_rfl) (by kernel_rfl) (fun _ _ _ h => h) (Or.inl ⟨?_, ?_⟩) hHeld ?_; rotate_left; (focus rfl); (focus (intro w hSw; (try dsimp only at hSw); go_simp; (try (with_reducible rfl)))); (try simp only [Act.put, List.setIfInBounds_toArray, List.set_cons_zero, List.set_cons_succ]))
    refine wpAnyH_ready (rs := [8]) (by kernel_rfl) (by simp) ?_
    refine AllReadyH.cons (get_of_drop' rfl) (fun K hK => ?_) AllReadyH.nil
    go_simp
    go_at_call 23
    refine (implSysValid_any al' (C : Int) a' n' c' (keepE es r) _ (Q10.out.below W11.out)).mono ?_
    rintro e w12 ⟨rfl, hbj⟩
    rw [HVK.out]
    have W12 := Lib.hid (W11.out.trans (hbj.mono W11.out.size))
    clear hbj
    go_wp2_with fail
    refine hK.out _ _ (HSX.out w12 W12.out) (fun hHeld => ?_)
    clear hK K
    try simp only [Act.put, List.setIfInBounds_toArray, List.set_cons_zero, List.set_cons_succ]
    first | (refine wpAnyH_take (i := 9) (get_of_drop' rfl) (by kernel_rfl) (by kernel_rfl) (by kernel_rfl) (fun _ _ _ h => h) (Or.inr ⟨?_, rfl⟩) hHeld ?_; (focus (simp [Region.wanted, yielded, undef]; done)); (try simp only [Act.put, List.setIfInBounds_toArray, List.set_cons_zero, List.set_cons_succ])) | (refine wpAnyH_take (i := 9) (v := ?_) (get_of_drop' rfl) (by kernel_rfl) (by kernel_rfl) (by kernel_rfl) (fun _ _ _ h => h) (Or.inl ⟨?_, ?_⟩) hHeld ?_; rotate_left; (focus rfl); (focus (intro w hSw; (try dsimp only at hSw); go_simp; (try (with_reducible rfl)))); (try simp only [Act.put, List.setIfInBounds_toArray, List.set_cons_zero, List.set_cons_succ]))
    first | (refine wpAnyH_take (i := 10) (get_of_drop' rfl) (by kernel_rfl) (by kernel_rfl) (by kernel_rfl) (fun _ _ _ h => h) (Or.inr ⟨?_, rfl⟩) hHeld ?_; (focus (simp [Region.wanted, yielded, undef]; done)); (try simp only [Act.put, List.setIfInBounds_toArray, List.set_cons_zero, List.set_cons_succ])) | (refine wpAnyH_take (i := 10) (v := ?_) (get_of_drop' rfl) (by kernel_rfl) (by kernel_rfl) (by kernel_rfl) (fun _ _ _ h => h) (Or.inl ⟨?_, ?_⟩) hHeld ?_; rotate_left; (focus rfl); (focus (intro w hSw; (try dsimp only at hSw); go_simp; (try (with_reducible rfl)))); (try simp only [Act.put, List.setIfInBounds_toArray, List.set_cons_zero, List.set_cons_succ]))
    first | (refine wpAnyH_take (i := 11) (get_of_drop' rfl) (by kernel_rfl) (by kernel_rfl) (by kernel_rfl) (fun _ _ _ h => h) (Or.inr ⟨?_, rfl⟩) hHeld ?_; (focus (simp [Region.wanted, yielded, undef]; done)); (try simp only [Act.put, List.setIfInBounds_toArray, List.set_cons_zero, List.set_cons_succ])) | (refine wpAnyH_take (i := 11) (v := ?_) (get_of_drop' rfl) (by kernel_rfl) (by kernel_rfl) (by kernel_rfl) (fun _ _ _ h => h) (Or.inl ⟨?_, ?_⟩) hHeld ?_; rotate_left; (focus rfl); (focus (intro w hSw; (try dsimp only at hSw); go_simp; (try (with_reducible rfl)))); (try simp only [Act.put, List.setIfInBounds_toArray, List.set_cons_zero, List.set_cons_succ]))
    first | (refine wpAnyH_take (i := 12) (get_of_drop' rfl) (by kernel_rfl) (by kernel_rfl) (by kernel_rfl) (fun _ _ _ h => h) (Or.inr ⟨?_, rfl⟩) hHeld ?_; (focus (simp [Region.wanted, yielded, undef]; done)); (try simp only [Act.put, List.setIfInBounds_toArray, List.set_cons_zero, List.set_cons_succ])) | (refine wpAnyH_take (i := 12) (v := ?_) (get_of_drop' rfl) (by kernel_rfl) (by kernel_rfl) (by kernel_rfl) (fun _ _ _ h => h) (Or.inl ⟨?_, ?_⟩) hHeld ?_; rotate_left; (focus rfl); (focus (intro w hSw; (try dsimp only at hSw); go_simp; (try (with_reducible rfl)))); (try simp only [Act.put, List.setIfInBounds_toArray, List.set_cons_zero, List.set_cons_succ]))
    first | (refine wpAnyH_take (i := 13) (get_of_drop' rfl) (by kernel_rfl) (by kernel_rfl) (by kernel_rfl) (fun _ _ _ h => h) (Or.inr ⟨?_, rfl⟩) hHeld ?_; (focus (simp [Region.wanted, yielded, undef]; done)); (try simp only [Act.put, List.setIfInBounds_toArray, List.set_cons_zero, List.set_cons_succ])) | (refine wpAnyH_take (i := 13) (v := ?_) (get_of_drop' rfl) (by kernel_rfl) (by kernel_rfl) (by kernel_rfl) (fun _ _ _ h => h) (Or.inl ⟨?_, ?_⟩) hHeld ?_; rotate_left; (focus rfl); (focus (intro w hSw; (try dsimp only at hSw); go_simp; (try (with_reducible rfl)))); (try simp only [Act.put, List.setIfInBounds_toArray, List.set_cons_zero, List.set_cons_succ]))
    refine wpAnyH_ready (rs := [14]) (by kernel_rfl) (by simp) ?_
    refine AllReadyH.cons (get_of_drop' rfl) (fun K hK => ?_) AllReadyH.nil
    go_simp
    go_at_call 24
    refine (implReach_any al' st ad n c es _ (T10.out.below W12.out) (E10.out.below W12.out)).mono ?_
    rintro e w13 ⟨q, rfl, hq, hbj⟩
    obtain rfl := HR.out q hq
    have W13 := Lib.hid (W12.out.trans (hbj.mono W12.out.size))
    clear hbj hq
    go_wp2_with fail
    refine hK.out _ _ (HSX.out w13 W13.out) (fun hHeld => ?_)
    clear hK K
    try simp only [Act.put, List.setIfInBounds_toArray, List.set_cons_zero, List.set_cons_succ]
    refine wpAnyH_ready (rs := [15]) (by kernel_rfl) (by simp) ?_
    refine AllReadyH.cons (get_of_drop' rfl) (fun K hK => ?_) AllReadyH.nil
    go_simp
    go_at_call 16
    refine (HCT.out _).mono ?_
    rintro e wz ⟨rfl, rfl⟩
    go_wp2_with fail
    refine hK.out _ _ (HSX.out _ W13.out) (fun hHeld => ?_)
    clear hK K
    try simp only [Act.put, List.setIfInBounds_toArray, List.set_cons_zero, List.set_cons_succ]
    first | (refine wpAnyH_take (i := 16) (get_of_drop' rfl) (by kernel_rfl) (by kernel_rfl) (by kernel_rfl) (fun _ _ _ h => h) (Or.inr ⟨?_, rfl⟩) hHeld ?_; (focus (simp [Region.wanted, yielded, undef]; done)); (try simp only [Act.put, List.setIfInBounds_toArray, List.set_cons_zero, List.set_cons_succ])) | (refine wpAnyH_take (i := 16) (v := ?_) (get_of_drop' rfl) (by kernel_rfl) (by kernel_rfl) (by kernel_rfl) (fun _ _ _ h => h) (Or.inl ⟨?_, ?_⟩) hHeld ?_; rotate_left; (focus rfl); (focus (intro w hSw; (try dsimp only at hSw); go_simp; (try (with_reducible rfl)))); (try simp only [Act.put, List.setIfInBounds_toArray, List.set_cons_zero, List.set_cons_succ]))
    first | (refine wpAnyH_take (i := 17) (get_of_drop' rfl) (by kernel_rfl) (by kernel_rfl) (by kernel_rfl) (fun _ _ _ h => h) (Or.inr ⟨?_, rfl⟩) hHeld ?_; (focus (simp [Region.wanted, yielded, undef]; done)); (try simp only [Act.put, List.setIfInBounds_toArray, List.set_cons_zero, List.set_cons_succ])) | (refine wpAnyH_take (i := 17) (v := ?_) (get_of_drop' rfl) (by kernel_rfl) (by kernel_rfl) (by kernel_rfl) (fun _ _ _ h => h) (Or.inl ⟨?_, ?_⟩) hHeld ?_; rotate_left; (focus rfl); (focus (intro w hSw; (try dsimp only at hSw); go_simp; (try (with_reducible rfl)))); (try simp only [Act.put, List.setIfInBounds_toArray, List.set_cons_zero, List.set_cons_succ]))
    first | (refine wpAnyH_take (i := 18) (get_of_drop' rfl) (by kernel_rfl) (by kernel_rfl) (by kernel_rfl) (fun _ _ _ h => h) (Or.inr ⟨?_, rfl⟩) hHeld ?_; (focus (simp [Region.wanted, yielded, undef]; done)); (try simp only [Act.put, List.setIfInBounds_toArray, List.set_cons_zero, List.set_cons_succ])) | (refine wpAnyH_take (i := 18) (v := ?_) (get_of_drop' rfl) (by kernel_rfl) (by kernel_rfl) (by kernel_rfl) (fun _ _ _ h => h) (Or.inl ⟨?_, ?_⟩) hHeld ?_; rotate_left; (focus rfl); (focus (intro w hSw; (try dsimp only at hSw); go_simp; (try (with_reducible rfl)))); (try simp only [Act.put, List.setIfInBounds_toArray, List.set_cons_zero, List.set_cons_succ]))
    first | (refine wpAnyH_take (i := 19) (get_of_drop' rfl) (by kernel_rfl) (by kernel_rfl) (by kernel_rfl) (fun _ _ _ h => h) (Or.inr ⟨?_, rfl⟩) hHeld ?_; (focus (simp [Region.wanted, yielded, undef]; done)); (try simp only [Act.put, List.setIfInBounds_toArray, List.set_cons_zero, List.set_cons_succ])) | (refine wpAnyH_take (i := 19) (v := ?_) (get_of_drop' rfl) (by kernel_rfl) (by kernel_rfl) (by kernel_rfl) (fun _ _ _ h => h) (Or.inl ⟨?_, ?_⟩) hHeld ?_; rotate_left; (focus rfl); (focus (intro w hSw; (try dsimp only at hSw); go_simp; (try (with_reducible rfl)))); (try simp only [Act.put, List.setIfInBounds_toArray, List.set_cons_zero, List.set_cons_succ]))
    first | (refine wpAnyH_take (i := 21) (get_of_drop' rfl) (by kernel_rfl) (by kernel_rfl) (by kernel_rfl) (fun _ _ _ h => h) (Or.inr ⟨?_, rfl⟩) hHeld ?_; (focus (simp [Region.wanted, yielded, undef]; done)); (try simp only [Act.put, List.setIfInBounds_toArray, List.set_cons_zero, List.set_cons_succ])) | (refine wpAnyH_take (i := 21) (v := ?_) (get_of_drop' rfl) (by kernel_rfl) (by kernel_rfl) (by kernel_rfl) (fun _ _ _ h => h) (Or.inl ⟨?_, ?_⟩) hHeld ?_; rotate_left; (focus rfl); (focus (intro w hSw; (try dsimp only at hSw); go_simp; (try (with_reducible rfl)))); (try simp only [Act.put, List.setIfInBounds_toArray, List.set_cons_zero, List.set_cons_succ]))
    first | (refine wpAnyH_take (i := 22) (get_of_drop' rfl) (by kernel_rfl) (by kernel_rfl) (by kernel_rfl) (fun _ _ _ h => h) (Or.inr ⟨?_, rfl⟩) hHeld ?_; (focus (simp [Region.wanted, yielded, undef]; done)); (try simp only [Act.put, List.setIfInBounds_toArray, List.set_cons_zero, List.set_cons_succ])) | (refine wpAnyH_take (i := 22) (v := ?_) (get_of_drop' rfl) (by kernel_rfl) (by kernel_rfl) (by kernel_rfl) (fun _ _ _ h => h) (Or.inl ⟨?_, ?_⟩) hHeld ?_; rotate_left; (focus rfl); (focus (intro w hSw; (try dsimp only at hSw); go_simp; (try (with_reducible rfl)))); (try simp only [Act.put, List.setIfInBounds_toArray, List.set_cons_zero, List.set_cons_succ]))
    first | (refine wpAnyH_take (i := 23) (get_of_drop' rfl) (by kernel_rfl) (by kernel_rfl) (by kernel_rfl) (fun _ _ _ h => h) (Or.inr ⟨?_, rfl⟩) hHeld ?_; (focus (simp [Region.wanted, yielded, undef]; done)); (try simp only [Act.put, List.setIfInBounds_toArray, List.set_cons_zero, List.set_cons_succ])) | (refine wpAnyH_take (i := 23) (v := ?_) (get_of_drop' rfl) (by kernel_rfl) (by kernel_rfl) (by kernel_rfl) (fun _ _ _ h => h) (Or.inl ⟨?_, ?_⟩) hHeld ?_; rotate_left; (focus rfl); (focus (intro w hSw; (try dsimp only at hSw); go_simp; (try (with_reducible rfl)))); (try simp only [Act.put, List.setIfInBounds_toArray, List.set_cons_zero, List.set_cons_succ]))
    first | (refine wpAnyH_take (i := 24) (get_of_drop' rfl) (by kernel_rfl) (by kernel_rfl) (by kernel_rfl) (fun _ _ _ h => h) (Or.inr ⟨?_, rfl⟩) hHeld ?_; (focus (simp [Region.wanted, yielded, undef]; done)); (try simp only [Act.put, List.setIfInBounds_toArray, List.set_cons_zero, List.set_cons_succ])) | (refine wpAnyH_take (i := 24) (v := ?_) (get_of_drop' rfl) (by kernel_rfl) (by kernel_rfl) (by kernel_rfl) (fun _ _ _ h => h) (Or.inl ⟨?_, ?_⟩) hHeld ?_; rotate_left; (focus rfl); (focus (intro w hSw; (try dsimp only at hSw); go_simp; (try (with_reducible rfl)))); (try simp only [Act.put, List.setIfInBounds_toArray, List.set_cons_zero, List.set_cons_succ]))
    first | (refine wpAnyH_take (i := 25) (get_of_drop' rfl) (by kernel_rfl) (by kernel_rfl) (by kernel_rfl) (fun _ _ _ h => h) (Or.inr ⟨?_, rfl⟩) hHeld ?_; (focus (simp [Region.wanted, yielded, undef]; done)); (try simp only [Act.put, List.setIfInBounds_toArray, List.set_cons_zero, List.set_cons_succ])) | (refine wpAnyH_take (i := 25) (v := ?_) (get_of_drop' rfl) (by kernel_rfl) (by kernel_rfl) (by kernel_rfl) (fun _ _ _ h => h) (Or.inl ⟨?_, ?_⟩) hHeld ?_; rotate_left; (focus rfl); (focus (intro w hSw; (try dsimp only at hSw); go_simp; (try (with_reducible rfl)))); (try simp only [Act.put, List.setIfInBounds_toArray, List.set_cons_zero, List.set_cons_succ]))
    refine wpAnyH_ready (rs := [20]) (by kernel_rfl) (by simp) ?_
    refine AllReadyH.cons (get_of_drop' rfl) (fun K hK => ?_) AllReadyH.nil
    go_simp
    go_at_call 24
    refine (implReach_any al' (C : Int) a' n' c' _ _ (T10.out.below W13.out) (Q10.out.below W13.out)).mono ?_
    rintro e w14 ⟨q2, rfl, hq, hbj⟩
    obtain rfl := HR2.out q2 hq
    have W14 := Lib.hid (W13.out.trans (hbj.mono W13.out.size))
    clear hbj hq
    go_wp2_with fail
    refine hK.out _ _ (HSX.out w14 W14.out) (fun hHeld => ?_)
    clear hK K
    try simp only [Act.put, List.setIfInBounds_toArray, List.set_cons_zero, List.set_cons_succ]
    first | (refine wpAnyH_take (i := 26) (get_of_drop' rfl) (by kernel_rfl) (by kernel_rfl) (by kernel_rfl) (fun _ _ _ h => h) (Or.inr ⟨?_, rfl⟩) hHeld ?_; (focus (simp [Region.wanted, yielded, undef]; done)); (try simp only [Act.put, List.setIfInBounds_toArray, List.set_cons_zero, List.set_cons_succ])) | (refine wpAnyH_take (i := 26) (v := ?_) (get_of_drop' rfl) (by kernel_rfl) (by kernel_rfl) (by kernel_rfl) (fun _ _ _ h => h) (Or.inl ⟨?_, ?_⟩) hHeld ?_; rotate_left; (focus rfl); (focus (intro w hSw; (try dsimp only at hSw); go_simp; (try (with_reducible rfl)))); (try simp only [Act.put, List.setIfInBounds_toArray, List.set_cons_zero, List.set_cons_succ]))
    first | (refine wpAnyH_take (i := 27) (get_of_drop' rfl) (by kernel_rfl) (by kernel_rfl) (by kernel_rfl) (fun _ _ _ h => h) (Or.inr ⟨?_, rfl⟩) hHeld ?_; (focus (simp [Region.wanted, yielded, undef]; done)); (try simp only [Act.put, List.setIfInBounds_toArray, List.set_cons_zero, List.set_cons_succ])) | (refine wpAnyH_take (i := 27) (v := ?_) (get_of_drop' rfl) (by kernel_rfl) (by kernel_rfl) (by kernel_rfl) (fun _ _ _ h => h) (Or.inl ⟨?_, ?_⟩) hHeld ?_; rotate_left; (focus rfl); (focus (intro w hSw; (try dsimp only at hSw); go_simp; (try (with_reducible rfl)))); (try simp only [Act.put, List.setIfInBounds_toArray, List.set_cons_zero, List.set_cons_succ]))
    first | (refine wpAnyH_take (i := 28) (get_of_drop' rfl) (by kernel_rfl) (by kernel_rfl) (by kernel_rfl) (fun _ _ _ h => h) (Or.inr ⟨?_, rfl⟩) hHeld ?_; (focus (simp [Region.wanted, yielded, undef]; done)); (try simp only [Act.put, List.setIfInBounds_toArray, List.set_cons_zero, List.set_cons_succ])) | (refine wpAnyH_take (i := 28) (v := ?_) (get_of_drop' rfl) (by kernel_rfl) (by kernel_rfl) (by kernel_rfl) (fun _ _ _ h => h) (Or.inl ⟨?_, ?_⟩) hHeld ?_; rotate_left; (focus rfl); (focus (intro w hSw; (try dsimp only at hSw); go_simp; (try (with_reducible rfl)))); (try simp only [Act.put, List.setIfInBounds_toArray, List.set_cons_zero, List.set_cons_succ]))
    refine wpAnyH_done (by kernel_rfl) ?_ _
    go_wp2
    go_ret
    exact ⟨ret_bool (by simp), B10.out.trans (W14.out.mono B10.out.size)⟩
end Go.Proofs.YtknhgfmjchfnjaaDoor
