/- The walk of the law TrimTraces. -/
import Derived.Test.YtknhgfmjchfnjaaDoorSDraw4
import Derived.Test.YtknhgfmjchfnjaaDoorSysImpl
import Derived.Test.YtknhgfmjchfnjaaDoorTrimP
import Derived.Test.YtknhgfmjchfnjaaDoorAgSys



namespace Go.Proofs.YtknhgfmjchfnjaaDoor
open Go.RowKit
set_option linter.unusedVariables false
set_option linter.unusedSimpArgs false
set_option maxRecDepth 100000
theorem trI {al st : Int} {a1 : Option Addr} {n1 c1 : Nat} {es : List Edg} {s : ByteArray} (hs : s.size ≤ 9223372036854775807) {b : Bool} (hb : decide (aftN al st es s.data.toList ≠ 0) = b) (w : World) (hT : Tab w) (h : EV w (.slice a1 n1 c1) es) :
    Calls Tryd.prog 14 #[.agg #[.int .i64 al, .int .i64 st, .slice a1 n1 c1], .string s] w (RB' (.bool b) w) := by
  subst hb
  exact implTrace_any al st a1 n1 c1 es s hs w hT h
theorem aft_in {al st : Int} {es : List Edg} {r : Nat} (h : IsReach es r) (l : List UInt8) (j : Nat) (hj : (aftN al st es l).testBit j = true) : r.testBit j = true := by
  unfold aftN at hj
  split at hj
  · exact run_reach h l j hj
  · rw [Nat.zero_testBit] at hj; cases hj
theorem trimP_yes {al st : Int} {es : List Edg} {al' st' : Int} {es' : List Edg} (h : trimP al st es al' st' es' true) : sysV al st es = true ∧ ∃ r : Nat, IsReach es r ∧ al' = al ∧ st' = ((cnt 16 r : Nat) : Int) ∧ es' = keepE es r := by
  unfold trimP at h
  split at h
  · rename_i hv
    obtain ⟨r, h1, h2, h3, h4, -⟩ := h
    exact ⟨hv, r, h1, h2, h3, h4⟩
  · cases h.2.2.2
theorem trimP_val {al st : Int} {es : List Edg} {al' st' : Int} {es' : List Edg} {b : Bool} (h : trimP al st es al' st' es' b) : sysV al st es = b := by
  unfold trimP at h
  split at h
  · rename_i hv
    obtain ⟨r, h1, h2, h3, h4, h5⟩ := h
    rw [h5]; exact hv
  · rename_i hv
    rw [h.2.2.2]; simpa using hv
set_option maxHeartbeats 8000000 in
theorem fnTrimTraces_walk (a : Option Addr) (len cap : Nat) (zs : List Int) (w : World) (hT : Tab w) (hrow : IsRow w a len cap zs) : Calls Tryd.prog 3 #[.slice a len cap] w fun e w' => e = .returned (.bool true) ∧ Below w.heap.size w w' := by
  by_cases hl : 1048576 < len
  · have hl' : (1048576 : Int) < (len : Int) := by omega
    go_enter Tryd.func3, Tryd.ntmps3
    go_wp2
    go_ret
    exact ⟨rfl, Below.refl _ _⟩
  have hl' : (len : Int) ≤ 1048576 := by omega
  clear hl
  go_enter Tryd.func3, Tryd.ntmps3
  go_wp2_with fail
  refine (drawStates_any a len cap zs w hrow).mono ?_
  rintro e w1 ⟨al, st, ad, n, c, es, s, rfl, hs, hev, hes, hb1⟩
  have hev1 := (hev 0 (Nat.zero_le _)).ev
  have hsz : s.size ≤ 9223372036854775807 := by omega
  clear hev hrow
  obtain ⟨x0, hx0⟩ : ∃ x0, w1.heap.size = x0 := ⟨_, rfl⟩
  obtain ⟨w2, hw2⟩ : ∃ w2, (w1.alloc (.cells #[.int .i64 al, .int .i64 st, .slice ad n c] 25)) = w2 := ⟨_, rfl⟩
  have hb2 := below_new' w1 25 #[.int .i64 al, .int .i64 st, .slice ad n c]
  have hx2 := sys_cells w1 al st (.slice ad n c) 25
  rw [hx0] at hx2
  rw [hw2] at hb2 hx2
  have B2 := Lib.hid (hb1.trans (hb2.mono hb1.size))
  have X2 := Lib.hid hx2
  have E2 := Lib.hid (hev1.below hb2)
  have T2 := Lib.hid ((hT.below hb1).below hb2)
  clear hb1 hb2 hx2 hev1 hT
  have c20 : w2.cell? ⟨x0, 0, none⟩ = some (.int .i64 al) := X2.out.cell (by decide)
  have c21 : w2.cell? ⟨x0, 1, none⟩ = some (.int .i64 st) := X2.out.cell (by decide)
  have c22 : w2.cell? ⟨x0, 2, none⟩ = some (.slice ad n c) := X2.out.cell (by decide)
  go_wp2_with fail
  refine (implTrim_any al st ad n c es w2 T2.out E2.out).mono ?_
  rintro e w3 ⟨al', st', a', n', c', es', b, rfl, hn', ho, hb3, htp⟩
  have hw2 : 0 < w2.heap.size := Nat.lt_of_le_of_lt (Nat.zero_le _) (World.rowIs.lt X2.out)
  have HTP := Lib.hid htp
  have Q3 := Lib.hid (((ho _ (Nat.le_refl _)).evr (R := 0) hw2).ev)
  have B3 := Lib.hid (B2.out.trans (hb3.mono B2.out.size))
  have X3 := Lib.hid (rowIs_below' X2.out hb3)
  have E3 := Lib.hid (E2.out.below hb3)
  have T3 := Lib.hid (T2.out.below hb3)
  clear c20 c21 c22 ho htp hb3 hn'
  have c30 : w3.cell? ⟨x0, 0, none⟩ = some (.int .i64 al) := X3.out.cell (by decide)
  have c31 : w3.cell? ⟨x0, 1, none⟩ = some (.int .i64 st) := X3.out.cell (by decide)
  have c32 : w3.cell? ⟨x0, 2, none⟩ = some (.slice ad n c) := X3.out.cell (by decide)
  obtain ⟨y, hy⟩ : ∃ y, w3.heap.size = y := ⟨_, rfl⟩
  obtain ⟨wz4, hwz4⟩ : ∃ wz, (w3.alloc (.cells #[.int .i64 0, .int .i64 0, .slice none 0 0] 25)) = wz := ⟨_, rfl⟩
  have hbz4 := below_new' w3 25 #[.int .i64 0, .int .i64 0, .slice none 0 0]
  have hrz4 := sys_cells w3 0 0 (.slice none 0 0) 25
  rw [hy] at hrz4
  rw [hwz4] at hbz4 hrz4
  have z40 : wz4.cell? ⟨y, 0, none⟩ = some (.int .i64 0) := hrz4.cell (by decide)
  have z41 : wz4.cell? ⟨y, 1, none⟩ = some (.int .i64 0) := hrz4.cell (by decide)
  have z42 : wz4.cell? ⟨y, 2, none⟩ = some (.slice none 0 0) := hrz4.cell (by decide)
  have zf40 := hrz4.frozen 0
  have zf41 := hrz4.frozen 1
  have zf42 := hrz4.frozen 2
  obtain ⟨w4, hw4⟩ : ∃ w4, (((wz4.setCell ⟨y, 0, none⟩ (.int .i64 al')).setCell ⟨y, 1, none⟩ (.int .i64 st')).setCell ⟨y, 2, none⟩ (.slice a' n' c')) = w4 := ⟨_, rfl⟩
  have hrs4 := rowIs_set3 hrz4 (.int .i64 al') (.int .i64 st') (.slice a' n' c')
  have hbs4 : Below w3.heap.size w3 w4 := by rw [← hw4]; exact ((hbz4.setCell (p := ⟨y, 0, none⟩) (by simp; omega) _).setCell (p := ⟨y, 1, none⟩) (by simp; omega) _).setCell (p := ⟨y, 2, none⟩) (by simp; omega) _
  rw [hw4] at hrs4
  clear hbz4
  have B4 := Lib.hid (B3.out.trans (hbs4.mono B3.out.size))
  have X4 := Lib.hid (rowIs_below' X3.out hbs4)
  have E4 := Lib.hid (E3.out.below hbs4)
  have T4 := Lib.hid (T3.out.below hbs4)
  have Y4 := Lib.hid hrs4
  have Q4 := Lib.hid (Q3.out.below hbs4)
  clear hbs4 hrs4 c30 c31 c32
  have c40 : w4.cell? ⟨x0, 0, none⟩ = some (.int .i64 al) := X4.out.cell (by decide)
  have c41 : w4.cell? ⟨x0, 1, none⟩ = some (.int .i64 st) := X4.out.cell (by decide)
  have c42 : w4.cell? ⟨x0, 2, none⟩ = some (.slice ad n c) := X4.out.cell (by decide)
  go_wp2_with fail
  refine (specTrim_any al st ad n c es w4 E4.out).mono ?_
  rintro e w5 ⟨al2, st2, a2, n2, c2, es2, b2, rfl, hn2, ho2, hb5, htp2⟩
  obtain ⟨rfl, rfl, rfl, rfl⟩ := trimP_unique HTP.out htp2
  have hw4 : 0 < w4.heap.size := Nat.lt_of_le_of_lt (Nat.zero_le _) (World.rowIs.lt X4.out)
  have S5 := Lib.hid (((ho2 _ (Nat.le_refl _)).evr (R := 0) hw4).ev)
  have B5 := Lib.hid (B4.out.trans (hb5.mono B4.out.size))
  have X5 := Lib.hid (rowIs_below' X4.out hb5)
  have E5 := Lib.hid (E4.out.below hb5)
  have T5 := Lib.hid (T4.out.below hb5)
  have Y5 := Lib.hid (rowIs_below' Y4.out hb5)
  have Q5 := Lib.hid (Q4.out.below hb5)
  clear hb5 ho2 htp2 hn2 c40 c41 c42 z40 z41 z42 zf40 zf41 zf42 hw4 hwz4
  obtain ⟨v, hv⟩ : ∃ v, w5.heap.size = v := ⟨_, rfl⟩
  obtain ⟨wz6, hwz6⟩ : ∃ wz, (w5.alloc (.cells #[.int .i64 0, .int .i64 0, .slice none 0 0] 25)) = wz := ⟨_, rfl⟩
  have hbz6 := below_new' w5 25 #[.int .i64 0, .int .i64 0, .slice none 0 0]
  have hrz6 := sys_cells w5 0 0 (.slice none 0 0) 25
  rw [hv] at hrz6
  rw [hwz6] at hbz6 hrz6
  have z60 : wz6.cell? ⟨v, 0, none⟩ = some (.int .i64 0) := hrz6.cell (by decide)
  have z61 : wz6.cell? ⟨v, 1, none⟩ = some (.int .i64 0) := hrz6.cell (by decide)
  have z62 : wz6.cell? ⟨v, 2, none⟩ = some (.slice none 0 0) := hrz6.cell (by decide)
  have zf60 := hrz6.frozen 0
  have zf61 := hrz6.frozen 1
  have zf62 := hrz6.frozen 2
  obtain ⟨w6, hw6⟩ : ∃ w6, (((wz6.setCell ⟨v, 0, none⟩ (.int .i64 al')).setCell ⟨v, 1, none⟩ (.int .i64 st')).setCell ⟨v, 2, none⟩ (.slice a2 n2 c2)) = w6 := ⟨_, rfl⟩
  have hrs6 := rowIs_set3 hrz6 (.int .i64 al') (.int .i64 st') (.slice a2 n2 c2)
  have hbs6 : Below w5.heap.size w5 w6 := by rw [← hw6]; exact ((hbz6.setCell (p := ⟨v, 0, none⟩) (by simp; omega) _).setCell (p := ⟨v, 1, none⟩) (by simp; omega) _).setCell (p := ⟨v, 2, none⟩) (by simp; omega) _
  rw [hw6] at hrs6
  clear hbz6
  have B6 := Lib.hid (B5.out.trans (hbs6.mono B5.out.size))
  have X6 := Lib.hid (rowIs_below' X5.out hbs6)
  have E6 := Lib.hid (E5.out.below hbs6)
  have T6 := Lib.hid (T5.out.below hbs6)
  have V6 := Lib.hid hrs6
  have Y6 := Lib.hid (rowIs_below' Y5.out hbs6)
  have Q6 := Lib.hid (Q5.out.below hbs6)
  have S6 := Lib.hid (S5.out.below hbs6)
  clear hbs6 hrs6
  have y0 : w6.cell? ⟨y, 0, none⟩ = some (.int .i64 al') := Y6.out.cell (by decide)
  have y1 : w6.cell? ⟨y, 1, none⟩ = some (.int .i64 st') := Y6.out.cell (by decide)
  have y2 : w6.cell? ⟨y, 2, none⟩ = some (.slice a' n' c') := Y6.out.cell (by decide)
  have v0 : w6.cell? ⟨v, 0, none⟩ = some (.int .i64 al') := V6.out.cell (by decide)
  have v1 : w6.cell? ⟨v, 1, none⟩ = some (.int .i64 st') := V6.out.cell (by decide)
  have v2 : w6.cell? ⟨v, 2, none⟩ = some (.slice a2 n2 c2) := V6.out.cell (by decide)
  go_wp2_with fail
  refine (agSys_same al' st' a' n' c' a2 n2 c2 es' w6 Q6.out S6.out).mono ?_
  rintro e w7 ⟨rfl, hb7⟩
  have B7 := Lib.hid (B6.out.trans (hb7.mono B6.out.size))
  have X7 := Lib.hid (rowIs_below' X6.out hb7)
  have E7 := Lib.hid (E6.out.below hb7)
  have T7 := Lib.hid (T6.out.below hb7)
  have Y7 := Lib.hid (rowIs_below' Y6.out hb7)
  have V7 := Lib.hid (rowIs_below' V6.out hb7)
  have Q7 := Lib.hid (Q6.out.below hb7)
  have S7 := Lib.hid (S6.out.below hb7)
  clear hb7 y0 y1 y2 v0 v1 v2 z60 z61 z62 zf60 zf61 zf62 hw6 hwz6
  have hbb : (b != b) = false := by cases b <;> rfl
  have hbe : (b == b) = true := by cases b <;> rfl
  cases b with
  | false =>
    have y0 : w7.cell? ⟨y, 0, none⟩ = some (.int .i64 al') := Y7.out.cell (by decide)
    have y1 : w7.cell? ⟨y, 1, none⟩ = some (.int .i64 st') := Y7.out.cell (by decide)
    have y2 : w7.cell? ⟨y, 2, none⟩ = some (.slice a' n' c') := Y7.out.cell (by decide)
    have v0 : w7.cell? ⟨v, 0, none⟩ = some (.int .i64 al') := V7.out.cell (by decide)
    have v1 : w7.cell? ⟨v, 1, none⟩ = some (.int .i64 st') := V7.out.cell (by decide)
    have v2 : w7.cell? ⟨v, 2, none⟩ = some (.slice a2 n2 c2) := V7.out.cell (by decide)
    go_wp2_with fail
    refine (agSys_same al' st' a' n' c' a2 n2 c2 es' w7 Q7.out S7.out).mono ?_
    rintro e w8 ⟨rfl, hb8⟩
    have B8 := Lib.hid (B7.out.trans (hb8.mono B7.out.size))
    have X8 := Lib.hid (rowIs_below' X7.out hb8)
    have E8 := Lib.hid (E7.out.below hb8)
    have T8 := Lib.hid (T7.out.below hb8)
    go_wp2
    go_ret
    exact ⟨rfl, B8.out⟩
  | true =>
    obtain ⟨hv, r, hr, rfl, rfl, rfl⟩ := trimP_yes HTP.out
    have hok := sysV_ok hv
    have hak := aft_keep hv hr s.data.toList
    have hSl := aftN_lt al' st es s.data.toList
    have hin := fun j hj => aft_in (al := al') (st := st) hr s.data.toList j hj
    have hlet := let_keep hok hr.1 hr.2.2.1 hSl hin
    have hcnt := cnt16_im hr.1 hSl hin
    have hne := imN_ne (r := r) hSl
    have himl := imN_lt r (aftN al' st es s.data.toList) hr.1
    obtain ⟨tr, htr⟩ : ∃ tr, decide (aftN al' st es s.data.toList ≠ 0) = tr := ⟨_, rfl⟩
    have htr2 : decide (aftN al' ((cnt 16 r : Nat) : Int) (keepE es r) s.data.toList ≠ 0) = tr := by
      rw [hak, ← htr]
      by_cases h0 : aftN al' st es s.data.toList = 0
      · rw [h0, imN_zero]
      · have := hne h0
        simp [h0, this]
    have h1 := fun w t h => trI (a1 := a') (n1 := n') (c1 := c') (al := al') (es := keepE es r) hsz htr2 w t h
    have h2 := fun w t h => trI (a1 := ad) (n1 := n) (c1 := c) (al := al') (es := es) hsz htr w t h
    have h3 := implLetters_any al' ((cnt 16 r : Nat) : Int) a' n' c' (keepE es r) s hsz
    have h4 := implLetters_any al' st ad n c es s hsz
    have h5 := implStates_any al' ((cnt 16 r : Nat) : Int) a' n' c' (keepE es r) s hsz
    have h6 := implStates_any al' st ad n c es s hsz
    rw [hak, hlet] at h3
    rw [hak] at h5
    obtain ⟨L, hL⟩ : ∃ L, letN es (aftN al' st es s.data.toList) = L := ⟨_, rfl⟩
    rw [hL] at h3 h4
    obtain ⟨I, hI⟩ : ∃ I, imN r (aftN al' st es s.data.toList) = I := ⟨_, rfl⟩
    obtain ⟨A, hA⟩ : ∃ A, aftN al' st es s.data.toList = A := ⟨_, rfl⟩
    rw [hI] at h5 himl
    rw [hA] at h6 hSl
    have h7 := agCount_any I himl
    have h8 := agCount_any A hSl
    rw [← hI, hcnt, hA] at h7
    rw [hA] at hI
    rw [hI] at h7
    obtain ⟨C, hC⟩ : ∃ C, cnt 16 A = C := ⟨_, rfl⟩
    rw [hC] at h7 h8
    have htt : (tr == tr) = true := by cases tr <;> rfl
    have hLL : ((L : Int) == (L : Int)) = true := by simp
    have hCC : ((C : Int) == (C : Int)) = true := by simp
    obtain ⟨stx, hstx⟩ : ∃ stx : Int, ((cnt 16 r : Nat) : Int) = stx := ⟨_, rfl⟩
    rw [hstx] at h1 h3 h5 Y7 V7
    have H1 := Lib.hid h1
    have H2 := Lib.hid h2
    have H3 := Lib.hid h3
    have H4 := Lib.hid h4
    have H5 := Lib.hid h5
    have H6 := Lib.hid h6
    have H7 := Lib.hid h7
    have H8 := Lib.hid h8
    clear h1 h2 h3 h4 h5 h6 h7 h8 hv hr hok hak hin hlet hcnt hne himl hSl htr htr2 hL hI hA hC HTP hbe
    have HSX := Lib.hid (fun (w' : World) (hb : Below w7.heap.size w7 w') => (show (w'.cell? ⟨y, 0, none⟩ = some (.int .i64 al') ∧ w'.cell? ⟨y, 1, none⟩ = some (.int .i64 stx) ∧ w'.cell? ⟨y, 2, none⟩ = some (.slice a' n' c')) ∧ (w'.cell? ⟨x0, 0, none⟩ = some (.int .i64 al') ∧ w'.cell? ⟨x0, 1, none⟩ = some (.int .i64 st) ∧ w'.cell? ⟨x0, 2, none⟩ = some (.slice ad n c)) from ⟨⟨(rowIs_below' Y7.out hb).cell (by decide), (rowIs_below' Y7.out hb).cell (by decide), (rowIs_below' Y7.out hb).cell (by decide)⟩, (rowIs_below' X7.out hb).cell (by decide), (rowIs_below' X7.out hb).cell (by decide), (rowIs_below' X7.out hb).cell (by decide)⟩))
    have W7 := Lib.hid (show Below w7.heap.size w7 w7.drew from (Below.refl _ _).drew)
    go_wp2_with fail
    refine wp_region_held_drew (S := fun w' => (w'.cell? ⟨y, 0, none⟩ = some (.int .i64 al') ∧ w'.cell? ⟨y, 1, none⟩ = some (.int .i64 stx) ∧ w'.cell? ⟨y, 2, none⟩ = some (.slice a' n' c')) ∧ (w'.cell? ⟨x0, 0, none⟩ = some (.int .i64 al') ∧ w'.cell? ⟨x0, 1, none⟩ = some (.int .i64 st) ∧ w'.cell? ⟨x0, 2, none⟩ = some (.slice ad n c))) (by kernel_rfl) (HSX.out _ W7.out) (fun hHeld => ?_)
    first | (refine wpAnyH_take (i := 0) (get_of_drop' rfl) (by kernel_rfl) (by kernel_rfl) (by kernel_rfl) (fun _ _ _ h => h) (Or.inr ⟨?_, rfl⟩) hHeld ?_; (focus (simp [Region.wanted, yielded, undef]; done)); (try simp only [Act.put, List.setIfInBounds_toArray, List.set_cons_zero, List.set_cons_succ])) | (refine wpAnyH_take (i := 0) (v := ?_) (get_of_drop' rfl) (by kernel_rfl) (by kernel_rfl) (by kernel_rfl) (fun _ _ _ h => h) (Or.inl ⟨?_, ?_⟩) hHeld ?_; rotate_left; (focus rfl); (focus (intro w hSw; (try dsimp only at hSw); go_simp; (try (with_reducible rfl)))); (try simp only [Act.put, List.setIfInBounds_toArray, List.set_cons_zero, List.set_cons_succ]))
    first | (refine wpAnyH_take (i := 1) (get_of_drop' rfl) (by kernel_rfl) (by kernel_rfl) (by kernel_rfl) (fun _ _ _ h => h) (Or.inr ⟨?_, rfl⟩) hHeld ?_; (focus (simp [Region.wanted, yielded, undef]; done)); (try simp only [Act.put, List.setIfInBounds_toArray, List.set_cons_zero, List.set_cons_succ])) | (refine wpAnyH_take (i := 1) (v := ?_) (get_of_drop' rfl) (by kernel_rfl) (by kernel_rfl) (by kernel_rfl) (fun _ _ _ h => h) (Or.inl ⟨?_, ?_⟩) hHeld ?_; rotate_left; (focus rfl); (focus (intro w hSw; (try dsimp only at hSw); go_simp; (try (with_reducible rfl)))); (try simp only [Act.put, List.setIfInBounds_toArray, List.set_cons_zero, List.set_cons_succ]))
    first | (refine wpAnyH_take (i := 3) (get_of_drop' rfl) (by kernel_rfl) (by kernel_rfl) (by kernel_rfl) (fun _ _ _ h => h) (Or.inr ⟨?_, rfl⟩) hHeld ?_; (focus (simp [Region.wanted, yielded, undef]; done)); (try simp only [Act.put, List.setIfInBounds_toArray, List.set_cons_zero, List.set_cons_succ])) | (refine wpAnyH_take (i := 3) (v := ?_) (get_of_drop' rfl) (by kernel_rfl) (by kernel_rfl) (by kernel_rfl) (fun _ _ _ h => h) (Or.inl ⟨?_, ?_⟩) hHeld ?_; rotate_left; (focus rfl); (focus (intro w hSw; (try dsimp only at hSw); go_simp; (try (with_reducible rfl)))); (try simp only [Act.put, List.setIfInBounds_toArray, List.set_cons_zero, List.set_cons_succ]))
    first | (refine wpAnyH_take (i := 4) (get_of_drop' rfl) (by kernel_rfl) (by kernel_rfl) (by kernel_rfl) (fun _ _ _ h => h) (Or.inr ⟨?_, rfl⟩) hHeld ?_; (focus (simp [Region.wanted, yielded, undef]; done)); (try simp only [Act.put, List.setIfInBounds_toArray, List.set_cons_zero, List.set_cons_succ])) | (refine wpAnyH_take (i := 4) (v := ?_) (get_of_drop' rfl) (by kernel_rfl) (by kernel_rfl) (by kernel_rfl) (fun _ _ _ h => h) (Or.inl ⟨?_, ?_⟩) hHeld ?_; rotate_left; (focus rfl); (focus (intro w hSw; (try dsimp only at hSw); go_simp; (try (with_reducible rfl)))); (try simp only [Act.put, List.setIfInBounds_toArray, List.set_cons_zero, List.set_cons_succ]))
    refine wpAnyH_ready (rs := [2]) (by kernel_rfl) (by simp) ?_
    refine AllReadyH.cons (get_of_drop' rfl) (fun K hK => ?_) AllReadyH.nil
    go_simp
    go_at_call 14
    refine (H1.out _ (T7.out.below W7.out) (Q7.out.below W7.out)).mono ?_
    rintro e w8 ⟨rfl, hbj⟩
    have W8 := Lib.hid (W7.out.trans (hbj.mono W7.out.size))
    clear hbj
    go_wp2_with fail
    refine hK.out _ _ (HSX.out w8 W8.out) (fun hHeld => ?_)
    clear hK K
    try simp only [Act.put, List.setIfInBounds_toArray, List.set_cons_zero, List.set_cons_succ]
    refine wpAnyH_ready (rs := [5]) (by kernel_rfl) (by simp) ?_
    refine AllReadyH.cons (get_of_drop' rfl) (fun K hK => ?_) AllReadyH.nil
    go_simp
    go_at_call 14
    refine (H2.out _ (T7.out.below W8.out) (E7.out.below W8.out)).mono ?_
    rintro e w9 ⟨rfl, hbj⟩
    have W9 := Lib.hid (W8.out.trans (hbj.mono W8.out.size))
    clear hbj
    go_wp2_with fail
    refine hK.out _ _ (HSX.out w9 W9.out) (fun hHeld => ?_)
    clear hK K
    try simp only [Act.put, List.setIfInBounds_toArray, List.set_cons_zero, List.set_cons_succ]
    first | (refine wpAnyH_take (i := 6) (get_of_drop' rfl) (by kernel_rfl) (by kernel_rfl) (by kernel_rfl) (fun _ _ _ h => h) (Or.inr ⟨?_, rfl⟩) hHeld ?_; (focus (simp [Region.wanted, yielded, undef]; done)); (try simp only [Act.put, List.setIfInBounds_toArray, List.set_cons_zero, List.set_cons_succ])) | (refine wpAnyH_take (i := 6) (v := ?_) (get_of_drop' rfl) (by kernel_rfl) (by kernel_rfl) (by kernel_rfl) (fun _ _ _ h => h) (Or.inl ⟨?_, ?_⟩) hHeld ?_; rotate_left; (focus rfl); (focus (intro w hSw; (try dsimp only at hSw); go_simp; (try (with_reducible rfl)))); (try simp only [Act.put, List.setIfInBounds_toArray, List.set_cons_zero, List.set_cons_succ]))
    first | (refine wpAnyH_take (i := 7) (get_of_drop' rfl) (by kernel_rfl) (by kernel_rfl) (by kernel_rfl) (fun _ _ _ h => h) (Or.inr ⟨?_, rfl⟩) hHeld ?_; (focus (simp [Region.wanted, yielded, undef]; done)); (try simp only [Act.put, List.setIfInBounds_toArray, List.set_cons_zero, List.set_cons_succ])) | (refine wpAnyH_take (i := 7) (v := ?_) (get_of_drop' rfl) (by kernel_rfl) (by kernel_rfl) (by kernel_rfl) (fun _ _ _ h => h) (Or.inl ⟨?_, ?_⟩) hHeld ?_; rotate_left; (focus rfl); (focus (intro w hSw; (try dsimp only at hSw); go_simp; (try (with_reducible rfl)))); (try simp only [Act.put, List.setIfInBounds_toArray, List.set_cons_zero, List.set_cons_succ]))
    first | (refine wpAnyH_take (i := 8) (get_of_drop' rfl) (by kernel_rfl) (by kernel_rfl) (by kernel_rfl) (fun _ _ _ h => h) (Or.inr ⟨?_, rfl⟩) hHeld ?_; (focus (simp [Region.wanted, yielded, undef]; done)); (try simp only [Act.put, List.setIfInBounds_toArray, List.set_cons_zero, List.set_cons_succ])) | (refine wpAnyH_take (i := 8) (v := ?_) (get_of_drop' rfl) (by kernel_rfl) (by kernel_rfl) (by kernel_rfl) (fun _ _ _ h => h) (Or.inl ⟨?_, ?_⟩) hHeld ?_; rotate_left; (focus rfl); (focus (intro w hSw; (try dsimp only at hSw); go_simp; (try (with_reducible rfl)))); (try simp only [Act.put, List.setIfInBounds_toArray, List.set_cons_zero, List.set_cons_succ]))
    first | (refine wpAnyH_take (i := 9) (get_of_drop' rfl) (by kernel_rfl) (by kernel_rfl) (by kernel_rfl) (fun _ _ _ h => h) (Or.inr ⟨?_, rfl⟩) hHeld ?_; (focus (simp [Region.wanted, yielded, undef]; done)); (try simp only [Act.put, List.setIfInBounds_toArray, List.set_cons_zero, List.set_cons_succ])) | (refine wpAnyH_take (i := 9) (v := ?_) (get_of_drop' rfl) (by kernel_rfl) (by kernel_rfl) (by kernel_rfl) (fun _ _ _ h => h) (Or.inl ⟨?_, ?_⟩) hHeld ?_; rotate_left; (focus rfl); (focus (intro w hSw; (try dsimp only at hSw); go_simp; (try (with_reducible rfl)))); (try simp only [Act.put, List.setIfInBounds_toArray, List.set_cons_zero, List.set_cons_succ]))
    first | (refine wpAnyH_take (i := 11) (get_of_drop' rfl) (by kernel_rfl) (by kernel_rfl) (by kernel_rfl) (fun _ _ _ h => h) (Or.inr ⟨?_, rfl⟩) hHeld ?_; (focus (simp [Region.wanted, yielded, undef]; done)); (try simp only [Act.put, List.setIfInBounds_toArray, List.set_cons_zero, List.set_cons_succ])) | (refine wpAnyH_take (i := 11) (v := ?_) (get_of_drop' rfl) (by kernel_rfl) (by kernel_rfl) (by kernel_rfl) (fun _ _ _ h => h) (Or.inl ⟨?_, ?_⟩) hHeld ?_; rotate_left; (focus rfl); (focus (intro w hSw; (try dsimp only at hSw); go_simp; (try (with_reducible rfl)))); (try simp only [Act.put, List.setIfInBounds_toArray, List.set_cons_zero, List.set_cons_succ]))
    first | (refine wpAnyH_take (i := 12) (get_of_drop' rfl) (by kernel_rfl) (by kernel_rfl) (by kernel_rfl) (fun _ _ _ h => h) (Or.inr ⟨?_, rfl⟩) hHeld ?_; (focus (simp [Region.wanted, yielded, undef]; done)); (try simp only [Act.put, List.setIfInBounds_toArray, List.set_cons_zero, List.set_cons_succ])) | (refine wpAnyH_take (i := 12) (v := ?_) (get_of_drop' rfl) (by kernel_rfl) (by kernel_rfl) (by kernel_rfl) (fun _ _ _ h => h) (Or.inl ⟨?_, ?_⟩) hHeld ?_; rotate_left; (focus rfl); (focus (intro w hSw; (try dsimp only at hSw); go_simp; (try (with_reducible rfl)))); (try simp only [Act.put, List.setIfInBounds_toArray, List.set_cons_zero, List.set_cons_succ]))
    refine wpAnyH_ready (rs := [10]) (by kernel_rfl) (by simp) ?_
    refine AllReadyH.cons (get_of_drop' rfl) (fun K hK => ?_) AllReadyH.nil
    go_simp
    go_at_call 15
    refine (H3.out _ (T7.out.below W9.out) (Q7.out.below W9.out)).mono ?_
    rintro e w10 ⟨rfl, hbj⟩
    have W10 := Lib.hid (W9.out.trans (hbj.mono W9.out.size))
    clear hbj
    go_wp2_with fail
    refine hK.out _ _ (HSX.out w10 W10.out) (fun hHeld => ?_)
    clear hK K
    try simp only [Act.put, List.setIfInBounds_toArray, List.set_cons_zero, List.set_cons_succ]
    refine wpAnyH_ready (rs := [13]) (by kernel_rfl) (by simp) ?_
    refine AllReadyH.cons (get_of_drop' rfl) (fun K hK => ?_) AllReadyH.nil
    go_simp
    go_at_call 15
    refine (H4.out _ (T7.out.below W10.out) (E7.out.below W10.out)).mono ?_
    rintro e w11 ⟨rfl, hbj⟩
    have W11 := Lib.hid (W10.out.trans (hbj.mono W10.out.size))
    clear hbj
    go_wp2_with fail
    refine hK.out _ _ (HSX.out w11 W11.out) (fun hHeld => ?_)
    clear hK K
    try simp only [Act.put, List.setIfInBounds_toArray, List.set_cons_zero, List.set_cons_succ]
    first | (refine wpAnyH_take (i := 14) (get_of_drop' rfl) (by kernel_rfl) (by kernel_rfl) (by kernel_rfl) (fun _ _ _ h => h) (Or.inr ⟨?_, rfl⟩) hHeld ?_; (focus (simp [Region.wanted, yielded, undef]; done)); (try simp only [Act.put, List.setIfInBounds_toArray, List.set_cons_zero, List.set_cons_succ])) | (refine wpAnyH_take (i := 14) (v := ?_) (get_of_drop' rfl) (by kernel_rfl) (by kernel_rfl) (by kernel_rfl) (fun _ _ _ h => h) (Or.inl ⟨?_, ?_⟩) hHeld ?_; rotate_left; (focus rfl); (focus (intro w hSw; (try dsimp only at hSw); go_simp; (try (with_reducible rfl)))); (try simp only [Act.put, List.setIfInBounds_toArray, List.set_cons_zero, List.set_cons_succ]))
    first | (refine wpAnyH_take (i := 15) (get_of_drop' rfl) (by kernel_rfl) (by kernel_rfl) (by kernel_rfl) (fun _ _ _ h => h) (Or.inr ⟨?_, rfl⟩) hHeld ?_; (focus (simp [Region.wanted, yielded, undef]; done)); (try simp only [Act.put, List.setIfInBounds_toArray, List.set_cons_zero, List.set_cons_succ])) | (refine wpAnyH_take (i := 15) (v := ?_) (get_of_drop' rfl) (by kernel_rfl) (by kernel_rfl) (by kernel_rfl) (fun _ _ _ h => h) (Or.inl ⟨?_, ?_⟩) hHeld ?_; rotate_left; (focus rfl); (focus (intro w hSw; (try dsimp only at hSw); go_simp; (try (with_reducible rfl)))); (try simp only [Act.put, List.setIfInBounds_toArray, List.set_cons_zero, List.set_cons_succ]))
    first | (refine wpAnyH_take (i := 16) (get_of_drop' rfl) (by kernel_rfl) (by kernel_rfl) (by kernel_rfl) (fun _ _ _ h => h) (Or.inr ⟨?_, rfl⟩) hHeld ?_; (focus (simp [Region.wanted, yielded, undef]; done)); (try simp only [Act.put, List.setIfInBounds_toArray, List.set_cons_zero, List.set_cons_succ])) | (refine wpAnyH_take (i := 16) (v := ?_) (get_of_drop' rfl) (by kernel_rfl) (by kernel_rfl) (by kernel_rfl) (fun _ _ _ h => h) (Or.inl ⟨?_, ?_⟩) hHeld ?_; rotate_left; (focus rfl); (focus (intro w hSw; (try dsimp only at hSw); go_simp; (try (with_reducible rfl)))); (try simp only [Act.put, List.setIfInBounds_toArray, List.set_cons_zero, List.set_cons_succ]))
    first | (refine wpAnyH_take (i := 17) (get_of_drop' rfl) (by kernel_rfl) (by kernel_rfl) (by kernel_rfl) (fun _ _ _ h => h) (Or.inr ⟨?_, rfl⟩) hHeld ?_; (focus (simp [Region.wanted, yielded, undef]; done)); (try simp only [Act.put, List.setIfInBounds_toArray, List.set_cons_zero, List.set_cons_succ])) | (refine wpAnyH_take (i := 17) (v := ?_) (get_of_drop' rfl) (by kernel_rfl) (by kernel_rfl) (by kernel_rfl) (fun _ _ _ h => h) (Or.inl ⟨?_, ?_⟩) hHeld ?_; rotate_left; (focus rfl); (focus (intro w hSw; (try dsimp only at hSw); go_simp; (try (with_reducible rfl)))); (try simp only [Act.put, List.setIfInBounds_toArray, List.set_cons_zero, List.set_cons_succ]))
    first | (refine wpAnyH_take (i := 18) (get_of_drop' rfl) (by kernel_rfl) (by kernel_rfl) (by kernel_rfl) (fun _ _ _ h => h) (Or.inr ⟨?_, rfl⟩) hHeld ?_; (focus (simp [Region.wanted, yielded, undef]; done)); (try simp only [Act.put, List.setIfInBounds_toArray, List.set_cons_zero, List.set_cons_succ])) | (refine wpAnyH_take (i := 18) (v := ?_) (get_of_drop' rfl) (by kernel_rfl) (by kernel_rfl) (by kernel_rfl) (fun _ _ _ h => h) (Or.inl ⟨?_, ?_⟩) hHeld ?_; rotate_left; (focus rfl); (focus (intro w hSw; (try dsimp only at hSw); go_simp; (try (with_reducible rfl)))); (try simp only [Act.put, List.setIfInBounds_toArray, List.set_cons_zero, List.set_cons_succ]))
    first | (refine wpAnyH_take (i := 21) (get_of_drop' rfl) (by kernel_rfl) (by kernel_rfl) (by kernel_rfl) (fun _ _ _ h => h) (Or.inr ⟨?_, rfl⟩) hHeld ?_; (focus (simp [Region.wanted, yielded, undef]; done)); (try simp only [Act.put, List.setIfInBounds_toArray, List.set_cons_zero, List.set_cons_succ])) | (refine wpAnyH_take (i := 21) (v := ?_) (get_of_drop' rfl) (by kernel_rfl) (by kernel_rfl) (by kernel_rfl) (fun _ _ _ h => h) (Or.inl ⟨?_, ?_⟩) hHeld ?_; rotate_left; (focus rfl); (focus (intro w hSw; (try dsimp only at hSw); go_simp; (try (with_reducible rfl)))); (try simp only [Act.put, List.setIfInBounds_toArray, List.set_cons_zero, List.set_cons_succ]))
    first | (refine wpAnyH_take (i := 22) (get_of_drop' rfl) (by kernel_rfl) (by kernel_rfl) (by kernel_rfl) (fun _ _ _ h => h) (Or.inr ⟨?_, rfl⟩) hHeld ?_; (focus (simp [Region.wanted, yielded, undef]; done)); (try simp only [Act.put, List.setIfInBounds_toArray, List.set_cons_zero, List.set_cons_succ])) | (refine wpAnyH_take (i := 22) (v := ?_) (get_of_drop' rfl) (by kernel_rfl) (by kernel_rfl) (by kernel_rfl) (fun _ _ _ h => h) (Or.inl ⟨?_, ?_⟩) hHeld ?_; rotate_left; (focus rfl); (focus (intro w hSw; (try dsimp only at hSw); go_simp; (try (with_reducible rfl)))); (try simp only [Act.put, List.setIfInBounds_toArray, List.set_cons_zero, List.set_cons_succ]))
    refine wpAnyH_ready (rs := [19]) (by kernel_rfl) (by simp) ?_
    refine AllReadyH.cons (get_of_drop' rfl) (fun K hK => ?_) AllReadyH.nil
    go_simp
    go_at_call 17
    refine (H5.out _ (T7.out.below W11.out) (Q7.out.below W11.out)).mono ?_
    rintro e w12 ⟨rfl, hbj⟩
    have W12 := Lib.hid (W11.out.trans (hbj.mono W11.out.size))
    clear hbj
    go_wp2_with fail
    refine hK.out _ _ (HSX.out w12 W12.out) (fun hHeld => ?_)
    clear hK K
    try simp only [Act.put, List.setIfInBounds_toArray, List.set_cons_zero, List.set_cons_succ]
    refine wpAnyH_ready (rs := [20]) (by kernel_rfl) (by simp) ?_
    refine AllReadyH.cons (get_of_drop' rfl) (fun K hK => ?_) AllReadyH.nil
    go_simp
    go_at_call 16
    refine (H7.out _).mono ?_
    rintro e wz ⟨rfl, rfl⟩
    go_wp2_with fail
    refine hK.out _ _ (HSX.out _ W12.out) (fun hHeld => ?_)
    clear hK K
    try simp only [Act.put, List.setIfInBounds_toArray, List.set_cons_zero, List.set_cons_succ]
    refine wpAnyH_ready (rs := [23]) (by kernel_rfl) (by simp) ?_
    refine AllReadyH.cons (get_of_drop' rfl) (fun K hK => ?_) AllReadyH.nil
    go_simp
    go_at_call 17
    refine (H6.out _ (T7.out.below W12.out) (E7.out.below W12.out)).mono ?_
    rintro e w13 ⟨rfl, hbj⟩
    have W13 := Lib.hid (W12.out.trans (hbj.mono W12.out.size))
    clear hbj
    go_wp2_with fail
    refine hK.out _ _ (HSX.out w13 W13.out) (fun hHeld => ?_)
    clear hK K
    try simp only [Act.put, List.setIfInBounds_toArray, List.set_cons_zero, List.set_cons_succ]
    refine wpAnyH_ready (rs := [24]) (by kernel_rfl) (by simp) ?_
    refine AllReadyH.cons (get_of_drop' rfl) (fun K hK => ?_) AllReadyH.nil
    go_simp
    go_at_call 16
    refine (H8.out _).mono ?_
    rintro e wz ⟨rfl, rfl⟩
    go_wp2_with fail
    refine hK.out _ _ (HSX.out _ W13.out) (fun hHeld => ?_)
    clear hK K
    try simp only [Act.put, List.setIfInBounds_toArray, List.set_cons_zero, List.set_cons_succ]
    first | (refine wpAnyH_take (i := 25) (get_of_drop' rfl) (by kernel_rfl) (by kernel_rfl) (by kernel_rfl) (fun _ _ _ h => h) (Or.inr ⟨?_, rfl⟩) hHeld ?_; (focus (simp [Region.wanted, yielded, undef]; done)); (try simp only [Act.put, List.setIfInBounds_toArray, List.set_cons_zero, List.set_cons_succ])) | (refine wpAnyH_take (i := 25) (v := ?_) (get_of_drop' rfl) (by kernel_rfl) (by kernel_rfl) (by kernel_rfl) (fun _ _ _ h => h) (Or.inl ⟨?_, ?_⟩) hHeld ?_; rotate_left; (focus rfl); (focus (intro w hSw; (try dsimp only at hSw); go_simp; (try (with_reducible rfl)))); (try simp only [Act.put, List.setIfInBounds_toArray, List.set_cons_zero, List.set_cons_succ]))
    first | (refine wpAnyH_take (i := 26) (get_of_drop' rfl) (by kernel_rfl) (by kernel_rfl) (by kernel_rfl) (fun _ _ _ h => h) (Or.inr ⟨?_, rfl⟩) hHeld ?_; (focus (simp [Region.wanted, yielded, undef]; done)); (try simp only [Act.put, List.setIfInBounds_toArray, List.set_cons_zero, List.set_cons_succ])) | (refine wpAnyH_take (i := 26) (v := ?_) (get_of_drop' rfl) (by kernel_rfl) (by kernel_rfl) (by kernel_rfl) (fun _ _ _ h => h) (Or.inl ⟨?_, ?_⟩) hHeld ?_; rotate_left; (focus rfl); (focus (intro w hSw; (try dsimp only at hSw); go_simp; (try (with_reducible rfl)))); (try simp only [Act.put, List.setIfInBounds_toArray, List.set_cons_zero, List.set_cons_succ]))
    first | (refine wpAnyH_take (i := 27) (get_of_drop' rfl) (by kernel_rfl) (by kernel_rfl) (by kernel_rfl) (fun _ _ _ h => h) (Or.inr ⟨?_, rfl⟩) hHeld ?_; (focus (simp [Region.wanted, yielded, undef]; done)); (try simp only [Act.put, List.setIfInBounds_toArray, List.set_cons_zero, List.set_cons_succ])) | (refine wpAnyH_take (i := 27) (v := ?_) (get_of_drop' rfl) (by kernel_rfl) (by kernel_rfl) (by kernel_rfl) (fun _ _ _ h => h) (Or.inl ⟨?_, ?_⟩) hHeld ?_; rotate_left; (focus rfl); (focus (intro w hSw; (try dsimp only at hSw); go_simp; (try (with_reducible rfl)))); (try simp only [Act.put, List.setIfInBounds_toArray, List.set_cons_zero, List.set_cons_succ]))
    refine wpAnyH_done (by kernel_rfl) ?_ _
    go_wp2
    go_ret
    exact ⟨ret_bool (by simp), B7.out.trans (W13.out.mono B7.out.size)⟩
end Go.Proofs.YtknhgfmjchfnjaaDoor
