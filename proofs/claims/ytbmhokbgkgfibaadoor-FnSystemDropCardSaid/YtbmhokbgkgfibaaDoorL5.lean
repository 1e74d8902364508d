/- The walks of the laws SystemWide and SystemDrop. -/
import Derived.Test.YtbmhokbgkgfibaaDoorL2


namespace Go.Proofs.YtbmhokbgkgfibaaDoor
open Go.RowKit
set_option linter.unusedVariables false
set_option linter.unusedSimpArgs false
set_option maxRecDepth 100000

theorem EVR.take {R : Nat} {w : World} {ad : Option Addr} {n c : Nat} {es : List Edg} (h : EVR R w (.slice ad n c) es) (k : Nat) (hk : k ≤ n) : EVR R w (.slice ad k c) (es.take k) := by
  obtain ⟨ao, cap, h1, h2, h3, h4⟩ := h
  injection h1 with e1 e2 e3
  subst e1; subst e3
  have hl : (es.take k).length = k := by rw [List.length_take]; omega
  refine ⟨ad, c, by rw [hl], by omega, h3, ?_⟩
  rcases h4 with h4 | ⟨b, off, h5, h6, h7, h8⟩
  · left; omega
  · refine .inr ⟨b, off, h5, h6, h7, fun i hi => ?_⟩
    rw [hl] at hi
    have he : Edg.at (es.take k) i = Edg.at es i := by unfold Edg.at; rw [List.getElem?_take, if_pos hi]
    rw [he]
    exact h8 i (by omega)
theorem mkX {S : Nat} {al st : Int} {wL w6 : World} {v : Value} {es : List Edg} {f : Nat → Value} (h0 : 0 < wL.heap.size) (hb : Below wL.heap.size wL w6) (hs : w6.rowIs S 25 3 f) (hS : wL.heap.size ≤ S) (ho : EOwn wL.heap.size w6 v es) :
    Below wL.heap.size wL (((w6.setCell ⟨S, 0, none⟩ (.int .i64 al)).setCell ⟨S, 1, none⟩ (.int .i64 st)).setCell ⟨S, 2, none⟩ v) ∧ (((w6.setCell ⟨S, 0, none⟩ (.int .i64 al)).setCell ⟨S, 1, none⟩ (.int .i64 st)).setCell ⟨S, 2, none⟩ v).rowIs S 25 3 (fun i => #[.int .i64 al, .int .i64 st, v][i]?.getD undef) ∧ EV (((w6.setCell ⟨S, 0, none⟩ (.int .i64 al)).setCell ⟨S, 1, none⟩ (.int .i64 st)).setCell ⟨S, 2, none⟩ v) v es := by
  have hne := own_ne ho hs
  exact ⟨((hb.setCell (p := ⟨S, 0, none⟩) hS _).setCell (p := ⟨S, 1, none⟩) hS _).setCell (p := ⟨S, 2, none⟩) hS _, rowIs_set3 hs _ _ _, ((((ho.setNe hne).setNe hne).setNe hne).evr (R := 0) h0).ev⟩
set_option maxHeartbeats 8000000 in
theorem fnSystemWide_walk (a : Option Addr) (len cap : Nat) (zs : List Int) (w : World) (hT : Tab w) (hrow : IsRow w a len cap zs) : Calls Tryd.prog 4 #[.slice a len cap] w fun e w' => e = .returned (.bool true) ∧ Below w.heap.size w w' := by
  by_cases hl : 1048576 < len
  · have hl' : (1048576 : Int) < (len : Int) := by omega
    go_enter Tryd.func4, Tryd.ntmps4
    go_wp2
    go_ret
    exact ⟨rfl, Below.refl _ _⟩
  have hl' : (len : Int) ≤ 1048576 := by omega
  clear hl
  go_enter Tryd.func4, Tryd.ntmps4
  go_wp2_with fail
  refine (drawStates_any a len cap zs w hrow).mono ?_
  rintro e w1 ⟨al, st, ad, n, c, es, s, rfl, hs, hev, hes, hb1⟩
  have hv0 := hev 0 (Nat.zero_le _)
  have hev1 := hv0.ev
  have hsz : s.size ≤ 9223372036854775807 := by omega
  have hb0 := hb1
  clear hev hrow
  obtain ⟨x0, hx0⟩ : ∃ x0, w1.heap.size = x0 := ⟨_, rfl⟩
  obtain ⟨w2, hw2⟩ : ∃ w2, (w1.alloc (.cells #[.int .i64 al, .int .i64 st, .slice ad n c] 25)) = w2 := ⟨_, rfl⟩
  have hb2 := below_new' w1 25 #[.int .i64 al, .int .i64 st, .slice ad n c]
  have hx2 := sys_cells w1 al st (.slice ad n c) 25
  rw [hx0] at hx2
  rw [hw2] at hb2 hx2
  have B2 := Lib.hid (hb1.trans (hb2.mono hb1.size))
  have X2 := Lib.hid hx2
  have E2 := Lib.hid (hev1.below hb2)
  have T2 := Lib.hid ((hT.below hb1).below hb2)
  clear hb1 hb2 hx2 hev1 hT
  have c20 : w2.cell? ⟨x0, 0, none⟩ = some (.int .i64 al) := X2.out.cell (by decide)
  have c21 : w2.cell? ⟨x0, 1, none⟩ = some (.int .i64 st) := X2.out.cell (by decide)
  have c22 : w2.cell? ⟨x0, 2, none⟩ = some (.slice ad n c) := X2.out.cell (by decide)
  have V2 := Lib.hid (hv0.below (below_new' w1 25 #[.int .i64 al, .int .i64 st, .slice ad n c]))
  rw [hw2] at V2
  clear hv0 hb0
  obtain ⟨q, hq⟩ : ∃ q, aftN al st es s.data.toList = q := ⟨_, rfl⟩
  have hit := implStates_any al st ad n c es s hsz
  have hst := specStates_any al st ad n c es s hsz
  rw [hq] at hit hst
  have HIT := Lib.hid hit
  have HST := Lib.hid hst
  have HQ := Lib.hid hq; clear hq
  clear hit hst
  go_wp2_with fail
  refine (HIT.out w2 T2.out E2.out).mono ?_
  rintro e w3 ⟨rfl, hb3⟩
  have V3 := Lib.hid (V2.out.below hb3)
  have B3 := Lib.hid (B2.out.trans (hb3.mono B2.out.size))
  have X3 := Lib.hid (rowIs_below' X2.out hb3)
  have E3 := Lib.hid (E2.out.below hb3)
  have T3 := Lib.hid (T2.out.below hb3)
  clear c20 c21 c22 hb3
  have c30 : w3.cell? ⟨x0, 0, none⟩ = some (.int .i64 al) := X3.out.cell (by decide)
  have c31 : w3.cell? ⟨x0, 1, none⟩ = some (.int .i64 st) := X3.out.cell (by decide)
  have c32 : w3.cell? ⟨x0, 2, none⟩ = some (.slice ad n c) := X3.out.cell (by decide)
  go_wp2_with fail
  refine (HST.out w3 E3.out).mono ?_
  rintro e w4 ⟨rfl, hb4⟩
  have V4 := Lib.hid (V3.out.below hb4)
  have B4 := Lib.hid (B3.out.trans (hb4.mono B3.out.size))
  have X4 := Lib.hid (rowIs_below' X3.out hb4)
  have E4 := Lib.hid (E3.out.below hb4)
  have T4 := Lib.hid (T3.out.below hb4)
  clear c30 c31 c32 hb4
  have c40 : w4.cell? ⟨x0, 0, none⟩ = some (.int .i64 al) := X4.out.cell (by decide)
  have c41 : w4.cell? ⟨x0, 1, none⟩ = some (.int .i64 st) := X4.out.cell (by decide)
  have c42 : w4.cell? ⟨x0, 2, none⟩ = some (.slice ad n c) := X4.out.cell (by decide)
  cases hv : sysV al st es with
  | false =>
    have HV := Lib.hid hv; clear hv
    go_wp2_with fail
    refine (implSysValid_any al st ad n c es w4 E4.out).mono ?_
    rintro e w5 ⟨rfl, hb5⟩
    rw [HV.out]
    have B5 := Lib.hid (B4.out.trans (hb5.mono B4.out.size))
    have X5 := Lib.hid (rowIs_below' X4.out hb5)
    have E5 := Lib.hid (E4.out.below hb5)
    have T5 := Lib.hid (T4.out.below hb5)
    clear c40 c41 c42 hb5
    have c50 : w5.cell? ⟨x0, 0, none⟩ = some (.int .i64 al) := X5.out.cell (by decide)
    have c51 : w5.cell? ⟨x0, 1, none⟩ = some (.int .i64 st) := X5.out.cell (by decide)
    have c52 : w5.cell? ⟨x0, 2, none⟩ = some (.slice ad n c) := X5.out.cell (by decide)
    go_wp2_with fail
    refine (HST.out w5 E5.out).mono ?_
    rintro e w6 ⟨rfl, hb6⟩
    have B6 := Lib.hid (B5.out.trans (hb6.mono B5.out.size))
    have X6 := Lib.hid (rowIs_below' X5.out hb6)
    have E6 := Lib.hid (E5.out.below hb6)
    have T6 := Lib.hid (T5.out.below hb6)
    clear c50 c51 c52 hb6
    have c60 : w6.cell? ⟨x0, 0, none⟩ = some (.int .i64 al) := X6.out.cell (by decide)
    have c61 : w6.cell? ⟨x0, 1, none⟩ = some (.int .i64 st) := X6.out.cell (by decide)
    have c62 : w6.cell? ⟨x0, 2, none⟩ = some (.slice ad n c) := X6.out.cell (by decide)
    go_wp2
    go_ret
    exact ⟨rfl, B6.out⟩
  | true =>
    have hvw := sysV_wide hv
    have hwd := aft_wide al st es s.data.toList hv
    rw [HQ.out] at hwd
    have HVW := Lib.hid hvw; clear hvw
    have HWD := Lib.hid hwd; clear hwd
    have HV := Lib.hid hv; clear hv
    go_wp2_with fail
    refine (implSysValid_any al st ad n c es w4 E4.out).mono ?_
    rintro e w5 ⟨rfl, hb5⟩
    rw [HV.out]
    have HEV := Lib.hid (V4.out.below hb5)
    have B5 := Lib.hid (B4.out.trans (hb5.mono B4.out.size))
    have X5 := Lib.hid (rowIs_below' X4.out hb5)
    have E5 := Lib.hid (E4.out.below hb5)
    have T5 := Lib.hid (T4.out.below hb5)
    clear c40 c41 c42 hb5
    have c50 : w5.cell? ⟨x0, 0, none⟩ = some (.int .i64 al) := X5.out.cell (by decide)
    have c51 : w5.cell? ⟨x0, 1, none⟩ = some (.int .i64 st) := X5.out.cell (by decide)
    have c52 : w5.cell? ⟨x0, 2, none⟩ = some (.slice ad n c) := X5.out.cell (by decide)
    have HLEN := Lib.hid hes
    have hw50 : 0 < w5.heap.size := by have := World.rowIs.lt X5.out; omega
    obtain ⟨y5, hy5⟩ : ∃ y5, w5.heap.size = y5 := ⟨_, rfl⟩
    have HSW := Lib.hid (fun (w' : World) (hb : Below w5.heap.size w5 w') => (show Below w5.heap.size w5 w' ∧ w'.cell? ⟨x0, 0, none⟩ = some (.int .i64 al) ∧ w'.cell? ⟨x0, 1, none⟩ = some (.int .i64 st) ∧ w'.cell? ⟨x0, 2, none⟩ = some (.slice ad n c) from ⟨hb, keep_cell hb c50, keep_cell hb c51, keep_cell hb c52⟩))
    have HBE := Lib.hid (show Below w5.heap.size w5 (w5.alloc (.cells #[] 44)).drew from ((Below.refl w5.heap.size w5).alloc (Nat.le_refl _) _).drew)
    have HOE := Lib.hid (show EOwn w5.heap.size (w5.alloc (.cells #[] 44)).drew (.slice (some ⟨y5, 0, none⟩) 0 0) [] from hy5 ▸ EOwn.empty w5.heap.size w5 (Nat.le_refl _))
    go_wp2_with fail
    go_cut [6] from 33 to 40 (fun s6 wc => ∃ (S m cap : Nat) (a' : Option Addr), s6 = .pointer (some ⟨S, 0, none⟩) ∧ Below w5.heap.size w5 wc ∧ wc.rowIs S 25 3 (fun i => #[.int .i64 63, .int .i64 st, .slice a' m cap][i]?.getD undef) ∧ EV wc (.slice a' m cap) es ∧ m = es.length)
    case first =>
      refine wp_region_held_drew (S := fun w' => Below w5.heap.size w5 w' ∧ w'.cell? ⟨x0, 0, none⟩ = some (.int .i64 al) ∧ w'.cell? ⟨x0, 1, none⟩ = some (.int .i64 st) ∧ w'.cell? ⟨x0, 2, none⟩ = some (.slice ad n c)) (by kernel_rfl) ⟨(Below.refl _ _).drew, c50, c51, c52⟩ (fun hHeld => ?_)
      first | (refine wpAnyH_take (i := 0) (get_of_drop' rfl) (by kernel_rfl) (by kernel_rfl) (by kernel_rfl) (fun _ _ _ h => h) (Or.inr ⟨?_, rfl⟩) hHeld ?_; (focus (simp [Region.wanted, yielded, undef]; done)); (try simp only [Act.put, List.setIfInBounds_toArray, List.set_cons_zero, List.set_cons_succ])) | (refine wpAnyH_take (i := 0) (v := ?_) (get_of_drop' rfl) (by kernel_rfl) (by kernel_rfl) (by kernel_rfl) (fun _ _ _ h => h) (Or.inl ⟨?_, ?_⟩) hHeld ?_; rotate_left; (focus rfl); (focus (intro w hSw; (try dsimp only at hSw); go_simp; (try (with_reducible rfl)))); (try simp only [Act.put, List.setIfInBounds_toArray, List.set_cons_zero, List.set_cons_succ]))
      first | (refine wpAnyH_take (i := 1) (get_of_drop' rfl) (by kernel_rfl) (by kernel_rfl) (by kernel_rfl) (fun _ _ _ h => h) (Or.inr ⟨?_, rfl⟩) hHeld ?_; (focus (simp [Region.wanted, yielded, undef]; done)); (try simp only [Act.put, List.setIfInBounds_toArray, List.set_cons_zero, List.set_cons_succ])) | (refine wpAnyH_take (i := 1) (v := ?_) (get_of_drop' rfl) (by kernel_rfl) (by kernel_rfl) (by kernel_rfl) (fun _ _ _ h => h) (Or.inl ⟨?_, ?_⟩) hHeld ?_; rotate_left; (focus rfl); (focus (intro w hSw; (try dsimp only at hSw); go_simp; (try (with_reducible rfl)))); (try simp only [Act.put, List.setIfInBounds_toArray, List.set_cons_zero, List.set_cons_succ]))
      first | (refine wpAnyH_take (i := 3) (get_of_drop' rfl) (by kernel_rfl) (by kernel_rfl) (by kernel_rfl) (fun _ _ _ h => h) (Or.inr ⟨?_, rfl⟩) hHeld ?_; (focus (simp [Region.wanted, yielded, undef]; done)); (try simp only [Act.put, List.setIfInBounds_toArray, List.set_cons_zero, List.set_cons_succ])) | (refine wpAnyH_take (i := 3) (v := ?_) (get_of_drop' rfl) (by kernel_rfl) (by kernel_rfl) (by kernel_rfl) (fun _ _ _ h => h) (Or.inl ⟨?_, ?_⟩) hHeld ?_; rotate_left; (focus rfl); (focus (intro w hSw; (try dsimp only at hSw); go_simp; (try (with_reducible rfl)))); (try simp only [Act.put, List.setIfInBounds_toArray, List.set_cons_zero, List.set_cons_succ]))
      first | (refine wpAnyH_take (i := 4) (get_of_drop' rfl) (by kernel_rfl) (by kernel_rfl) (by kernel_rfl) (fun _ _ _ h => h) (Or.inr ⟨?_, rfl⟩) hHeld ?_; (focus (simp [Region.wanted, yielded, undef]; done)); (try simp only [Act.put, List.setIfInBounds_toArray, List.set_cons_zero, List.set_cons_succ])) | (refine wpAnyH_take (i := 4) (v := ?_) (get_of_drop' rfl) (by kernel_rfl) (by kernel_rfl) (by kernel_rfl) (fun _ _ _ h => h) (Or.inl ⟨?_, ?_⟩) hHeld ?_; rotate_left; (focus rfl); (focus (intro w hSw; (try dsimp only at hSw); go_simp; (try (with_reducible rfl)))); (try simp only [Act.put, List.setIfInBounds_toArray, List.set_cons_zero, List.set_cons_succ]))
      refine wpAnyH_ready (rs := [2, 7]) (by kernel_rfl) (by simp) ?_
      refine AllReadyH.cons (get_of_drop' rfl) (fun K hK => ?_) ?_
      · go_simp
        refine hK.out _ _ (HSW.out _ HBE.out) (fun hHeld => ?_)
        clear hK K
        try simp only [Act.put, List.setIfInBounds_toArray, List.set_cons_zero, List.set_cons_succ]
        refine wpAnyH_ready (rs := [5, 7]) (by kernel_rfl) (by simp) ?_
        refine AllReadyH.cons (get_of_drop' rfl) (fun K hK => ?_) ?_
        · rw [if_pos (by rfl)]
          refine wp_app_any _ (es) w5.heap.size 0 (y5) _ _ rfl rfl HOE.out ad n c rfl (EVR.below HEV.out HBE.out) (by have := HLEN.out; omega) (HBE.out).size ?_
          intro ao' n' cap' w9 hn' hown' hkept
          have HN := Lib.hid hn'; clear hn'
          have hb9 := hkept.1 w5 HBE.out
          refine hK.out _ _ (HSW.out _ hb9) (fun hHeld => ?_)
          clear hK K
          try simp only [Act.put, List.setIfInBounds_toArray, List.set_cons_zero, List.set_cons_succ]
          first | (refine wpAnyH_take (i := 6) (get_of_drop' rfl) (by kernel_rfl) (by kernel_rfl) (by kernel_rfl) (fun _ _ _ h => h) (Or.inr ⟨?_, rfl⟩) hHeld ?_; (focus (simp [Region.wanted, yielded, undef]; done)); (try simp only [Act.put, List.setIfInBounds_toArray, List.set_cons_zero, List.set_cons_succ])) | (refine wpAnyH_take (i := 6) (v := ?_) (get_of_drop' rfl) (by kernel_rfl) (by kernel_rfl) (by kernel_rfl) (fun _ _ _ h => h) (Or.inl ⟨?_, ?_⟩) hHeld ?_; rotate_left; (focus rfl); (focus (intro w hSw; (try dsimp only at hSw); go_simp; (try (with_reducible rfl)))); (try simp only [Act.put, List.setIfInBounds_toArray, List.set_cons_zero, List.set_cons_succ]))
          obtain ⟨S, hS⟩ : ∃ S, (w9).heap.size = S := ⟨_, rfl⟩
          obtain ⟨w6, hwS⟩ : ∃ w6, ((w9).alloc (.cells #[.int .i64 0, .int .i64 0, .slice none 0 0] 25)) = w6 := ⟨_, rfl⟩
          have hb6 := below_new' (w9) 25 #[.int .i64 0, .int .i64 0, .slice none 0 0]
          have hr6 := sys_cells (w9) 0 0 (.slice none 0 0) 25
          rw [hS] at hr6
          rw [hwS] at hb6 hr6
          have hbL6 := hb9.trans (hb6.mono hb9.size)
          have hown6 := hown'.below hb6
          have hSw : w5.heap.size ≤ S := by have := hb9.size; omega
          have s0 : w6.cell? ⟨S, 0, none⟩ = some (.int .i64 0) := (hr6).cell (by decide)
          have s1 : w6.cell? ⟨S, 1, none⟩ = some (.int .i64 0) := (hr6).cell (by decide)
          have s2 : w6.cell? ⟨S, 2, none⟩ = some (.slice none 0 0) := (hr6).cell (by decide)
          have sf0 := (hr6).frozen 0
          have sf1 := (hr6).frozen 1
          have sf2 := (hr6).frozen 2
          refine wpAnyH_ready (rs := [7]) (by kernel_rfl) (by simp) ?_
          refine AllReadyH.cons (get_of_drop' rfl) (fun K hK => ?_) AllReadyH.nil
          go_simp
          refine hK.out _ _ (HSW.out _ hbL6) (fun hHeld => ?_)
          clear hK K
          try simp only [Act.put, List.setIfInBounds_toArray, List.set_cons_zero, List.set_cons_succ]
          have HD := Lib.hid (mkX (al := 63) (st := st) hw50 hbL6 hr6 hSw hown6)
          clear hown' hkept
          refine wpAnyH_ready (rs := [8]) (by kernel_rfl) (by simp) ?_
          refine AllReadyH.cons (get_of_drop' rfl) (fun K hK => ?_) AllReadyH.nil
          go_simp
          refine hK.out _ _ (HSW.out _ HD.out.1) (fun hHeld => ?_)
          clear hK K
          try simp only [Act.put, List.setIfInBounds_toArray, List.set_cons_zero, List.set_cons_succ]
          refine wpAnyH_done (by kernel_rfl) ?_ _
          go_wp2_with fail
          go_meet
          case rel => exact ⟨S, n', cap', ao', rfl, HD.out.1, HD.out.2.1, HD.out.2.2, HN.out⟩
        · refine AllReadyH.cons (get_of_drop' rfl) (fun K hK => ?_) AllReadyH.nil
          obtain ⟨S, hS⟩ : ∃ S, ((w5.alloc (.cells #[] 44)).drew).heap.size = S := ⟨_, rfl⟩
          obtain ⟨wS, hwS⟩ : ∃ wS, (((w5.alloc (.cells #[] 44)).drew).alloc (.cells #[.int .i64 0, .int .i64 0, .slice none 0 0] 25)) = wS := ⟨_, rfl⟩
          have hb6 := below_new' ((w5.alloc (.cells #[] 44)).drew) 25 #[.int .i64 0, .int .i64 0, .slice none 0 0]
          have hr6 := sys_cells ((w5.alloc (.cells #[] 44)).drew) 0 0 (.slice none 0 0) 25
          rw [hS] at hr6
          rw [hwS] at hb6 hr6
          have hbS := HBE.out.trans (hb6.mono HBE.out.size)
          have hSw : w5.heap.size ≤ S := by have := HBE.out.size; omega
          go_simp
          refine hK.out _ _ (HSW.out _ hbS) (fun hHeld => ?_)
          clear hK K
          try simp only [Act.put, List.setIfInBounds_toArray, List.set_cons_zero, List.set_cons_succ]
          refine wpAnyH_ready (rs := [5]) (by kernel_rfl) (by simp) ?_
          refine AllReadyH.cons (get_of_drop' rfl) (fun K hK => ?_) AllReadyH.nil
          rw [if_pos (by rfl)]
          refine wp_app_any wS (es) w5.heap.size 0 (y5) _ _ rfl rfl (HOE.out.below hb6) ad n c rfl (EVR.below HEV.out hbS) (by have := HLEN.out; omega) (hbS).size ?_
          intro ao' n' cap' w9 hn' hown' hkept
          have HN := Lib.hid hn'; clear hn'
          have hb9 := hkept.1 w5 hbS
          refine hK.out _ _ (HSW.out _ hb9) (fun hHeld => ?_)
          clear hK K
          try simp only [Act.put, List.setIfInBounds_toArray, List.set_cons_zero, List.set_cons_succ]
          have hr5 := hr6.of_block (hkept.2.block S (World.rowIs.lt hr6) (fun e => own_ne (HOE.out.below hb6) hr6 e.symm))
          have s0 : w9.cell? ⟨S, 0, none⟩ = some (.int .i64 0) := (hr5).cell (by decide)
          have s1 : w9.cell? ⟨S, 1, none⟩ = some (.int .i64 0) := (hr5).cell (by decide)
          have s2 : w9.cell? ⟨S, 2, none⟩ = some (.slice none 0 0) := (hr5).cell (by decide)
          have sf0 := (hr5).frozen 0
          have sf1 := (hr5).frozen 1
          have sf2 := (hr5).frozen 2
          first | (refine wpAnyH_take (i := 6) (get_of_drop' rfl) (by kernel_rfl) (by kernel_rfl) (by kernel_rfl) (fun _ _ _ h => h) (Or.inr ⟨?_, rfl⟩) hHeld ?_; (focus (simp [Region.wanted, yielded, undef]; done)); (try simp only [Act.put, List.setIfInBounds_toArray, List.set_cons_zero, List.set_cons_succ])) | (refine wpAnyH_take (i := 6) (v := ?_) (get_of_drop' rfl) (by kernel_rfl) (by kernel_rfl) (by kernel_rfl) (fun _ _ _ h => h) (Or.inl ⟨?_, ?_⟩) hHeld ?_; rotate_left; (focus rfl); (focus (intro w hSw; (try dsimp only at hSw); go_simp; (try (with_reducible rfl)))); (try simp only [Act.put, List.setIfInBounds_toArray, List.set_cons_zero, List.set_cons_succ]))
          have HD := Lib.hid (mkX (al := 63) (st := st) hw50 hb9 hr5 hSw hown')
          clear hown' hkept
          refine wpAnyH_ready (rs := [8]) (by kernel_rfl) (by simp) ?_
          refine AllReadyH.cons (get_of_drop' rfl) (fun K hK => ?_) AllReadyH.nil
          go_simp
          refine hK.out _ _ (HSW.out _ HD.out.1) (fun hHeld => ?_)
          clear hK K
          try simp only [Act.put, List.setIfInBounds_toArray, List.set_cons_zero, List.set_cons_succ]
          refine wpAnyH_done (by kernel_rfl) ?_ _
          go_wp2_with fail
          go_meet
          case rel => exact ⟨S, n', cap', ao', rfl, HD.out.1, HD.out.2.1, HD.out.2.2, HN.out⟩
      · refine AllReadyH.cons (get_of_drop' rfl) (fun K hK => ?_) AllReadyH.nil
        obtain ⟨S, hS⟩ : ∃ S, (w5.drew).heap.size = S := ⟨_, rfl⟩
        obtain ⟨wS, hwS⟩ : ∃ wS, ((w5.drew).alloc (.cells #[.int .i64 0, .int .i64 0, .slice none 0 0] 25)) = wS := ⟨_, rfl⟩
        have hb6 := below_new' (w5.drew) 25 #[.int .i64 0, .int .i64 0, .slice none 0 0]
        have hr6 := sys_cells (w5.drew) 0 0 (.slice none 0 0) 25
        rw [hS] at hr6
        rw [hwS] at hb6 hr6
        have hbS : Below w5.heap.size w5 wS := ((Below.refl w5.heap.size w5).drew).trans hb6
        have hSw : w5.heap.size ≤ S := by have h : w5.drew.heap.size = w5.heap.size := rfl; omega
        go_simp
        refine hK.out _ _ (HSW.out _ hbS) (fun hHeld => ?_)
        clear hK K
        try simp only [Act.put, List.setIfInBounds_toArray, List.set_cons_zero, List.set_cons_succ]
        refine wpAnyH_ready (rs := [2]) (by kernel_rfl) (by simp) ?_
        refine AllReadyH.cons (get_of_drop' rfl) (fun K hK => ?_) AllReadyH.nil
        obtain ⟨q, hq⟩ : ∃ q, wS.heap.size = q := ⟨_, rfl⟩
        obtain ⟨wE, hwE⟩ : ∃ wE, (wS.alloc (.cells #[] 44)) = wE := ⟨_, rfl⟩
        have hbE := below_new' wS 44 #[]
        have hoE := EOwn.empty w5.heap.size wS hbS.size
        rw [hq] at hoE
        rw [hwE] at hbE hoE
        have hrE := rowIs_below' hr6 hbE
        have hbLE := hbS.trans (hbE.mono hbS.size)
        go_simp
        refine hK.out _ _ (HSW.out _ hbLE) (fun hHeld => ?_)
        clear hK K
        try simp only [Act.put, List.setIfInBounds_toArray, List.set_cons_zero, List.set_cons_succ]
        refine wpAnyH_ready (rs := [5]) (by kernel_rfl) (by simp) ?_
        refine AllReadyH.cons (get_of_drop' rfl) (fun K hK => ?_) AllReadyH.nil
        rw [if_pos (by rfl)]
        refine wp_app_any wE (es) w5.heap.size 0 (q) _ _ rfl rfl hoE ad n c rfl (EVR.below HEV.out hbLE) (by have := HLEN.out; omega) (hbLE).size ?_
        intro ao' n' cap' w9 hn' hown' hkept
        have HN := Lib.hid hn'; clear hn'
        have hb9 := hkept.1 w5 hbLE
        refine hK.out _ _ (HSW.out _ hb9) (fun hHeld => ?_)
        clear hK K
        try simp only [Act.put, List.setIfInBounds_toArray, List.set_cons_zero, List.set_cons_succ]
        have hr5 := hrE.of_block (hkept.2.block S (World.rowIs.lt hrE) (fun e => own_ne hoE hrE e.symm))
        have s0 : w9.cell? ⟨S, 0, none⟩ = some (.int .i64 0) := (hr5).cell (by decide)
        have s1 : w9.cell? ⟨S, 1, none⟩ = some (.int .i64 0) := (hr5).cell (by decide)
        have s2 : w9.cell? ⟨S, 2, none⟩ = some (.slice none 0 0) := (hr5).cell (by decide)
        have sf0 := (hr5).frozen 0
        have sf1 := (hr5).frozen 1
        have sf2 := (hr5).frozen 2
        first | (refine wpAnyH_take (i := 6) (get_of_drop' rfl) (by kernel_rfl) (by kernel_rfl) (by kernel_rfl) (fun _ _ _ h => h) (Or.inr ⟨?_, rfl⟩) hHeld ?_; (focus (simp [Region.wanted, yielded, undef]; done)); (try simp only [Act.put, List.setIfInBounds_toArray, List.set_cons_zero, List.set_cons_succ])) | (refine wpAnyH_take (i := 6) (v := ?_) (get_of_drop' rfl) (by kernel_rfl) (by kernel_rfl) (by kernel_rfl) (fun _ _ _ h => h) (Or.inl ⟨?_, ?_⟩) hHeld ?_; rotate_left; (focus rfl); (focus (intro w hSw; (try dsimp only at hSw); go_simp; (try (with_reducible rfl)))); (try simp only [Act.put, List.setIfInBounds_toArray, List.set_cons_zero, List.set_cons_succ]))
        have HD := Lib.hid (mkX (al := 63) (st := st) hw50 hb9 hr5 hSw hown')
        clear hown' hkept
        refine wpAnyH_ready (rs := [8]) (by kernel_rfl) (by simp) ?_
        refine AllReadyH.cons (get_of_drop' rfl) (fun K hK => ?_) AllReadyH.nil
        go_simp
        refine hK.out _ _ (HSW.out _ HD.out.1) (fun hHeld => ?_)
        clear hK K
        try simp only [Act.put, List.setIfInBounds_toArray, List.set_cons_zero, List.set_cons_succ]
        refine wpAnyH_done (by kernel_rfl) ?_ _
        go_wp2_with fail
        go_meet
        case rel => exact ⟨S, n', cap', ao', rfl, HD.out.1, HD.out.2.1, HD.out.2.2, HN.out⟩
    case rest =>
      obtain ⟨S, m, cap, a', rfl, hbc, hrc, hec, hm⟩ := hcut
      have q0 : wc.cell? ⟨S, 0, none⟩ = some (.int .i64 63) := hrc.cell (by decide)
      have q1 : wc.cell? ⟨S, 1, none⟩ = some (.int .i64 st) := hrc.cell (by decide)
      have q2 : wc.cell? ⟨S, 2, none⟩ = some (.slice a' m cap) := hrc.cell (by decide)
      have HBC := Lib.hid (B5.out.trans (hbc.mono B5.out.size))
      have HTC := Lib.hid (T5.out.below hbc)
      have HRC := Lib.hid hrc
      have HEC := Lib.hid hec
      have HM := Lib.hid hm; clear hm
      clear hbc hrc hec HSW HBE HOE
      go_wp2_with fail
      refine (implSysValid_any 63 st a' m cap es wc HEC.out).mono ?_
      rintro e w6 ⟨rfl, hb6⟩
      rw [HVW.out]
      have hr6 := rowIs_below' HRC.out hb6
      have u0 : w6.cell? ⟨S, 0, none⟩ = some (.int .i64 63) := hr6.cell (by decide)
      have u1 : w6.cell? ⟨S, 1, none⟩ = some (.int .i64 st) := hr6.cell (by decide)
      have u2 : w6.cell? ⟨S, 2, none⟩ = some (.slice a' m cap) := hr6.cell (by decide)
      have HB6 := Lib.hid (HBC.out.trans (hb6.mono HBC.out.size))
      have HE6 := Lib.hid (HEC.out.below hb6)
      have HT6 := Lib.hid (HTC.out.below hb6)
      have hi2 := implStates_any 63 st a' m cap es s hsz
      rw [HWD.out] at hi2
      have HI2 := Lib.hid hi2
      clear hi2 hb6 hr6
      go_wp2_with fail
      refine (HI2.out w6 HT6.out HE6.out).mono ?_
      rintro e w7 ⟨rfl, hb7⟩
      have HB7 := Lib.hid (HB6.out.trans (hb7.mono HB6.out.size))
      clear hb7
      go_wp2
      go_ret
      exact ⟨rfl, HB7.out⟩
set_option maxHeartbeats 8000000 in
theorem fnSystemDrop_walk (a : Option Addr) (len cap : Nat) (zs : List Int) (w : World) (hT : Tab w) (hrow : IsRow w a len cap zs) : Calls Tryd.prog 6 #[.slice a len cap] w fun e w' => e = .returned (.bool true) ∧ Below w.heap.size w w' := by
  by_cases hl : 1048576 < len
  · have hl' : (1048576 : Int) < (len : Int) := by omega
    go_enter Tryd.func6, Tryd.ntmps6
    go_wp2
    go_ret
    exact ⟨rfl, Below.refl _ _⟩
  have hl' : (len : Int) ≤ 1048576 := by omega
  clear hl
  go_enter Tryd.func6, Tryd.ntmps6
  go_wp2_with fail
  refine (DrawHasTrace_any a len cap zs w hrow).mono ?_
  rintro e w1 ⟨al, st, ad, n, c, es, s, rfl, hs, hev, hes, hb1⟩
  have hv0 := hev 0 (Nat.zero_le _)
  have hev1 := hv0.ev
  have hsz : s.size ≤ 9223372036854775807 := by omega
  have hb0 := hb1
  clear hev hrow
  obtain ⟨x0, hx0⟩ : ∃ x0, w1.heap.size = x0 := ⟨_, rfl⟩
  obtain ⟨w2, hw2⟩ : ∃ w2, (w1.alloc (.cells #[.int .i64 al, .int .i64 st, .slice ad n c] 25)) = w2 := ⟨_, rfl⟩
  have hb2 := below_new' w1 25 #[.int .i64 al, .int .i64 st, .slice ad n c]
  have hx2 := sys_cells w1 al st (.slice ad n c) 25
  rw [hx0] at hx2
  rw [hw2] at hb2 hx2
  have B2 := Lib.hid (hb1.trans (hb2.mono hb1.size))
  have X2 := Lib.hid hx2
  have E2 := Lib.hid (hev1.below hb2)
  have T2 := Lib.hid ((hT.below hb1).below hb2)
  clear hb1 hb2 hx2 hev1 hT
  have c20 : w2.cell? ⟨x0, 0, none⟩ = some (.int .i64 al) := X2.out.cell (by decide)
  have c21 : w2.cell? ⟨x0, 1, none⟩ = some (.int .i64 st) := X2.out.cell (by decide)
  have c22 : w2.cell? ⟨x0, 2, none⟩ = some (.slice ad n c) := X2.out.cell (by decide)
  have V2 := Lib.hid (hv0.below (below_new' w1 25 #[.int .i64 al, .int .i64 st, .slice ad n c]))
  rw [hw2] at V2
  clear hv0 hb0
  have hnl : n = es.length := E2.out.at.1
  have hnc : n ≤ c ∧ c ≤ 9223372036854775807 := ⟨E2.out.at.2.1, E2.out.at.2.2.1⟩
  obtain ⟨hnc1, hnc2⟩ := hnc
  have HNL := Lib.hid hnl; clear hnl
  obtain ⟨tr, htr⟩ : ∃ tr, decide (aftN al st es s.data.toList ≠ 0) = tr := ⟨_, rfl⟩
  have hit := implTrace_any al st ad n c es s hsz
  have hst := specTrace_any al st ad n c es s hsz
  rw [htr] at hit hst
  have HIT := Lib.hid hit
  have HST := Lib.hid hst
  have HTR := Lib.hid htr; clear htr
  clear hit hst
  go_wp2_with fail
  refine (HIT.out w2 T2.out E2.out).mono ?_
  rintro e w3 ⟨rfl, hb3⟩
  have V3 := Lib.hid (V2.out.below hb3)
  have B3 := Lib.hid (B2.out.trans (hb3.mono B2.out.size))
  have X3 := Lib.hid (rowIs_below' X2.out hb3)
  have E3 := Lib.hid (E2.out.below hb3)
  have T3 := Lib.hid (T2.out.below hb3)
  clear c20 c21 c22 hb3
  have c30 : w3.cell? ⟨x0, 0, none⟩ = some (.int .i64 al) := X3.out.cell (by decide)
  have c31 : w3.cell? ⟨x0, 1, none⟩ = some (.int .i64 st) := X3.out.cell (by decide)
  have c32 : w3.cell? ⟨x0, 2, none⟩ = some (.slice ad n c) := X3.out.cell (by decide)
  go_wp2_with fail
  refine (HST.out w3 E3.out).mono ?_
  rintro e w4 ⟨rfl, hb4⟩
  have V4 := Lib.hid (V3.out.below hb4)
  have B4 := Lib.hid (B3.out.trans (hb4.mono B3.out.size))
  have X4 := Lib.hid (rowIs_below' X3.out hb4)
  have E4 := Lib.hid (E3.out.below hb4)
  have T4 := Lib.hid (T3.out.below hb4)
  clear c30 c31 c32 hb4
  have c40 : w4.cell? ⟨x0, 0, none⟩ = some (.int .i64 al) := X4.out.cell (by decide)
  have c41 : w4.cell? ⟨x0, 1, none⟩ = some (.int .i64 st) := X4.out.cell (by decide)
  have c42 : w4.cell? ⟨x0, 2, none⟩ = some (.slice ad n c) := X4.out.cell (by decide)
  cases hv : sysV al st es with
  | false =>
    have HV := Lib.hid hv; clear hv
    go_wp2_with fail
    refine (implSysValid_any al st ad n c es w4 E4.out).mono ?_
    rintro e w5 ⟨rfl, hb5⟩
    rw [HV.out]
    have B5 := Lib.hid (B4.out.trans (hb5.mono B4.out.size))
    have X5 := Lib.hid (rowIs_below' X4.out hb5)
    have E5 := Lib.hid (E4.out.below hb5)
    have T5 := Lib.hid (T4.out.below hb5)
    clear c40 c41 c42 hb5
    have c50 : w5.cell? ⟨x0, 0, none⟩ = some (.int .i64 al) := X5.out.cell (by decide)
    have c51 : w5.cell? ⟨x0, 1, none⟩ = some (.int .i64 st) := X5.out.cell (by decide)
    have c52 : w5.cell? ⟨x0, 2, none⟩ = some (.slice ad n c) := X5.out.cell (by decide)
    go_wp2_with fail
    refine (HST.out w5 E5.out).mono ?_
    rintro e w6 ⟨rfl, hb6⟩
    have B6 := Lib.hid (B5.out.trans (hb6.mono B5.out.size))
    have X6 := Lib.hid (rowIs_below' X5.out hb6)
    have E6 := Lib.hid (E5.out.below hb6)
    have T6 := Lib.hid (T5.out.below hb6)
    clear c50 c51 c52 hb6
    have c60 : w6.cell? ⟨x0, 0, none⟩ = some (.int .i64 al) := X6.out.cell (by decide)
    have c61 : w6.cell? ⟨x0, 1, none⟩ = some (.int .i64 st) := X6.out.cell (by decide)
    have c62 : w6.cell? ⟨x0, 2, none⟩ = some (.slice ad n c) := X6.out.cell (by decide)
    go_wp2
    go_ret
    exact ⟨ret_bool (by simp), B6.out⟩
  | true =>
    by_cases hn0 : n = 0
    · subst hn0
      have HV := Lib.hid hv; clear hv
      go_wp2_with fail
      refine (implSysValid_any al st ad 0 c es w4 E4.out).mono ?_
      rintro e w5 ⟨rfl, hb5⟩
      rw [HV.out]
      have B5 := Lib.hid (B4.out.trans (hb5.mono B4.out.size))
      have X5 := Lib.hid (rowIs_below' X4.out hb5)
      have E5 := Lib.hid (E4.out.below hb5)
      have c50 : w5.cell? ⟨x0, 0, none⟩ = some (.int .i64 al) := X5.out.cell (by decide)
      have c51 : w5.cell? ⟨x0, 1, none⟩ = some (.int .i64 st) := X5.out.cell (by decide)
      have c52 : w5.cell? ⟨x0, 2, none⟩ = some (.slice ad 0 c) := X5.out.cell (by decide)
      clear c40 c41 c42 hb5
      go_wp2_with fail
      refine (HST.out w5 E5.out).mono ?_
      rintro e w6 ⟨rfl, hb6⟩
      have B6 := Lib.hid (B5.out.trans (hb6.mono B5.out.size))
      clear hb6
      go_wp2
      go_ret
      exact ⟨ret_bool (by simp), B6.out⟩
    · have hvd := sysV_drop hv (n - 1)
      have hdrop : tr = false → decide (aftN al st (es.take (n - 1)) s.data.toList ≠ 0) = false := fun h => by
        have ht := HTR.out
        rw [h] at ht
        have h0 : aftN al st es s.data.toList = 0 := by simpa using ht
        simp only [ne_eq, decide_not, Bool.not_eq_false', decide_eq_true_eq]
        exact Classical.byContradiction (fun h2 => aft_drop al st es _ (n - 1) hv h2 h0)
      have hn0' : ((n : Int) == 0) = false := by simp; omega
      have hn1 : 1 ≤ n := by omega
      obtain ⟨m1, hm1⟩ : ∃ m1, n - 1 = m1 := ⟨_, rfl⟩
      have hcast : (n : Int) - 1 = (m1 : Int) := by omega
      have hwr : IntKind.i64.wrap (m1 : Int) = (m1 : Int) := by simp [IntKind.wrap, IntKind.signed, IntKind.bits]; omega
      have hm1n : m1 ≤ n := by omega
      have hm1c : m1 ≤ c := by omega
      rw [hm1] at hvd hdrop
      clear hm1
      have HVD := Lib.hid hvd; clear hvd
      have HDR := Lib.hid hdrop; clear hdrop
      have HV := Lib.hid hv; clear hv
      go_wp2_with fail
      refine (implSysValid_any al st ad n c es w4 E4.out).mono ?_
      rintro e w5 ⟨rfl, hb5⟩
      rw [HV.out]
      have HEV := Lib.hid ((V4.out.below hb5).take m1 hm1n)
      have B5 := Lib.hid (B4.out.trans (hb5.mono B4.out.size))
      have X5 := Lib.hid (rowIs_below' X4.out hb5)
      have E5 := Lib.hid (E4.out.below hb5)
      have T5 := Lib.hid (T4.out.below hb5)
      clear c40 c41 c42 hb5
      have c50 : w5.cell? ⟨x0, 0, none⟩ = some (.int .i64 al) := X5.out.cell (by decide)
      have c51 : w5.cell? ⟨x0, 1, none⟩ = some (.int .i64 st) := X5.out.cell (by decide)
      have c52 : w5.cell? ⟨x0, 2, none⟩ = some (.slice ad n c) := X5.out.cell (by decide)
      have HLEN := Lib.hid (show (es.take m1).length ≤ 5000 from by rw [List.length_take]; omega)
      have hw50 : 0 < w5.heap.size := by have := World.rowIs.lt X5.out; omega
      obtain ⟨y5, hy5⟩ : ∃ y5, w5.heap.size = y5 := ⟨_, rfl⟩
      have HSW := Lib.hid (fun (w' : World) (hb : Below w5.heap.size w5 w') => (show Below w5.heap.size w5 w' ∧ w'.cell? ⟨x0, 0, none⟩ = some (.int .i64 al) ∧ w'.cell? ⟨x0, 1, none⟩ = some (.int .i64 st) ∧ w'.cell? ⟨x0, 2, none⟩ = some (.slice ad n c) from ⟨hb, keep_cell hb c50, keep_cell hb c51, keep_cell hb c52⟩))
      have HBE := Lib.hid (show Below w5.heap.size w5 (w5.alloc (.cells #[] 44)).drew from ((Below.refl w5.heap.size w5).alloc (Nat.le_refl _) _).drew)
      have HOE := Lib.hid (show EOwn w5.heap.size (w5.alloc (.cells #[] 44)).drew (.slice (some ⟨y5, 0, none⟩) 0 0) [] from hy5 ▸ EOwn.empty w5.heap.size w5 (Nat.le_refl _))
      go_wp2_with fail
      go_cut [6] from 39 to 53 (fun s6 wc => ∃ (S m cap : Nat) (a' : Option Addr), s6 = .pointer (some ⟨S, 0, none⟩) ∧ Below w5.heap.size w5 wc ∧ wc.rowIs S 25 3 (fun i => #[.int .i64 al, .int .i64 st, .slice a' m cap][i]?.getD undef) ∧ EV wc (.slice a' m cap) (es.take m1) ∧ m = (es.take m1).length)
      case first =>
        refine wp_region_held_drew (S := fun w' => Below w5.heap.size w5 w' ∧ w'.cell? ⟨x0, 0, none⟩ = some (.int .i64 al) ∧ w'.cell? ⟨x0, 1, none⟩ = some (.int .i64 st) ∧ w'.cell? ⟨x0, 2, none⟩ = some (.slice ad n c)) (by kernel_rfl) ⟨(Below.refl _ _).drew, c50, c51, c52⟩ (fun hHeld => ?_)
        first | (refine wpAnyH_take (i := 0) (get_of_drop' rfl) (by kernel_rfl) (by kernel_rfl) (by kernel_rfl) (fun _ _ _ h => h) (Or.inr ⟨?_, rfl⟩) hHeld ?_; (focus (simp [Region.wanted, yielded, undef]; done)); (try simp only [Act.put, List.setIfInBounds_toArray, List.set_cons_zero, List.set_cons_succ])) | (refine wpAnyH_take (i := 0) (v := ?_) (get_of_drop' rfl) (by kernel_rfl) (by kernel_rfl) (by kernel_rfl) (fun _ _ _ h => h) (Or.inl ⟨?_, ?_⟩) hHeld ?_; rotate_left; (focus rfl); (focus (intro w hSw; (try dsimp only at hSw); go_simp; (try (with_reducible rfl)))); (try simp only [Act.put, List.setIfInBounds_toArray, List.set_cons_zero, List.set_cons_succ]))
        first | (refine wpAnyH_take (i := 1) (get_of_drop' rfl) (by kernel_rfl) (by kernel_rfl) (by kernel_rfl) (fun _ _ _ h => h) (Or.inr ⟨?_, rfl⟩) hHeld ?_; (focus (simp [Region.wanted, yielded, undef]; done)); (try simp only [Act.put, List.setIfInBounds_toArray, List.set_cons_zero, List.set_cons_succ])) | (refine wpAnyH_take (i := 1) (v := ?_) (get_of_drop' rfl) (by kernel_rfl) (by kernel_rfl) (by kernel_rfl) (fun _ _ _ h => h) (Or.inl ⟨?_, ?_⟩) hHeld ?_; rotate_left; (focus rfl); (focus (intro w hSw; (try dsimp only at hSw); go_simp; (try (with_reducible rfl)))); (try simp only [Act.put, List.setIfInBounds_toArray, List.set_cons_zero, List.set_cons_succ]))
        first | (refine wpAnyH_take (i := 2) (get_of_drop' rfl) (by kernel_rfl) (by kernel_rfl) (by kernel_rfl) (fun _ _ _ h => h) (Or.inr ⟨?_, rfl⟩) hHeld ?_; (focus (simp [Region.wanted, yielded, undef]; done)); (try simp only [Act.put, List.setIfInBounds_toArray, List.set_cons_zero, List.set_cons_succ])) | (refine wpAnyH_take (i := 2) (v := ?_) (get_of_drop' rfl) (by kernel_rfl) (by kernel_rfl) (by kernel_rfl) (fun _ _ _ h => h) (Or.inl ⟨?_, ?_⟩) hHeld ?_; rotate_left; (focus rfl); (focus (intro w hSw; (try dsimp only at hSw); go_simp; (try (with_reducible rfl)))); (try simp only [Act.put, List.setIfInBounds_toArray, List.set_cons_zero, List.set_cons_succ]))
        first | (refine wpAnyH_take (i := 3) (get_of_drop' rfl) (by kernel_rfl) (by kernel_rfl) (by kernel_rfl) (fun _ _ _ h => h) (Or.inr ⟨?_, rfl⟩) hHeld ?_; (focus (simp [Region.wanted, yielded, undef]; done)); (try simp only [Act.put, List.setIfInBounds_toArray, List.set_cons_zero, List.set_cons_succ])) | (refine wpAnyH_take (i := 3) (v := ?_) (get_of_drop' rfl) (by kernel_rfl) (by kernel_rfl) (by kernel_rfl) (fun _ _ _ h => h) (Or.inl ⟨?_, ?_⟩) hHeld ?_; rotate_left; (focus rfl); (focus (intro w hSw; (try dsimp only at hSw); go_simp; (try (with_reducible rfl)))); (try simp only [Act.put, List.setIfInBounds_toArray, List.set_cons_zero, List.set_cons_succ]))
        first | (refine wpAnyH_take (i := 5) (get_of_drop' rfl) (by kernel_rfl) (by kernel_rfl) (by kernel_rfl) (fun _ _ _ h => h) (Or.inr ⟨?_, rfl⟩) hHeld ?_; (focus (simp [Region.wanted, yielded, undef]; done)); (try simp only [Act.put, List.setIfInBounds_toArray, List.set_cons_zero, List.set_cons_succ])) | (refine wpAnyH_take (i := 5) (v := ?_) (get_of_drop' rfl) (by kernel_rfl) (by kernel_rfl) (by kernel_rfl) (fun _ _ _ h => h) (Or.inl ⟨?_, ?_⟩) hHeld ?_; rotate_left; (focus rfl); (focus (intro w hSw; (try dsimp only at hSw); go_simp; (try (with_reducible rfl)))); (try simp only [Act.put, List.setIfInBounds_toArray, List.set_cons_zero, List.set_cons_succ]))
        first | (refine wpAnyH_take (i := 6) (get_of_drop' rfl) (by kernel_rfl) (by kernel_rfl) (by kernel_rfl) (fun _ _ _ h => h) (Or.inr ⟨?_, rfl⟩) hHeld ?_; (focus (simp [Region.wanted, yielded, undef]; done)); (try simp only [Act.put, List.setIfInBounds_toArray, List.set_cons_zero, List.set_cons_succ])) | (refine wpAnyH_take (i := 6) (v := ?_) (get_of_drop' rfl) (by kernel_rfl) (by kernel_rfl) (by kernel_rfl) (fun _ _ _ h => h) (Or.inl ⟨?_, ?_⟩) hHeld ?_; rotate_left; (focus rfl); (focus (intro w hSw; (try dsimp only at hSw); go_simp; (try (with_reducible rfl)))); (try simp only [Act.put, List.setIfInBounds_toArray, List.set_cons_zero, List.set_cons_succ]))
        first | (refine wpAnyH_take (i := 7) (get_of_drop' rfl) (by kernel_rfl) (by kernel_rfl) (by kernel_rfl) (fun _ _ _ h => h) (Or.inr ⟨?_, rfl⟩) hHeld ?_; (focus (simp [Region.wanted, yielded, undef]; done)); (try simp only [Act.put, List.setIfInBounds_toArray, List.set_cons_zero, List.set_cons_succ])) | (refine wpAnyH_take (i := 7) (v := ?_) (get_of_drop' rfl) (by kernel_rfl) (by kernel_rfl) (by kernel_rfl) (fun _ _ _ h => h) (Or.inl ⟨?_, ?_⟩) hHeld ?_; rotate_left; (focus rfl); (focus (intro w hSw; (try dsimp only at hSw); go_simp; (try (with_reducible rfl)))); (try simp only [Act.put, List.setIfInBounds_toArray, List.set_cons_zero, List.set_cons_succ]))
        first | (refine wpAnyH_take (i := 8) (get_of_drop' rfl) (by kernel_rfl) (by kernel_rfl) (by kernel_rfl) (fun _ _ _ h => h) (Or.inr ⟨?_, rfl⟩) hHeld ?_; (focus (simp [Region.wanted, yielded, undef]; done)); (try simp only [Act.put, List.setIfInBounds_toArray, List.set_cons_zero, List.set_cons_succ])) | (refine wpAnyH_take (i := 8) (v := ?_) (get_of_drop' rfl) (by kernel_rfl) (by kernel_rfl) (by kernel_rfl) (fun _ _ _ h => h) (Or.inl ⟨?_, ?_⟩) hHeld ?_; rotate_left; (focus rfl); (focus (intro w hSw; (try dsimp only at hSw); go_simp; (try (with_reducible rfl)))); (try simp only [Act.put, List.setIfInBounds_toArray, List.set_cons_zero, List.set_cons_succ]))
        first | (refine wpAnyH_take (i := 9) (get_of_drop' rfl) (by kernel_rfl) (by kernel_rfl) (by kernel_rfl) (fun _ _ _ h => h) (Or.inr ⟨?_, rfl⟩) hHeld ?_; (focus (simp [Region.wanted, yielded, undef]; done)); (try simp only [Act.put, List.setIfInBounds_toArray, List.set_cons_zero, List.set_cons_succ])) | (refine wpAnyH_take (i := 9) (v := ?_) (get_of_drop' rfl) (by kernel_rfl) (by kernel_rfl) (by kernel_rfl) (fun _ _ _ h => h) (Or.inl ⟨?_, ?_⟩) hHeld ?_; rotate_left; (focus rfl); (focus (intro w hSw; (try dsimp only at hSw); go_simp; (try (with_reducible rfl)))); (try simp only [Act.put, List.setIfInBounds_toArray, List.set_cons_zero, List.set_cons_succ]))
        first | (refine wpAnyH_take (i := 10) (get_of_drop' rfl) (by kernel_rfl) (by kernel_rfl) (by kernel_rfl) (fun _ _ _ h => h) (Or.inr ⟨?_, rfl⟩) hHeld ?_; (focus (simp [Region.wanted, yielded, undef]; done)); (try simp only [Act.put, List.setIfInBounds_toArray, List.set_cons_zero, List.set_cons_succ])) | (refine wpAnyH_take (i := 10) (v := ?_) (get_of_drop' rfl) (by kernel_rfl) (by kernel_rfl) (by kernel_rfl) (fun _ _ _ h => h) (Or.inl ⟨?_, ?_⟩) hHeld ?_; rotate_left; (focus rfl); (focus (intro w hSw; (try dsimp only at hSw); go_simp; (try (with_reducible rfl)))); (try simp only [Act.put, List.setIfInBounds_toArray, List.set_cons_zero, List.set_cons_succ]))
        first | (refine wpAnyH_take (i := 11) (get_of_drop' rfl) (by kernel_rfl) (by kernel_rfl) (by kernel_rfl) (fun _ _ _ h => h) (Or.inr ⟨?_, rfl⟩) hHeld ?_; (focus (simp [Region.wanted, yielded, undef]; done)); (try simp only [Act.put, List.setIfInBounds_toArray, List.set_cons_zero, List.set_cons_succ])) | (refine wpAnyH_take (i := 11) (v := ?_) (get_of_drop' rfl) (by kernel_rfl) (by kernel_rfl) (by kernel_rfl) (fun _ _ _ h => h) (Or.inl ⟨?_, ?_⟩) hHeld ?_; rotate_left; (focus rfl); (focus (intro w hSw; (try dsimp only at hSw); go_simp; (try (with_reducible rfl)))); (try simp only [Act.put, List.setIfInBounds_toArray, List.set_cons_zero, List.set_cons_succ]))
        refine wpAnyH_ready (rs := [4, 14]) (by kernel_rfl) (by simp) ?_
        refine AllReadyH.cons (get_of_drop' rfl) (fun K hK => ?_) ?_
        · go_simp
          refine hK.out _ _ (HSW.out _ HBE.out) (fun hHeld => ?_)
          clear hK K
          try simp only [Act.put, List.setIfInBounds_toArray, List.set_cons_zero, List.set_cons_succ]
          refine wpAnyH_ready (rs := [12, 14]) (by kernel_rfl) (by simp) ?_
          refine AllReadyH.cons (get_of_drop' rfl) (fun K hK => ?_) ?_
          · rw [if_pos (by rfl)]
            refine wp_app_any _ (es.take m1) w5.heap.size 0 (y5) _ _ rfl rfl HOE.out ad m1 c rfl (EVR.below HEV.out HBE.out) (by have := HLEN.out; omega) (HBE.out).size ?_
            intro ao' n' cap' w9 hn' hown' hkept
            have HN := Lib.hid hn'; clear hn'
            have hb9 := hkept.1 w5 HBE.out
            refine hK.out _ _ (HSW.out _ hb9) (fun hHeld => ?_)
            clear hK K
            try simp only [Act.put, List.setIfInBounds_toArray, List.set_cons_zero, List.set_cons_succ]
            first | (refine wpAnyH_take (i := 13) (get_of_drop' rfl) (by kernel_rfl) (by kernel_rfl) (by kernel_rfl) (fun _ _ _ h => h) (Or.inr ⟨?_, rfl⟩) hHeld ?_; (focus (simp [Region.wanted, yielded, undef]; done)); (try simp only [Act.put, List.setIfInBounds_toArray, List.set_cons_zero, List.set_cons_succ])) | (refine wpAnyH_take (i := 13) (v := ?_) (get_of_drop' rfl) (by kernel_rfl) (by kernel_rfl) (by kernel_rfl) (fun _ _ _ h => h) (Or.inl ⟨?_, ?_⟩) hHeld ?_; rotate_left; (focus rfl); (focus (intro w hSw; (try dsimp only at hSw); go_simp; (try (with_reducible rfl)))); (try simp only [Act.put, List.setIfInBounds_toArray, List.set_cons_zero, List.set_cons_succ]))
            obtain ⟨S, hS⟩ : ∃ S, (w9).heap.size = S := ⟨_, rfl⟩
            obtain ⟨w6, hwS⟩ : ∃ w6, ((w9).alloc (.cells #[.int .i64 0, .int .i64 0, .slice none 0 0] 25)) = w6 := ⟨_, rfl⟩
            have hb6 := below_new' (w9) 25 #[.int .i64 0, .int .i64 0, .slice none 0 0]
            have hr6 := sys_cells (w9) 0 0 (.slice none 0 0) 25
            rw [hS] at hr6
            rw [hwS] at hb6 hr6
            have hbL6 := hb9.trans (hb6.mono hb9.size)
            have hown6 := hown'.below hb6
            have hSw : w5.heap.size ≤ S := by have := hb9.size; omega
            have s0 : w6.cell? ⟨S, 0, none⟩ = some (.int .i64 0) := (hr6).cell (by decide)
            have s1 : w6.cell? ⟨S, 1, none⟩ = some (.int .i64 0) := (hr6).cell (by decide)
            have s2 : w6.cell? ⟨S, 2, none⟩ = some (.slice none 0 0) := (hr6).cell (by decide)
            have sf0 := (hr6).frozen 0
            have sf1 := (hr6).frozen 1
            have sf2 := (hr6).frozen 2
            refine wpAnyH_ready (rs := [14]) (by kernel_rfl) (by simp) ?_
            refine AllReadyH.cons (get_of_drop' rfl) (fun K hK => ?_) AllReadyH.nil
            go_simp
            refine hK.out _ _ (HSW.out _ hbL6) (fun hHeld => ?_)
            clear hK K
            try simp only [Act.put, List.setIfInBounds_toArray, List.set_cons_zero, List.set_cons_succ]
            have HD := Lib.hid (mkX (al := al) (st := st) hw50 hbL6 hr6 hSw hown6)
            clear hown' hkept
            refine wpAnyH_ready (rs := [15]) (by kernel_rfl) (by simp) ?_
            refine AllReadyH.cons (get_of_drop' rfl) (fun K hK => ?_) AllReadyH.nil
            go_simp
            refine hK.out _ _ (HSW.out _ HD.out.1) (fun hHeld => ?_)
            clear hK K
            try simp only [Act.put, List.setIfInBounds_toArray, List.set_cons_zero, List.set_cons_succ]
            refine wpAnyH_done (by kernel_rfl) ?_ _
            go_wp2_with fail
            go_meet
            case rel => exact ⟨S, n', cap', ao', rfl, HD.out.1, HD.out.2.1, HD.out.2.2, HN.out⟩
          · refine AllReadyH.cons (get_of_drop' rfl) (fun K hK => ?_) AllReadyH.nil
            obtain ⟨S, hS⟩ : ∃ S, ((w5.alloc (.cells #[] 44)).drew).heap.size = S := ⟨_, rfl⟩
            obtain ⟨wS, hwS⟩ : ∃ wS, (((w5.alloc (.cells #[] 44)).drew).alloc (.cells #[.int .i64 0, .int .i64 0, .slice none 0 0] 25)) = wS := ⟨_, rfl⟩
            have hb6 := below_new' ((w5.alloc (.cells #[] 44)).drew) 25 #[.int .i64 0, .int .i64 0, .slice none 0 0]
            have hr6 := sys_cells ((w5.alloc (.cells #[] 44)).drew) 0 0 (.slice none 0 0) 25
            rw [hS] at hr6
            rw [hwS] at hb6 hr6
            have hbS := HBE.out.trans (hb6.mono HBE.out.size)
            have hSw : w5.heap.size ≤ S := by have := HBE.out.size; omega
            go_simp
            refine hK.out _ _ (HSW.out _ hbS) (fun hHeld => ?_)
            clear hK K
            try simp only [Act.put, List.setIfInBounds_toArray, List.set_cons_zero, List.set_cons_succ]
            refine wpAnyH_ready (rs := [12]) (by kernel_rfl) (by simp) ?_
            refine AllReadyH.cons (get_of_drop' rfl) (fun K hK => ?_) AllReadyH.nil
            rw [if_pos (by rfl)]
            refine wp_app_any wS (es.take m1) w5.heap.size 0 (y5) _ _ rfl rfl (HOE.out.below hb6) ad m1 c rfl (EVR.below HEV.out hbS) (by have := HLEN.out; omega) (hbS).size ?_
            intro ao' n' cap' w9 hn' hown' hkept
            have HN := Lib.hid hn'; clear hn'
            have hb9 := hkept.1 w5 hbS
            refine hK.out _ _ (HSW.out _ hb9) (fun hHeld => ?_)
            clear hK K
            try simp only [Act.put, List.setIfInBounds_toArray, List.set_cons_zero, List.set_cons_succ]
            have hr5 := hr6.of_block (hkept.2.block S (World.rowIs.lt hr6) (fun e => own_ne (HOE.out.below hb6) hr6 e.symm))
            have s0 : w9.cell? ⟨S, 0, none⟩ = some (.int .i64 0) := (hr5).cell (by decide)
            have s1 : w9.cell? ⟨S, 1, none⟩ = some (.int .i64 0) := (hr5).cell (by decide)
            have s2 : w9.cell? ⟨S, 2, none⟩ = some (.slice none 0 0) := (hr5).cell (by decide)
            have sf0 := (hr5).frozen 0
            have sf1 := (hr5).frozen 1
            have sf2 := (hr5).frozen 2
            first | (refine wpAnyH_take (i := 13) (get_of_drop' rfl) (by kernel_rfl) (by kernel_rfl) (by kernel_rfl) (fun _ _ _ h => h) (Or.inr ⟨?_, rfl⟩) hHeld ?_; (focus (simp [Region.wanted, yielded, undef]; done)); (try simp only [Act.put, List.setIfInBounds_toArray, List.set_cons_zero, List.set_cons_succ])) | (refine wpAnyH_take (i := 13) (v := ?_) (get_of_drop' rfl) (by kernel_rfl) (by kernel_rfl) (by kernel_rfl) (fun _ _ _ h => h) (Or.inl ⟨?_, ?_⟩) hHeld ?_; rotate_left; (focus rfl); (focus (intro w hSw; (try dsimp only at hSw); go_simp; (try (with_reducible rfl)))); (try simp only [Act.put, List.setIfInBounds_toArray, List.set_cons_zero, List.set_cons_succ]))
            have HD := Lib.hid (mkX (al := al) (st := st) hw50 hb9 hr5 hSw hown')
            clear hown' hkept
            refine wpAnyH_ready (rs := [15]) (by kernel_rfl) (by simp) ?_
            refine AllReadyH.cons (get_of_drop' rfl) (fun K hK => ?_) AllReadyH.nil
            go_simp
            refine hK.out _ _ (HSW.out _ HD.out.1) (fun hHeld => ?_)
            clear hK K
            try simp only [Act.put, List.setIfInBounds_toArray, List.set_cons_zero, List.set_cons_succ]
            refine wpAnyH_done (by kernel_rfl) ?_ _
            go_wp2_with fail
            go_meet
            case rel => exact ⟨S, n', cap', ao', rfl, HD.out.1, HD.out.2.1, HD.out.2.2, HN.out⟩
        · refine AllReadyH.cons (get_of_drop' rfl) (fun K hK => ?_) AllReadyH.nil
          obtain ⟨S, hS⟩ : ∃ S, (w5.drew).heap.size = S := ⟨_, rfl⟩
          obtain ⟨wS, hwS⟩ : ∃ wS, ((w5.drew).alloc (.cells #[.int .i64 0, .int .i64 0, .slice none 0 0] 25)) = wS := ⟨_, rfl⟩
          have hb6 := below_new' (w5.drew) 25 #[.int .i64 0, .int .i64 0, .slice none 0 0]
          have hr6 := sys_cells (w5.drew) 0 0 (.slice none 0 0) 25
          rw [hS] at hr6
          rw [hwS] at hb6 hr6
          have hbS : Below w5.heap.size w5 wS := ((Below.refl w5.heap.size w5).drew).trans hb6
          have hSw : w5.heap.size ≤ S := by have h : w5.drew.heap.size = w5.heap.size := rfl; omega
          go_simp
          refine hK.out _ _ (HSW.out _ hbS) (fun hHeld => ?_)
          clear hK K
          try simp only [Act.put, List.setIfInBounds_toArray, List.set_cons_zero, List.set_cons_succ]
          refine wpAnyH_ready (rs := [4]) (by kernel_rfl) (by simp) ?_
          refine AllReadyH.cons (get_of_drop' rfl) (fun K hK => ?_) AllReadyH.nil
          obtain ⟨q, hq⟩ : ∃ q, wS.heap.size = q := ⟨_, rfl⟩
          obtain ⟨wE, hwE⟩ : ∃ wE, (wS.alloc (.cells #[] 44)) = wE := ⟨_, rfl⟩
          have hbE := below_new' wS 44 #[]
          have hoE := EOwn.empty w5.heap.size wS hbS.size
          rw [hq] at hoE
          rw [hwE] at hbE hoE
          have hrE := rowIs_below' hr6 hbE
          have hbLE := hbS.trans (hbE.mono hbS.size)
          go_simp
          refine hK.out _ _ (HSW.out _ hbLE) (fun hHeld => ?_)
          clear hK K
          try simp only [Act.put, List.setIfInBounds_toArray, List.set_cons_zero, List.set_cons_succ]
          refine wpAnyH_ready (rs := [12]) (by kernel_rfl) (by simp) ?_
          refine AllReadyH.cons (get_of_drop' rfl) (fun K hK => ?_) AllReadyH.nil
          rw [if_pos (by rfl)]
          refine wp_app_any wE (es.take m1) w5.heap.size 0 (q) _ _ rfl rfl hoE ad m1 c rfl (EVR.below HEV.out hbLE) (by have := HLEN.out; omega) (hbLE).size ?_
          intro ao' n' cap' w9 hn' hown' hkept
          have HN := Lib.hid hn'; clear hn'
          have hb9 := hkept.1 w5 hbLE
          refine hK.out _ _ (HSW.out _ hb9) (fun hHeld => ?_)
          clear hK K
          try simp only [Act.put, List.setIfInBounds_toArray, List.set_cons_zero, List.set_cons_succ]
          have hr5 := hrE.of_block (hkept.2.block S (World.rowIs.lt hrE) (fun e => own_ne hoE hrE e.symm))
          have s0 : w9.cell? ⟨S, 0, none⟩ = some (.int .i64 0) := (hr5).cell (by decide)
          have s1 : w9.cell? ⟨S, 1, none⟩ = some (.int .i64 0) := (hr5).cell (by decide)
          have s2 : w9.cell? ⟨S, 2, none⟩ = some (.slice none 0 0) := (hr5).cell (by decide)
          have sf0 := (hr5).frozen 0
          have sf1 := (hr5).frozen 1
          have sf2 := (hr5).frozen 2
          first | (refine wpAnyH_take (i := 13) (get_of_drop' rfl) (by kernel_rfl) (by kernel_rfl) (by kernel_rfl) (fun _ _ _ h => h) (Or.inr ⟨?_, rfl⟩) hHeld ?_; (focus (simp [Region.wanted, yielded, undef]; done)); (try simp only [Act.put, List.setIfInBounds_toArray, List.set_cons_zero, List.set_cons_succ])) | (refine wpAnyH_take (i := 13) (v := ?_) (get_of_drop' rfl) (by kernel_rfl) (by kernel_rfl) (by kernel_rfl) (fun _ _ _ h => h) (Or.inl ⟨?_, ?_⟩) hHeld ?_; rotate_left; (focus rfl); (focus (intro w hSw; (try dsimp only at hSw); go_simp; (try (with_reducible rfl)))); (try simp only [Act.put, List.setIfInBounds_toArray, List.set_cons_zero, List.set_cons_succ]))
          have HD := Lib.hid (mkX (al := al) (st := st) hw50 hb9 hr5 hSw hown')
          clear hown' hkept
          refine wpAnyH_ready (rs := [15]) (by kernel_rfl) (by simp) ?_
          refine AllReadyH.cons (get_of_drop' rfl) (fun K hK => ?_) AllReadyH.nil
          go_simp
          refine hK.out _ _ (HSW.out _ HD.out.1) (fun hHeld => ?_)
          clear hK K
          try simp only [Act.put, List.setIfInBounds_toArray, List.set_cons_zero, List.set_cons_succ]
          refine wpAnyH_done (by kernel_rfl) ?_ _
          go_wp2_with fail
          go_meet
          case rel => exact ⟨S, n', cap', ao', rfl, HD.out.1, HD.out.2.1, HD.out.2.2, HN.out⟩
      case rest =>
        obtain ⟨S, m, cap, a', rfl, hbc, hrc, hec, hm⟩ := hcut
        have q0 : wc.cell? ⟨S, 0, none⟩ = some (.int .i64 al) := hrc.cell (by decide)
        have q1 : wc.cell? ⟨S, 1, none⟩ = some (.int .i64 st) := hrc.cell (by decide)
        have q2 : wc.cell? ⟨S, 2, none⟩ = some (.slice a' m cap) := hrc.cell (by decide)
        have HBC := Lib.hid (B5.out.trans (hbc.mono B5.out.size))
        have HTC := Lib.hid (T5.out.below hbc)
        have HRC := Lib.hid hrc
        have HEC := Lib.hid hec
        have HM := Lib.hid hm; clear hm
        clear hbc hrc hec HSW HBE HOE
        go_wp2_with fail
        refine (implSysValid_any al st a' m cap (es.take m1) wc HEC.out).mono ?_
        rintro e w6 ⟨rfl, hb6⟩
        rw [HVD.out]
        have hr6 := rowIs_below' HRC.out hb6
        have u0 : w6.cell? ⟨S, 0, none⟩ = some (.int .i64 al) := hr6.cell (by decide)
        have u1 : w6.cell? ⟨S, 1, none⟩ = some (.int .i64 st) := hr6.cell (by decide)
        have u2 : w6.cell? ⟨S, 2, none⟩ = some (.slice a' m cap) := hr6.cell (by decide)
        have HB6 := Lib.hid (HBC.out.trans (hb6.mono HBC.out.size))
        have HE6 := Lib.hid (HEC.out.below hb6)
        have HT6 := Lib.hid (HTC.out.below hb6)
        clear hb6 hr6
        cases tr with
        | true =>
          go_wp2
          go_ret
          exact ⟨rfl, HB6.out⟩
        | false =>
          have hi2 := implTrace_any al st a' m cap (es.take m1) s hsz
          rw [HDR.out rfl] at hi2
          have HI2 := Lib.hid hi2
          clear hi2
          go_wp2_with fail
          refine (HI2.out w6 HT6.out HE6.out).mono ?_
          rintro e w7 ⟨rfl, hb7⟩
          have HB7 := Lib.hid (HB6.out.trans (hb7.mono HB6.out.size))
          clear hb7
          go_wp2
          go_ret
          exact ⟨rfl, HB7.out⟩
end Go.Proofs.YtbmhokbgkgfibaaDoor
