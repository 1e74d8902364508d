/- The draws of the laws on systems. -/
import Derived.Test.YtknhgfmjchfnjaaDoorSDraw2
import Derived.Deep.RegionHeld3

namespace Go.Proofs.YtknhgfmjchfnjaaDoor
open Go.RowKit
set_option linter.unusedVariables false
set_option linter.unusedSimpArgs false
set_option maxRecDepth 100000

/-- A system and a word. -/
def DSysStr (w : World) (e : Ending) (w' : World) : Prop := ∃ (al st : Int) (a : Option Addr) (n c : Nat) (es : List Edg) (s : ByteArray), e = .returned (.tuple #[.agg #[.int .i64 al, .int .i64 st, .slice a n c], .string s]) ∧ s.size ≤ 60000 ∧ (∀ R', R' ≤ w.heap.size → EVR R' w' (.slice a n c) es) ∧ es.length ≤ 5000 ∧ Below w.heap.size w w'
def DSys (w : World) (e : Ending) (w' : World) : Prop := ∃ (al st : Int) (a : Option Addr) (n c : Nat) (es : List Edg), e = .returned (.agg #[.int .i64 al, .int .i64 st, .slice a n c]) ∧ (∀ R', R' ≤ w.heap.size → EVR R' w' (.slice a n c) es) ∧ es.length ≤ 5000 ∧ Below w.heap.size w w'
theorem draw_bel {w w1 w2 : World} {R : Nat} (hb : Below w.heap.size w w1) (hR : w.heap.size ≤ R) (hg : w1.grownBy w2 (some R)) : Below w.heap.size w w2 :=
  ⟨hg.os.trans hb.os, hg.tape.trans hb.tape, hg.output.trans hb.output, Nat.le_trans hb.size hg.size, fun k hk => (hg.block k (by have := hb.size; omega) (fun e => by injection e with e; omega)).trans (hb.block k hk)⟩
theorem EVR.le {R R' : Nat} {w : World} {v : Value} {es : List Edg} (h : EVR R w v es) (hR : R' ≤ R) : EVR R' w v es := by
  obtain ⟨ao, cap, h1, h2, h3, h4⟩ := h
  refine ⟨ao, cap, h1, h2, h3, ?_⟩
  rcases h4 with h4 | ⟨b, off, h5, h6, h7, h8⟩
  · exact .inl h4
  · exact .inr ⟨b, off, h5, by omega, h7, h8⟩
set_option maxHeartbeats 4000000 in
theorem drawStates_any (a : Option Addr) (len cap : Nat) (zs : List Int) (w : World) (hrow : IsRow w a len cap zs) : Calls Tryd.prog 10 #[.slice a len cap] w (DSysStr w) := by
  have hq0 := sys_cells w 0 0 (.slice none 0 0) 25
  have hb0 := below_new' w 25 #[.int .i64 0, .int .i64 0, .slice none 0 0]
  obtain ⟨Z, hZ⟩ : ∃ Z, w.heap.size = Z := ⟨_, rfl⟩
  obtain ⟨w0, hw0⟩ : ∃ w0, (w.alloc (.cells #[.int .i64 0, .int .i64 0, .slice none 0 0] 25)) = w0 := ⟨_, rfl⟩
  have hZw0 : w0.heap.size = w.heap.size + 1 := by rw [← hw0]; simp
  rw [hZ] at hq0
  rw [hw0] at hq0 hb0
  have hrow0 := IsRow.below hrow hb0
  go_enter Tryd.func10, Tryd.ntmps10
  go_wp2_with fail
  refine (l19Open_any _ _ _ _ w0 hrow0).mono ?_
  rintro e w1 ⟨R, rfl, hr1, hR, hb1⟩
  have HB1 := Lib.hid (hb0.trans (hb1.mono hb0.size))
  have HQ1 := Lib.hid (rowIs_below' hq0 hb1)
  have hRZ : Z ≠ R := by omega
  have hZR : Z < R := by omega
  have hwR : w.heap.size ≤ R := by omega
  clear hb0 hq0 hb1 hw0 hrow0 hrow
  go_wp2_with fail
  refine (l2Any_any R 0 w1 hr1 (by omega)).mono ?_
  rintro e w2 ⟨al, st, ad, n, c, es, rfl, hes, hev, p2, hp2, hr2, hg2⟩
  have hRw1 : R < w1.heap.size := hr1.lt
  have HE2 := Lib.hid (hev R hRw1)
  have HR2 := Lib.hid hr2
  have HG2 := Lib.hid hg2
  have HQ2 := Lib.hid (row_grown HQ1.out hg2 hRZ)
  clear hr1 hev hr2 hg2
  obtain ⟨x5, hx5⟩ : ∃ x5, w2.heap.size = x5 := ⟨_, rfl⟩
  obtain ⟨w3, hw3⟩ : ∃ w3, (w2.alloc (.cells #[.int .i64 al, .int .i64 st, .slice ad n c] 25)) = w3 := ⟨_, rfl⟩
  have hb3 := below_new' w2 25 #[.int .i64 al, .int .i64 st, .slice ad n c]
  have hx3 := sys_cells w2 al st (.slice ad n c) 25
  rw [hx5] at hx3
  rw [hw3] at hb3 hx3
  have s0 : w3.cell? ⟨x5, 0, none⟩ = some (.int .i64 al) := hx3.cell (by decide)
  have s1 : w3.cell? ⟨x5, 1, none⟩ = some (.int .i64 st) := hx3.cell (by decide)
  have s2 : w3.cell? ⟨x5, 2, none⟩ = some (.slice ad n c) := hx3.cell (by decide)
  have HX3 := Lib.hid hx3
  have HE3 := Lib.hid (HE2.out.below hb3)
  have HR3 := Lib.hid (HR2.out.below hb3)
  have HG3 := Lib.hid (grown_trans HG2.out (grown_below _ hb3))
  have HQ3 := Lib.hid (rowIs_below' HQ2.out hb3)
  have hxR : x5 ≠ R := by have := HR2.out.lt; omega
  have hxZ : x5 ≠ Z := by have := World.rowIs.lt HQ2.out; omega
  clear hb3 hx3
  go_wp2_with fail
  refine (l2Trace_any R p2 al st ad n c es w3 HR3.out (by omega) HE3.out).mono ?_
  rintro e w4 ⟨s, rfl, hs, p4, hp4, hr4, hg4⟩
  have HX4 := Lib.hid (row_grown HX3.out hg4 hxR)
  have HE4 := Lib.hid (HE3.out.grown hg4)
  have HG4 := Lib.hid (grown_trans HG3.out hg4)
  have HQ4 := Lib.hid (row_grown HQ3.out hg4 hRZ)
  clear hg4 s0 s1 s2
  go_wp2_with fail
  refine (pick_any R p4 6 w4 hr4 (by omega)).mono ?_
  rintro e w5 ⟨k, rfl, -, -, hr5, hg5⟩
  have HX5 := Lib.hid (row_grown HX4.out hg5 hxR)
  have HE5 := Lib.hid (HE4.out.grown hg5)
  have HG5 := Lib.hid (grown_trans HG4.out hg5)
  have HQ5 := Lib.hid (row_grown HQ4.out hg5 hRZ)
  have HR5 := Lib.hid hr5
  clear hg5 hr4 hr5
  by_cases hk0 : k = 0
  · subst hk0
    go_wp2_with fail
    refine (l1Word_any R (p4 + 1) 7 5 5 rfl (by decide) (by omega) w5 HR5.out (by omega)).mono ?_
    rintro e w6 ⟨s6, rfl, hs6, p6, hp6, hr6, hg6⟩
    have hp6' : p6 ≤ 1000 := by omega
    have hs6' : s6.size ≤ 20 := by omega
    have HX6 := Lib.hid (row_grown HX5.out hg6 hxR)
    have HE6 := Lib.hid (HE5.out.grown hg6)
    have HG6 := Lib.hid (grown_trans HG5.out hg6)
    have HQ6 := Lib.hid (row_grown HQ5.out hg6 hRZ)
    have v0 : w6.cell? ⟨x5, 0, none⟩ = some (.int .i64 al) := HX6.out.cell (by decide)
    have v1 : w6.cell? ⟨x5, 1, none⟩ = some (.int .i64 st) := HX6.out.cell (by decide)
    have v2 : w6.cell? ⟨x5, 2, none⟩ = some (.slice ad n c) := HX6.out.cell (by decide)
    have hrr : RdOk R (p6) w6 := hr6
    clear hg6
    go_wp2_with fail
    refine wp_region_held_drew (S := fun w' => w'.cell? ⟨x5, 0, none⟩ = some (.int .i64 al) ∧ w'.cell? ⟨x5, 1, none⟩ = some (.int .i64 st) ∧ w'.cell? ⟨x5, 2, none⟩ = some (.slice ad n c)) (by kernel_rfl) ⟨v0, v1, v2⟩ (fun hHeld => ?_)
    first | (refine wpAnyH_take (i := 0) (get_of_drop' rfl) (by kernel_rfl) (by kernel_rfl) (by kernel_rfl) (fun _ _ _ h => h) (Or.inr ⟨?_, rfl⟩) hHeld ?_; (focus (simp [Region.wanted, yielded, undef]; done)); (try simp only [Act.put, List.setIfInBounds_toArray, List.set_cons_zero, List.set_cons_succ])) | (refine wpAnyH_take (i := 0) (v := ?_) (get_of_drop' rfl) (by kernel_rfl) (by kernel_rfl) (by kernel_rfl) (fun _ _ _ h => h) (Or.inl ⟨?_, ?_⟩) hHeld ?_; rotate_left; (focus rfl); (focus (intro w hSw; (try dsimp only at hSw); go_simp; (try (with_reducible rfl)))); (try simp only [Act.put, List.setIfInBounds_toArray, List.set_cons_zero, List.set_cons_succ]))
    first | (refine wpAnyH_take (i := 1) (get_of_drop' rfl) (by kernel_rfl) (by kernel_rfl) (by kernel_rfl) (fun _ _ _ h => h) (Or.inr ⟨?_, rfl⟩) hHeld ?_; (focus (simp [Region.wanted, yielded, undef]; done)); (try simp only [Act.put, List.setIfInBounds_toArray, List.set_cons_zero, List.set_cons_succ])) | (refine wpAnyH_take (i := 1) (v := ?_) (get_of_drop' rfl) (by kernel_rfl) (by kernel_rfl) (by kernel_rfl) (fun _ _ _ h => h) (Or.inl ⟨?_, ?_⟩) hHeld ?_; rotate_left; (focus rfl); (focus (intro w hSw; (try dsimp only at hSw); go_simp; (try (with_reducible rfl)))); (try simp only [Act.put, List.setIfInBounds_toArray, List.set_cons_zero, List.set_cons_succ]))
    first | (refine wpAnyH_take (i := 2) (get_of_drop' rfl) (by kernel_rfl) (by kernel_rfl) (by kernel_rfl) (fun _ _ _ h => h) (Or.inr ⟨?_, rfl⟩) hHeld ?_; (focus (simp [Region.wanted, yielded, undef]; done)); (try simp only [Act.put, List.setIfInBounds_toArray, List.set_cons_zero, List.set_cons_succ])) | (refine wpAnyH_take (i := 2) (v := ?_) (get_of_drop' rfl) (by kernel_rfl) (by kernel_rfl) (by kernel_rfl) (fun _ _ _ h => h) (Or.inl ⟨?_, ?_⟩) hHeld ?_; rotate_left; (focus rfl); (focus (intro w hSw; (try dsimp only at hSw); go_simp; (try (with_reducible rfl)))); (try simp only [Act.put, List.setIfInBounds_toArray, List.set_cons_zero, List.set_cons_succ]))
    refine wpAnyH_ready (rs := [3]) (by kernel_rfl) (by simp) ?_
    refine AllReadyH.cons (get_of_drop' rfl) (fun K hK => ?_) AllReadyH.nil
    go_simp
    go_at_call 38
    refine (l1Bad_any R (p6) 20 s6 hs6' (by omega) w6.drew (hrr.drewN 1) (by omega)).mono ?_
    rintro e w7 ⟨s7, rfl, hs7, p7, hp7, hr7, hg7⟩
    have hX7 := row_grown (w := w6.drew) HX6.out hg7 hxR
    have HE7 := Lib.hid (EVR.grown (w := w6.drew) HE6.out hg7)
    have HG7 := Lib.hid (grown_trans HG6.out (grown_trans (grown_below (b := w6.drew) _ ((Below.refl _ _).drew)) hg7))
    have hQ7 := row_grown (w := w6.drew) HQ6.out hg7 hRZ
    have y0 : w7.cell? ⟨x5, 0, none⟩ = some (.int .i64 al) := hX7.cell (by decide)
    have y1 : w7.cell? ⟨x5, 1, none⟩ = some (.int .i64 st) := hX7.cell (by decide)
    have y2 : w7.cell? ⟨x5, 2, none⟩ = some (.slice ad n c) := hX7.cell (by decide)
    have z0 : w7.cell? ⟨Z, 0, none⟩ = some (.int .i64 0) := hQ7.cell (by decide)
    have z1 : w7.cell? ⟨Z, 1, none⟩ = some (.int .i64 0) := hQ7.cell (by decide)
    have z2 : w7.cell? ⟨Z, 2, none⟩ = some (.slice none 0 0) := hQ7.cell (by decide)
    have zf0 := hQ7.frozen 0
    have zf1 := hQ7.frozen 1
    have zf2 := hQ7.frozen 2
    have hbw : Below w.heap.size w w7 := draw_bel HB1.out hwR HG7.out
    obtain ⟨wf, hwf⟩ : ∃ wf, (((w7.setCell ⟨Z, 0, none⟩ (.int .i64 al)).setCell ⟨Z, 1, none⟩ (.int .i64 st)).setCell ⟨Z, 2, none⟩ (.slice ad n c)) = wf := ⟨_, rfl⟩
    have hfin := rowIs_set3 hQ7 (.int .i64 al) (.int .i64 st) (.slice ad n c)
    have hbf : Below w.heap.size w _ := ((hbw.setCell (p := ⟨Z, 0, none⟩) (by simp; omega) (.int .i64 al)).setCell (p := ⟨Z, 1, none⟩) (by simp; omega) (.int .i64 st)).setCell (p := ⟨Z, 2, none⟩) (by simp; omega) (.slice ad n c)
    have hxf := ((hX7.setOther (a := ⟨Z, 0, none⟩) (by simpa using hxZ) (.int .i64 al)).setOther (a := ⟨Z, 1, none⟩) (by simpa using hxZ) (.int .i64 st)).setOther (a := ⟨Z, 2, none⟩) (by simpa using hxZ) (.slice ad n c)
    have e1 : EVR Z w7 (.slice ad n c) es := EVR.le HE7.out (by omega)
    have e2 : EVR Z (w7.setCell ⟨Z, 0, none⟩ (.int .i64 al)) (.slice ad n c) es := evr_set e1 e1
    have e3 : EVR Z ((w7.setCell ⟨Z, 0, none⟩ (.int .i64 al)).setCell ⟨Z, 1, none⟩ (.int .i64 st)) (.slice ad n c) es := evr_set e2 e2
    have e4 : EVR Z (((w7.setCell ⟨Z, 0, none⟩ (.int .i64 al)).setCell ⟨Z, 1, none⟩ (.int .i64 st)).setCell ⟨Z, 2, none⟩ (.slice ad n c)) (.slice ad n c) es := evr_set e3 e3
    rw [hwf] at hfin hbf hxf e4
    have f0 : wf.cell? ⟨Z, 0, none⟩ = some (.int .i64 al) := hfin.cell (by decide)
    have f1 : wf.cell? ⟨Z, 1, none⟩ = some (.int .i64 st) := hfin.cell (by decide)
    have f2 : wf.cell? ⟨Z, 2, none⟩ = some (.slice ad n c) := hfin.cell (by decide)
    have g0 : wf.cell? ⟨x5, 0, none⟩ = some (.int .i64 al) := hxf.cell (by decide)
    have g1 : wf.cell? ⟨x5, 1, none⟩ = some (.int .i64 st) := hxf.cell (by decide)
    have g2 : wf.cell? ⟨x5, 2, none⟩ = some (.slice ad n c) := hxf.cell (by decide)
    go_wp2_with fail
    refine hK.out _ _ ⟨y0, y1, y2⟩ (fun hHeld => ?_)
    clear hK K
    try simp only [Act.put, List.setIfInBounds_toArray, List.set_cons_zero, List.set_cons_succ]
    refine wpAnyH_ready (rs := [4]) (by kernel_rfl) (by simp) ?_
    refine AllReadyH.cons (get_of_drop' rfl) (fun K hK => ?_) AllReadyH.nil
    go_simp
    refine hK.out _ _ ⟨g0, g1, g2⟩ (fun hHeld => ?_)
    clear hK K
    try simp only [Act.put, List.setIfInBounds_toArray, List.set_cons_zero, List.set_cons_succ]
    first | (refine wpAnyH_take (i := 5) (get_of_drop' rfl) (by kernel_rfl) (by kernel_rfl) (by kernel_rfl) (fun _ _ _ h => h) (Or.inr ⟨?_, rfl⟩) hHeld ?_; (focus (simp [Region.wanted, yielded, undef]; done)); (try simp only [Act.put, List.setIfInBounds_toArray, List.set_cons_zero, List.set_cons_succ])) | (refine wpAnyH_take (i := 5) (v := ?_) (get_of_drop' rfl) (by kernel_rfl) (by kernel_rfl) (by kernel_rfl) (fun _ _ _ h => h) (Or.inl ⟨?_, ?_⟩) hHeld ?_; rotate_left; (focus rfl); (focus (intro w hSw; (try dsimp only at hSw); go_simp; (try (with_reducible rfl)))); (try simp only [Act.put, List.setIfInBounds_toArray, List.set_cons_zero, List.set_cons_succ]))
    refine wpAnyH_done (by kernel_rfl) ?_ _
    go_wp2
    refine bodyPost_ret (v := .tuple #[.agg #[.int .i64 al, .int .i64 st, .slice ad n c], .string s7]) ?_ rfl ?_
    · simp [results, Tryd.results10, go_sem, f0, f1, f2]
    · exact ⟨al, st, ad, n, c, es, s7, rfl, by omega, fun R' hR' => EVR.le e4 (by omega), by omega, hbf⟩
  by_cases hk1 : k = 1
  · subst hk1
    go_wp2_with fail
    refine (l1Word_any R (p4 + 1) 3 2 2 rfl (by decide) (by omega) w5 HR5.out (by omega)).mono ?_
    rintro e w6 ⟨t6, rfl, ht6, p6, hp6, hr6, hg6⟩
    have hsum : (s.size : Int) + (t6.size : Int) ≤ 9223372036854775807 := by omega
    have hp6' : p6 ≤ 1000 := by omega
    obtain ⟨s6, hs6e⟩ : ∃ s6, s ++ t6 = s6 := ⟨_, rfl⟩
    have hs6' : s6.size ≤ 20 := by rw [← hs6e, append_size]; omega
    have HX6 := Lib.hid (row_grown HX5.out hg6 hxR)
    have HE6 := Lib.hid (HE5.out.grown hg6)
    have HG6 := Lib.hid (grown_trans HG5.out hg6)
    have HQ6 := Lib.hid (row_grown HQ5.out hg6 hRZ)
    have v0 : w6.cell? ⟨x5, 0, none⟩ = some (.int .i64 al) := HX6.out.cell (by decide)
    have v1 : w6.cell? ⟨x5, 1, none⟩ = some (.int .i64 st) := HX6.out.cell (by decide)
    have v2 : w6.cell? ⟨x5, 2, none⟩ = some (.slice ad n c) := HX6.out.cell (by decide)
    have hrr : RdOk R (p6) w6 := hr6
    clear hg6
    go_wp2_with fail
    refine wp_region_held_drew (S := fun w' => w'.cell? ⟨x5, 0, none⟩ = some (.int .i64 al) ∧ w'.cell? ⟨x5, 1, none⟩ = some (.int .i64 st) ∧ w'.cell? ⟨x5, 2, none⟩ = some (.slice ad n c)) (by kernel_rfl) ⟨v0, v1, v2⟩ (fun hHeld => ?_)
    first | (refine wpAnyH_take (i := 0) (get_of_drop' rfl) (by kernel_rfl) (by kernel_rfl) (by kernel_rfl) (fun _ _ _ h => h) (Or.inr ⟨?_, rfl⟩) hHeld ?_; (focus (simp [Region.wanted, yielded, undef]; done)); (try simp only [Act.put, List.setIfInBounds_toArray, List.set_cons_zero, List.set_cons_succ])) | (refine wpAnyH_take (i := 0) (v := ?_) (get_of_drop' rfl) (by kernel_rfl) (by kernel_rfl) (by kernel_rfl) (fun _ _ _ h => h) (Or.inl ⟨?_, ?_⟩) hHeld ?_; rotate_left; (focus rfl); (focus (intro w hSw; (try dsimp only at hSw); go_simp; (try (with_reducible rfl)))); (try simp only [Act.put, List.setIfInBounds_toArray, List.set_cons_zero, List.set_cons_succ]))
    first | (refine wpAnyH_take (i := 1) (get_of_drop' rfl) (by kernel_rfl) (by kernel_rfl) (by kernel_rfl) (fun _ _ _ h => h) (Or.inr ⟨?_, rfl⟩) hHeld ?_; (focus (simp [Region.wanted, yielded, undef]; done)); (try simp only [Act.put, List.setIfInBounds_toArray, List.set_cons_zero, List.set_cons_succ])) | (refine wpAnyH_take (i := 1) (v := ?_) (get_of_drop' rfl) (by kernel_rfl) (by kernel_rfl) (by kernel_rfl) (fun _ _ _ h => h) (Or.inl ⟨?_, ?_⟩) hHeld ?_; rotate_left; (focus rfl); (focus (intro w hSw; (try dsimp only at hSw); go_simp; (try (with_reducible rfl)))); (try simp only [Act.put, List.setIfInBounds_toArray, List.set_cons_zero, List.set_cons_succ]))
    first | (refine wpAnyH_take (i := 2) (get_of_drop' rfl) (by kernel_rfl) (by kernel_rfl) (by kernel_rfl) (fun _ _ _ h => h) (Or.inr ⟨?_, rfl⟩) hHeld ?_; (focus (simp [Region.wanted, yielded, undef]; done)); (try simp only [Act.put, List.setIfInBounds_toArray, List.set_cons_zero, List.set_cons_succ])) | (refine wpAnyH_take (i := 2) (v := ?_) (get_of_drop' rfl) (by kernel_rfl) (by kernel_rfl) (by kernel_rfl) (fun _ _ _ h => h) (Or.inl ⟨?_, ?_⟩) hHeld ?_; rotate_left; (focus rfl); (focus (intro w hSw; (try dsimp only at hSw); go_simp; (try (with_reducible rfl)))); (try simp only [Act.put, List.setIfInBounds_toArray, List.set_cons_zero, List.set_cons_succ]))
    refine wpAnyH_ready (rs := [3]) (by kernel_rfl) (by simp) ?_
    refine AllReadyH.cons (get_of_drop' rfl) (fun K hK => ?_) AllReadyH.nil
    go_simp
    go_at_call 38
    refine (l1Bad_any R (p6) 20 s6 hs6' (by omega) w6.drew (hrr.drewN 1) (by omega)).mono ?_
    rintro e w7 ⟨s7, rfl, hs7, p7, hp7, hr7, hg7⟩
    have hX7 := row_grown (w := w6.drew) HX6.out hg7 hxR
    have HE7 := Lib.hid (EVR.grown (w := w6.drew) HE6.out hg7)
    have HG7 := Lib.hid (grown_trans HG6.out (grown_trans (grown_below (b := w6.drew) _ ((Below.refl _ _).drew)) hg7))
    have hQ7 := row_grown (w := w6.drew) HQ6.out hg7 hRZ
    have y0 : w7.cell? ⟨x5, 0, none⟩ = some (.int .i64 al) := hX7.cell (by decide)
    have y1 : w7.cell? ⟨x5, 1, none⟩ = some (.int .i64 st) := hX7.cell (by decide)
    have y2 : w7.cell? ⟨x5, 2, none⟩ = some (.slice ad n c) := hX7.cell (by decide)
    have z0 : w7.cell? ⟨Z, 0, none⟩ = some (.int .i64 0) := hQ7.cell (by decide)
    have z1 : w7.cell? ⟨Z, 1, none⟩ = some (.int .i64 0) := hQ7.cell (by decide)
    have z2 : w7.cell? ⟨Z, 2, none⟩ = some (.slice none 0 0) := hQ7.cell (by decide)
    have zf0 := hQ7.frozen 0
    have zf1 := hQ7.frozen 1
    have zf2 := hQ7.frozen 2
    have hbw : Below w.heap.size w w7 := draw_bel HB1.out hwR HG7.out
    obtain ⟨wf, hwf⟩ : ∃ wf, (((w7.setCell ⟨Z, 0, none⟩ (.int .i64 al)).setCell ⟨Z, 1, none⟩ (.int .i64 st)).setCell ⟨Z, 2, none⟩ (.slice ad n c)) = wf := ⟨_, rfl⟩
    have hfin := rowIs_set3 hQ7 (.int .i64 al) (.int .i64 st) (.slice ad n c)
    have hbf : Below w.heap.size w _ := ((hbw.setCell (p := ⟨Z, 0, none⟩) (by simp; omega) (.int .i64 al)).setCell (p := ⟨Z, 1, none⟩) (by simp; omega) (.int .i64 st)).setCell (p := ⟨Z, 2, none⟩) (by simp; omega) (.slice ad n c)
    have hxf := ((hX7.setOther (a := ⟨Z, 0, none⟩) (by simpa using hxZ) (.int .i64 al)).setOther (a := ⟨Z, 1, none⟩) (by simpa using hxZ) (.int .i64 st)).setOther (a := ⟨Z, 2, none⟩) (by simpa using hxZ) (.slice ad n c)
    have e1 : EVR Z w7 (.slice ad n c) es := EVR.le HE7.out (by omega)
    have e2 : EVR Z (w7.setCell ⟨Z, 0, none⟩ (.int .i64 al)) (.slice ad n c) es := evr_set e1 e1
    have e3 : EVR Z ((w7.setCell ⟨Z, 0, none⟩ (.int .i64 al)).setCell ⟨Z, 1, none⟩ (.int .i64 st)) (.slice ad n c) es := evr_set e2 e2
    have e4 : EVR Z (((w7.setCell ⟨Z, 0, none⟩ (.int .i64 al)).setCell ⟨Z, 1, none⟩ (.int .i64 st)).setCell ⟨Z, 2, none⟩ (.slice ad n c)) (.slice ad n c) es := evr_set e3 e3
    rw [hwf] at hfin hbf hxf e4
    have f0 : wf.cell? ⟨Z, 0, none⟩ = some (.int .i64 al) := hfin.cell (by decide)
    have f1 : wf.cell? ⟨Z, 1, none⟩ = some (.int .i64 st) := hfin.cell (by decide)
    have f2 : wf.cell? ⟨Z, 2, none⟩ = some (.slice ad n c) := hfin.cell (by decide)
    have g0 : wf.cell? ⟨x5, 0, none⟩ = some (.int .i64 al) := hxf.cell (by decide)
    have g1 : wf.cell? ⟨x5, 1, none⟩ = some (.int .i64 st) := hxf.cell (by decide)
    have g2 : wf.cell? ⟨x5, 2, none⟩ = some (.slice ad n c) := hxf.cell (by decide)
    go_wp2_with fail
    refine hK.out _ _ ⟨y0, y1, y2⟩ (fun hHeld => ?_)
    clear hK K
    try simp only [Act.put, List.setIfInBounds_toArray, List.set_cons_zero, List.set_cons_succ]
    refine wpAnyH_ready (rs := [4]) (by kernel_rfl) (by simp) ?_
    refine AllReadyH.cons (get_of_drop' rfl) (fun K hK => ?_) AllReadyH.nil
    go_simp
    refine hK.out _ _ ⟨g0, g1, g2⟩ (fun hHeld => ?_)
    clear hK K
    try simp only [Act.put, List.setIfInBounds_toArray, List.set_cons_zero, List.set_cons_succ]
    first | (refine wpAnyH_take (i := 5) (get_of_drop' rfl) (by kernel_rfl) (by kernel_rfl) (by kernel_rfl) (fun _ _ _ h => h) (Or.inr ⟨?_, rfl⟩) hHeld ?_; (focus (simp [Region.wanted, yielded, undef]; done)); (try simp only [Act.put, List.setIfInBounds_toArray, List.set_cons_zero, List.set_cons_succ])) | (refine wpAnyH_take (i := 5) (v := ?_) (get_of_drop' rfl) (by kernel_rfl) (by kernel_rfl) (by kernel_rfl) (fun _ _ _ h => h) (Or.inl ⟨?_, ?_⟩) hHeld ?_; rotate_left; (focus rfl); (focus (intro w hSw; (try dsimp only at hSw); go_simp; (try (with_reducible rfl)))); (try simp only [Act.put, List.setIfInBounds_toArray, List.set_cons_zero, List.set_cons_succ]))
    refine wpAnyH_done (by kernel_rfl) ?_ _
    go_wp2
    refine bodyPost_ret (v := .tuple #[.agg #[.int .i64 al, .int .i64 st, .slice ad n c], .string s7]) ?_ rfl ?_
    · simp [results, Tryd.results10, go_sem, f0, f1, f2]
    · exact ⟨al, st, ad, n, c, es, s7, rfl, by omega, fun R' hR' => EVR.le e4 (by omega), by omega, hbf⟩
  · have hg5 := grown_refl w5 (some R)
    have hp6' : p4 + 1 ≤ 1000 := by omega
    have hs6' : s.size ≤ 20 := by omega
    have hr5 := HR5.out
    have HX6 := Lib.hid (row_grown HX5.out hg5 hxR)
    have HE6 := Lib.hid (HE5.out.grown hg5)
    have HG6 := Lib.hid (grown_trans HG5.out hg5)
    have HQ6 := Lib.hid (row_grown HQ5.out hg5 hRZ)
    have v0 : w5.cell? ⟨x5, 0, none⟩ = some (.int .i64 al) := HX6.out.cell (by decide)
    have v1 : w5.cell? ⟨x5, 1, none⟩ = some (.int .i64 st) := HX6.out.cell (by decide)
    have v2 : w5.cell? ⟨x5, 2, none⟩ = some (.slice ad n c) := HX6.out.cell (by decide)
    have hrr : RdOk R (p4 + 1) w5 := hr5
    clear hg5
    go_wp2_with fail
    refine wp_region_held_drew (S := fun w' => w'.cell? ⟨x5, 0, none⟩ = some (.int .i64 al) ∧ w'.cell? ⟨x5, 1, none⟩ = some (.int .i64 st) ∧ w'.cell? ⟨x5, 2, none⟩ = some (.slice ad n c)) (by kernel_rfl) ⟨v0, v1, v2⟩ (fun hHeld => ?_)
    first | (refine wpAnyH_take (i := 0) (get_of_drop' rfl) (by kernel_rfl) (by kernel_rfl) (by kernel_rfl) (fun _ _ _ h => h) (Or.inr ⟨?_, rfl⟩) hHeld ?_; (focus (simp [Region.wanted, yielded, undef]; done)); (try simp only [Act.put, List.setIfInBounds_toArray, List.set_cons_zero, List.set_cons_succ])) | (refine wpAnyH_take (i := 0) (v := ?_) (get_of_drop' rfl) (by kernel_rfl) (by kernel_rfl) (by kernel_rfl) (fun _ _ _ h => h) (Or.inl ⟨?_, ?_⟩) hHeld ?_; rotate_left; (focus rfl); (focus (intro w hSw; (try dsimp only at hSw); go_simp; (try (with_reducible rfl)))); (try simp only [Act.put, List.setIfInBounds_toArray, List.set_cons_zero, List.set_cons_succ]))
    first | (refine wpAnyH_take (i := 1) (get_of_drop' rfl) (by kernel_rfl) (by kernel_rfl) (by kernel_rfl) (fun _ _ _ h => h) (Or.inr ⟨?_, rfl⟩) hHeld ?_; (focus (simp [Region.wanted, yielded, undef]; done)); (try simp only [Act.put, List.setIfInBounds_toArray, List.set_cons_zero, List.set_cons_succ])) | (refine wpAnyH_take (i := 1) (v := ?_) (get_of_drop' rfl) (by kernel_rfl) (by kernel_rfl) (by kernel_rfl) (fun _ _ _ h => h) (Or.inl ⟨?_, ?_⟩) hHeld ?_; rotate_left; (focus rfl); (focus (intro w hSw; (try dsimp only at hSw); go_simp; (try (with_reducible rfl)))); (try simp only [Act.put, List.setIfInBounds_toArray, List.set_cons_zero, List.set_cons_succ]))
    first | (refine wpAnyH_take (i := 2) (get_of_drop' rfl) (by kernel_rfl) (by kernel_rfl) (by kernel_rfl) (fun _ _ _ h => h) (Or.inr ⟨?_, rfl⟩) hHeld ?_; (focus (simp [Region.wanted, yielded, undef]; done)); (try simp only [Act.put, List.setIfInBounds_toArray, List.set_cons_zero, List.set_cons_succ])) | (refine wpAnyH_take (i := 2) (v := ?_) (get_of_drop' rfl) (by kernel_rfl) (by kernel_rfl) (by kernel_rfl) (fun _ _ _ h => h) (Or.inl ⟨?_, ?_⟩) hHeld ?_; rotate_left; (focus rfl); (focus (intro w hSw; (try dsimp only at hSw); go_simp; (try (with_reducible rfl)))); (try simp only [Act.put, List.setIfInBounds_toArray, List.set_cons_zero, List.set_cons_succ]))
    refine wpAnyH_ready (rs := [3]) (by kernel_rfl) (by simp) ?_
    refine AllReadyH.cons (get_of_drop' rfl) (fun K hK => ?_) AllReadyH.nil
    go_simp
    go_at_call 38
    refine (l1Bad_any R (p4 + 1) 20 s hs6' (by omega) w5.drew (hrr.drewN 1) (by omega)).mono ?_
    rintro e w7 ⟨s7, rfl, hs7, p7, hp7, hr7, hg7⟩
    have hX7 := row_grown (w := w5.drew) HX6.out hg7 hxR
    have HE7 := Lib.hid (EVR.grown (w := w5.drew) HE6.out hg7)
    have HG7 := Lib.hid (grown_trans HG6.out (grown_trans (grown_below (b := w5.drew) _ ((Below.refl _ _).drew)) hg7))
    have hQ7 := row_grown (w := w5.drew) HQ6.out hg7 hRZ
    have y0 : w7.cell? ⟨x5, 0, none⟩ = some (.int .i64 al) := hX7.cell (by decide)
    have y1 : w7.cell? ⟨x5, 1, none⟩ = some (.int .i64 st) := hX7.cell (by decide)
    have y2 : w7.cell? ⟨x5, 2, none⟩ = some (.slice ad n c) := hX7.cell (by decide)
    have z0 : w7.cell? ⟨Z, 0, none⟩ = some (.int .i64 0) := hQ7.cell (by decide)
    have z1 : w7.cell? ⟨Z, 1, none⟩ = some (.int .i64 0) := hQ7.cell (by decide)
    have z2 : w7.cell? ⟨Z, 2, none⟩ = some (.slice none 0 0) := hQ7.cell (by decide)
    have zf0 := hQ7.frozen 0
    have zf1 := hQ7.frozen 1
    have zf2 := hQ7.frozen 2
    have hbw : Below w.heap.size w w7 := draw_bel HB1.out hwR HG7.out
    obtain ⟨wf, hwf⟩ : ∃ wf, (((w7.setCell ⟨Z, 0, none⟩ (.int .i64 al)).setCell ⟨Z, 1, none⟩ (.int .i64 st)).setCell ⟨Z, 2, none⟩ (.slice ad n c)) = wf := ⟨_, rfl⟩
    have hfin := rowIs_set3 hQ7 (.int .i64 al) (.int .i64 st) (.slice ad n c)
    have hbf : Below w.heap.size w _ := ((hbw.setCell (p := ⟨Z, 0, none⟩) (by simp; omega) (.int .i64 al)).setCell (p := ⟨Z, 1, none⟩) (by simp; omega) (.int .i64 st)).setCell (p := ⟨Z, 2, none⟩) (by simp; omega) (.slice ad n c)
    have hxf := ((hX7.setOther (a := ⟨Z, 0, none⟩) (by simpa using hxZ) (.int .i64 al)).setOther (a := ⟨Z, 1, none⟩) (by simpa using hxZ) (.int .i64 st)).setOther (a := ⟨Z, 2, none⟩) (by simpa using hxZ) (.slice ad n c)
    have e1 : EVR Z w7 (.slice ad n c) es := EVR.le HE7.out (by omega)
    have e2 : EVR Z (w7.setCell ⟨Z, 0, none⟩ (.int .i64 al)) (.slice ad n c) es := evr_set e1 e1
    have e3 : EVR Z ((w7.setCell ⟨Z, 0, none⟩ (.int .i64 al)).setCell ⟨Z, 1, none⟩ (.int .i64 st)) (.slice ad n c) es := evr_set e2 e2
    have e4 : EVR Z (((w7.setCell ⟨Z, 0, none⟩ (.int .i64 al)).setCell ⟨Z, 1, none⟩ (.int .i64 st)).setCell ⟨Z, 2, none⟩ (.slice ad n c)) (.slice ad n c) es := evr_set e3 e3
    rw [hwf] at hfin hbf hxf e4
    have f0 : wf.cell? ⟨Z, 0, none⟩ = some (.int .i64 al) := hfin.cell (by decide)
    have f1 : wf.cell? ⟨Z, 1, none⟩ = some (.int .i64 st) := hfin.cell (by decide)
    have f2 : wf.cell? ⟨Z, 2, none⟩ = some (.slice ad n c) := hfin.cell (by decide)
    have g0 : wf.cell? ⟨x5, 0, none⟩ = some (.int .i64 al) := hxf.cell (by decide)
    have g1 : wf.cell? ⟨x5, 1, none⟩ = some (.int .i64 st) := hxf.cell (by decide)
    have g2 : wf.cell? ⟨x5, 2, none⟩ = some (.slice ad n c) := hxf.cell (by decide)
    go_wp2_with fail
    refine hK.out _ _ ⟨y0, y1, y2⟩ (fun hHeld => ?_)
    clear hK K
    try simp only [Act.put, List.setIfInBounds_toArray, List.set_cons_zero, List.set_cons_succ]
    refine wpAnyH_ready (rs := [4]) (by kernel_rfl) (by simp) ?_
    refine AllReadyH.cons (get_of_drop' rfl) (fun K hK => ?_) AllReadyH.nil
    go_simp
    refine hK.out _ _ ⟨g0, g1, g2⟩ (fun hHeld => ?_)
    clear hK K
    try simp only [Act.put, List.setIfInBounds_toArray, List.set_cons_zero, List.set_cons_succ]
    first | (refine wpAnyH_take (i := 5) (get_of_drop' rfl) (by kernel_rfl) (by kernel_rfl) (by kernel_rfl) (fun _ _ _ h => h) (Or.inr ⟨?_, rfl⟩) hHeld ?_; (focus (simp [Region.wanted, yielded, undef]; done)); (try simp only [Act.put, List.setIfInBounds_toArray, List.set_cons_zero, List.set_cons_succ])) | (refine wpAnyH_take (i := 5) (v := ?_) (get_of_drop' rfl) (by kernel_rfl) (by kernel_rfl) (by kernel_rfl) (fun _ _ _ h => h) (Or.inl ⟨?_, ?_⟩) hHeld ?_; rotate_left; (focus rfl); (focus (intro w hSw; (try dsimp only at hSw); go_simp; (try (with_reducible rfl)))); (try simp only [Act.put, List.setIfInBounds_toArray, List.set_cons_zero, List.set_cons_succ]))
    refine wpAnyH_done (by kernel_rfl) ?_ _
    go_wp2
    refine bodyPost_ret (v := .tuple #[.agg #[.int .i64 al, .int .i64 st, .slice ad n c], .string s7]) ?_ rfl ?_
    · simp [results, Tryd.results10, go_sem, f0, f1, f2]
    · exact ⟨al, st, ad, n, c, es, s7, rfl, by omega, fun R' hR' => EVR.le e4 (by omega), by omega, hbf⟩
set_option maxHeartbeats 1000000 in
theorem DrawHasTrace_any (a : Option Addr) (len cap : Nat) (zs : List Int) (w : World) (hrow : IsRow w a len cap zs) : Calls Tryd.prog 25 #[.slice a len cap] w (DSysStr w) := by
  have hq0 := sys_cells w 0 0 (.slice none 0 0) 25
  have hb0 := below_new' w 25 #[.int .i64 0, .int .i64 0, .slice none 0 0]
  obtain ⟨Z, hZ⟩ : ∃ Z, w.heap.size = Z := ⟨_, rfl⟩
  obtain ⟨w0, hw0⟩ : ∃ w0, (w.alloc (.cells #[.int .i64 0, .int .i64 0, .slice none 0 0] 25)) = w0 := ⟨_, rfl⟩
  have hZw0 : w0.heap.size = w.heap.size + 1 := by rw [← hw0]; simp
  rw [hZ] at hq0
  rw [hw0] at hq0 hb0
  have hrow0 := IsRow.below hrow hb0
  go_enter Tryd.func25, Tryd.ntmps25
  go_wp2_with fail
  refine (drawStates_any a len cap zs w0 hrow0).mono ?_
  rintro e w1 ⟨al, st, ad, n, c, es, s, rfl, hs, hev, hes, hb1⟩
  have hQ7 := rowIs_below' hq0 hb1
  have hbw := hb0.trans (hb1.mono hb0.size)
  obtain ⟨wf, hwf⟩ : ∃ wf, (((w1.setCell ⟨Z, 0, none⟩ (.int .i64 al)).setCell ⟨Z, 1, none⟩ (.int .i64 st)).setCell ⟨Z, 2, none⟩ (.slice ad n c)) = wf := ⟨_, rfl⟩
  have hfin := rowIs_set3 hQ7 (.int .i64 al) (.int .i64 st) (.slice ad n c)
  have hbf : Below w.heap.size w _ := ((hbw.setCell (p := ⟨Z, 0, none⟩) (by simp; omega) (.int .i64 al)).setCell (p := ⟨Z, 1, none⟩) (by simp; omega) (.int .i64 st)).setCell (p := ⟨Z, 2, none⟩) (by simp; omega) (.slice ad n c)
  have e1 : EVR Z w1 (.slice ad n c) es := hev Z (by omega)
  have e2 : EVR Z (w1.setCell ⟨Z, 0, none⟩ (.int .i64 al)) (.slice ad n c) es := evr_set e1 e1
  have e3 : EVR Z ((w1.setCell ⟨Z, 0, none⟩ (.int .i64 al)).setCell ⟨Z, 1, none⟩ (.int .i64 st)) (.slice ad n c) es := evr_set e2 e2
  have e4 : EVR Z (((w1.setCell ⟨Z, 0, none⟩ (.int .i64 al)).setCell ⟨Z, 1, none⟩ (.int .i64 st)).setCell ⟨Z, 2, none⟩ (.slice ad n c)) (.slice ad n c) es := evr_set e3 e3
  have z0 : w1.cell? ⟨Z, 0, none⟩ = some (.int .i64 0) := hQ7.cell (by decide)
  have z1 : w1.cell? ⟨Z, 1, none⟩ = some (.int .i64 0) := hQ7.cell (by decide)
  have z2 : w1.cell? ⟨Z, 2, none⟩ = some (.slice none 0 0) := hQ7.cell (by decide)
  have zf0 := hQ7.frozen 0
  have zf1 := hQ7.frozen 1
  have zf2 := hQ7.frozen 2
  rw [hwf] at hfin hbf e4
  have f0 : wf.cell? ⟨Z, 0, none⟩ = some (.int .i64 al) := hfin.cell (by decide)
  have f1 : wf.cell? ⟨Z, 1, none⟩ = some (.int .i64 st) := hfin.cell (by decide)
  have f2 : wf.cell? ⟨Z, 2, none⟩ = some (.slice ad n c) := hfin.cell (by decide)
  clear hq0 hb0 hw0
  go_wp2
  refine bodyPost_ret (v := .tuple #[.agg #[.int .i64 al, .int .i64 st, .slice ad n c], .string s]) ?_ rfl ?_
  · simp [results, Tryd.results25, go_sem, f0, f1, f2]
  · exact ⟨al, st, ad, n, c, es, s, rfl, hs, fun R' hR' => EVR.le e4 (by omega), hes, hbf⟩
set_option maxHeartbeats 4000000 in
theorem drawValid_any' (a : Option Addr) (len cap : Nat) (zs : List Int) (w : World) (hrow : IsRow w a len cap zs) : Calls Tryd.prog 56 #[.slice a len cap] w (DSys w) := by
  have hq0 := sys_cells w 0 0 (.slice none 0 0) 25
  have hb0 := below_new' w 25 #[.int .i64 0, .int .i64 0, .slice none 0 0]
  obtain ⟨Z, hZ⟩ : ∃ Z, w.heap.size = Z := ⟨_, rfl⟩
  obtain ⟨w0, hw0⟩ : ∃ w0, (w.alloc (.cells #[.int .i64 0, .int .i64 0, .slice none 0 0] 25)) = w0 := ⟨_, rfl⟩
  have hZw0 : w0.heap.size = w.heap.size + 1 := by rw [← hw0]; simp
  rw [hZ] at hq0
  rw [hw0] at hq0 hb0
  have hrow0 := IsRow.below hrow hb0
  go_enter Tryd.func56, Tryd.ntmps56
  go_wp2_with fail
  refine (l19Open_any _ _ _ _ w0 hrow0).mono ?_
  rintro e w1 ⟨R, rfl, hr1, hR, hb1⟩
  have HB1 := Lib.hid (hb0.trans (hb1.mono hb0.size))
  have HQ1 := Lib.hid (rowIs_below' hq0 hb1)
  have hRZ : Z ≠ R := by omega
  have hZR : Z < R := by omega
  have hwR : w.heap.size ≤ R := by omega
  clear hb0 hq0 hb1 hw0 hrow0 hrow
  go_wp2_with fail
  refine (l2Any_any R 0 w1 hr1 (by omega)).mono ?_
  rintro e w2 ⟨al, st, ad, n, c, es, rfl, hes, hev, p2, hp2, hr2, hg2⟩
  have hRw1 : R < w1.heap.size := hr1.lt
  have HE2 := Lib.hid (hev R hRw1)
  have HR2 := Lib.hid hr2
  have HG2 := Lib.hid hg2
  have HQ2 := Lib.hid (row_grown HQ1.out hg2 hRZ)
  clear hr1 hev hr2 hg2
  go_wp2_with fail
  refine (l2Wrong_any R p2 al st ad n c es w2 HR2.out (by omega) HE2.out (by omega)).mono ?_
  rintro e w1' ⟨al', st', ad', n', c', es', rfl, hes', hev', p3, hp3, hr3, hg3⟩
  have hZ2 : Z < w2.heap.size := World.rowIs.lt HQ2.out
  have hQ7 := row_grown HQ2.out hg3 hRZ
  have hbw : Below w.heap.size w w1' := draw_bel HB1.out hwR (grown_trans HG2.out hg3)
  have hev : ∀ R', R' ≤ Z → EVR R' w1' (.slice ad' n' c') es' := fun R' hR' => hev' R' (by omega)
  clear hev' hr3 hg3 HE2 HR2 HG2 HQ2 HB1 HQ1
  obtain ⟨wf, hwf⟩ : ∃ wf, (((w1'.setCell ⟨Z, 0, none⟩ (.int .i64 al')).setCell ⟨Z, 1, none⟩ (.int .i64 st')).setCell ⟨Z, 2, none⟩ (.slice ad' n' c')) = wf := ⟨_, rfl⟩
  have hfin := rowIs_set3 hQ7 (.int .i64 al') (.int .i64 st') (.slice ad' n' c')
  have hbf : Below w.heap.size w _ := ((hbw.setCell (p := ⟨Z, 0, none⟩) (by simp; omega) (.int .i64 al')).setCell (p := ⟨Z, 1, none⟩) (by simp; omega) (.int .i64 st')).setCell (p := ⟨Z, 2, none⟩) (by simp; omega) (.slice ad' n' c')
  have e1 : EVR Z w1' (.slice ad' n' c') es' := hev Z (by omega)
  have e2 : EVR Z (w1'.setCell ⟨Z, 0, none⟩ (.int .i64 al')) (.slice ad' n' c') es' := evr_set e1 e1
  have e3 : EVR Z ((w1'.setCell ⟨Z, 0, none⟩ (.int .i64 al')).setCell ⟨Z, 1, none⟩ (.int .i64 st')) (.slice ad' n' c') es' := evr_set e2 e2
  have e4 : EVR Z (((w1'.setCell ⟨Z, 0, none⟩ (.int .i64 al')).setCell ⟨Z, 1, none⟩ (.int .i64 st')).setCell ⟨Z, 2, none⟩ (.slice ad' n' c')) (.slice ad' n' c') es' := evr_set e3 e3
  have z0 : w1'.cell? ⟨Z, 0, none⟩ = some (.int .i64 0) := hQ7.cell (by decide)
  have z1 : w1'.cell? ⟨Z, 1, none⟩ = some (.int .i64 0) := hQ7.cell (by decide)
  have z2 : w1'.cell? ⟨Z, 2, none⟩ = some (.slice none 0 0) := hQ7.cell (by decide)
  have zf0 := hQ7.frozen 0
  have zf1 := hQ7.frozen 1
  have zf2 := hQ7.frozen 2
  rw [hwf] at hfin hbf e4
  have f0 : wf.cell? ⟨Z, 0, none⟩ = some (.int .i64 al') := hfin.cell (by decide)
  have f1 : wf.cell? ⟨Z, 1, none⟩ = some (.int .i64 st') := hfin.cell (by decide)
  have f2 : wf.cell? ⟨Z, 2, none⟩ = some (.slice ad' n' c') := hfin.cell (by decide)
  go_wp2
  refine bodyPost_ret (v := .agg #[.int .i64 al', .int .i64 st', .slice ad' n' c']) ?_ rfl ?_
  · simp [results, Tryd.results56, go_sem, f0, f1, f2]
  · exact ⟨al', st', ad', n', c', es', rfl, fun R' hR' => EVR.le e4 (by omega), by omega, hbf⟩
end Go.Proofs.YtknhgfmjchfnjaaDoor
