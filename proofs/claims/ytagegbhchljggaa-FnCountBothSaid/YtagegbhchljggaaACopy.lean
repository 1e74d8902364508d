/- l3Copy, whatever is copied: a copy in memory of its own. -/
import Derived.Test.YtagegbhchljggaaCopyS
import Derived.Test.YtagegbhchljggaaAQ

namespace Go.Proofs.Ytagegbhchljggaa
open Go.RowKit
set_option linter.unusedVariables false
set_option linter.unusedSimpArgs false
set_option maxRecDepth 100000

theorem aq_bel {Z S : Nat} {al : Int} {w0 w : World} {v1 v2 : Value} {us : List Value} {xss : List (List Int)} {bs : List Bool} (h : AQ none Z S al w0 w v1 v2 us xss bs) : Below Z w0 w :=
  ⟨h.2.1.os, h.2.1.tape, h.2.1.output, h.2.1.size, fun k hk => h.2.1.block k (by have := h.2.2.2.2.1; omega) (by simp)⟩
theorem mkS {S Z n2 cc : Nat} {al : Int} {ao : Option Addr} {w0 w1 w6 : World} {bs : List Bool} {f : Nat → Value} (h01 : Below w0.heap.size w0 w1) (hZ : w0.heap.size = Z) (hs1 : w1.heap.size = Z + 1) (hz : zBox w1 Z) (hb : Below w1.heap.size w1 w6) (hs : w6.rowIs S 28 3 f) (hS : w1.heap.size ≤ S) (ho : TRow w1.heap.size w6 (.slice ao n2 cc) bs) :
    Below w1.heap.size w1 (((w6.setCell ⟨S, 0, none⟩ (.int .i64 al)).setCell ⟨S, 1, none⟩ (.slice none 0 0)).setCell ⟨S, 2, none⟩ (.slice ao n2 cc)) ∧
    AQ none Z S al w0 (((w6.setCell ⟨S, 0, none⟩ (.int .i64 al)).setCell ⟨S, 1, none⟩ (.slice none 0 0)).setCell ⟨S, 2, none⟩ (.slice ao n2 cc)) (.slice none 0 0) (.slice ao n2 cc) [] [] bs := by
  have hb' : Below w1.heap.size w1 (((w6.setCell ⟨S, 0, none⟩ (.int .i64 al)).setCell ⟨S, 1, none⟩ (.slice none 0 0)).setCell ⟨S, 2, none⟩ (.slice ao n2 cc)) := ((hb.setCell (p := ⟨S, 0, none⟩) hS _).setCell (p := ⟨S, 1, none⟩) hS _).setCell (p := ⟨S, 2, none⟩) hS _
  refine ⟨hb', ⟨RO.nil _ _, ?_⟩, ?_, rowIs_below hz hb', rowIs_set3A hs _ _ _, hZ, by omega, fun R hR => by cases hR⟩
  · have h1 : TRow Z w6 (.slice ao n2 cc) bs := TRow.base ho (by omega)
    exact ((h1.box hs).box (hs.set 0 _)).box ((hs.set 0 _).set 1 _)
  · exact grown_below none (h01.trans (hb'.mono (by omega)))
theorem take_more (xss : List (List Int)) (k : Nat) (x : List Int) (hk : k < xss.length) (hx : xss[k]?.getD [] = x) : xss.take (k + 1) = xss.take k ++ [x] := by
  rw [List.take_add_one, List.getElem?_eq_getElem hk]
  rw [List.getElem?_eq_getElem hk] at hx
  simp only [Option.getD_some] at hx
  rw [hx]; rfl
/-- The result is stored in its box. -/
theorem AQ.fin {row : Option Nat} {Z S : Nat} {al : Int} {w0 w : World} {v1 v2 : Value} {us : List Value} {xss : List (List Int)} {bs : List Bool} (h : AQ row Z S al w0 w v1 v2 us xss bs) :
    AX Z (((w.setCell ⟨Z, 0, none⟩ (.int .i64 al)).setCell ⟨Z, 1, none⟩ v1).setCell ⟨Z, 2, none⟩ v2) v1 v2 us xss bs ∧ w0.grownBy (((w.setCell ⟨Z, 0, none⟩ (.int .i64 al)).setCell ⟨Z, 1, none⟩ v1).setCell ⟨Z, 2, none⟩ v2) row ∧
    sBox (((w.setCell ⟨Z, 0, none⟩ (.int .i64 al)).setCell ⟨Z, 1, none⟩ v1).setCell ⟨Z, 2, none⟩ v2) Z al v1 v2 ∧ ∀ R p, R < Z → RdOk R p w → RdOk R p (((w.setCell ⟨Z, 0, none⟩ (.int .i64 al)).setCell ⟨Z, 1, none⟩ v1).setCell ⟨Z, 2, none⟩ v2) := by
  obtain ⟨h1, hg, hz, h4, h5, h6, h7⟩ := h
  refine ⟨((h1.box hz).box (hz.set 0 _)).box ((hz.set 0 _).set 1 _), ⟨hg.os, hg.tape, hg.output, by simpa using hg.size, fun k hk hn => ?_⟩, rowIs_set3A hz _ _ _, fun R p hR hr => rd_same hr (by simp) (fun k hk => ?_)⟩
  · rw [Below.heap_setCell _ _ _ _ (by simp; omega), Below.heap_setCell _ _ _ _ (by simp; omega), Below.heap_setCell _ _ _ _ (by simp; omega)]
    exact hg.block k hk hn
  · rw [Below.heap_setCell _ _ _ _ (by simp; omega), Below.heap_setCell _ _ _ _ (by simp; omega), Below.heap_setCell _ _ _ _ (by simp; omega)]
set_option maxHeartbeats 8000000 in
theorem specCopy_own (al : Int) (a1 : Option Addr) (n1 c1 : Nat) (a2 : Option Addr) (n2 c2 : Nat) (xss : List (List Int)) (bs : List Bool) (w : World) (h : MV w (.slice a1 n1 c1) xss) (hb : BV w (.slice a2 n2 c2) bs) (hx2 : xss.length ≤ 100) (hbl0 : bs.length ≤ 100) (hx4 : ∀ l ∈ xss, l.length ≤ 100) :
    Calls Try.prog 48 #[.agg #[.int .i64 al, .slice a1 n1 c1, .slice a2 n2 c2]] w (fun e w' => ∃ a3 n3 c3 a4 n4 c4 us, e = .returned (.agg #[.int .i64 al, .slice a3 n3 c3, .slice a4 n4 c4]) ∧ AX w.heap.size w' (.slice a3 n3 c3) (.slice a4 n4 c4) us xss bs ∧ Below w.heap.size w w') := by
  have hn1 := (SV.at h).1
  have hn2 := (SV.at hb).1
  have hmx := (SV.at h).2.2.1
  have hcp := (SV.at h).2.1
  unfold maxLen at hmx
  have hbl : bs.length ≤ 1000000 := by omega
  have H := Lib.hid h; clear h
  have HN1 := Lib.hid hn1; clear hn1
  have HN2 := Lib.hid hn2; clear hn2
  have HROWS := Lib.hid hx4; clear hx4
  go_enter Try.func48, Try.ntmps48
  go_wp2_with fail
  obtain ⟨w0, hw0⟩ : ∃ w0, w.alloc (.cells #[.int .i64 al, .slice a1 n1 c1, .slice a2 n2 c2] 28) = w0 := ⟨_, rfl⟩
  have hX0 : w0.rowIs w.heap.size 28 3 (fun i => #[.int .i64 al, .slice a1 n1 c1, .slice a2 n2 c2][i]?.getD undef) := by rw [← hw0]; exact own_cells w _ _ 3 rfl
  have hb00 : Below w.heap.size w w0 := by rw [← hw0]; exact below_newA _ _ _
  have hs0 : w0.heap.size = w.heap.size + 1 := by rw [← hw0]; simp
  rw [hw0]
  clear hw0
  obtain ⟨Z, hZ1⟩ : ∃ Z, w0.heap.size = Z := ⟨_, rfl⟩
  obtain ⟨w1, hw1⟩ : ∃ w1, w0.alloc (.cells #[.int .i64 0, .slice none 0 0, .slice none 0 0] 28) = w1 := ⟨_, rfl⟩
  have hb01 : Below w0.heap.size w0 w1 := by rw [← hw1]; exact below_newA _ _ _
  have hr1 := rowIs_below hX0 hb01
  have ho1 : zBox w1 Z := by rw [← hw1, ← hZ1]; exact own_cells w0 _ _ 3 rfl
  have hs1 : w1.heap.size = Z + 1 := by rw [← hw1, ← hZ1]; simp
  have hb1 : Below w.heap.size w w1 := hb00.trans (hb01.mono (by omega))
  rw [hw1]
  clear hw1
  have HR1 := Lib.hid hr1
  have HO1 := Lib.hid ho1
  have HB1 := Lib.hid hb1
  have HBV := Lib.hid (BV.below hb hb1)
  have HX0 := Lib.hid hX0
  have HB0 := Lib.hid hb00
  clear hr1 ho1 hb1 hb hX0 hb00
  have HSW := Lib.hid (fun (w' : World) (hb : Below w1.heap.size w1 w') => (show w'.cell? ⟨w.heap.size, 0, none⟩ = some (.int .i64 al) ∧ w'.cell? ⟨w.heap.size, 2, none⟩ = some (.slice a2 n2 c2) from ⟨(rowIs_below HR1.out hb).cell (by decide), (rowIs_below HR1.out hb).cell (by decide)⟩))
  have HBE := Lib.hid (show Below w1.heap.size w1 (w1.alloc (.cells #[] 4)).drew from ((Below.refl w1.heap.size w1).alloc (Nat.le_refl _) _).drew)
  have HOE := Lib.hid (show TRow w1.heap.size (w1.alloc (.cells #[] 4)).drew (.slice (some ⟨Z + 1, 0, none⟩) 0 0) [] from hs1 ▸ trow_empty w1.heap.size w1 (Nat.le_refl _))
  have hZ2 : w.heap.size + 1 = Z := by omega
  rw [hZ2]
  go_cut [3] from 5 to 12 (fun s3 wc => ∃ (S : Nat) (ao : Option Addr) (cc : Nat), s3 = .pointer (some ⟨S, 0, none⟩) ∧ AQ none Z S al w0 wc (.slice none 0 0) (.slice ao n2 cc) [] [] bs)
  case first =>
    refine wp_region_held_drew (S := fun w' => w'.cell? ⟨w.heap.size, 0, none⟩ = some (.int .i64 al) ∧ w'.cell? ⟨w.heap.size, 2, none⟩ = some (.slice a2 n2 c2)) (by kernel_rfl) (HSW.out _ (Below.refl _ _).drew) (fun hHeld => ?_)
    first | (refine wpAnyH_take (i := 0) (get_of_drop rfl) (by kernel_rfl) (by kernel_rfl) (by kernel_rfl) (fun _ _ _ h => h) (Or.inr ⟨?_, rfl⟩) hHeld ?_; (focus (simp [Region.wanted, yielded, undef]; done)); (try simp only [Act.put, List.setIfInBounds_toArray, List.set_cons_zero, List.set_cons_succ])) | (refine wpAnyH_take (i := 0) (v := ?_) (get_of_drop rfl) (by kernel_rfl) (by kernel_rfl) (by kernel_rfl) (fun _ _ _ h => h) (Or.inl ⟨?_, ?_⟩) hHeld ?_; rotate_left; (focus rfl); (focus (intro w hSw; (try dsimp only at hSw); go_simp; (try (with_reducible rfl)))); (try simp only [Act.put, List.setIfInBounds_toArray, List.set_cons_zero, List.set_cons_succ]))
    first | (refine wpAnyH_take (i := 1) (get_of_drop rfl) (by kernel_rfl) (by kernel_rfl) (by kernel_rfl) (fun _ _ _ h => h) (Or.inr ⟨?_, rfl⟩) hHeld ?_; (focus (simp [Region.wanted, yielded, undef]; done)); (try simp only [Act.put, List.setIfInBounds_toArray, List.set_cons_zero, List.set_cons_succ])) | (refine wpAnyH_take (i := 1) (v := ?_) (get_of_drop rfl) (by kernel_rfl) (by kernel_rfl) (by kernel_rfl) (fun _ _ _ h => h) (Or.inl ⟨?_, ?_⟩) hHeld ?_; rotate_left; (focus rfl); (focus (intro w hSw; (try dsimp only at hSw); go_simp; (try (with_reducible rfl)))); (try simp only [Act.put, List.setIfInBounds_toArray, List.set_cons_zero, List.set_cons_succ]))
    first | (refine wpAnyH_take (i := 3) (get_of_drop rfl) (by kernel_rfl) (by kernel_rfl) (by kernel_rfl) (fun _ _ _ h => h) (Or.inr ⟨?_, rfl⟩) hHeld ?_; (focus (simp [Region.wanted, yielded, undef]; done)); (try simp only [Act.put, List.setIfInBounds_toArray, List.set_cons_zero, List.set_cons_succ])) | (refine wpAnyH_take (i := 3) (v := ?_) (get_of_drop rfl) (by kernel_rfl) (by kernel_rfl) (by kernel_rfl) (fun _ _ _ h => h) (Or.inl ⟨?_, ?_⟩) hHeld ?_; rotate_left; (focus rfl); (focus (intro w hSw; (try dsimp only at hSw); go_simp; (try (with_reducible rfl)))); (try simp only [Act.put, List.setIfInBounds_toArray, List.set_cons_zero, List.set_cons_succ]))
    first | (refine wpAnyH_take (i := 4) (get_of_drop rfl) (by kernel_rfl) (by kernel_rfl) (by kernel_rfl) (fun _ _ _ h => h) (Or.inr ⟨?_, rfl⟩) hHeld ?_; (focus (simp [Region.wanted, yielded, undef]; done)); (try simp only [Act.put, List.setIfInBounds_toArray, List.set_cons_zero, List.set_cons_succ])) | (refine wpAnyH_take (i := 4) (v := ?_) (get_of_drop rfl) (by kernel_rfl) (by kernel_rfl) (by kernel_rfl) (fun _ _ _ h => h) (Or.inl ⟨?_, ?_⟩) hHeld ?_; rotate_left; (focus rfl); (focus (intro w hSw; (try dsimp only at hSw); go_simp; (try (with_reducible rfl)))); (try simp only [Act.put, List.setIfInBounds_toArray, List.set_cons_zero, List.set_cons_succ]))
    refine wpAnyH_ready (rs := [2, 7]) (by kernel_rfl) (by simp) ?_
    refine AllReadyH.cons (get_of_drop rfl) (fun K hK => ?_) ?_
    · go_simp
      refine hK.out _ _ (HSW.out _ HBE.out) (fun hHeld => ?_)
      clear hK K
      try simp only [Act.put, List.setIfInBounds_toArray, List.set_cons_zero, List.set_cons_succ]
      refine wpAnyH_ready (rs := [5, 7]) (by kernel_rfl) (by simp) ?_
      refine AllReadyH.cons (get_of_drop rfl) (fun K hK => ?_) ?_
      · rw [if_pos (by rfl)]
        refine wp_app_bv _ bs w1.heap.size (Z + 1) _ _ rfl rfl HOE.out a2 n2 c2 rfl (BV.below HBV.out HBE.out) (by omega) (HBE.out).size ?_
        intro ao' cap' w9 hown' hkept
        have hb9 := hkept.1 w1 HBE.out
        refine hK.out _ _ (HSW.out _ hb9) (fun hHeld => ?_)
        clear hK K
        try simp only [Act.put, List.setIfInBounds_toArray, List.set_cons_zero, List.set_cons_succ]
        first | (refine wpAnyH_take (i := 6) (get_of_drop rfl) (by kernel_rfl) (by kernel_rfl) (by kernel_rfl) (fun _ _ _ h => h) (Or.inr ⟨?_, rfl⟩) hHeld ?_; (focus (simp [Region.wanted, yielded, undef]; done)); (try simp only [Act.put, List.setIfInBounds_toArray, List.set_cons_zero, List.set_cons_succ])) | (refine wpAnyH_take (i := 6) (v := ?_) (get_of_drop rfl) (by kernel_rfl) (by kernel_rfl) (by kernel_rfl) (fun _ _ _ h => h) (Or.inl ⟨?_, ?_⟩) hHeld ?_; rotate_left; (focus rfl); (focus (intro w hSw; (try dsimp only at hSw); go_simp; (try (with_reducible rfl)))); (try simp only [Act.put, List.setIfInBounds_toArray, List.set_cons_zero, List.set_cons_succ]))
        obtain ⟨S, hS⟩ : ∃ S, (w9).heap.size = S := ⟨_, rfl⟩
        obtain ⟨w6, hwS⟩ : ∃ w6, ((w9).alloc (.cells #[.int .i64 0, .slice none 0 0, .slice none 0 0] 28)) = w6 := ⟨_, rfl⟩
        have hb6 := below_new (w9) 28 #[.int .i64 0, .slice none 0 0, .slice none 0 0]
        have hr6 := own_cells (w9) #[.int .i64 0, .slice none 0 0, .slice none 0 0] 28 3 rfl
        rw [hS] at hr6
        rw [hwS] at hb6 hr6
        have hbL6 := hb9.trans (hb6.mono hb9.size)
        have hown6 := hown'.below hb6
        have hSw : w1.heap.size ≤ S := by have := hb9.size; omega
        have s0 : w6.cell? ⟨S, 0, none⟩ = some (.int .i64 0) := (hr6).cell (by decide)
        have s1 : w6.cell? ⟨S, 1, none⟩ = some (.slice none 0 0) := (hr6).cell (by decide)
        have s2 : w6.cell? ⟨S, 2, none⟩ = some (.slice none 0 0) := (hr6).cell (by decide)
        have sf0 := (hr6).frozen 0
        have sf1 := (hr6).frozen 1
        have sf2 := (hr6).frozen 2
        refine wpAnyH_ready (rs := [7]) (by kernel_rfl) (by simp) ?_
        refine AllReadyH.cons (get_of_drop rfl) (fun K hK => ?_) AllReadyH.nil
        go_simp
        refine hK.out _ _ (HSW.out _ hbL6) (fun hHeld => ?_)
        clear hK K
        try simp only [Act.put, List.setIfInBounds_toArray, List.set_cons_zero, List.set_cons_succ]
        have HD := Lib.hid (mkS (al := al) hb01 hZ1 hs1 HO1.out hbL6 hr6 hSw hown6)
        clear hown' hkept
        refine wpAnyH_ready (rs := [8]) (by kernel_rfl) (by simp) ?_
        refine AllReadyH.cons (get_of_drop rfl) (fun K hK => ?_) AllReadyH.nil
        go_simp
        refine hK.out _ _ (HSW.out _ HD.out.1) (fun hHeld => ?_)
        clear hK K
        try simp only [Act.put, List.setIfInBounds_toArray, List.set_cons_zero, List.set_cons_succ]
        refine wpAnyH_done (by kernel_rfl) ?_ _
        go_wp2_with fail
        go_meet
        case rel => exact ⟨S, ao', cap', rfl, HD.out.2⟩
      · refine AllReadyH.cons (get_of_drop rfl) (fun K hK => ?_) AllReadyH.nil
        obtain ⟨S, hS⟩ : ∃ S, ((w1.alloc (.cells #[] 4)).drew).heap.size = S := ⟨_, rfl⟩
        obtain ⟨wS, hwS⟩ : ∃ wS, (((w1.alloc (.cells #[] 4)).drew).alloc (.cells #[.int .i64 0, .slice none 0 0, .slice none 0 0] 28)) = wS := ⟨_, rfl⟩
        have hb6 := below_new ((w1.alloc (.cells #[] 4)).drew) 28 #[.int .i64 0, .slice none 0 0, .slice none 0 0]
        have hr6 := own_cells ((w1.alloc (.cells #[] 4)).drew) #[.int .i64 0, .slice none 0 0, .slice none 0 0] 28 3 rfl
        rw [hS] at hr6
        rw [hwS] at hb6 hr6
        have hbS := HBE.out.trans (hb6.mono HBE.out.size)
        have hSw : w1.heap.size ≤ S := by have := HBE.out.size; omega
        go_simp
        refine hK.out _ _ (HSW.out _ hbS) (fun hHeld => ?_)
        clear hK K
        try simp only [Act.put, List.setIfInBounds_toArray, List.set_cons_zero, List.set_cons_succ]
        refine wpAnyH_ready (rs := [5]) (by kernel_rfl) (by simp) ?_
        refine AllReadyH.cons (get_of_drop rfl) (fun K hK => ?_) AllReadyH.nil
        rw [if_pos (by rfl)]
        refine wp_app_bv wS bs w1.heap.size (Z + 1) _ _ rfl rfl (HOE.out.below hb6) a2 n2 c2 rfl (BV.below HBV.out hbS) (by omega) (hbS).size ?_
        intro ao' cap' w9 hown' hkept
        have hb9 := hkept.1 w1 hbS
        refine hK.out _ _ (HSW.out _ hb9) (fun hHeld => ?_)
        clear hK K
        try simp only [Act.put, List.setIfInBounds_toArray, List.set_cons_zero, List.set_cons_succ]
        have hr5 := hr6.of_block (hkept.2.block S (World.rowIs.lt hr6) (fun e => trow_ne (HOE.out.below hb6) hr6 e.symm))
        have s0 : w9.cell? ⟨S, 0, none⟩ = some (.int .i64 0) := (hr5).cell (by decide)
        have s1 : w9.cell? ⟨S, 1, none⟩ = some (.slice none 0 0) := (hr5).cell (by decide)
        have s2 : w9.cell? ⟨S, 2, none⟩ = some (.slice none 0 0) := (hr5).cell (by decide)
        have sf0 := (hr5).frozen 0
        have sf1 := (hr5).frozen 1
        have sf2 := (hr5).frozen 2
        first | (refine wpAnyH_take (i := 6) (get_of_drop rfl) (by kernel_rfl) (by kernel_rfl) (by kernel_rfl) (fun _ _ _ h => h) (Or.inr ⟨?_, rfl⟩) hHeld ?_; (focus (simp [Region.wanted, yielded, undef]; done)); (try simp only [Act.put, List.setIfInBounds_toArray, List.set_cons_zero, List.set_cons_succ])) | (refine wpAnyH_take (i := 6) (v := ?_) (get_of_drop rfl) (by kernel_rfl) (by kernel_rfl) (by kernel_rfl) (fun _ _ _ h => h) (Or.inl ⟨?_, ?_⟩) hHeld ?_; rotate_left; (focus rfl); (focus (intro w hSw; (try dsimp only at hSw); go_simp; (try (with_reducible rfl)))); (try simp only [Act.put, List.setIfInBounds_toArray, List.set_cons_zero, List.set_cons_succ]))
        have HD := Lib.hid (mkS (al := al) hb01 hZ1 hs1 HO1.out hb9 hr5 hSw hown')
        clear hown' hkept
        refine wpAnyH_ready (rs := [8]) (by kernel_rfl) (by simp) ?_
        refine AllReadyH.cons (get_of_drop rfl) (fun K hK => ?_) AllReadyH.nil
        go_simp
        refine hK.out _ _ (HSW.out _ HD.out.1) (fun hHeld => ?_)
        clear hK K
        try simp only [Act.put, List.setIfInBounds_toArray, List.set_cons_zero, List.set_cons_succ]
        refine wpAnyH_done (by kernel_rfl) ?_ _
        go_wp2_with fail
        go_meet
        case rel => exact ⟨S, ao', cap', rfl, HD.out.2⟩
    · refine AllReadyH.cons (get_of_drop rfl) (fun K hK => ?_) AllReadyH.nil
      obtain ⟨S, hS⟩ : ∃ S, (w1.drew).heap.size = S := ⟨_, rfl⟩
      obtain ⟨wS, hwS⟩ : ∃ wS, ((w1.drew).alloc (.cells #[.int .i64 0, .slice none 0 0, .slice none 0 0] 28)) = wS := ⟨_, rfl⟩
      have hb6 := below_new (w1.drew) 28 #[.int .i64 0, .slice none 0 0, .slice none 0 0]
      have hr6 := own_cells (w1.drew) #[.int .i64 0, .slice none 0 0, .slice none 0 0] 28 3 rfl
      rw [hS] at hr6
      rw [hwS] at hb6 hr6
      have hbS : Below w1.heap.size w1 wS := ((Below.refl w1.heap.size w1).drew).trans hb6
      have hSw : w1.heap.size ≤ S := by have h : w1.drew.heap.size = w1.heap.size := rfl; omega
      go_simp
      refine hK.out _ _ (HSW.out _ hbS) (fun hHeld => ?_)
      clear hK K
      try simp only [Act.put, List.setIfInBounds_toArray, List.set_cons_zero, List.set_cons_succ]
      refine wpAnyH_ready (rs := [2]) (by kernel_rfl) (by simp) ?_
      refine AllReadyH.cons (get_of_drop rfl) (fun K hK => ?_) AllReadyH.nil
      obtain ⟨q, hq⟩ : ∃ q, wS.heap.size = q := ⟨_, rfl⟩
      obtain ⟨wE, hwE⟩ : ∃ wE, (wS.alloc (.cells #[] 4)) = wE := ⟨_, rfl⟩
      have hbE := below_new wS 4 #[]
      have hoE := trow_empty w1.heap.size wS hbS.size
      rw [hq] at hoE
      rw [hwE] at hbE hoE
      have hrE := rowIs_below hr6 hbE
      have hbLE := hbS.trans (hbE.mono hbS.size)
      go_simp
      refine hK.out _ _ (HSW.out _ hbLE) (fun hHeld => ?_)
      clear hK K
      try simp only [Act.put, List.setIfInBounds_toArray, List.set_cons_zero, List.set_cons_succ]
      refine wpAnyH_ready (rs := [5]) (by kernel_rfl) (by simp) ?_
      refine AllReadyH.cons (get_of_drop rfl) (fun K hK => ?_) AllReadyH.nil
      rw [if_pos (by rfl)]
      refine wp_app_bv wE bs w1.heap.size (q) _ _ rfl rfl hoE a2 n2 c2 rfl (BV.below HBV.out hbLE) (by omega) (hbLE).size ?_
      intro ao' cap' w9 hown' hkept
      have hb9 := hkept.1 w1 hbLE
      refine hK.out _ _ (HSW.out _ hb9) (fun hHeld => ?_)
      clear hK K
      try simp only [Act.put, List.setIfInBounds_toArray, List.set_cons_zero, List.set_cons_succ]
      have hr5 := hrE.of_block (hkept.2.block S (World.rowIs.lt hrE) (fun e => trow_ne hoE hrE e.symm))
      have s0 : w9.cell? ⟨S, 0, none⟩ = some (.int .i64 0) := (hr5).cell (by decide)
      have s1 : w9.cell? ⟨S, 1, none⟩ = some (.slice none 0 0) := (hr5).cell (by decide)
      have s2 : w9.cell? ⟨S, 2, none⟩ = some (.slice none 0 0) := (hr5).cell (by decide)
      have sf0 := (hr5).frozen 0
      have sf1 := (hr5).frozen 1
      have sf2 := (hr5).frozen 2
      first | (refine wpAnyH_take (i := 6) (get_of_drop rfl) (by kernel_rfl) (by kernel_rfl) (by kernel_rfl) (fun _ _ _ h => h) (Or.inr ⟨?_, rfl⟩) hHeld ?_; (focus (simp [Region.wanted, yielded, undef]; done)); (try simp only [Act.put, List.setIfInBounds_toArray, List.set_cons_zero, List.set_cons_succ])) | (refine wpAnyH_take (i := 6) (v := ?_) (get_of_drop rfl) (by kernel_rfl) (by kernel_rfl) (by kernel_rfl) (fun _ _ _ h => h) (Or.inl ⟨?_, ?_⟩) hHeld ?_; rotate_left; (focus rfl); (focus (intro w hSw; (try dsimp only at hSw); go_simp; (try (with_reducible rfl)))); (try simp only [Act.put, List.setIfInBounds_toArray, List.set_cons_zero, List.set_cons_succ]))
      have HD := Lib.hid (mkS (al := al) hb01 hZ1 hs1 HO1.out hb9 hr5 hSw hown')
      clear hown' hkept
      refine wpAnyH_ready (rs := [8]) (by kernel_rfl) (by simp) ?_
      refine AllReadyH.cons (get_of_drop rfl) (fun K hK => ?_) AllReadyH.nil
      go_simp
      refine hK.out _ _ (HSW.out _ HD.out.1) (fun hHeld => ?_)
      clear hK K
      try simp only [Act.put, List.setIfInBounds_toArray, List.set_cons_zero, List.set_cons_succ]
      refine wpAnyH_done (by kernel_rfl) ?_ _
      go_wp2_with fail
      go_meet
      case rel => exact ⟨S, ao', cap', rfl, HD.out.2⟩
  case rest =>
    obtain ⟨S, ao, cc, rfl, haq⟩ := hcut
    have p1 : wc.cell? ⟨w.heap.size, 1, none⟩ = some (.slice a1 n1 c1) := (HX0.out.of_block ((aq_bel haq).block _ (by omega))).cell (by decide)
    have HAQ := Lib.hid haq
    have HMV := Lib.hid (MV.below H.out (HB0.out.trans ((aq_bel haq).mono (by omega))))
    clear haq HSW HBE HOE HBV
    go_wp2_with fail
    go_loopw [4] (fun i wr => ∃ (k : Nat) (v1 : Value) (us : List Value), k ≤ n1 ∧ us.length = k ∧ i = .int .i64 k ∧ AQ none Z S al w0 wr v1 (.slice ao n2 cc) us (xss.take k) bs) (fun i _ => n1 - (intOf i).toNat)
    case atStart => exact ⟨0, .slice none 0 0, [], by omega, rfl, rfl, HAQ.out⟩
    case round =>
      clear HAQ
      obtain ⟨k, v1, us, hk, hus, rfl, haq⟩ := hrel
      have hRr := HX0.out.of_block ((aq_bel haq).block _ (by omega))
      have a1' : wr.cell? ⟨w.heap.size, 1, none⟩ = some (.slice a1 n1 c1) := hRr.cell (by decide)
      by_cases hlt : k < n1
      · have hbelr : Below w.heap.size w wr := HB0.out.trans ((aq_bel haq).mono (by omega))
        obtain ⟨br, ofr, rfl, hbr, u, hcr, hiv⟩ : ∃ b off, a1 = some ⟨b, off, none⟩ ∧ b < w.heap.size ∧ ∃ u, w.cell? ⟨b, off + k, none⟩ = some u ∧ IV w u (xss[k]?.getD []) := by
          rcases (SV.at H.out).2.2.2 with h0 | ⟨b, off, rfl, hb, hc⟩
          · omega
          · obtain ⟨u, hu, hv⟩ := hc k hlt
            exact ⟨b, off, rfl, hb, u, hu, hv⟩
        obtain ⟨ar, m3, c3, rfl⟩ : ∃ a n c, u = .slice a n c := by obtain ⟨a, c, e, -⟩ := hiv; exact ⟨a, _, c, e⟩
        have hmx3 : m3 = (xss[k]?.getD []).length := (SV.at hiv).1
        have e1 : wr.cell? ⟨br, ofr + k, none⟩ = some (.slice ar m3 c3) := by rw [cell_below hbelr hbr]; exact hcr
        have o1 : wr.cell? ⟨S, 1, none⟩ = some v1 := haq.cells.2.1
        have hkx : k < xss.length := by rw [← HN1.out]; exact hlt
        have HAQ := Lib.hid haq
        have HIV := Lib.hid (IV.below hiv hbelr)
        have HE1 := Lib.hid e1
        have HO1' := Lib.hid o1
        have hbrZ : br < Z := by omega
        have hSlt : S < wr.heap.size := World.rowIs.lt haq.2.2.2.1
        have hul : us.length ≤ 1000000 := by omega
        have HUS := Lib.hid hus; clear hus
        obtain ⟨x, hx⟩ : ∃ x, xss[k]?.getD [] = x := ⟨_, rfl⟩
        have hx48 : x.length ≤ 1000000 := by
          have := HROWS.out _ (List.getElem_mem hkx)
          rw [← hx, List.getElem?_eq_getElem hkx, Option.getD_some]
          omega
        rw [hx] at hmx3 HIV
        have HX := Lib.hid hx; clear hx
        have HMX := Lib.hid hmx3; clear hmx3
        have HSX := Lib.hid (fun (w' : World) (hb : Below Z w0 w') => (show w'.cell? ⟨w.heap.size, 1, none⟩ = some (.slice (some ⟨br, ofr, none⟩) n1 c1) ∧ w'.cell? ⟨br, ofr + k, none⟩ = some (.slice ar m3 c3) from ⟨(HX0.out.of_block (hb.block _ (by omega))).cell (by decide), by rw [World.cell?_of_block (w := wr) (w' := w') (a := ⟨br, ofr + k, none⟩) ((hb.block br hbrZ).trans ((aq_bel HAQ.out).block br hbrZ).symm)]; exact HE1.out⟩))
        have HSB := Lib.hid (fun (w' : World) (hb : Below wr.heap.size wr w') => HSX.out w' ((aq_bel HAQ.out).trans (hb.mono HAQ.out.low)))
        have HOB := Lib.hid (fun (w' : World) (hb : Below wr.heap.size wr w') => (show w'.cell? ⟨S, 1, none⟩ = some v1 from by rw [cell_below hb hSlt]; exact HO1'.out))
        have hki : (k : Int) < (n1 : Int) := by omega
        clear hcr haq hbelr hiv hRr
        go_wp2_with fail
        refine wp_region_held_drew (S := fun w' => w'.cell? ⟨w.heap.size, 1, none⟩ = some (.slice (some ⟨br, ofr, none⟩) n1 c1) ∧ w'.cell? ⟨br, ofr + k, none⟩ = some (.slice ar m3 c3)) (by kernel_rfl) (HSB.out _ (Below.refl _ _).drew) (fun hHeld => ?_)
        first | (refine wpAnyH_take (i := 0) (get_of_drop rfl) (by kernel_rfl) (by kernel_rfl) (by kernel_rfl) (fun _ _ _ h => h) (Or.inr ⟨?_, rfl⟩) hHeld ?_; (focus (simp [Region.wanted, yielded, undef]; done)); (try simp only [Act.put, List.setIfInBounds_toArray, List.set_cons_zero, List.set_cons_succ])) | (refine wpAnyH_take (i := 0) (v := ?_) (get_of_drop rfl) (by kernel_rfl) (by kernel_rfl) (by kernel_rfl) (fun _ _ _ h => h) (Or.inl ⟨?_, ?_⟩) hHeld ?_; rotate_left; (focus rfl); (focus (intro w hSw; (try dsimp only at hSw); go_simp; (try (with_reducible rfl)))); (try simp only [Act.put, List.setIfInBounds_toArray, List.set_cons_zero, List.set_cons_succ]))
        first | (refine wpAnyH_take (i := 3) (get_of_drop rfl) (by kernel_rfl) (by kernel_rfl) (by kernel_rfl) (fun _ _ _ h => h) (Or.inr ⟨?_, rfl⟩) hHeld ?_; (focus (simp [Region.wanted, yielded, undef]; done)); (try simp only [Act.put, List.setIfInBounds_toArray, List.set_cons_zero, List.set_cons_succ])) | (refine wpAnyH_take (i := 3) (v := ?_) (get_of_drop rfl) (by kernel_rfl) (by kernel_rfl) (by kernel_rfl) (fun _ _ _ h => h) (Or.inl ⟨?_, ?_⟩) hHeld ?_; rotate_left; (focus rfl); (focus (intro w hSw; (try dsimp only at hSw); go_simp; (try (with_reducible rfl)))); (try simp only [Act.put, List.setIfInBounds_toArray, List.set_cons_zero, List.set_cons_succ]))
        first | (refine wpAnyH_take (i := 4) (get_of_drop rfl) (by kernel_rfl) (by kernel_rfl) (by kernel_rfl) (fun _ _ _ h => h) (Or.inr ⟨?_, rfl⟩) hHeld ?_; (focus (simp [Region.wanted, yielded, undef]; done)); (try simp only [Act.put, List.setIfInBounds_toArray, List.set_cons_zero, List.set_cons_succ])) | (refine wpAnyH_take (i := 4) (v := ?_) (get_of_drop rfl) (by kernel_rfl) (by kernel_rfl) (by kernel_rfl) (fun _ _ _ h => h) (Or.inl ⟨?_, ?_⟩) hHeld ?_; rotate_left; (focus rfl); (focus (intro w hSw; (try dsimp only at hSw); go_simp; (try (with_reducible rfl)))); (try simp only [Act.put, List.setIfInBounds_toArray, List.set_cons_zero, List.set_cons_succ]))
        first | (refine wpAnyH_take (i := 5) (get_of_drop rfl) (by kernel_rfl) (by kernel_rfl) (by kernel_rfl) (fun _ _ _ h => h) (Or.inr ⟨?_, rfl⟩) hHeld ?_; (focus (simp [Region.wanted, yielded, undef]; done)); (try simp only [Act.put, List.setIfInBounds_toArray, List.set_cons_zero, List.set_cons_succ])) | (refine wpAnyH_take (i := 5) (v := ?_) (get_of_drop rfl) (by kernel_rfl) (by kernel_rfl) (by kernel_rfl) (fun _ _ _ h => h) (Or.inl ⟨?_, ?_⟩) hHeld ?_; rotate_left; (focus rfl); (focus (intro w hSw; (try dsimp only at hSw); go_simp; (try (with_reducible rfl)))); (try simp only [Act.put, List.setIfInBounds_toArray, List.set_cons_zero, List.set_cons_succ]))
        first | (refine wpAnyH_take (i := 6) (get_of_drop rfl) (by kernel_rfl) (by kernel_rfl) (by kernel_rfl) (fun _ _ _ h => h) (Or.inr ⟨?_, rfl⟩) hHeld ?_; (focus (simp [Region.wanted, yielded, undef]; done)); (try simp only [Act.put, List.setIfInBounds_toArray, List.set_cons_zero, List.set_cons_succ])) | (refine wpAnyH_take (i := 6) (v := ?_) (get_of_drop rfl) (by kernel_rfl) (by kernel_rfl) (by kernel_rfl) (fun _ _ _ h => h) (Or.inl ⟨?_, ?_⟩) hHeld ?_; rotate_left; (focus rfl); (focus (intro w hSw; (try dsimp only at hSw); go_simp; (try (with_reducible rfl)))); (try simp only [Act.put, List.setIfInBounds_toArray, List.set_cons_zero, List.set_cons_succ]))
        first | (refine wpAnyH_take (i := 7) (get_of_drop rfl) (by kernel_rfl) (by kernel_rfl) (by kernel_rfl) (fun _ _ _ h => h) (Or.inr ⟨?_, rfl⟩) hHeld ?_; (focus (simp [Region.wanted, yielded, undef]; done)); (try simp only [Act.put, List.setIfInBounds_toArray, List.set_cons_zero, List.set_cons_succ])) | (refine wpAnyH_take (i := 7) (v := ?_) (get_of_drop rfl) (by kernel_rfl) (by kernel_rfl) (by kernel_rfl) (fun _ _ _ h => h) (Or.inl ⟨?_, ?_⟩) hHeld ?_; rotate_left; (focus rfl); (focus (intro w hSw; (try dsimp only at hSw); go_simp; (try (with_reducible rfl)))); (try simp only [Act.put, List.setIfInBounds_toArray, List.set_cons_zero, List.set_cons_succ]))
        have o1d : wr.drew.cell? ⟨S, 1, none⟩ = some v1 := HO1'.out
        have HBE := Lib.hid (show Below wr.heap.size wr (wr.alloc (.cells #[] 3)).drew from ((Below.refl wr.heap.size wr).alloc (Nat.le_refl _) _).drew)
        have HOE := Lib.hid (show IRow wr.heap.size (wr.alloc (.cells #[] 3)).drew (.slice (some ⟨wr.heap.size, 0, none⟩) 0 0) [] from IRow.empty wr.heap.size wr (Nat.le_refl _))
        have o1e : (wr.alloc (.cells #[] 3)).drew.cell? ⟨S, 1, none⟩ = some v1 := HOB.out _ HBE.out
        refine wpAnyH_ready (rs := [1, 2]) (by kernel_rfl) (by simp) ?_
        refine AllReadyH.cons (get_of_drop rfl) (fun K hK => ?_) ?_
        · go_simp
          refine hK.out _ _ (HSB.out _ (Below.refl _ _).drew) (fun hHeld => ?_)
          clear hK K
          try simp only [Act.put, List.setIfInBounds_toArray, List.set_cons_zero, List.set_cons_succ]
          refine wpAnyH_ready (rs := [2]) (by kernel_rfl) (by simp) ?_
          refine AllReadyH.cons (get_of_drop rfl) (fun K hK => ?_) AllReadyH.nil
          go_simp
          refine hK.out _ _ (HSB.out _ HBE.out) (fun hHeld => ?_)
          clear hK K
          try simp only [Act.put, List.setIfInBounds_toArray, List.set_cons_zero, List.set_cons_succ]
          refine wpAnyH_ready (rs := [8]) (by kernel_rfl) (by simp) ?_
          refine AllReadyH.cons (get_of_drop rfl) (fun K hK => ?_) AllReadyH.nil
          rw [if_pos (by rfl)]
          refine wp_app_iv _ x wr.heap.size wr.heap.size _ _ rfl rfl HOE.out ar m3 c3 rfl (IV.below HIV.out HBE.out) hx48 HBE.out.size ?_
          intro ax cx w9 hown hkept
          have hb9 := hkept.1 wr HBE.out
          clear hkept
          refine hK.out _ _ (HSB.out _ hb9) (fun hHeld => ?_)
          clear hK K
          try simp only [Act.put, List.setIfInBounds_toArray, List.set_cons_zero, List.set_cons_succ]
          refine wpAnyH_ready (rs := [9]) (by kernel_rfl) (by simp) ?_
          refine AllReadyH.cons (get_of_drop rfl) (fun K hK => ?_) AllReadyH.nil
          go_simp
          refine hK.out _ _ (HSB.out _ (hb9.alloc hb9.size _)) (fun hHeld => ?_)
          clear hK K
          try simp only [Act.put, List.setIfInBounds_toArray, List.set_cons_zero, List.set_cons_succ]
          refine wpAnyH_ready (rs := [10]) (by kernel_rfl) (by simp) ?_
          refine AllReadyH.cons (get_of_drop rfl) (fun K hK => ?_) AllReadyH.nil
          rw [if_pos (by rfl)]
          have hq9 := HAQ.out.below hb9
          have hun : w9.ownsRow Z 44 1 v1 us.length (us.map id) := by rw [List.map_id]; exact hq9.1.1.1
          have HQ9 := Lib.hid hq9
          have HUN := Lib.hid hun; clear hun
          have HROW := Lib.hid (hown.base HAQ.out.low)
          have HRLO := Lib.hid (fun g hg => (World.ownsRow.lt hown g hg).1)
          clear hq9
          refine appK_rows w9 Z rfl _ _ rfl (.slice ax m3 cx) rfl v1 us rfl HUN.out rfl hul HQ9.out.low ?_
          intro ao1 m1 cap1 w8 hm1 hown8 hkept8
          subst hm1
          have hB8 : Below Z w0 w8 := hkept8.1 w0 (aq_bel HQ9.out)
          refine hK.out _ _ (HSX.out _ hB8) (fun hHeld => ?_)
          clear hK K
          try simp only [Act.put, List.setIfInBounds_toArray, List.set_cons_zero, List.set_cons_succ]
          first | (refine wpAnyH_take (i := 11) (get_of_drop rfl) (by kernel_rfl) (by kernel_rfl) (by kernel_rfl) (fun _ _ _ h => h) (Or.inr ⟨?_, rfl⟩) hHeld ?_; (focus (simp [Region.wanted, yielded, undef]; done)); (try simp only [Act.put, List.setIfInBounds_toArray, List.set_cons_zero, List.set_cons_succ])) | (refine wpAnyH_take (i := 11) (v := ?_) (get_of_drop rfl) (by kernel_rfl) (by kernel_rfl) (by kernel_rfl) (fun _ _ _ h => h) (Or.inl ⟨?_, ?_⟩) hHeld ?_; rotate_left; (focus rfl); (focus (intro w hSw; (try dsimp only at hSw); go_simp; (try (with_reducible rfl)))); (try simp only [Act.put, List.setIfInBounds_toArray, List.set_cons_zero, List.set_cons_succ]))
          refine wpAnyH_ready (rs := [12]) (by kernel_rfl) (by simp) ?_
          refine AllReadyH.cons (get_of_drop rfl) (fun K hK => ?_) AllReadyH.nil
          have hs8 := HQ9.out.box1 hkept8
          have s1 : w8.cell? ⟨S, 1, none⟩ = some v1 := hs8.cell (by decide)
          have s2 := hs8.frozen 1
          have HD8 := Lib.hid (HQ9.out.app1 (x := x) HROW.out HAQ.out.lt HRLO.out hkept8 (by simpa using hown8)).1
          clear hs8 hkept8 hown8 hown hb9
          go_simp
          refine hK.out _ _ (HSX.out _ (aq_bel HD8.out)) (fun hHeld => ?_)
          clear hK K
          try simp only [Act.put, List.setIfInBounds_toArray, List.set_cons_zero, List.set_cons_succ]
          refine wpAnyH_done (by kernel_rfl) ?_ _
          go_wp2
          go_roundw
          case rel => exact ⟨k + 1, _, us ++ [.slice ax m3 cx], by omega, by rw [List.length_append, HUS.out]; rfl, by go_num, by rw [take_more xss k x hkx HX.out]; exact HD8.out⟩
          case measure => simp [intOf] <;> omega
        · refine AllReadyH.cons (get_of_drop rfl) (fun K hK => ?_) AllReadyH.nil
          go_simp
          refine hK.out _ _ (HSB.out _ HBE.out) (fun hHeld => ?_)
          clear hK K
          try simp only [Act.put, List.setIfInBounds_toArray, List.set_cons_zero, List.set_cons_succ]
          refine wpAnyH_ready (rs := [1, 8]) (by kernel_rfl) (by simp) ?_
          refine AllReadyH.cons (get_of_drop rfl) (fun K hK => ?_) ?_
          · go_simp
            refine hK.out _ _ (HSB.out _ HBE.out) (fun hHeld => ?_)
            clear hK K
            try simp only [Act.put, List.setIfInBounds_toArray, List.set_cons_zero, List.set_cons_succ]
            refine wpAnyH_ready (rs := [8]) (by kernel_rfl) (by simp) ?_
            refine AllReadyH.cons (get_of_drop rfl) (fun K hK => ?_) AllReadyH.nil
            rw [if_pos (by rfl)]
            refine wp_app_iv _ x wr.heap.size wr.heap.size _ _ rfl rfl HOE.out ar m3 c3 rfl (IV.below HIV.out HBE.out) hx48 HBE.out.size ?_
            intro ax cx w9 hown hkept
            have hb9 := hkept.1 wr HBE.out
            clear hkept
            refine hK.out _ _ (HSB.out _ hb9) (fun hHeld => ?_)
            clear hK K
            try simp only [Act.put, List.setIfInBounds_toArray, List.set_cons_zero, List.set_cons_succ]
            refine wpAnyH_ready (rs := [9]) (by kernel_rfl) (by simp) ?_
            refine AllReadyH.cons (get_of_drop rfl) (fun K hK => ?_) AllReadyH.nil
            go_simp
            refine hK.out _ _ (HSB.out _ (hb9.alloc hb9.size _)) (fun hHeld => ?_)
            clear hK K
            try simp only [Act.put, List.setIfInBounds_toArray, List.set_cons_zero, List.set_cons_succ]
            refine wpAnyH_ready (rs := [10]) (by kernel_rfl) (by simp) ?_
            refine AllReadyH.cons (get_of_drop rfl) (fun K hK => ?_) AllReadyH.nil
            rw [if_pos (by rfl)]
            have hq9 := HAQ.out.below hb9
            have hun : w9.ownsRow Z 44 1 v1 us.length (us.map id) := by rw [List.map_id]; exact hq9.1.1.1
            have HQ9 := Lib.hid hq9
            have HUN := Lib.hid hun; clear hun
            have HROW := Lib.hid (hown.base HAQ.out.low)
            have HRLO := Lib.hid (fun g hg => (World.ownsRow.lt hown g hg).1)
            clear hq9
            refine appK_rows w9 Z rfl _ _ rfl (.slice ax m3 cx) rfl v1 us rfl HUN.out rfl hul HQ9.out.low ?_
            intro ao1 m1 cap1 w8 hm1 hown8 hkept8
            subst hm1
            have hB8 : Below Z w0 w8 := hkept8.1 w0 (aq_bel HQ9.out)
            refine hK.out _ _ (HSX.out _ hB8) (fun hHeld => ?_)
            clear hK K
            try simp only [Act.put, List.setIfInBounds_toArray, List.set_cons_zero, List.set_cons_succ]
            first | (refine wpAnyH_take (i := 11) (get_of_drop rfl) (by kernel_rfl) (by kernel_rfl) (by kernel_rfl) (fun _ _ _ h => h) (Or.inr ⟨?_, rfl⟩) hHeld ?_; (focus (simp [Region.wanted, yielded, undef]; done)); (try simp only [Act.put, List.setIfInBounds_toArray, List.set_cons_zero, List.set_cons_succ])) | (refine wpAnyH_take (i := 11) (v := ?_) (get_of_drop rfl) (by kernel_rfl) (by kernel_rfl) (by kernel_rfl) (fun _ _ _ h => h) (Or.inl ⟨?_, ?_⟩) hHeld ?_; rotate_left; (focus rfl); (focus (intro w hSw; (try dsimp only at hSw); go_simp; (try (with_reducible rfl)))); (try simp only [Act.put, List.setIfInBounds_toArray, List.set_cons_zero, List.set_cons_succ]))
            refine wpAnyH_ready (rs := [12]) (by kernel_rfl) (by simp) ?_
            refine AllReadyH.cons (get_of_drop rfl) (fun K hK => ?_) AllReadyH.nil
            have hs8 := HQ9.out.box1 hkept8
            have s1 : w8.cell? ⟨S, 1, none⟩ = some v1 := hs8.cell (by decide)
            have s2 := hs8.frozen 1
            have HD8 := Lib.hid (HQ9.out.app1 (x := x) HROW.out HAQ.out.lt HRLO.out hkept8 (by simpa using hown8)).1
            clear hs8 hkept8 hown8 hown hb9
            go_simp
            refine hK.out _ _ (HSX.out _ (aq_bel HD8.out)) (fun hHeld => ?_)
            clear hK K
            try simp only [Act.put, List.setIfInBounds_toArray, List.set_cons_zero, List.set_cons_succ]
            refine wpAnyH_done (by kernel_rfl) ?_ _
            go_wp2
            go_roundw
            case rel => exact ⟨k + 1, _, us ++ [.slice ax m3 cx], by omega, by rw [List.length_append, HUS.out]; rfl, by go_num, by rw [take_more xss k x hkx HX.out]; exact HD8.out⟩
            case measure => simp [intOf] <;> omega
          · refine AllReadyH.cons (get_of_drop rfl) (fun K hK => ?_) AllReadyH.nil
            rw [if_pos (by rfl)]
            refine wp_app_iv _ x wr.heap.size wr.heap.size _ _ rfl rfl HOE.out ar m3 c3 rfl (IV.below HIV.out HBE.out) hx48 HBE.out.size ?_
            intro ax cx w9 hown hkept
            have hb9 := hkept.1 wr HBE.out
            clear hkept
            refine hK.out _ _ (HSB.out _ hb9) (fun hHeld => ?_)
            clear hK K
            try simp only [Act.put, List.setIfInBounds_toArray, List.set_cons_zero, List.set_cons_succ]
            have o19 := HOB.out _ hb9
            have holt9 : S < w9.heap.size := Nat.lt_of_lt_of_le hSlt hb9.size
            have holtn : ¬ w9.heap.size = S := Nat.ne_of_gt holt9
            have holtm : ¬ S = w9.heap.size := Nat.ne_of_lt holt9
            refine wpAnyH_ready (rs := [1, 9]) (by kernel_rfl) (by simp) ?_
            refine AllReadyH.cons (get_of_drop rfl) (fun K hK => ?_) ?_
            · go_simp
              refine hK.out _ _ (HSB.out _ hb9) (fun hHeld => ?_)
              clear hK K
              try simp only [Act.put, List.setIfInBounds_toArray, List.set_cons_zero, List.set_cons_succ]
              refine wpAnyH_ready (rs := [9]) (by kernel_rfl) (by simp) ?_
              refine AllReadyH.cons (get_of_drop rfl) (fun K hK => ?_) AllReadyH.nil
              go_simp
              refine hK.out _ _ (HSB.out _ (hb9.alloc hb9.size _)) (fun hHeld => ?_)
              clear hK K
              try simp only [Act.put, List.setIfInBounds_toArray, List.set_cons_zero, List.set_cons_succ]
              refine wpAnyH_ready (rs := [10]) (by kernel_rfl) (by simp) ?_
              refine AllReadyH.cons (get_of_drop rfl) (fun K hK => ?_) AllReadyH.nil
              rw [if_pos (by rfl)]
              have hq9 := HAQ.out.below hb9
              have hun : w9.ownsRow Z 44 1 v1 us.length (us.map id) := by rw [List.map_id]; exact hq9.1.1.1
              have HQ9 := Lib.hid hq9
              have HUN := Lib.hid hun; clear hun
              have HROW := Lib.hid (hown.base HAQ.out.low)
              have HRLO := Lib.hid (fun g hg => (World.ownsRow.lt hown g hg).1)
              clear hq9
              refine appK_rows w9 Z rfl _ _ rfl (.slice ax m3 cx) rfl v1 us rfl HUN.out rfl hul HQ9.out.low ?_
              intro ao1 m1 cap1 w8 hm1 hown8 hkept8
              subst hm1
              have hB8 : Below Z w0 w8 := hkept8.1 w0 (aq_bel HQ9.out)
              refine hK.out _ _ (HSX.out _ hB8) (fun hHeld => ?_)
              clear hK K
              try simp only [Act.put, List.setIfInBounds_toArray, List.set_cons_zero, List.set_cons_succ]
              first | (refine wpAnyH_take (i := 11) (get_of_drop rfl) (by kernel_rfl) (by kernel_rfl) (by kernel_rfl) (fun _ _ _ h => h) (Or.inr ⟨?_, rfl⟩) hHeld ?_; (focus (simp [Region.wanted, yielded, undef]; done)); (try simp only [Act.put, List.setIfInBounds_toArray, List.set_cons_zero, List.set_cons_succ])) | (refine wpAnyH_take (i := 11) (v := ?_) (get_of_drop rfl) (by kernel_rfl) (by kernel_rfl) (by kernel_rfl) (fun _ _ _ h => h) (Or.inl ⟨?_, ?_⟩) hHeld ?_; rotate_left; (focus rfl); (focus (intro w hSw; (try dsimp only at hSw); go_simp; (try (with_reducible rfl)))); (try simp only [Act.put, List.setIfInBounds_toArray, List.set_cons_zero, List.set_cons_succ]))
              refine wpAnyH_ready (rs := [12]) (by kernel_rfl) (by simp) ?_
              refine AllReadyH.cons (get_of_drop rfl) (fun K hK => ?_) AllReadyH.nil
              have hs8 := HQ9.out.box1 hkept8
              have s1 : w8.cell? ⟨S, 1, none⟩ = some v1 := hs8.cell (by decide)
              have s2 := hs8.frozen 1
              have HD8 := Lib.hid (HQ9.out.app1 (x := x) HROW.out HAQ.out.lt HRLO.out hkept8 (by simpa using hown8)).1
              clear hs8 hkept8 hown8 hown hb9
              go_simp
              refine hK.out _ _ (HSX.out _ (aq_bel HD8.out)) (fun hHeld => ?_)
              clear hK K
              try simp only [Act.put, List.setIfInBounds_toArray, List.set_cons_zero, List.set_cons_succ]
              refine wpAnyH_done (by kernel_rfl) ?_ _
              go_wp2
              go_roundw
              case rel => exact ⟨k + 1, _, us ++ [.slice ax m3 cx], by omega, by rw [List.length_append, HUS.out]; rfl, by go_num, by rw [take_more xss k x hkx HX.out]; exact HD8.out⟩
              case measure => simp [intOf] <;> omega
            · refine AllReadyH.cons (get_of_drop rfl) (fun K hK => ?_) AllReadyH.nil
              go_simp
              refine hK.out _ _ (HSB.out _ (hb9.alloc hb9.size _)) (fun hHeld => ?_)
              clear hK K
              try simp only [Act.put, List.setIfInBounds_toArray, List.set_cons_zero, List.set_cons_succ]
              refine wpAnyH_ready (rs := [1]) (by kernel_rfl) (by simp) ?_
              refine AllReadyH.cons (get_of_drop rfl) (fun K hK => ?_) AllReadyH.nil
              go_simp
              refine hK.out _ _ (HSB.out _ (hb9.alloc hb9.size _)) (fun hHeld => ?_)
              clear hK K
              try simp only [Act.put, List.setIfInBounds_toArray, List.set_cons_zero, List.set_cons_succ]
              refine wpAnyH_ready (rs := [10]) (by kernel_rfl) (by simp) ?_
              refine AllReadyH.cons (get_of_drop rfl) (fun K hK => ?_) AllReadyH.nil
              rw [if_pos (by rfl)]
              have hq9 := HAQ.out.below hb9
              have hun : w9.ownsRow Z 44 1 v1 us.length (us.map id) := by rw [List.map_id]; exact hq9.1.1.1
              have HQ9 := Lib.hid hq9
              have HUN := Lib.hid hun; clear hun
              have HROW := Lib.hid (hown.base HAQ.out.low)
              have HRLO := Lib.hid (fun g hg => (World.ownsRow.lt hown g hg).1)
              clear hq9
              refine appK_rows w9 Z rfl _ _ rfl (.slice ax m3 cx) rfl v1 us rfl HUN.out rfl hul HQ9.out.low ?_
              intro ao1 m1 cap1 w8 hm1 hown8 hkept8
              subst hm1
              have hB8 : Below Z w0 w8 := hkept8.1 w0 (aq_bel HQ9.out)
              refine hK.out _ _ (HSX.out _ hB8) (fun hHeld => ?_)
              clear hK K
              try simp only [Act.put, List.setIfInBounds_toArray, List.set_cons_zero, List.set_cons_succ]
              first | (refine wpAnyH_take (i := 11) (get_of_drop rfl) (by kernel_rfl) (by kernel_rfl) (by kernel_rfl) (fun _ _ _ h => h) (Or.inr ⟨?_, rfl⟩) hHeld ?_; (focus (simp [Region.wanted, yielded, undef]; done)); (try simp only [Act.put, List.setIfInBounds_toArray, List.set_cons_zero, List.set_cons_succ])) | (refine wpAnyH_take (i := 11) (v := ?_) (get_of_drop rfl) (by kernel_rfl) (by kernel_rfl) (by kernel_rfl) (fun _ _ _ h => h) (Or.inl ⟨?_, ?_⟩) hHeld ?_; rotate_left; (focus rfl); (focus (intro w hSw; (try dsimp only at hSw); go_simp; (try (with_reducible rfl)))); (try simp only [Act.put, List.setIfInBounds_toArray, List.set_cons_zero, List.set_cons_succ]))
              refine wpAnyH_ready (rs := [12]) (by kernel_rfl) (by simp) ?_
              refine AllReadyH.cons (get_of_drop rfl) (fun K hK => ?_) AllReadyH.nil
              have hs8 := HQ9.out.box1 hkept8
              have s1 : w8.cell? ⟨S, 1, none⟩ = some v1 := hs8.cell (by decide)
              have s2 := hs8.frozen 1
              have HD8 := Lib.hid (HQ9.out.app1 (x := x) HROW.out HAQ.out.lt HRLO.out hkept8 (by simpa using hown8)).1
              clear hs8 hkept8 hown8 hown hb9
              go_simp
              refine hK.out _ _ (HSX.out _ (aq_bel HD8.out)) (fun hHeld => ?_)
              clear hK K
              try simp only [Act.put, List.setIfInBounds_toArray, List.set_cons_zero, List.set_cons_succ]
              refine wpAnyH_done (by kernel_rfl) ?_ _
              go_wp2
              go_roundw
              case rel => exact ⟨k + 1, _, us ++ [.slice ax m3 cx], by omega, by rw [List.length_append, HUS.out]; rfl, by go_num, by rw [take_more xss k x hkx HX.out]; exact HD8.out⟩
              case measure => simp [intOf] <;> omega
      · obtain rfl : k = n1 := by omega
        rw [List.take_of_length_le (by have := HN1.out; omega)] at haq
        obtain ⟨a3, k3, hv1⟩ := own_shape haq.1.1.1
        subst hv1
        obtain ⟨q0, q1, q2⟩ := haq.cells
        have hz := haq.2.2.1
        have z0 : wr.cell? ⟨Z, 0, none⟩ = some (.int .i64 0) := hz.cell (by decide)
        have z1 : wr.cell? ⟨Z, 1, none⟩ = some (.slice none 0 0) := hz.cell (by decide)
        have z2 : wr.cell? ⟨Z, 2, none⟩ = some (.slice none 0 0) := hz.cell (by decide)
        have zf0 := hz.frozen 0
        have zf1 := hz.frozen 1
        have zf2 := hz.frozen 2
        have HAQ := Lib.hid haq
        have HUS := Lib.hid hus; clear hus
        clear hz haq hRr
        go_wp2
        rw [← HUS.out]
        have hfin := HAQ.out.fin
        obtain ⟨wf, hwf⟩ : ∃ wf, (((wr.setCell ⟨Z, 0, none⟩ (.int .i64 al)).setCell ⟨Z, 1, none⟩ (.slice a3 us.length k3)).setCell ⟨Z, 2, none⟩ (.slice ao n2 cc)) = wf := ⟨_, rfl⟩
        rw [hwf] at hfin ⊢
        clear hwf
        obtain ⟨d1, d2, d3, -⟩ := hfin
        have f0 : wf.cell? ⟨Z, 0, none⟩ = some (.int .i64 al) := d3.cell (by decide)
        have f1 : wf.cell? ⟨Z, 1, none⟩ = some (.slice a3 us.length k3) := d3.cell (by decide)
        have f2 : wf.cell? ⟨Z, 2, none⟩ = some (.slice ao n2 cc) := d3.cell (by decide)
        refine bodyPost_ret (v := .agg #[.int .i64 al, .slice a3 us.length k3, .slice ao n2 cc]) ?_ rfl ?_
        · simp [results, Try.results48, go_sem, f0, f1, f2]
        · exact ⟨a3, _, k3, ao, n2, cc, us, rfl, d1.base (by omega), HB0.out.trans ⟨d2.os, d2.tape, d2.output, d2.size, fun q hq => d2.block q (by omega) (by simp)⟩⟩
end Go.Proofs.Ytagegbhchljggaa
