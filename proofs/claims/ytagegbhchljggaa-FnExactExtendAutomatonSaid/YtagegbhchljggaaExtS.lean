/- ExtendAutomaton of the reference. -/
import Derived.Test.YtagegbhchljggaaExt
import Derived.Test.YtagegbhchljggaaCopyS
import Derived.Test.YtagegbhchljggaaAutS
import Derived.Test.YtagegbhchljggaaGo
import Derived.StillTailTactics


namespace Go.Proofs.Ytagegbhchljggaa
open Go.RowKit
set_option linter.unusedVariables false
set_option linter.unusedSimpArgs false
set_option maxRecDepth 100000

theorem wp_app_int {o : Oper} {a : Act} {K : Act → World → Prop} {Q : Exit → Act → World → Prop} (wr : World) (x : Int) (B : Nat) (s y : Operand)
    (ho : o.op = .call { callee := .builtin .append, args := #[s, y], argTypes := #[44, 44] }) (v : Value) (xs : List Int) (hs : a.eval s = v) (hown : IRow B wr v xs)
    (hy : a.eval y = .slice (some ⟨wr.heap.size, 0, none⟩) 1 1) (hb : (xs.length + 1) * 8 ≤ 140737488355328) (hB : B ≤ wr.heap.size)
    (h : ∀ ao n cap w1, n = xs.length + 1 → IRow B w1 (.slice ao n cap) (xs ++ [x]) → Kept B wr w1 v → K (a.put o.dst (.slice ao n cap)) w1) :
    o.wp Try.prog a (wr.alloc (.cells #[.int .i64 x] 3)) K Q := by
  obtain ⟨i0, hi, hz0, hz1, hz2⟩ := info_parts Try.infoInt
  refine wp_append_own _ s y 44 ho B 3 i0 (.int .i64 0) 1 8 Try.underlying44 hi hz0 hz1 hz2 rfl (by decide) v xs.length (xs.map (Value.int .i64)) hs (World.ownsRow.alloc hown _) ⟨wr.heap.size, 0, none⟩ 1 1 [.int .i64 x] hy rfl (cell_one_new _ _ _) (by intro u hu; simp at hu; subst hu; rfl) (by unfold maxLen; omega) hb (by simp; omega) ?_
  intro v' w1 hown' hgrow _
  have hg2 : wr.grownBy w1 v.ownBlock := by
    refine ⟨hgrow.os, hgrow.tape, hgrow.output, ?_, fun k hk hne => ?_⟩
    · have := hgrow.size; simp at this; omega
    · rw [hgrow.block k (by simp; omega) hne]; exact Below.heap_alloc wr _ k hk
  have hown2 : IRow B w1 v' (xs ++ [x]) := by unfold IRow; simpa using hown'
  have hK : Kept B wr w1 v := ⟨fun w0 h0 => h0.grown hg2 hB (fun k hk => (World.ownsRow.lt hown k hk).1), hg2⟩
  rcases hown'.2 with ⟨rfl, h0⟩ | ⟨g, cap, cur, rfl, _⟩
  · omega
  · exact h _ _ _ w1 rfl hown2 hK


set_option maxHeartbeats 8000000 in
theorem specExt_any (al be : Int) (a1 : Option Addr) (n1 c1 : Nat) (a2 : Option Addr) (n2 c2 : Nat) (xss : List (List Int)) (bs : List Bool) (w : World) (h : MV w (.slice a1 n1 c1) xss) (hb : BV w (.slice a2 n2 c2) bs) :
    Calls Try.prog 29 #[.agg #[.int .i64 al, .slice a1 n1 c1, .slice a2 n2 c2], .int .i64 be] w (Made (autV al xss bs && isA be) (bits .or .i64 al be) (extM al (bits .or .i64 al be) xss) bs w) := by
  have H := Lib.hid h; clear h
  have HB := Lib.hid hb; clear hb
  have B0 := Lib.hid ((below_new w 28 #[.int .i64 al, .slice a1 n1 c1, .slice a2 n2 c2]).alloc (by simp) (.cells #[.int .i64 0, .slice none 0 0, .slice none 0 0] 28))
  have R0 := Lib.hid ((agg3_cell w al (.slice a1 n1 c1) (.slice a2 n2 c2) 28).alloc (.cells #[.int .i64 0, .slice none 0 0, .slice none 0 0] 28))
  have hz0 := own_cells (w.alloc (.cells #[.int .i64 al, .slice a1 n1 c1, .slice a2 n2 c2] 28)) #[.int .i64 0, .slice none 0 0, .slice none 0 0] 28 3 rfl
  have hs0 : (w.alloc (.cells #[.int .i64 al, .slice a1 n1 c1, .slice a2 n2 c2] 28)).heap.size = w.heap.size + 1 := by simp
  rw [hs0] at hz0
  have Z0 := Lib.hid hz0
  clear hz0 hs0
  cases hv : autV al xss bs with
  | false =>
    have HV := Lib.hid hv; clear hv
    go_enter Try.func29, Try.ntmps29
    go_wp2_with fail
    refine (specAutValid_any al a1 n1 c1 a2 n2 c2 xss bs _ (MV.below H.out B0.out) (BV.below HB.out B0.out)).mono ?_
    rintro e w1 ⟨rfl, hb1⟩
    rw [HV.out]
    have B1 := Lib.hid (B0.out.trans (hb1.mono B0.out.size))
    have hz1 := rowIs_below Z0.out hb1
    have z0 : w1.cell? ⟨w.heap.size + 1, 0, none⟩ = some (.int .i64 0) := hz1.cell (by decide)
    have z1 : w1.cell? ⟨w.heap.size + 1, 1, none⟩ = some (.slice none 0 0) := hz1.cell (by decide)
    have z2 : w1.cell? ⟨w.heap.size + 1, 2, none⟩ = some (.slice none 0 0) := hz1.cell (by decide)
    have zf0 := hz1.frozen 0
    have zf1 := hz1.frozen 1
    have zf2 := hz1.frozen 2
    have Z1 := Lib.hid hz1
    clear hb1 hz1
    go_wp2
    obtain ⟨wf, hwf⟩ : ∃ wf, (((w1.setCell ⟨w.heap.size + 1, 0, none⟩ (.int .i64 0)).setCell ⟨w.heap.size + 1, 1, none⟩ (.slice none 0 0)).setCell ⟨w.heap.size + 1, 2, none⟩ (.slice none 0 0)) = wf := ⟨_, rfl⟩
    have hfin := store3 Z1.out (.int .i64 0) (.slice none 0 0) (.slice none 0 0)
    have hbF : Below w.heap.size w _ := ((B1.out.setCell (p := ⟨w.heap.size + 1, 0, none⟩) (by simp) (.int .i64 0)).setCell (p := ⟨w.heap.size + 1, 1, none⟩) (by simp) (.slice none 0 0)).setCell (p := ⟨w.heap.size + 1, 2, none⟩) (by simp) (.slice none 0 0)
    rw [hwf] at hfin hbF ⊢
    have f0 : wf.cell? ⟨w.heap.size + 1, 0, none⟩ = some (.int .i64 0) := hfin.cell (by decide)
    have f1 : wf.cell? ⟨w.heap.size + 1, 1, none⟩ = some (.slice none 0 0) := hfin.cell (by decide)
    have f2 : wf.cell? ⟨w.heap.size + 1, 2, none⟩ = some (.slice none 0 0) := hfin.cell (by decide)
    refine bodyPost_ret (v := .tuple #[.agg #[.int .i64 0, .slice none 0 0, .slice none 0 0], .bool false]) ?_ rfl ?_
    · simp [results, Try.results29, go_sem, f0, f1, f2]
    · exact ⟨rfl, hbF⟩
  | true =>
    have HV := Lib.hid hv; clear hv
    cases hA : isA be with
    | false =>
      have HA := Lib.hid hA; clear hA
      go_enter Try.func29, Try.ntmps29
      go_wp2_with fail
      refine (specAutValid_any al a1 n1 c1 a2 n2 c2 xss bs _ (MV.below H.out B0.out) (BV.below HB.out B0.out)).mono ?_
      rintro e w1 ⟨rfl, hb1⟩
      rw [HV.out]
      have B1 := Lib.hid (B0.out.trans (hb1.mono B0.out.size))
      have hz1 := rowIs_below Z0.out hb1
      have z0 : w1.cell? ⟨w.heap.size + 1, 0, none⟩ = some (.int .i64 0) := hz1.cell (by decide)
      have z1 : w1.cell? ⟨w.heap.size + 1, 1, none⟩ = some (.slice none 0 0) := hz1.cell (by decide)
      have z2 : w1.cell? ⟨w.heap.size + 1, 2, none⟩ = some (.slice none 0 0) := hz1.cell (by decide)
      have zf0 := hz1.frozen 0
      have zf1 := hz1.frozen 1
      have zf2 := hz1.frozen 2
      have Z1 := Lib.hid hz1
      clear hb1 hz1
      go_wp2_with fail
      refine (l1Alphabet_any be _).mono ?_
      rintro e w' ⟨rfl, rfl⟩
      rw [HA.out]
      go_wp2
      obtain ⟨wf, hwf⟩ : ∃ wf, (((w1.setCell ⟨w.heap.size + 1, 0, none⟩ (.int .i64 0)).setCell ⟨w.heap.size + 1, 1, none⟩ (.slice none 0 0)).setCell ⟨w.heap.size + 1, 2, none⟩ (.slice none 0 0)) = wf := ⟨_, rfl⟩
      have hfin := store3 Z1.out (.int .i64 0) (.slice none 0 0) (.slice none 0 0)
      have hbF : Below w.heap.size w _ := ((B1.out.setCell (p := ⟨w.heap.size + 1, 0, none⟩) (by simp) (.int .i64 0)).setCell (p := ⟨w.heap.size + 1, 1, none⟩) (by simp) (.slice none 0 0)).setCell (p := ⟨w.heap.size + 1, 2, none⟩) (by simp) (.slice none 0 0)
      rw [hwf] at hfin hbF ⊢
      have f0 : wf.cell? ⟨w.heap.size + 1, 0, none⟩ = some (.int .i64 0) := hfin.cell (by decide)
      have f1 : wf.cell? ⟨w.heap.size + 1, 1, none⟩ = some (.slice none 0 0) := hfin.cell (by decide)
      have f2 : wf.cell? ⟨w.heap.size + 1, 2, none⟩ = some (.slice none 0 0) := hfin.cell (by decide)
      refine bodyPost_ret (v := .tuple #[.agg #[.int .i64 0, .slice none 0 0, .slice none 0 0], .bool false]) ?_ rfl ?_
      · simp [results, Try.results29, go_sem, f0, f1, f2]
      · exact ⟨rfl, hbF⟩
    | true =>
      have HA := Lib.hid hA; clear hA
      obtain ⟨ha, hx1, hx2, hx3, hx4, hx5⟩ := autV_facts HV.out
      have hn1 := (SV.at H.out).1
      have hmx := (SV.at H.out).2.2.1
      have hcp := (SV.at H.out).2.1
      unfold maxLen at hmx
      obtain ⟨ba, oa, rfl, hba, hca⟩ : ∃ b off, a2 = some ⟨b, off, none⟩ ∧ b < w.heap.size ∧ ∀ j, j < n2 → w.cell? ⟨b, off + j, none⟩ = some (.bool (bs[j]?.getD false)) := by
        have hn2 := (SV.at HB.out).1
        rcases (SV.at HB.out).2.2.2 with h0 | ⟨b, off, rfl, q1, q2⟩
        · omega
        · exact ⟨b, off, rfl, q1, fun j hj => by obtain ⟨u, r1, rfl⟩ := q2 j hj; exact r1⟩
      have hn2 := (SV.at HB.out).1
      have hn2' : n2 ≤ 12 := by omega
      have hn2p : 1 ≤ n2 := by omega
      have hn12 : n1 ≤ 12 := by omega
      have hn1p : 1 ≤ n1 := by omega
      have hbl : bs.length ≤ 1048576 := by omega
      have hca0 := or_isA' ha HA.out
      obtain ⟨C, hC⟩ : ∃ C, bits .or .i64 al be = C := ⟨_, rfl⟩
      rw [hC] at hca0
      obtain ⟨hC0, hC1⟩ := (isA_iff C).1 hca0
      rw [hC]
      have HHC := Lib.hid hC
      have HCA := Lib.hid hca
      have HAC := Lib.hid hca0
      have HAL := Lib.hid ha; clear ha
      have HROWS := Lib.hid hx4; clear hx4
      have HN1 := Lib.hid hn1; clear hn1
      have HN2 := Lib.hid hn2; clear hn2
      have HX3 := Lib.hid hx3; clear hx3
      clear hca hca0 hx5 hx1 hx2
      have HHC := Lib.hid hC
      clear hC
      have hbl0 : bs.length ≠ 0 := by have := HN2.out; omega
      have hbl1 : bs.length ≤ 1000000 := by have := HN2.out; omega
      have HBS := Lib.hid hbl0
      clear hbl0
      go_enter Try.func29, Try.ntmps29
      go_wp2_with fail
      refine (specAutValid_any al a1 n1 c1 (some ⟨ba, oa, none⟩) n2 c2 xss bs _ (MV.below H.out B0.out) (BV.below HB.out B0.out)).mono ?_
      rintro e w1 ⟨rfl, hb1⟩
      rw [HV.out]
      have B1 := Lib.hid (B0.out.trans (hb1.mono B0.out.size))
      have R1 := Lib.hid (rowIs_below R0.out hb1)
      have Z1 := Lib.hid (rowIs_below Z0.out hb1)
      clear hb1
      go_wp2_with fail
      refine (l1Alphabet_any be _).mono ?_
      rintro e w' ⟨rfl, rfl⟩
      rw [HA.out]
      go_wp2_with fail
      have hz1lt : w.heap.size + 1 < w1.heap.size := World.rowIs.lt Z1.out
      have HBV := Lib.hid (BV.below HB.out B1.out)
      obtain ⟨ws, hws⟩ : ∃ ws, w1.heap.size = ws := ⟨_, rfl⟩
      have HSW := Lib.hid (fun (w' : World) (hb : Below w1.heap.size w1 w') => (show w'.cell? ⟨w.heap.size, 0, none⟩ = some (.int .i64 al) ∧ w'.cell? ⟨w.heap.size, 2, none⟩ = some (.slice (some ⟨ba, oa, none⟩) n2 c2) from ⟨(rowIs_below R1.out hb).cell (by decide), (rowIs_below R1.out hb).cell (by decide)⟩))
      have HBE := Lib.hid (show Below w1.heap.size w1 (w1.alloc (.cells #[] 4)).drew from ((Below.refl w1.heap.size w1).alloc (Nat.le_refl _) _).drew)
      have HOE := Lib.hid (show TRow w1.heap.size (w1.alloc (.cells #[] 4)).drew (.slice (some ⟨w1.heap.size, 0, none⟩) 0 0) [] from trow_empty w1.heap.size w1 (Nat.le_refl _))
      clear hws
      go_cut [6] from 20 to 28 (fun s6 wd => ∃ (ob b1 : Nat) (ao : Option Addr) (cc : Nat), s6 = .pointer (some ⟨ob, 0, none⟩) ∧ w1.heap.size ≤ ob ∧ w1.heap.size ≤ b1 ∧ b1 ≠ ob ∧ wd.rowIs ob 28 3 (fun i => #[.int .i64 C, .slice none 0 0, .slice ao n2 cc][i]?.getD undef) ∧ Below w1.heap.size w1 wd ∧ WB wd b1 (.slice ao n2 cc) bs)
      case first =>
        refine wp_region_held_drew (S := fun w' => w'.cell? ⟨w.heap.size, 0, none⟩ = some (.int .i64 al) ∧ w'.cell? ⟨w.heap.size, 2, none⟩ = some (.slice (some ⟨ba, oa, none⟩) n2 c2)) (by kernel_rfl) (HSW.out _ (Below.refl _ _).drew) (fun hHeld => ?_)
        first | (refine wpAnyH_take (i := 0) (get_of_drop rfl) (by kernel_rfl) (by kernel_rfl) (by kernel_rfl) (fun _ _ _ h => h) (Or.inr ⟨?_, rfl⟩) hHeld ?_; (focus (simp [Region.wanted, yielded, undef]; done)); (try simp only [Act.put, List.setIfInBounds_toArray, List.set_cons_zero, List.set_cons_succ])) | (refine wpAnyH_take (i := 0) (v := ?_) (get_of_drop rfl) (by kernel_rfl) (by kernel_rfl) (by kernel_rfl) (fun _ _ _ h => h) (Or.inl ⟨?_, ?_⟩) hHeld ?_; rotate_left; (focus rfl); (focus (intro w hSw; (try dsimp only at hSw); go_simp; (try (with_reducible rfl)))); (try simp only [Act.put, List.setIfInBounds_toArray, List.set_cons_zero, List.set_cons_succ]))
        first | (refine wpAnyH_take (i := 1) (get_of_drop rfl) (by kernel_rfl) (by kernel_rfl) (by kernel_rfl) (fun _ _ _ h => h) (Or.inr ⟨?_, rfl⟩) hHeld ?_; (focus (simp [Region.wanted, yielded, undef]; done)); (try simp only [Act.put, List.setIfInBounds_toArray, List.set_cons_zero, List.set_cons_succ])) | (refine wpAnyH_take (i := 1) (v := ?_) (get_of_drop rfl) (by kernel_rfl) (by kernel_rfl) (by kernel_rfl) (fun _ _ _ h => h) (Or.inl ⟨?_, ?_⟩) hHeld ?_; rotate_left; (focus rfl); (focus (intro w hSw; (try dsimp only at hSw); go_simp; (try (with_reducible rfl)))); (try simp only [Act.put, List.setIfInBounds_toArray, List.set_cons_zero, List.set_cons_succ]))
        first | (refine wpAnyH_take (i := 2) (get_of_drop rfl) (by kernel_rfl) (by kernel_rfl) (by kernel_rfl) (fun _ _ _ h => h) (Or.inr ⟨?_, rfl⟩) hHeld ?_; (focus (simp [Region.wanted, yielded, undef]; done)); (try simp only [Act.put, List.setIfInBounds_toArray, List.set_cons_zero, List.set_cons_succ])) | (refine wpAnyH_take (i := 2) (v := ?_) (get_of_drop rfl) (by kernel_rfl) (by kernel_rfl) (by kernel_rfl) (fun _ _ _ h => h) (Or.inl ⟨?_, ?_⟩) hHeld ?_; rotate_left; (focus rfl); (focus (intro w hSw; (try dsimp only at hSw); go_simp; (try (with_reducible rfl)))); (try simp only [Act.put, List.setIfInBounds_toArray, List.set_cons_zero, List.set_cons_succ]))
        first | (refine wpAnyH_take (i := 5) (get_of_drop rfl) (by kernel_rfl) (by kernel_rfl) (by kernel_rfl) (fun _ _ _ h => h) (Or.inr ⟨?_, rfl⟩) hHeld ?_; (focus (simp [Region.wanted, yielded, undef]; done)); (try simp only [Act.put, List.setIfInBounds_toArray, List.set_cons_zero, List.set_cons_succ])) | (refine wpAnyH_take (i := 5) (v := ?_) (get_of_drop rfl) (by kernel_rfl) (by kernel_rfl) (by kernel_rfl) (fun _ _ _ h => h) (Or.inl ⟨?_, ?_⟩) hHeld ?_; rotate_left; (focus rfl); (focus (intro w hSw; (try dsimp only at hSw); go_simp; (try (with_reducible rfl)))); (try simp only [Act.put, List.setIfInBounds_toArray, List.set_cons_zero, List.set_cons_succ]))
        first | (refine wpAnyH_take (i := 6) (get_of_drop rfl) (by kernel_rfl) (by kernel_rfl) (by kernel_rfl) (fun _ _ _ h => h) (Or.inr ⟨?_, rfl⟩) hHeld ?_; (focus (simp [Region.wanted, yielded, undef]; done)); (try simp only [Act.put, List.setIfInBounds_toArray, List.set_cons_zero, List.set_cons_succ])) | (refine wpAnyH_take (i := 6) (v := ?_) (get_of_drop rfl) (by kernel_rfl) (by kernel_rfl) (by kernel_rfl) (fun _ _ _ h => h) (Or.inl ⟨?_, ?_⟩) hHeld ?_; rotate_left; (focus rfl); (focus (intro w hSw; (try dsimp only at hSw); go_simp; (try (with_reducible rfl)))); (try simp only [Act.put, List.setIfInBounds_toArray, List.set_cons_zero, List.set_cons_succ]))
        first | (refine wpAnyH_take (i := 3) (get_of_drop rfl) (by kernel_rfl) (by kernel_rfl) (by kernel_rfl) (fun _ _ _ h => h) (Or.inr ⟨?_, rfl⟩) hHeld ?_; (focus (simp [Region.wanted, yielded, undef]; done)); (try simp only [Act.put, List.setIfInBounds_toArray, List.set_cons_zero, List.set_cons_succ])) | (refine wpAnyH_take (i := 3) (v := ?_) (get_of_drop rfl) (by kernel_rfl) (by kernel_rfl) (by kernel_rfl) (fun _ _ _ h => h) (Or.inl ⟨?_, ?_⟩) hHeld ?_; rotate_left; (focus rfl); (focus (intro w hSw; (try dsimp only at hSw); go_simp; (try (with_reducible rfl)))); (try simp only [Act.put, List.setIfInBounds_toArray, List.set_cons_zero, List.set_cons_succ]))
        try rw [HHC.out]
        refine wpAnyH_ready (rs := [4, 9]) (by kernel_rfl) (by simp) ?_
        refine AllReadyH.cons (get_of_drop rfl) (fun K hK => ?_) ?_
        · go_simp
          refine hK.out _ _ (HSW.out _ HBE.out) (fun hHeld => ?_)
          clear hK K
          try simp only [Act.put, List.setIfInBounds_toArray, List.set_cons_zero, List.set_cons_succ]
          refine wpAnyH_ready (rs := [7, 9]) (by kernel_rfl) (by simp) ?_
          refine AllReadyH.cons (get_of_drop rfl) (fun K hK => ?_) ?_
          · rw [if_pos (by rfl)]
            refine wp_app_bv _ bs w1.heap.size (w1.heap.size) _ _ rfl rfl HOE.out (some ⟨ba, oa, none⟩) n2 c2 rfl (BV.below HBV.out HBE.out) (by omega) (HBE.out).size ?_
            intro ao' cap' w9 hown' hkept
            have hb9 := hkept.1 w1 HBE.out
            refine hK.out _ _ (HSW.out _ hb9) (fun hHeld => ?_)
            clear hK K
            try simp only [Act.put, List.setIfInBounds_toArray, List.set_cons_zero, List.set_cons_succ]
            first | (refine wpAnyH_take (i := 8) (get_of_drop rfl) (by kernel_rfl) (by kernel_rfl) (by kernel_rfl) (fun _ _ _ h => h) (Or.inr ⟨?_, rfl⟩) hHeld ?_; (focus (simp [Region.wanted, yielded, undef]; done)); (try simp only [Act.put, List.setIfInBounds_toArray, List.set_cons_zero, List.set_cons_succ])) | (refine wpAnyH_take (i := 8) (v := ?_) (get_of_drop rfl) (by kernel_rfl) (by kernel_rfl) (by kernel_rfl) (fun _ _ _ h => h) (Or.inl ⟨?_, ?_⟩) hHeld ?_; rotate_left; (focus rfl); (focus (intro w hSw; (try dsimp only at hSw); go_simp; (try (with_reducible rfl)))); (try simp only [Act.put, List.setIfInBounds_toArray, List.set_cons_zero, List.set_cons_succ]))
            obtain ⟨S, hS⟩ : ∃ S, (w9).heap.size = S := ⟨_, rfl⟩
            obtain ⟨w6, hwS⟩ : ∃ w6, ((w9).alloc (.cells #[.int .i64 0, .slice none 0 0, .slice none 0 0] 28)) = w6 := ⟨_, rfl⟩
            have hb6 := below_new (w9) 28 #[.int .i64 0, .slice none 0 0, .slice none 0 0]
            have hr6 := own_cells (w9) #[.int .i64 0, .slice none 0 0, .slice none 0 0] 28 3 rfl
            rw [hS] at hr6
            rw [hwS] at hb6 hr6
            have hbL6 := hb9.trans (hb6.mono hb9.size)
            have hown6 := hown'.below hb6
            have hSw : w1.heap.size ≤ S := by have := hb9.size; omega
            have s0 : w6.cell? ⟨S, 0, none⟩ = some (.int .i64 0) := (hr6).cell (by decide)
            have s1 : w6.cell? ⟨S, 1, none⟩ = some (.slice none 0 0) := (hr6).cell (by decide)
            have s2 : w6.cell? ⟨S, 2, none⟩ = some (.slice none 0 0) := (hr6).cell (by decide)
            have sf0 := (hr6).frozen 0
            have sf1 := (hr6).frozen 1
            have sf2 := (hr6).frozen 2
            refine wpAnyH_ready (rs := [9]) (by kernel_rfl) (by simp) ?_
            refine AllReadyH.cons (get_of_drop rfl) (fun K hK => ?_) AllReadyH.nil
            go_simp
            refine hK.out _ _ (HSW.out _ hbL6) (fun hHeld => ?_)
            clear hK K
            try simp only [Act.put, List.setIfInBounds_toArray, List.set_cons_zero, List.set_cons_succ]
            have HD := Lib.hid (mkO (al := C) hbL6 hr6 hSw hown6 HBS.out)
            clear hown' hkept
            refine wpAnyH_ready (rs := [10]) (by kernel_rfl) (by simp) ?_
            refine AllReadyH.cons (get_of_drop rfl) (fun K hK => ?_) AllReadyH.nil
            go_simp
            refine hK.out _ _ (HSW.out _ HD.out.1) (fun hHeld => ?_)
            clear hK K
            try simp only [Act.put, List.setIfInBounds_toArray, List.set_cons_zero, List.set_cons_succ]
            refine wpAnyH_done (by kernel_rfl) ?_ _
            go_wp2_with fail
            go_meet
            case rel =>
              obtain ⟨d1, d2, b1, d3, d4, d5⟩ := HD.out
              exact ⟨S, b1, ao', cap', rfl, hSw, d3, d4, d2, d1, d5⟩
          · refine AllReadyH.cons (get_of_drop rfl) (fun K hK => ?_) AllReadyH.nil
            obtain ⟨S, hS⟩ : ∃ S, ((w1.alloc (.cells #[] 4)).drew).heap.size = S := ⟨_, rfl⟩
            obtain ⟨wS, hwS⟩ : ∃ wS, (((w1.alloc (.cells #[] 4)).drew).alloc (.cells #[.int .i64 0, .slice none 0 0, .slice none 0 0] 28)) = wS := ⟨_, rfl⟩
            have hb6 := below_new ((w1.alloc (.cells #[] 4)).drew) 28 #[.int .i64 0, .slice none 0 0, .slice none 0 0]
            have hr6 := own_cells ((w1.alloc (.cells #[] 4)).drew) #[.int .i64 0, .slice none 0 0, .slice none 0 0] 28 3 rfl
            rw [hS] at hr6
            rw [hwS] at hb6 hr6
            have hbS := HBE.out.trans (hb6.mono HBE.out.size)
            have hSw : w1.heap.size ≤ S := by have := HBE.out.size; omega
            go_simp
            refine hK.out _ _ (HSW.out _ hbS) (fun hHeld => ?_)
            clear hK K
            try simp only [Act.put, List.setIfInBounds_toArray, List.set_cons_zero, List.set_cons_succ]
            refine wpAnyH_ready (rs := [7]) (by kernel_rfl) (by simp) ?_
            refine AllReadyH.cons (get_of_drop rfl) (fun K hK => ?_) AllReadyH.nil
            rw [if_pos (by rfl)]
            refine wp_app_bv wS bs w1.heap.size (w1.heap.size) _ _ rfl rfl (HOE.out.below hb6) (some ⟨ba, oa, none⟩) n2 c2 rfl (BV.below HBV.out hbS) (by omega) (hbS).size ?_
            intro ao' cap' w9 hown' hkept
            have hb9 := hkept.1 w1 hbS
            refine hK.out _ _ (HSW.out _ hb9) (fun hHeld => ?_)
            clear hK K
            try simp only [Act.put, List.setIfInBounds_toArray, List.set_cons_zero, List.set_cons_succ]
            have hr5 := hr6.of_block (hkept.2.block S (World.rowIs.lt hr6) (fun e => trow_ne (HOE.out.below hb6) hr6 e.symm))
            have s0 : w9.cell? ⟨S, 0, none⟩ = some (.int .i64 0) := (hr5).cell (by decide)
            have s1 : w9.cell? ⟨S, 1, none⟩ = some (.slice none 0 0) := (hr5).cell (by decide)
            have s2 : w9.cell? ⟨S, 2, none⟩ = some (.slice none 0 0) := (hr5).cell (by decide)
            have sf0 := (hr5).frozen 0
            have sf1 := (hr5).frozen 1
            have sf2 := (hr5).frozen 2
            first | (refine wpAnyH_take (i := 8) (get_of_drop rfl) (by kernel_rfl) (by kernel_rfl) (by kernel_rfl) (fun _ _ _ h => h) (Or.inr ⟨?_, rfl⟩) hHeld ?_; (focus (simp [Region.wanted, yielded, undef]; done)); (try simp only [Act.put, List.setIfInBounds_toArray, List.set_cons_zero, List.set_cons_succ])) | (refine wpAnyH_take (i := 8) (v := ?_) (get_of_drop rfl) (by kernel_rfl) (by kernel_rfl) (by kernel_rfl) (fun _ _ _ h => h) (Or.inl ⟨?_, ?_⟩) hHeld ?_; rotate_left; (focus rfl); (focus (intro w hSw; (try dsimp only at hSw); go_simp; (try (with_reducible rfl)))); (try simp only [Act.put, List.setIfInBounds_toArray, List.set_cons_zero, List.set_cons_succ]))
            have HD := Lib.hid (mkO (al := C) hb9 hr5 hSw hown' HBS.out)
            clear hown' hkept
            refine wpAnyH_ready (rs := [10]) (by kernel_rfl) (by simp) ?_
            refine AllReadyH.cons (get_of_drop rfl) (fun K hK => ?_) AllReadyH.nil
            go_simp
            refine hK.out _ _ (HSW.out _ HD.out.1) (fun hHeld => ?_)
            clear hK K
            try simp only [Act.put, List.setIfInBounds_toArray, List.set_cons_zero, List.set_cons_succ]
            refine wpAnyH_done (by kernel_rfl) ?_ _
            go_wp2_with fail
            go_meet
            case rel =>
              obtain ⟨d1, d2, b1, d3, d4, d5⟩ := HD.out
              exact ⟨S, b1, ao', cap', rfl, hSw, d3, d4, d2, d1, d5⟩
        · refine AllReadyH.cons (get_of_drop rfl) (fun K hK => ?_) AllReadyH.nil
          obtain ⟨S, hS⟩ : ∃ S, (w1.drew).heap.size = S := ⟨_, rfl⟩
          obtain ⟨wS, hwS⟩ : ∃ wS, ((w1.drew).alloc (.cells #[.int .i64 0, .slice none 0 0, .slice none 0 0] 28)) = wS := ⟨_, rfl⟩
          have hb6 := below_new (w1.drew) 28 #[.int .i64 0, .slice none 0 0, .slice none 0 0]
          have hr6 := own_cells (w1.drew) #[.int .i64 0, .slice none 0 0, .slice none 0 0] 28 3 rfl
          rw [hS] at hr6
          rw [hwS] at hb6 hr6
          have hbS : Below w1.heap.size w1 wS := ((Below.refl w1.heap.size w1).drew).trans hb6
          have hSw : w1.heap.size ≤ S := by have h : w1.drew.heap.size = w1.heap.size := rfl; omega
          go_simp
          refine hK.out _ _ (HSW.out _ hbS) (fun hHeld => ?_)
          clear hK K
          try simp only [Act.put, List.setIfInBounds_toArray, List.set_cons_zero, List.set_cons_succ]
          refine wpAnyH_ready (rs := [4]) (by kernel_rfl) (by simp) ?_
          refine AllReadyH.cons (get_of_drop rfl) (fun K hK => ?_) AllReadyH.nil
          obtain ⟨q, hq⟩ : ∃ q, wS.heap.size = q := ⟨_, rfl⟩
          obtain ⟨wE, hwE⟩ : ∃ wE, (wS.alloc (.cells #[] 4)) = wE := ⟨_, rfl⟩
          have hbE := below_new wS 4 #[]
          have hoE := trow_empty w1.heap.size wS hbS.size
          rw [hq] at hoE
          rw [hwE] at hbE hoE
          have hrE := rowIs_below hr6 hbE
          have hbLE := hbS.trans (hbE.mono hbS.size)
          go_simp
          refine hK.out _ _ (HSW.out _ hbLE) (fun hHeld => ?_)
          clear hK K
          try simp only [Act.put, List.setIfInBounds_toArray, List.set_cons_zero, List.set_cons_succ]
          refine wpAnyH_ready (rs := [7]) (by kernel_rfl) (by simp) ?_
          refine AllReadyH.cons (get_of_drop rfl) (fun K hK => ?_) AllReadyH.nil
          rw [if_pos (by rfl)]
          refine wp_app_bv wE bs w1.heap.size (q) _ _ rfl rfl hoE (some ⟨ba, oa, none⟩) n2 c2 rfl (BV.below HBV.out hbLE) (by omega) (hbLE).size ?_
          intro ao' cap' w9 hown' hkept
          have hb9 := hkept.1 w1 hbLE
          refine hK.out _ _ (HSW.out _ hb9) (fun hHeld => ?_)
          clear hK K
          try simp only [Act.put, List.setIfInBounds_toArray, List.set_cons_zero, List.set_cons_succ]
          have hr5 := hrE.of_block (hkept.2.block S (World.rowIs.lt hrE) (fun e => trow_ne hoE hrE e.symm))
          have s0 : w9.cell? ⟨S, 0, none⟩ = some (.int .i64 0) := (hr5).cell (by decide)
          have s1 : w9.cell? ⟨S, 1, none⟩ = some (.slice none 0 0) := (hr5).cell (by decide)
          have s2 : w9.cell? ⟨S, 2, none⟩ = some (.slice none 0 0) := (hr5).cell (by decide)
          have sf0 := (hr5).frozen 0
          have sf1 := (hr5).frozen 1
          have sf2 := (hr5).frozen 2
          first | (refine wpAnyH_take (i := 8) (get_of_drop rfl) (by kernel_rfl) (by kernel_rfl) (by kernel_rfl) (fun _ _ _ h => h) (Or.inr ⟨?_, rfl⟩) hHeld ?_; (focus (simp [Region.wanted, yielded, undef]; done)); (try simp only [Act.put, List.setIfInBounds_toArray, List.set_cons_zero, List.set_cons_succ])) | (refine wpAnyH_take (i := 8) (v := ?_) (get_of_drop rfl) (by kernel_rfl) (by kernel_rfl) (by kernel_rfl) (fun _ _ _ h => h) (Or.inl ⟨?_, ?_⟩) hHeld ?_; rotate_left; (focus rfl); (focus (intro w hSw; (try dsimp only at hSw); go_simp; (try (with_reducible rfl)))); (try simp only [Act.put, List.setIfInBounds_toArray, List.set_cons_zero, List.set_cons_succ]))
          have HD := Lib.hid (mkO (al := C) hb9 hr5 hSw hown' HBS.out)
          clear hown' hkept
          refine wpAnyH_ready (rs := [10]) (by kernel_rfl) (by simp) ?_
          refine AllReadyH.cons (get_of_drop rfl) (fun K hK => ?_) AllReadyH.nil
          go_simp
          refine hK.out _ _ (HSW.out _ HD.out.1) (fun hHeld => ?_)
          clear hK K
          try simp only [Act.put, List.setIfInBounds_toArray, List.set_cons_zero, List.set_cons_succ]
          refine wpAnyH_done (by kernel_rfl) ?_ _
          go_wp2_with fail
          go_meet
          case rel =>
            obtain ⟨d1, d2, b1, d3, d4, d5⟩ := HD.out
            exact ⟨S, b1, ao', cap', rfl, hSw, d3, d4, d2, d1, d5⟩
      case rest =>
        obtain ⟨ob, b1, ao, cc, rfl, hob, hb1, hne1, hO, hB, hW⟩ := hcut
        obtain ⟨wd, hwd⟩ : ∃ wd, wd = wc := ⟨_, rfl⟩
        subst hwd
        have o0 : wd.cell? ⟨ob, 0, none⟩ = some (.int .i64 C) := hO.cell (by decide)
        have hobd : ob < wd.heap.size := World.rowIs.lt hO
        have hs1d : w1.heap.size ≤ wd.heap.size := hB.size
        have HOD := Lib.hid hO
        have HWD := Lib.hid hW
        have HBD := Lib.hid hB
        clear hO hB hW HSW HBE HOE HBV
        go_wp2_with fail
        refine (l1Letters_any C hC0 (by omega) _).mono ?_
        rintro e wc ⟨ao5, cap5, rfl, hlet, hbL⟩
        obtain ⟨nl, hnl⟩ : ∃ nl, (lets C).length = nl := ⟨_, rfl⟩
        have hshape := hlet.shape
        rw [hnl] at hshape ⊢
        have hnl6 : nl ≤ 6 := by rw [← hnl]; exact lets_len C
        have hbc := HBD.out.trans (hbL.mono HBD.out.size)
        have BC := Lib.hid (B1.out.trans (hbc.mono B1.out.size))
        have RC := Lib.hid (rowIs_below R1.out hbc)
        have ZC := Lib.hid (rowIs_below Z1.out hbc)
        have HO := Lib.hid (rowIs_below HOD.out hbL)
        have HW := Lib.hid (HWD.out.below hbL)
        have HNL := Lib.hid hnl
        have HSH := Lib.hid hshape
        have p1 : wc.cell? ⟨w.heap.size, 1, none⟩ = some (.slice a1 n1 c1) := RC.out.cell (by decide)
        have hlo : w.heap.size ≤ wc.heap.size := BC.out.size
        have hdc : wd.heap.size ≤ wc.heap.size := hbL.size
        have hoblt : ob < wc.heap.size := by omega
        clear hnl hshape hlet hbL hbc o0
        go_wp2_with fail
        go_loopw [8] (fun i wr => ∃ (k : Nat) (v : Value) (us : List Value) (Bf : Nat → Nat), k ≤ n1 ∧ us.length = k ∧ i = .int .i64 k ∧ OutK wc.heap.size wr v us Bf (extM al C xss) ∧ wr.rowIs ob 28 3 (fun i => #[.int .i64 C, v, .slice ao n2 cc][i]?.getD undef) ∧ wc.heap.size ≤ wr.heap.size ∧ Only (fun q => q = ob ∨ wc.heap.size ≤ q) wc wr) (fun i _ => n1 - (intOf i).toNat)
        case atStart => exact ⟨0, .slice none 0 0, [], fun _ => 0, by omega, rfl, rfl, ⟨World.ownsRow_nil _ _ _ _, fun i hi => by simp at hi, fun i j hi => by simp at hi⟩, HO.out, Nat.le_refl _, Only.refl _ _⟩
        case round =>
          obtain ⟨k, v, us, Bf, hk, hus, rfl, hout, hor, hsz, honly⟩ := hrel
          clear p1
          have hRr := RC.out.of_block (honly.2.2.2.2 w.heap.size (World.rowIs.lt RC.out) (by rintro (h | h) <;> omega))
          have a1' : wr.cell? ⟨w.heap.size, 1, none⟩ = some (.slice a1 n1 c1) := hRr.cell (by decide)
          by_cases hlt : k < n1
          · obtain ⟨nr, hnr⟩ : ∃ nr, wr.heap.size = nr := ⟨_, rfl⟩
            have hbelr : Below w.heap.size w wr := honly.below BC.out (fun q hq => by rcases hq with rfl | hq <;> omega) hlo
            have HOUT := Lib.hid hout
            have HOR := Lib.hid hor
            have HON := Lib.hid honly
            have HOLD := Lib.hid (fun (i : Nat) (hi : i < us.length) (h0 : ((extM al C xss)[i]?.getD []).length ≠ 0) => (show Bf i < nr by rw [← hnr]; exact ((hout.2.1 i hi).2 h0).2.1))
            have HVB := Lib.hid (fun (q : Nat) (hq : v.ownBlock = some q) => (show wc.heap.size ≤ q ∧ q < nr by rw [← hnr]; exact World.ownsRow.lt hout.1 q hq))
            have hszn : wc.heap.size ≤ nr := by omega
            have hkx : k < xss.length := by have := HN1.out; omega
            have HMV := Lib.hid (fun (w' : World) (hb : Below wr.heap.size wr w') => MV.below H.out (hbelr.trans (hb.mono hbelr.size)))
            have HSX := Lib.hid (fun (w' : World) (hb : Below wr.heap.size wr w') => (show w'.cell? ⟨w.heap.size, 0, none⟩ = some (.int .i64 al) ∧ w'.cell? ⟨w.heap.size, 1, none⟩ = some (.slice a1 n1 c1) ∧ w'.cell? ⟨w.heap.size, 2, none⟩ = some (.slice (some ⟨ba, oa, none⟩) n2 c2) from ⟨(rowIs_below hRr hb).cell (by decide), (rowIs_below hRr hb).cell (by decide), (rowIs_below hRr hb).cell (by decide)⟩))
            have HLC := Lib.hid (fun (gl l : Nat) (u : Value) (w' : World) (hb : Below wr.heap.size wr w') (hg : gl < wc.heap.size) (hgo : gl ≠ ob) (hc : wc.cell? ⟨gl, l, none⟩ = some u) => (show w'.cell? ⟨gl, l, none⟩ = some u by
              rw [cell_below hb (by omega), World.cell?_of_block (w := wc) (w' := wr) (a := ⟨gl, l, none⟩) (honly.2.2.2.2 gl hg (by rintro (h | h) <;> omega))]
              exact hc))
            have HUS := Lib.hid hus; clear hus
            have HNR := Lib.hid hnr; clear hnr
            clear hout hor honly hRr hbelr
            go_wp2
            obtain ⟨w5, hw5⟩ : ∃ w5, wr.alloc (.cells #[] 3) = w5 := ⟨_, rfl⟩
            have hb5 := below_new wr 3 #[]
            have ho5 : IRow wr.heap.size (wr.alloc (.cells #[] 3)) (.slice (some ⟨wr.heap.size, 0, none⟩) 0 0) [] := IRow.empty wr.heap.size wr (Nat.le_refl _)
            rw [hw5] at hb5 ho5
            have H5 := Lib.hid hb5
            have HO5 := Lib.hid ho5
            try rw [hw5]
            clear hb5 ho5 hw5
            go_loopw [9, 10] (fun v9 i wq => ∃ l : Nat, l ≤ nl ∧ i = .int .i64 l ∧ (∃ ax m cx, v9 = .slice ax m cx ∧ m = ((extRow al C xss k).take l).length ∧ IRow wr.heap.size wq (.slice ax m cx) ((extRow al C xss k).take l)) ∧ Below wr.heap.size wr wq) (fun _ i _ => nl - (intOf i).toNat)
            case atStart => exact ⟨0, by omega, rfl, ⟨_, 0, 0, rfl, rfl, HO5.out⟩, H5.out⟩
            case round =>
              clear a1'
              obtain ⟨l, hl, rfl, ⟨ax, m, cx, rfl, hm, hown⟩, hin⟩ := hrel
              by_cases hll : l < nl
              · rcases HSH.out with ⟨h0, h1⟩ | ⟨gl, capl, hv, hgB, hglt, hgcap, hgmax, hgc, hgf⟩
                · injection h0 with h2 h3 h4
                  omega
                · injection hv with h2 h3 h4
                  subst h2 h4
                  obtain ⟨y, hy, hy6⟩ := lets_nat C l (by rw [HNL.out]; exact hll)
                  have hcl := hgc l hll
                  rw [hy] at hcl
                  have hglo : gl ≠ ob := by omega
                  have HCL := Lib.hid hcl
                  have hsnoc := extRow_take al C xss k l y (by rw [HNL.out]; exact hll) hy
                  obtain ⟨z, hz⟩ : ∃ z, goA al xss k y = z := ⟨_, rfl⟩
                  rw [hz] at hsnoc
                  have HGO := Lib.hid (fun (w' : World) (h : MV w' (.slice a1 n1 c1) xss) => hz ▸ l3Go_any al a1 n1 c1 (some ⟨ba, oa, none⟩) n2 c2 xss w' HAL.out h HROWS.out k hlt hn12 y hy6)
                  have HSN := Lib.hid hsnoc
                  have HM := Lib.hid hm; clear hm
                  have hm6 : m ≤ 6 := by have := HM.out; rw [List.length_take] at this; omega
                  unfold maxLen at hgmax
                  have HIN := Lib.hid hin
                  have HOWN := Lib.hid hown
                  have HS := Lib.hid (fun (w' : World) hb => (show ((w'.cell? ⟨w.heap.size, 0, none⟩ = some (.int .i64 al) ∧ w'.cell? ⟨w.heap.size, 1, none⟩ = some (.slice a1 n1 c1) ∧ w'.cell? ⟨w.heap.size, 2, none⟩ = some (.slice (some ⟨ba, oa, none⟩) n2 c2)) ∧ w'.cell? ⟨gl, l, none⟩ = some (.int .i64 y)) from ⟨HSX.out w' hb, HLC.out gl l _ w' hb hglt hglo HCL.out⟩))
                  clear hgc hgf hz hsnoc hy hcl hin hown
                  go_wp2_with fail
                  refine wp_region_held_drew (S := fun w' => ((w'.cell? ⟨w.heap.size, 0, none⟩ = some (.int .i64 al) ∧ w'.cell? ⟨w.heap.size, 1, none⟩ = some (.slice a1 n1 c1) ∧ w'.cell? ⟨w.heap.size, 2, none⟩ = some (.slice (some ⟨ba, oa, none⟩) n2 c2)) ∧ w'.cell? ⟨gl, l, none⟩ = some (.int .i64 y))) (by kernel_rfl) (HS.out _ HIN.out.drew) (fun hHeld => ?_)
                  first | (refine wpAnyH_take (i := 0) (get_of_drop rfl) (by kernel_rfl) (by kernel_rfl) (by kernel_rfl) (fun _ _ _ h => h) (Or.inr ⟨?_, rfl⟩) hHeld ?_; (focus (simp [Region.wanted, yielded, undef]; done)); (try simp only [Act.put, List.setIfInBounds_toArray, List.set_cons_zero, List.set_cons_succ])) | (refine wpAnyH_take (i := 0) (v := ?_) (get_of_drop rfl) (by kernel_rfl) (by kernel_rfl) (by kernel_rfl) (fun _ _ _ h => h) (Or.inl ⟨?_, ?_⟩) hHeld ?_; rotate_left; (focus rfl); (focus (intro w hSw; (try dsimp only at hSw); go_simp; (try (with_reducible rfl)))); (try simp only [Act.put, List.setIfInBounds_toArray, List.set_cons_zero, List.set_cons_succ]))
                  first | (refine wpAnyH_take (i := 1) (get_of_drop rfl) (by kernel_rfl) (by kernel_rfl) (by kernel_rfl) (fun _ _ _ h => h) (Or.inr ⟨?_, rfl⟩) hHeld ?_; (focus (simp [Region.wanted, yielded, undef]; done)); (try simp only [Act.put, List.setIfInBounds_toArray, List.set_cons_zero, List.set_cons_succ])) | (refine wpAnyH_take (i := 1) (v := ?_) (get_of_drop rfl) (by kernel_rfl) (by kernel_rfl) (by kernel_rfl) (fun _ _ _ h => h) (Or.inl ⟨?_, ?_⟩) hHeld ?_; rotate_left; (focus rfl); (focus (intro w hSw; (try dsimp only at hSw); go_simp; (try (with_reducible rfl)))); (try simp only [Act.put, List.setIfInBounds_toArray, List.set_cons_zero, List.set_cons_succ]))
                  first | (refine wpAnyH_take (i := 2) (get_of_drop rfl) (by kernel_rfl) (by kernel_rfl) (by kernel_rfl) (fun _ _ _ h => h) (Or.inr ⟨?_, rfl⟩) hHeld ?_; (focus (simp [Region.wanted, yielded, undef]; done)); (try simp only [Act.put, List.setIfInBounds_toArray, List.set_cons_zero, List.set_cons_succ])) | (refine wpAnyH_take (i := 2) (v := ?_) (get_of_drop rfl) (by kernel_rfl) (by kernel_rfl) (by kernel_rfl) (fun _ _ _ h => h) (Or.inl ⟨?_, ?_⟩) hHeld ?_; rotate_left; (focus rfl); (focus (intro w hSw; (try dsimp only at hSw); go_simp; (try (with_reducible rfl)))); (try simp only [Act.put, List.setIfInBounds_toArray, List.set_cons_zero, List.set_cons_succ]))
                  first | (refine wpAnyH_take (i := 3) (get_of_drop rfl) (by kernel_rfl) (by kernel_rfl) (by kernel_rfl) (fun _ _ _ h => h) (Or.inr ⟨?_, rfl⟩) hHeld ?_; (focus (simp [Region.wanted, yielded, undef]; done)); (try simp only [Act.put, List.setIfInBounds_toArray, List.set_cons_zero, List.set_cons_succ])) | (refine wpAnyH_take (i := 3) (v := ?_) (get_of_drop rfl) (by kernel_rfl) (by kernel_rfl) (by kernel_rfl) (fun _ _ _ h => h) (Or.inl ⟨?_, ?_⟩) hHeld ?_; rotate_left; (focus rfl); (focus (intro w hSw; (try dsimp only at hSw); go_simp; (try (with_reducible rfl)))); (try simp only [Act.put, List.setIfInBounds_toArray, List.set_cons_zero, List.set_cons_succ]))
                  first | (refine wpAnyH_take (i := 4) (get_of_drop rfl) (by kernel_rfl) (by kernel_rfl) (by kernel_rfl) (fun _ _ _ h => h) (Or.inr ⟨?_, rfl⟩) hHeld ?_; (focus (simp [Region.wanted, yielded, undef]; done)); (try simp only [Act.put, List.setIfInBounds_toArray, List.set_cons_zero, List.set_cons_succ])) | (refine wpAnyH_take (i := 4) (v := ?_) (get_of_drop rfl) (by kernel_rfl) (by kernel_rfl) (by kernel_rfl) (fun _ _ _ h => h) (Or.inl ⟨?_, ?_⟩) hHeld ?_; rotate_left; (focus rfl); (focus (intro w hSw; (try dsimp only at hSw); go_simp; (try (with_reducible rfl)))); (try simp only [Act.put, List.setIfInBounds_toArray, List.set_cons_zero, List.set_cons_succ]))
                  first | (refine wpAnyH_take (i := 5) (get_of_drop rfl) (by kernel_rfl) (by kernel_rfl) (by kernel_rfl) (fun _ _ _ h => h) (Or.inr ⟨?_, rfl⟩) hHeld ?_; (focus (simp [Region.wanted, yielded, undef]; done)); (try simp only [Act.put, List.setIfInBounds_toArray, List.set_cons_zero, List.set_cons_succ])) | (refine wpAnyH_take (i := 5) (v := ?_) (get_of_drop rfl) (by kernel_rfl) (by kernel_rfl) (by kernel_rfl) (fun _ _ _ h => h) (Or.inl ⟨?_, ?_⟩) hHeld ?_; rotate_left; (focus rfl); (focus (intro w hSw; (try dsimp only at hSw); go_simp; (try (with_reducible rfl)))); (try simp only [Act.put, List.setIfInBounds_toArray, List.set_cons_zero, List.set_cons_succ]))
                  first | (refine wpAnyH_take (i := 6) (get_of_drop rfl) (by kernel_rfl) (by kernel_rfl) (by kernel_rfl) (fun _ _ _ h => h) (Or.inr ⟨?_, rfl⟩) hHeld ?_; (focus (simp [Region.wanted, yielded, undef]; done)); (try simp only [Act.put, List.setIfInBounds_toArray, List.set_cons_zero, List.set_cons_succ])) | (refine wpAnyH_take (i := 6) (v := ?_) (get_of_drop rfl) (by kernel_rfl) (by kernel_rfl) (by kernel_rfl) (fun _ _ _ h => h) (Or.inl ⟨?_, ?_⟩) hHeld ?_; rotate_left; (focus rfl); (focus (intro w hSw; (try dsimp only at hSw); go_simp; (try (with_reducible rfl)))); (try simp only [Act.put, List.setIfInBounds_toArray, List.set_cons_zero, List.set_cons_succ]))
                  refine wpAnyH_ready (rs := [7]) (by kernel_rfl) (by simp) ?_
                  refine AllReadyH.cons (get_of_drop rfl) (fun K hK => ?_) AllReadyH.nil
                  go_simp
                  go_at_call 54
                  refine (HGO.out _ (HMV.out _ HIN.out.drew)).mono ?_
                  rintro e w9 ⟨rfl, hb9'⟩
                  have hb9 := HIN.out.trans ((((Below.refl wr.heap.size wr).drew).trans hb9').mono HIN.out.size)
                  have hown9 := ownsRow_below HOWN.out (((Below.refl wr.heap.size wr).drew).trans hb9')
                  have HB9 := Lib.hid hb9
                  have HW9 := Lib.hid hown9
                  clear hb9 hown9 hb9'
                  go_wp2_with fail
                  refine hK.out _ _ (HS.out w9 HB9.out) (fun hHeld => ?_)
                  clear hK K
                  try simp only [Act.put, List.setIfInBounds_toArray, List.set_cons_zero, List.set_cons_succ]
                  refine wpAnyH_ready (rs := [8]) (by kernel_rfl) (by simp) ?_
                  refine AllReadyH.cons (get_of_drop rfl) (fun K hK => ?_) AllReadyH.nil
                  go_simp
                  refine hK.out _ _ (HS.out _ (HB9.out.alloc HB9.out.size _)) (fun hHeld => ?_)
                  clear hK K
                  try simp only [Act.put, List.setIfInBounds_toArray, List.set_cons_zero, List.set_cons_succ]
                  refine wpAnyH_ready (rs := [9]) (by kernel_rfl) (by simp) ?_
                  refine AllReadyH.cons (get_of_drop rfl) (fun K hK => ?_) AllReadyH.nil
                  rw [if_pos (by rfl)]
                  refine wp_app_int w9 z _ _ _ rfl (.slice ax m cx) ((extRow al C xss k).take l) rfl HW9.out rfl ?_ HB9.out.size ?_
                  · have := HM.out; omega
                  intro ao' n' cap' w7 hn' hown' hkept
                  have HN' := Lib.hid hn'; clear hn'
                  have HB7 := Lib.hid (hkept.1 _ HB9.out)
                  have HW7 := Lib.hid hown'
                  clear hkept hown'
                  refine hK.out _ _ (HS.out w7 HB7.out) (fun hHeld => ?_)
                  clear hK K
                  try simp only [Act.put, List.setIfInBounds_toArray, List.set_cons_zero, List.set_cons_succ]
                  first | (refine wpAnyH_take (i := 10) (get_of_drop rfl) (by kernel_rfl) (by kernel_rfl) (by kernel_rfl) (fun _ _ _ h => h) (Or.inr ⟨?_, rfl⟩) hHeld ?_; (focus (simp [Region.wanted, yielded, undef]; done)); (try simp only [Act.put, List.setIfInBounds_toArray, List.set_cons_zero, List.set_cons_succ])) | (refine wpAnyH_take (i := 10) (v := ?_) (get_of_drop rfl) (by kernel_rfl) (by kernel_rfl) (by kernel_rfl) (fun _ _ _ h => h) (Or.inl ⟨?_, ?_⟩) hHeld ?_; rotate_left; (focus rfl); (focus (intro w hSw; (try dsimp only at hSw); go_simp; (try (with_reducible rfl)))); (try simp only [Act.put, List.setIfInBounds_toArray, List.set_cons_zero, List.set_cons_succ]))
                  refine wpAnyH_done (by kernel_rfl) ?_ _
                  go_wp2
                  go_roundw
                  case rel => exact ⟨l + 1, by omega, by go_num, ⟨ao', n', cap', rfl, by rw [HSN.out]; simpa using HN'.out, by rw [HSN.out]; exact HW7.out⟩, HB7.out⟩
                  case measure => simp [intOf] <;> omega
              · obtain rfl : l = nl := by omega
                have htake : (extRow al C xss k).take l = extRow al C xss k := by
                  have := extRow_len al C xss k
                  rw [HNL.out] at this
                  rw [← this, List.take_length]
                rw [htake] at hown hm
                have HM := Lib.hid hm; clear hm
                clear htake
                have hb3 := hin
                have ho2 := HOUT.out.below hb3
                have hor2 := rowIs_below HOR.out hb3
                obtain ⟨gx, hwx, hgx⟩ := hown.wi
                obtain ⟨i0, hi, hz0, hz1, hz2⟩ := info_parts Try.infoRow
                have hus16 : us.length ≤ 16 := by have h1 := HUS.out; omega
                have hs2 : nr ≤ wr.heap.size := by rw [← HNR.out]; exact hin.size
                have o1 : wr.cell? ⟨ob, 1, none⟩ = some v := hor2.cell (by decide)
                have HO2 := Lib.hid ho2
                have HOR2 := Lib.hid hor2
                have HWX := Lib.hid hwx
                have HGX := Lib.hid hgx
                have HB3 := Lib.hid hb3
                clear ho2 hor2 hwx hgx hb3 hown hin
                go_wp2_with ((at_builtin; refine wpList_append_lies _ rfl _ _ 22 rfl wc.heap.size 44 i0 _ 1 24 Try.underlying22 hi hz0 hz1 hz2 rfl (by decide) v us.length us rfl (World.ownsRow.alloc HO2.out.1 _) ⟨wr.heap.size, 0, none⟩ 1 1 [.slice ax m cx] rfl rfl (cell_one_new _ _ _) (by intro u hu; simp at hu; subst hu; rfl) (by decide) (by unfold maxLen; omega) (by omega) (by simp; omega) (wr.heap.size + 1) (by simp) ?_))
                intro g cg w3 hown3 hgrow hat hlt3
                have hkeep3 : ∀ q, q < wr.heap.size → v.ownBlock ≠ some q → w3.heap[q]? = wr.heap[q]? := by
                  intro q hq hne
                  rw [hgrow.block q (by simp; omega) (fun h => hne h.symm)]
                  exact Below.heap_alloc wr _ q hq
                have hobne : v.ownBlock ≠ some ob := fun h => by have := (HVB.out ob h).1; omega
                have hgob : g ≠ ob := by
                  rcases hat with hat | hat
                  · intro h; subst h; exact hobne hat
                  · omega
                have hor3 := HOR2.out.of_block (hkeep3 ob (by omega) hobne)
                have s1 : w3.cell? ⟨ob, 1, none⟩ = some v := hor3.cell (by decide)
                have s2 := hor3.frozen 1
                have hsz3 : wr.heap.size + 1 ≤ w3.heap.size := by have := hgrow.size; simpa using this
                have HOR3 := Lib.hid hor3
                have HOWN3 := Lib.hid hown3
                have HKEEP := Lib.hid hkeep3
                have HAT := Lib.hid hat
                have HGR := Lib.hid hgrow
                clear hor3 hown3 hkeep3 hat hgrow o1
                go_wp2
                go_roundw
                case rel =>
                  have hkeep4 : ∀ q, q < wr.heap.size → v.ownBlock ≠ some q → q ≠ ob → (w3.setCell ⟨ob, 1, none⟩ (.slice (some ⟨g, 0, none⟩) (us.length + 1) cg)).heap[q]? = wr.heap[q]? := by
                    intro q hq h1 h2
                    rw [Below.heap_setCell _ _ _ _ h2]
                    exact HKEEP.out q hq h1
                  refine ⟨k + 1, .slice (some ⟨g, 0, none⟩) (us.length + 1) cg, us ++ [.slice ax m cx], fun j => if j = us.length then gx else Bf j, by omega, by simp [HUS.out], by go_num, ?_, ?_, by simp; omega, ?_⟩
                  · refine OutK.more (n2' := nr) HO2.out hoblt (by omega) (by rw [HUS.out]; exact extM_at al C xss k hkx) HWX.out (fun h0 => by have := HGX.out h0; have := HNR.out; omega) hszn HOLD.out (fun q hq => (HVB.out q hq).2) (ownsRow_set HOWN3.out _ (fun h => hgob h.symm) _) HAT.out hkeep4 (by simp; omega)
                  · exact (HOR3.out.set 1 _).congr (fun j hj => by
                      obtain rfl | rfl | rfl : j = 0 ∨ j = 1 ∨ j = 2 := by omega
                      all_goals rfl)
                  · refine HON.out.trans ⟨?_, ?_, ?_, ?_, fun q hq hn => ?_⟩
                    · exact HGR.out.os.trans HB3.out.os
                    · exact HGR.out.tape.trans HB3.out.tape
                    · exact HGR.out.output.trans HB3.out.output
                    · have := HB3.out.size; simp; omega
                    · rw [hkeep4 q (by have := HB3.out.size; omega) (fun h => hn (.inr (HVB.out q h).1)) (fun h => hn (.inl h))]
                      exact HB3.out.block q hq
                case measure => simp [intOf] <;> omega
          · obtain rfl : k = n1 := by omega
            have hbelr : Below w.heap.size w wr := honly.below BC.out (fun q hq => by rcases hq with rfl | hq <;> omega) hlo
            obtain ⟨g, cg, rfl, hg1, hg2⟩ := World.ownsRow.form hout.1 (by rw [hus]; omega)
            have hz := ZC.out.of_block (honly.2.2.2.2 (w.heap.size + 1) (World.rowIs.lt ZC.out) (by have hzlt := World.rowIs.lt ZC.out; rintro (h | h) <;> omega))
            have z0 : wr.cell? ⟨w.heap.size + 1, 0, none⟩ = some (.int .i64 0) := hz.cell (by decide)
            have z1 : wr.cell? ⟨w.heap.size + 1, 1, none⟩ = some (.slice none 0 0) := hz.cell (by decide)
            have z2 : wr.cell? ⟨w.heap.size + 1, 2, none⟩ = some (.slice none 0 0) := hz.cell (by decide)
            have zf0 := hz.frozen 0
            have zf1 := hz.frozen 1
            have zf2 := hz.frozen 2
            have o0 : wr.cell? ⟨ob, 0, none⟩ = some (.int .i64 C) := hor.cell (by decide)
            have o1 : wr.cell? ⟨ob, 1, none⟩ = some (.slice (some ⟨g, 0, none⟩) us.length cg) := hor.cell (by decide)
            have o2 : wr.cell? ⟨ob, 2, none⟩ = some (.slice ao n2 cc) := hor.cell (by decide)
            have HOUT := Lib.hid hout
            have HON := Lib.hid honly
            have HBR := Lib.hid hbelr
            have HZR := Lib.hid hz
            clear hout honly hbelr hz hor
            have HUS := Lib.hid hus; clear hus
            go_wp2
            obtain ⟨wf, hwf⟩ : ∃ wf, (((wr.setCell ⟨w.heap.size + 1, 0, none⟩ (.int .i64 C)).setCell ⟨w.heap.size + 1, 1, none⟩ (.slice (some ⟨g, 0, none⟩) us.length cg)).setCell ⟨w.heap.size + 1, 2, none⟩ (.slice ao n2 cc)) = wf := ⟨_, rfl⟩
            have hfin := store3 HZR.out (.int .i64 C) (.slice (some ⟨g, 0, none⟩) us.length cg) (.slice ao n2 cc)
            have hbut : But (w.heap.size + 1) wr wf := by rw [← hwf]; exact (((But.refl (w.heap.size + 1) wr).set 0 _).set 1 _).set 2 _
            rw [hwf] at hfin ⊢
            clear hwf
            have f0 : wf.cell? ⟨w.heap.size + 1, 0, none⟩ = some (.int .i64 C) := hfin.cell (by decide)
            have f1 : wf.cell? ⟨w.heap.size + 1, 1, none⟩ = some (.slice (some ⟨g, 0, none⟩) us.length cg) := hfin.cell (by decide)
            have f2 : wf.cell? ⟨w.heap.size + 1, 2, none⟩ = some (.slice ao n2 cc) := hfin.cell (by decide)
            refine bodyPost_ret (v := .tuple #[.agg #[.int .i64 C, .slice (some ⟨g, 0, none⟩) us.length cg, .slice ao n2 cc], .bool true]) ?_ rfl ?_
            · simp [results, Try.results29, go_sem, f0, f1, f2]
            · have hn : us.length = (extM al C xss).length := by rw [HUS.out, extM_len, HN1.out]
              have hb1lt : b1 < wc.heap.size := by
                obtain ⟨q1, q2, q3, q4, q5, q6⟩ := HW.out
                rcases q6 with q6 | ⟨-, q6, -⟩
                · have := HN2.out; omega
                · exact q6
              have ho := Only.of_but hbut
              have hwb := (HW.out.only HON.out (fun _ h => by rcases h with h | h <;> omega)).only ho (fun _ h => by omega)
              have hbl2 : ∀ i, i < (extM al C xss).length → ((extM al C xss)[i]?.getD []).length ≠ 0 → wc.heap.size ≤ Bf i ∧ Bf i < wr.heap.size ∧ g ≠ Bf i := by
                intro i hi h0
                obtain ⟨q1, q2, q3⟩ := (HOUT.out.2.1 i (by rw [hn]; exact hi)).2 h0
                exact ⟨q1, q2, fun h => q3 (by rw [← h]; rfl)⟩
              refine ⟨g, b1, Bf, _, _, rfl, ⟨?_, hwb, by omega, fun i hi h0 => by have := (hbl2 i hi h0).1; omega, fun i hi h0 => by have h1 := (hbl2 i hi h0).2.1; have h2 := hbut.2.2.2.1; omega⟩, by omega, by omega, fun i hi h0 => by have := (hbl2 i hi h0).1; omega, ?_⟩
              · refine ⟨some ⟨g, 0, none⟩, cg, by rw [hn], ?_, ?_, .inr ⟨0, rfl, by have := hbut.2.2.2.1; omega, fun i hi => ?_⟩, fun i j hi hj h1 h2 he => HOUT.out.2.2 i j (by rw [hn]; exact hi) (by rw [hn]; exact hj) h1 h2 he, fun i hi h0 => fun h => (hbl2 i hi h0).2.2 h.symm⟩
                · rcases HOUT.out.1.2 with ⟨q, -⟩ | ⟨g', cap', cur, hv', hB', hg', hc', hm', hs', ht'⟩
                  · cases q
                  · injection hv' with q1 q2 q3
                    rw [← hn, q3]; exact hc'
                · rcases HOUT.out.1.2 with ⟨q, -⟩ | ⟨g', cap', cur, hv', hB', hg', hc', hm', hs', ht'⟩
                  · cases q
                  · injection hv' with q1 q2 q3
                    rw [q3]; exact hm'
                · have hi' : i < us.length := by rw [hn]; exact hi
                  refine ⟨us[i]?.getD undef, ?_, (HOUT.out.2.1 i hi').1.only ho (fun h0 => by have := (hbl2 i hi h0).1; omega)⟩
                  rw [Nat.zero_add, World.cell?_of_block (w := wr) (w' := wf) (a := ⟨g, i, none⟩) (hbut.2.2.2.2 g hg2 (by omega))]
                  rw [World.ownsRow.cellAt HOUT.out.1 i (by omega)]
                  simp [List.getElem?_eq_getElem hi']
              · exact hbut.below HBR.out (by omega) (by have := HBR.out.size; omega)
end Go.Proofs.Ytagegbhchljggaa
