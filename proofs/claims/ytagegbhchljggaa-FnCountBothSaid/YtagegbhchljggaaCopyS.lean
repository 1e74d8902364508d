/- The copy of an automaton that the reference makes. -/
import Derived.Test.YtagegbhchljggaaCopy
import Derived.Deep.Upon

namespace Go.Proofs.Ytagegbhchljggaa
open Go.RowKit
set_option linter.unusedVariables false
set_option linter.unusedSimpArgs false
set_option maxRecDepth 100000

theorem wp_app_iv {o : Oper} {a : Act} {K : Act → World → Prop} {Q : Exit → Act → World → Prop} (w : World) (xs : List Int) (B q : Nat) (s y : Operand)
    (ho : o.op = .call { callee := .builtin .append, args := #[s, y], argTypes := #[44, 44] }) (hs : a.eval s = .slice (some ⟨q, 0, none⟩) 0 0) (hown : IRow B w (.slice (some ⟨q, 0, none⟩) 0 0) [])
    (ad : Option Addr) (n c : Nat) (hy : a.eval y = .slice ad n c) (hv : IV w (.slice ad n c) xs) (hb : xs.length ≤ 1000000) (hB : B ≤ w.heap.size)
    (h : ∀ ao cap w1, IRow B w1 (.slice ao n cap) xs → Kept B w w1 (.slice (some ⟨q, 0, none⟩) 0 0) → K (a.put o.dst (.slice ao n cap)) w1) :
    o.wp Try.prog a w K Q := by
  obtain ⟨i0, hi, hz0, hz1, hz2⟩ := info_parts Try.infoInt
  obtain ⟨hn, hcap, hmax, hcell⟩ := SV.at hv
  have fin : ∀ v' w1, IRow B w1 v' xs → Kept B w w1 (.slice (some ⟨q, 0, none⟩) 0 0) → K (a.put o.dst v') w1 := fun v' w1 hown2 hK => by
    subst hn
    rcases hown2.2 with ⟨rfl, h0⟩ | ⟨g, c', cur, rfl, _⟩
    · have := h none 0 w1
      rw [h0] at this
      exact this hown2 hK
    · exact h _ _ w1 hown2 hK
  by_cases h0 : n = 0
  · obtain rfl := List.eq_nil_of_length_eq_zero (show xs.length = 0 by omega)
    subst h0
    cases ad with
    | none =>
      have hr := run_append_nothing (P := Try.prog) w 44 44 o.type 3 i0 Try.underlying44 hi (some ⟨q, 0, none⟩) 0 0 (Nat.le_refl _) (.slice none 0 c) (Src.ofNil w Try.underlying44 c)
      unfold Oper.wp execOp
      simp only [ho, resolve, invoke, builtin, Sem.run_bind, Sem.run_pure, Result.andThen_ok, List.map_toArray, List.map_cons, List.map_nil, hs, hy, hr]
      exact fin _ w hown ⟨fun _ h => h, World.grownBy.refl w _⟩
    | some A =>
      refine wp_append_own w s y 44 ho B 3 i0 _ 1 8 Try.underlying44 hi hz0 hz1 hz2 rfl (by decide) _ 0 [] hs hown A 0 c [] hy rfl (fun j u hu => by simp at hu) (fun u hu => by cases hu) (by decide) (by decide) hB ?_
      intro v' w1 hown' hgrow _
      exact fin v' w1 hown' ⟨fun w0 h0 => h0.grown hgrow hB (fun k hk => (World.ownsRow.lt hown k hk).1), hgrow⟩
  · rcases hcell with hcell | ⟨b, off, rfl, hbl, hc⟩
    · exact absurd hcell h0
    · refine wp_append_own w s y 44 ho B 3 i0 _ 1 8 Try.underlying44 hi hz0 hz1 hz2 rfl (by decide) _ 0 [] hs hown ⟨b, off, none⟩ n c (xs.map (Value.int .i64)) hy (by simp [hn]) (fun j u hu => ?_) (fun u hu => ?_) (by unfold maxLen; omega) (by omega) hB ?_
      · simp only [List.getElem?_map] at hu
        cases hx : xs[j]? with
        | none => rw [hx] at hu; cases hu
        | some x =>
          rw [hx] at hu
          have hj : j < xs.length := (List.getElem?_eq_some_iff.1 hx).1
          obtain ⟨u', h1, h2⟩ := hc j (by omega)
          rw [hx] at h2
          subst h2
          rw [add_at, h1]
          simpa using hu
      · simp only [List.mem_map] at hu
        obtain ⟨x, -, rfl⟩ := hu
        rfl
      intro v' w1 hown' hgrow _
      refine fin v' w1 ?_ ⟨fun w0 h0 => h0.grown hgrow hB (fun k hk => (World.ownsRow.lt hown k hk).1), hgrow⟩
      have h3 := hown'
      simp only [List.nil_append, Nat.zero_add] at h3
      rw [hn] at h3
      exact h3
theorem wp_app_bv {o : Oper} {a : Act} {K : Act → World → Prop} {Q : Exit → Act → World → Prop} (w : World) (xs : List Bool) (B q : Nat) (s y : Operand)
    (ho : o.op = .call { callee := .builtin .append, args := #[s, y], argTypes := #[23, 23] }) (hs : a.eval s = .slice (some ⟨q, 0, none⟩) 0 0) (hown : TRow B w (.slice (some ⟨q, 0, none⟩) 0 0) [])
    (ad : Option Addr) (n c : Nat) (hy : a.eval y = .slice ad n c) (hv : BV w (.slice ad n c) xs) (hb : xs.length ≤ 1000000) (hB : B ≤ w.heap.size)
    (h : ∀ ao cap w1, TRow B w1 (.slice ao n cap) xs → Kept B w w1 (.slice (some ⟨q, 0, none⟩) 0 0) → K (a.put o.dst (.slice ao n cap)) w1) :
    o.wp Try.prog a w K Q := by
  obtain ⟨i0, hi, hz0, hz1, hz2⟩ := info_parts Try.infoBool
  obtain ⟨hn, hcap, hmax, hcell⟩ := SV.at hv
  have fin : ∀ v' w1, TRow B w1 v' xs → Kept B w w1 (.slice (some ⟨q, 0, none⟩) 0 0) → K (a.put o.dst v') w1 := fun v' w1 hown2 hK => by
    subst hn
    rcases hown2.2 with ⟨rfl, h0⟩ | ⟨g, c', cur, rfl, _⟩
    · have := h none 0 w1
      rw [h0] at this
      exact this hown2 hK
    · exact h _ _ w1 hown2 hK
  by_cases h0 : n = 0
  · obtain rfl := List.eq_nil_of_length_eq_zero (show xs.length = 0 by omega)
    subst h0
    cases ad with
    | none =>
      have hr := run_append_nothing (P := Try.prog) w 23 23 o.type 4 i0 Try.underlying23 hi (some ⟨q, 0, none⟩) 0 0 (Nat.le_refl _) (.slice none 0 c) (Src.ofNil w Try.underlying23 c)
      unfold Oper.wp execOp
      simp only [ho, resolve, invoke, builtin, Sem.run_bind, Sem.run_pure, Result.andThen_ok, List.map_toArray, List.map_cons, List.map_nil, hs, hy, hr]
      exact fin _ w hown ⟨fun _ h => h, World.grownBy.refl w _⟩
    | some A =>
      refine wp_append_own w s y 23 ho B 4 i0 _ 1 1 Try.underlying23 hi hz0 hz1 hz2 rfl (by decide) _ 0 [] hs hown A 0 c [] hy rfl (fun j u hu => by simp at hu) (fun u hu => by cases hu) (by decide) (by decide) hB ?_
      intro v' w1 hown' hgrow _
      exact fin v' w1 hown' ⟨fun w0 h0 => h0.grown hgrow hB (fun k hk => (World.ownsRow.lt hown k hk).1), hgrow⟩
  · rcases hcell with hcell | ⟨b, off, rfl, hbl, hc⟩
    · exact absurd hcell h0
    · refine wp_append_own w s y 23 ho B 4 i0 _ 1 1 Try.underlying23 hi hz0 hz1 hz2 rfl (by decide) _ 0 [] hs hown ⟨b, off, none⟩ n c (xs.map Value.bool) hy (by simp [hn]) (fun j u hu => ?_) (fun u hu => ?_) (by unfold maxLen; omega) (by omega) hB ?_
      · simp only [List.getElem?_map] at hu
        cases hx : xs[j]? with
        | none => rw [hx] at hu; cases hu
        | some x =>
          rw [hx] at hu
          have hj : j < xs.length := (List.getElem?_eq_some_iff.1 hx).1
          obtain ⟨u', h1, h2⟩ := hc j (by omega)
          rw [hx] at h2
          subst h2
          rw [add_at, h1]
          simpa using hu
      · simp only [List.mem_map] at hu
        obtain ⟨x, -, rfl⟩ := hu
        rfl
      intro v' w1 hown' hgrow _
      refine fin v' w1 ?_ ⟨fun w0 h0 => h0.grown hgrow hB (fun k hk => (World.ownsRow.lt hown k hk).1), hgrow⟩
      have h3 := hown'
      simp only [List.nil_append, Nat.zero_add] at h3
      rw [hn] at h3
      exact h3
theorem trow_ne {B S : Nat} {w : World} {v : Value} {xs : List Bool} {f : Nat → Value} (h : TRow B w v xs) (hr : w.rowIs S 28 3 f) : v.ownBlock ≠ some S := by
  intro hv
  rcases h.2 with ⟨h1, -⟩ | ⟨g, c, cur, h1, hB, hg, -⟩
  · rw [h1] at hv; cases hv
  · rw [h1] at hv
    have hgS : g = S := Option.some.inj hv
    subst hgS
    obtain ⟨c', hc', -⟩ := hr
    rw [hg] at hc'
    have := Option.some.inj hc'
    simp at this
theorem trow_empty (B : Nat) (w : World) (hb : B ≤ w.heap.size) : TRow B (w.alloc (.cells #[] 4)) (.slice (some ⟨w.heap.size, 0, none⟩) 0 0) [] := World.ownsRow_made w #[] 0 hb (by decide) rfl
theorem mkO {S n2 cc : Nat} {al : Int} {ao : Option Addr} {wL w6 : World} {bs : List Bool} {f : Nat → Value} (hb : Below wL.heap.size wL w6) (hs : w6.rowIs S 28 3 f) (hS : wL.heap.size ≤ S) (ho : TRow wL.heap.size w6 (.slice ao n2 cc) bs) (h0 : bs.length ≠ 0) :
    Below wL.heap.size wL (((w6.setCell ⟨S, 0, none⟩ (.int .i64 al)).setCell ⟨S, 1, none⟩ (.slice none 0 0)).setCell ⟨S, 2, none⟩ (.slice ao n2 cc)) ∧ (((w6.setCell ⟨S, 0, none⟩ (.int .i64 al)).setCell ⟨S, 1, none⟩ (.slice none 0 0)).setCell ⟨S, 2, none⟩ (.slice ao n2 cc)).rowIs S 28 3 (fun i => #[.int .i64 al, .slice none 0 0, .slice ao n2 cc][i]?.getD undef) ∧
    ∃ b1, wL.heap.size ≤ b1 ∧ b1 ≠ S ∧ WB (((w6.setCell ⟨S, 0, none⟩ (.int .i64 al)).setCell ⟨S, 1, none⟩ (.slice none 0 0)).setCell ⟨S, 2, none⟩ (.slice ao n2 cc)) b1 (.slice ao n2 cc) bs := by
  have hne := trow_ne ho hs
  obtain ⟨b1, hW, hWb⟩ := ho.wb
  have hb1 : b1 ≠ S := by
    obtain ⟨q1, q2, q3, q4, q5, q6⟩ := hW
    injection q3 with q7 q8 q9
    rcases q6 with q6 | ⟨q6, -⟩
    · exact absurd q6 h0
    · rw [q7, q6] at hne
      intro e
      subst e
      exact hne rfl
  exact ⟨((hb.setCell (p := ⟨S, 0, none⟩) hS _).setCell (p := ⟨S, 1, none⟩) hS _).setCell (p := ⟨S, 2, none⟩) hS _, store3 hs _ _ _, b1, (hWb h0).1, hb1, hW.only (Only.of_but (((But.refl S w6).set 0 _).set 1 _ |>.set 2 _)) (fun _ h => hb1 h)⟩
set_option maxHeartbeats 8000000 in
theorem specCopy_any (al : Int) (a1 : Option Addr) (n1 c1 : Nat) (a2 : Option Addr) (n2 c2 : Nat) (xss : List (List Int)) (bs : List Bool) (w : World) (h : MV w (.slice a1 n1 c1) xss) (hb : BV w (.slice a2 n2 c2) bs) (hv : autV al xss bs = true) :
    Calls Try.prog 48 #[.agg #[.int .i64 al, .slice a1 n1 c1, .slice a2 n2 c2]] w (fun e w' => ∃ b0 b1 Bf v1 v2, e = .returned (.agg #[.int .i64 al, v1, v2]) ∧ WA w' b0 b1 Bf v1 v2 xss bs ∧ w.heap.size ≤ b0 ∧ w.heap.size ≤ b1 ∧ (∀ i, i < xss.length → (xss[i]?.getD []).length ≠ 0 → w.heap.size ≤ Bf i) ∧ Below w.heap.size w w') := by
  obtain ⟨ha, hx1, hx2, hx3, hx4, hx5⟩ := autV_facts hv
  have hn1 := (SV.at h).1
  have hn2 := (SV.at hb).1
  have hmx := (SV.at h).2.2.1
  have hcp := (SV.at h).2.1
  unfold maxLen at hmx
  have hbl : bs.length ≤ 1000000 := by omega
  have hbs0 : bs.length ≠ 0 := by omega
  have H := Lib.hid h; clear h
  have HBS := Lib.hid hbs0; clear hbs0
  have HN1 := Lib.hid hn1; clear hn1
  have HN2 := Lib.hid hn2; clear hn2
  have HROWS := Lib.hid hx4; clear hx4
  have HENT := Lib.hid hx5; clear hx5
  go_enter Try.func48, Try.ntmps48
  go_wp2_with fail
  obtain ⟨w1, hw1⟩ : ∃ w1, ((w.alloc (.cells #[.int .i64 al, .slice a1 n1 c1, .slice a2 n2 c2] 28)).alloc (.cells #[.int .i64 0, .slice none 0 0, .slice none 0 0] 28)) = w1 := ⟨_, rfl⟩
  have hb1 : Below w.heap.size w w1 := by rw [← hw1]; exact ((Below.refl _ _).alloc (Nat.le_refl _) _).alloc (by simp) _
  have hr1 : w1.rowIs w.heap.size 28 3 (fun i => #[.int .i64 al, .slice a1 n1 c1, .slice a2 n2 c2][i]?.getD undef) := by rw [← hw1]; exact (own_cells w _ _ 3 rfl).alloc _
  have ho1 : w1.rowIs (w.heap.size + 1) 28 3 (fun i => #[.int .i64 0, .slice none 0 0, .slice none 0 0][i]?.getD undef) := by
    rw [← hw1]
    have := own_cells (w.alloc (.cells #[.int .i64 al, .slice a1 n1 c1, .slice a2 n2 c2] 28)) #[.int .i64 0, .slice none 0 0, .slice none 0 0] 28 3 rfl
    simpa using this
  have hs1 : w1.heap.size = w.heap.size + 2 := by rw [← hw1]; simp
  rw [hw1]
  clear hw1
  have HR1 := Lib.hid hr1
  have HO1 := Lib.hid ho1
  have HB1 := Lib.hid hb1
  have HBV := Lib.hid (BV.below hb hb1)
  clear hr1 ho1 hb1 hb
  have HSW := Lib.hid (fun (w' : World) (hb : Below w1.heap.size w1 w') => (show w'.cell? ⟨w.heap.size, 0, none⟩ = some (.int .i64 al) ∧ w'.cell? ⟨w.heap.size, 2, none⟩ = some (.slice a2 n2 c2) from ⟨(rowIs_below HR1.out hb).cell (by decide), (rowIs_below HR1.out hb).cell (by decide)⟩))
  have HBE := Lib.hid (show Below w1.heap.size w1 (w1.alloc (.cells #[] 4)).drew from ((Below.refl w1.heap.size w1).alloc (Nat.le_refl _) _).drew)
  have HOE := Lib.hid (show TRow w1.heap.size (w1.alloc (.cells #[] 4)).drew (.slice (some ⟨w.heap.size + 2, 0, none⟩) 0 0) [] from hs1 ▸ trow_empty w1.heap.size w1 (Nat.le_refl _))
  go_cut [3] from 5 to 12 (fun s3 wc => ∃ (ob b1 : Nat) (ao : Option Addr) (cc : Nat), s3 = .pointer (some ⟨ob, 0, none⟩) ∧ w1.heap.size ≤ ob ∧ w1.heap.size ≤ b1 ∧ b1 ≠ ob ∧ wc.rowIs ob 28 3 (fun i => #[.int .i64 al, .slice none 0 0, .slice ao n2 cc][i]?.getD undef) ∧ Below w1.heap.size w1 wc ∧ WB wc b1 (.slice ao n2 cc) bs)
  case first =>
    refine wp_region_held_drew (S := fun w' => w'.cell? ⟨w.heap.size, 0, none⟩ = some (.int .i64 al) ∧ w'.cell? ⟨w.heap.size, 2, none⟩ = some (.slice a2 n2 c2)) (by kernel_rfl) (HSW.out _ (Below.refl _ _).drew) (fun hHeld => ?_)
    first | (refine wpAnyH_take (i := 0) (get_of_drop rfl) (by kernel_rfl) (by kernel_rfl) (by kernel_rfl) (fun _ _ _ h => h) (Or.inr ⟨?_, rfl⟩) hHeld ?_; (focus (simp [Region.wanted, yielded, undef]; done)); (try simp only [Act.put, List.setIfInBounds_toArray, List.set_cons_zero, List.set_cons_succ])) | (refine wpAnyH_take (i := 0) (v := ?_) (get_of_drop rfl) (by kernel_rfl) (by kernel_rfl) (by kernel_rfl) (fun _ _ _ h => h) (Or.inl ⟨?_, ?_⟩) hHeld ?_; rotate_left; (focus rfl); (focus (intro w hSw; (try dsimp only at hSw); go_simp; (try (with_reducible rfl)))); (try simp only [Act.put, List.setIfInBounds_toArray, List.set_cons_zero, List.set_cons_succ]))
    first | (refine wpAnyH_take (i := 1) (get_of_drop rfl) (by kernel_rfl) (by kernel_rfl) (by kernel_rfl) (fun _ _ _ h => h) (Or.inr ⟨?_, rfl⟩) hHeld ?_; (focus (simp [Region.wanted, yielded, undef]; done)); (try simp only [Act.put, List.setIfInBounds_toArray, List.set_cons_zero, List.set_cons_succ])) | (refine wpAnyH_take (i := 1) (v := ?_) (get_of_drop rfl) (by kernel_rfl) (by kernel_rfl) (by kernel_rfl) (fun _ _ _ h => h) (Or.inl ⟨?_, ?_⟩) hHeld ?_; rotate_left; (focus rfl); (focus (intro w hSw; (try dsimp only at hSw); go_simp; (try (with_reducible rfl)))); (try simp only [Act.put, List.setIfInBounds_toArray, List.set_cons_zero, List.set_cons_succ]))
    first | (refine wpAnyH_take (i := 3) (get_of_drop rfl) (by kernel_rfl) (by kernel_rfl) (by kernel_rfl) (fun _ _ _ h => h) (Or.inr ⟨?_, rfl⟩) hHeld ?_; (focus (simp [Region.wanted, yielded, undef]; done)); (try simp only [Act.put, List.setIfInBounds_toArray, List.set_cons_zero, List.set_cons_succ])) | (refine wpAnyH_take (i := 3) (v := ?_) (get_of_drop rfl) (by kernel_rfl) (by kernel_rfl) (by kernel_rfl) (fun _ _ _ h => h) (Or.inl ⟨?_, ?_⟩) hHeld ?_; rotate_left; (focus rfl); (focus (intro w hSw; (try dsimp only at hSw); go_simp; (try (with_reducible rfl)))); (try simp only [Act.put, List.setIfInBounds_toArray, List.set_cons_zero, List.set_cons_succ]))
    first | (refine wpAnyH_take (i := 4) (get_of_drop rfl) (by kernel_rfl) (by kernel_rfl) (by kernel_rfl) (fun _ _ _ h => h) (Or.inr ⟨?_, rfl⟩) hHeld ?_; (focus (simp [Region.wanted, yielded, undef]; done)); (try simp only [Act.put, List.setIfInBounds_toArray, List.set_cons_zero, List.set_cons_succ])) | (refine wpAnyH_take (i := 4) (v := ?_) (get_of_drop rfl) (by kernel_rfl) (by kernel_rfl) (by kernel_rfl) (fun _ _ _ h => h) (Or.inl ⟨?_, ?_⟩) hHeld ?_; rotate_left; (focus rfl); (focus (intro w hSw; (try dsimp only at hSw); go_simp; (try (with_reducible rfl)))); (try simp only [Act.put, List.setIfInBounds_toArray, List.set_cons_zero, List.set_cons_succ]))
    refine wpAnyH_ready (rs := [2, 7]) (by kernel_rfl) (by simp) ?_
    refine AllReadyH.cons (get_of_drop rfl) (fun K hK => ?_) ?_
    · go_simp
      refine hK.out _ _ (HSW.out _ HBE.out) (fun hHeld => ?_)
      clear hK K
      try simp only [Act.put, List.setIfInBounds_toArray, List.set_cons_zero, List.set_cons_succ]
      refine wpAnyH_ready (rs := [5, 7]) (by kernel_rfl) (by simp) ?_
      refine AllReadyH.cons (get_of_drop rfl) (fun K hK => ?_) ?_
      · rw [if_pos (by rfl)]
        refine wp_app_bv _ bs w1.heap.size (w.heap.size + 2) _ _ rfl rfl HOE.out a2 n2 c2 rfl (BV.below HBV.out HBE.out) (by omega) (HBE.out).size ?_
        intro ao' cap' w9 hown' hkept
        have hb9 := hkept.1 w1 HBE.out
        refine hK.out _ _ (HSW.out _ hb9) (fun hHeld => ?_)
        clear hK K
        try simp only [Act.put, List.setIfInBounds_toArray, List.set_cons_zero, List.set_cons_succ]
        first | (refine wpAnyH_take (i := 6) (get_of_drop rfl) (by kernel_rfl) (by kernel_rfl) (by kernel_rfl) (fun _ _ _ h => h) (Or.inr ⟨?_, rfl⟩) hHeld ?_; (focus (simp [Region.wanted, yielded, undef]; done)); (try simp only [Act.put, List.setIfInBounds_toArray, List.set_cons_zero, List.set_cons_succ])) | (refine wpAnyH_take (i := 6) (v := ?_) (get_of_drop rfl) (by kernel_rfl) (by kernel_rfl) (by kernel_rfl) (fun _ _ _ h => h) (Or.inl ⟨?_, ?_⟩) hHeld ?_; rotate_left; (focus rfl); (focus (intro w hSw; (try dsimp only at hSw); go_simp; (try (with_reducible rfl)))); (try simp only [Act.put, List.setIfInBounds_toArray, List.set_cons_zero, List.set_cons_succ]))
        obtain ⟨S, hS⟩ : ∃ S, (w9).heap.size = S := ⟨_, rfl⟩
        obtain ⟨w6, hwS⟩ : ∃ w6, ((w9).alloc (.cells #[.int .i64 0, .slice none 0 0, .slice none 0 0] 28)) = w6 := ⟨_, rfl⟩
        have hb6 := below_new (w9) 28 #[.int .i64 0, .slice none 0 0, .slice none 0 0]
        have hr6 := own_cells (w9) #[.int .i64 0, .slice none 0 0, .slice none 0 0] 28 3 rfl
        rw [hS] at hr6
        rw [hwS] at hb6 hr6
        have hbL6 := hb9.trans (hb6.mono hb9.size)
        have hown6 := hown'.below hb6
        have hSw : w1.heap.size ≤ S := by have := hb9.size; omega
        have s0 : w6.cell? ⟨S, 0, none⟩ = some (.int .i64 0) := (hr6).cell (by decide)
        have s1 : w6.cell? ⟨S, 1, none⟩ = some (.slice none 0 0) := (hr6).cell (by decide)
        have s2 : w6.cell? ⟨S, 2, none⟩ = some (.slice none 0 0) := (hr6).cell (by decide)
        have sf0 := (hr6).frozen 0
        have sf1 := (hr6).frozen 1
        have sf2 := (hr6).frozen 2
        refine wpAnyH_ready (rs := [7]) (by kernel_rfl) (by simp) ?_
        refine AllReadyH.cons (get_of_drop rfl) (fun K hK => ?_) AllReadyH.nil
        go_simp
        refine hK.out _ _ (HSW.out _ hbL6) (fun hHeld => ?_)
        clear hK K
        try simp only [Act.put, List.setIfInBounds_toArray, List.set_cons_zero, List.set_cons_succ]
        have HD := Lib.hid (mkO (al := al) hbL6 hr6 hSw hown6 HBS.out)
        clear hown' hkept
        refine wpAnyH_ready (rs := [8]) (by kernel_rfl) (by simp) ?_
        refine AllReadyH.cons (get_of_drop rfl) (fun K hK => ?_) AllReadyH.nil
        go_simp
        refine hK.out _ _ (HSW.out _ HD.out.1) (fun hHeld => ?_)
        clear hK K
        try simp only [Act.put, List.setIfInBounds_toArray, List.set_cons_zero, List.set_cons_succ]
        refine wpAnyH_done (by kernel_rfl) ?_ _
        go_wp2_with fail
        go_meet
        case rel =>
          obtain ⟨d1, d2, b1, d3, d4, d5⟩ := HD.out
          exact ⟨S, b1, ao', cap', rfl, hSw, d3, d4, d2, d1, d5⟩
      · refine AllReadyH.cons (get_of_drop rfl) (fun K hK => ?_) AllReadyH.nil
        obtain ⟨S, hS⟩ : ∃ S, ((w1.alloc (.cells #[] 4)).drew).heap.size = S := ⟨_, rfl⟩
        obtain ⟨wS, hwS⟩ : ∃ wS, (((w1.alloc (.cells #[] 4)).drew).alloc (.cells #[.int .i64 0, .slice none 0 0, .slice none 0 0] 28)) = wS := ⟨_, rfl⟩
        have hb6 := below_new ((w1.alloc (.cells #[] 4)).drew) 28 #[.int .i64 0, .slice none 0 0, .slice none 0 0]
        have hr6 := own_cells ((w1.alloc (.cells #[] 4)).drew) #[.int .i64 0, .slice none 0 0, .slice none 0 0] 28 3 rfl
        rw [hS] at hr6
        rw [hwS] at hb6 hr6
        have hbS := HBE.out.trans (hb6.mono HBE.out.size)
        have hSw : w1.heap.size ≤ S := by have := HBE.out.size; omega
        go_simp
        refine hK.out _ _ (HSW.out _ hbS) (fun hHeld => ?_)
        clear hK K
        try simp only [Act.put, List.setIfInBounds_toArray, List.set_cons_zero, List.set_cons_succ]
        refine wpAnyH_ready (rs := [5]) (by kernel_rfl) (by simp) ?_
        refine AllReadyH.cons (get_of_drop rfl) (fun K hK => ?_) AllReadyH.nil
        rw [if_pos (by rfl)]
        refine wp_app_bv wS bs w1.heap.size (w.heap.size + 2) _ _ rfl rfl (HOE.out.below hb6) a2 n2 c2 rfl (BV.below HBV.out hbS) (by omega) (hbS).size ?_
        intro ao' cap' w9 hown' hkept
        have hb9 := hkept.1 w1 hbS
        refine hK.out _ _ (HSW.out _ hb9) (fun hHeld => ?_)
        clear hK K
        try simp only [Act.put, List.setIfInBounds_toArray, List.set_cons_zero, List.set_cons_succ]
        have hr5 := hr6.of_block (hkept.2.block S (World.rowIs.lt hr6) (fun e => trow_ne (HOE.out.below hb6) hr6 e.symm))
        have s0 : w9.cell? ⟨S, 0, none⟩ = some (.int .i64 0) := (hr5).cell (by decide)
        have s1 : w9.cell? ⟨S, 1, none⟩ = some (.slice none 0 0) := (hr5).cell (by decide)
        have s2 : w9.cell? ⟨S, 2, none⟩ = some (.slice none 0 0) := (hr5).cell (by decide)
        have sf0 := (hr5).frozen 0
        have sf1 := (hr5).frozen 1
        have sf2 := (hr5).frozen 2
        first | (refine wpAnyH_take (i := 6) (get_of_drop rfl) (by kernel_rfl) (by kernel_rfl) (by kernel_rfl) (fun _ _ _ h => h) (Or.inr ⟨?_, rfl⟩) hHeld ?_; (focus (simp [Region.wanted, yielded, undef]; done)); (try simp only [Act.put, List.setIfInBounds_toArray, List.set_cons_zero, List.set_cons_succ])) | (refine wpAnyH_take (i := 6) (v := ?_) (get_of_drop rfl) (by kernel_rfl) (by kernel_rfl) (by kernel_rfl) (fun _ _ _ h => h) (Or.inl ⟨?_, ?_⟩) hHeld ?_; rotate_left; (focus rfl); (focus (intro w hSw; (try dsimp only at hSw); go_simp; (try (with_reducible rfl)))); (try simp only [Act.put, List.setIfInBounds_toArray, List.set_cons_zero, List.set_cons_succ]))
        have HD := Lib.hid (mkO (al := al) hb9 hr5 hSw hown' HBS.out)
        clear hown' hkept
        refine wpAnyH_ready (rs := [8]) (by kernel_rfl) (by simp) ?_
        refine AllReadyH.cons (get_of_drop rfl) (fun K hK => ?_) AllReadyH.nil
        go_simp
        refine hK.out _ _ (HSW.out _ HD.out.1) (fun hHeld => ?_)
        clear hK K
        try simp only [Act.put, List.setIfInBounds_toArray, List.set_cons_zero, List.set_cons_succ]
        refine wpAnyH_done (by kernel_rfl) ?_ _
        go_wp2_with fail
        go_meet
        case rel =>
          obtain ⟨d1, d2, b1, d3, d4, d5⟩ := HD.out
          exact ⟨S, b1, ao', cap', rfl, hSw, d3, d4, d2, d1, d5⟩
    · refine AllReadyH.cons (get_of_drop rfl) (fun K hK => ?_) AllReadyH.nil
      obtain ⟨S, hS⟩ : ∃ S, (w1.drew).heap.size = S := ⟨_, rfl⟩
      obtain ⟨wS, hwS⟩ : ∃ wS, ((w1.drew).alloc (.cells #[.int .i64 0, .slice none 0 0, .slice none 0 0] 28)) = wS := ⟨_, rfl⟩
      have hb6 := below_new (w1.drew) 28 #[.int .i64 0, .slice none 0 0, .slice none 0 0]
      have hr6 := own_cells (w1.drew) #[.int .i64 0, .slice none 0 0, .slice none 0 0] 28 3 rfl
      rw [hS] at hr6
      rw [hwS] at hb6 hr6
      have hbS : Below w1.heap.size w1 wS := ((Below.refl w1.heap.size w1).drew).trans hb6
      have hSw : w1.heap.size ≤ S := by have h : w1.drew.heap.size = w1.heap.size := rfl; omega
      go_simp
      refine hK.out _ _ (HSW.out _ hbS) (fun hHeld => ?_)
      clear hK K
      try simp only [Act.put, List.setIfInBounds_toArray, List.set_cons_zero, List.set_cons_succ]
      refine wpAnyH_ready (rs := [2]) (by kernel_rfl) (by simp) ?_
      refine AllReadyH.cons (get_of_drop rfl) (fun K hK => ?_) AllReadyH.nil
      obtain ⟨q, hq⟩ : ∃ q, wS.heap.size = q := ⟨_, rfl⟩
      obtain ⟨wE, hwE⟩ : ∃ wE, (wS.alloc (.cells #[] 4)) = wE := ⟨_, rfl⟩
      have hbE := below_new wS 4 #[]
      have hoE := trow_empty w1.heap.size wS hbS.size
      rw [hq] at hoE
      rw [hwE] at hbE hoE
      have hrE := rowIs_below hr6 hbE
      have hbLE := hbS.trans (hbE.mono hbS.size)
      go_simp
      refine hK.out _ _ (HSW.out _ hbLE) (fun hHeld => ?_)
      clear hK K
      try simp only [Act.put, List.setIfInBounds_toArray, List.set_cons_zero, List.set_cons_succ]
      refine wpAnyH_ready (rs := [5]) (by kernel_rfl) (by simp) ?_
      refine AllReadyH.cons (get_of_drop rfl) (fun K hK => ?_) AllReadyH.nil
      rw [if_pos (by rfl)]
      refine wp_app_bv wE bs w1.heap.size (q) _ _ rfl rfl hoE a2 n2 c2 rfl (BV.below HBV.out hbLE) (by omega) (hbLE).size ?_
      intro ao' cap' w9 hown' hkept
      have hb9 := hkept.1 w1 hbLE
      refine hK.out _ _ (HSW.out _ hb9) (fun hHeld => ?_)
      clear hK K
      try simp only [Act.put, List.setIfInBounds_toArray, List.set_cons_zero, List.set_cons_succ]
      have hr5 := hrE.of_block (hkept.2.block S (World.rowIs.lt hrE) (fun e => trow_ne hoE hrE e.symm))
      have s0 : w9.cell? ⟨S, 0, none⟩ = some (.int .i64 0) := (hr5).cell (by decide)
      have s1 : w9.cell? ⟨S, 1, none⟩ = some (.slice none 0 0) := (hr5).cell (by decide)
      have s2 : w9.cell? ⟨S, 2, none⟩ = some (.slice none 0 0) := (hr5).cell (by decide)
      have sf0 := (hr5).frozen 0
      have sf1 := (hr5).frozen 1
      have sf2 := (hr5).frozen 2
      first | (refine wpAnyH_take (i := 6) (get_of_drop rfl) (by kernel_rfl) (by kernel_rfl) (by kernel_rfl) (fun _ _ _ h => h) (Or.inr ⟨?_, rfl⟩) hHeld ?_; (focus (simp [Region.wanted, yielded, undef]; done)); (try simp only [Act.put, List.setIfInBounds_toArray, List.set_cons_zero, List.set_cons_succ])) | (refine wpAnyH_take (i := 6) (v := ?_) (get_of_drop rfl) (by kernel_rfl) (by kernel_rfl) (by kernel_rfl) (fun _ _ _ h => h) (Or.inl ⟨?_, ?_⟩) hHeld ?_; rotate_left; (focus rfl); (focus (intro w hSw; (try dsimp only at hSw); go_simp; (try (with_reducible rfl)))); (try simp only [Act.put, List.setIfInBounds_toArray, List.set_cons_zero, List.set_cons_succ]))
      have HD := Lib.hid (mkO (al := al) hb9 hr5 hSw hown' HBS.out)
      clear hown' hkept
      refine wpAnyH_ready (rs := [8]) (by kernel_rfl) (by simp) ?_
      refine AllReadyH.cons (get_of_drop rfl) (fun K hK => ?_) AllReadyH.nil
      go_simp
      refine hK.out _ _ (HSW.out _ HD.out.1) (fun hHeld => ?_)
      clear hK K
      try simp only [Act.put, List.setIfInBounds_toArray, List.set_cons_zero, List.set_cons_succ]
      refine wpAnyH_done (by kernel_rfl) ?_ _
      go_wp2_with fail
      go_meet
      case rel =>
        obtain ⟨d1, d2, b1, d3, d4, d5⟩ := HD.out
        exact ⟨S, b1, ao', cap', rfl, hSw, d3, d4, d2, d1, d5⟩
  case rest =>
    obtain ⟨ob, b1, ao, cc, rfl, hob, hb1, hne1, hO, hBc, hW⟩ := hcut
    have hs1' : w.heap.size + 2 ≤ ob := by omega
    have hs1'' : w.heap.size + 2 ≤ b1 := by omega
    have hR := rowIs_below HR1.out hBc
    have hZ := rowIs_below HO1.out hBc
    have hB := HB1.out.trans (hBc.mono HB1.out.size)
    have p1 : wc.cell? ⟨w.heap.size, 1, none⟩ = some (.slice a1 n1 c1) := hR.cell (by decide)
    have HZ := Lib.hid hZ
    have HO := Lib.hid hO
    have HR := Lib.hid hR
    have HB := Lib.hid hB
    have HW := Lib.hid hW
    have HMV := Lib.hid (MV.below H.out hB)
    have hlo : w.heap.size ≤ wc.heap.size := HB.out.size
    have hoblt : ob < wc.heap.size := World.rowIs.lt HO.out
    clear hO hR hB hW hZ hBc HSW HBE HOE HBV hob hb1
    go_wp2_with fail
    go_loopw [4] (fun i wr => ∃ (k : Nat) (v : Value) (us : List Value) (Bf : Nat → Nat), k ≤ n1 ∧ us.length = k ∧ i = .int .i64 k ∧ OutK wc.heap.size wr v us Bf xss ∧ wr.rowIs ob 28 3 (fun i => #[.int .i64 al, v, .slice ao n2 cc][i]?.getD undef) ∧ wc.heap.size ≤ wr.heap.size ∧ Only (fun q => q = ob ∨ wc.heap.size ≤ q) wc wr) (fun i _ => n1 - (intOf i).toNat)
    case atStart => exact ⟨0, .slice none 0 0, [], fun _ => 0, by omega, rfl, rfl, ⟨World.ownsRow_nil _ _ _ _, fun i hi => by simp at hi, fun i j hi => by simp at hi⟩, HO.out, Nat.le_refl _, Only.refl _ _⟩
    case round =>
      obtain ⟨k, v, us, Bf, hk, hus, rfl, hout, hor, hsz, honly⟩ := hrel
      have hRr := HR.out.of_block (honly.2.2.2.2 w.heap.size (World.rowIs.lt HR.out) (by rintro (h | h) <;> omega))
      have a1' : wr.cell? ⟨w.heap.size, 1, none⟩ = some (.slice a1 n1 c1) := hRr.cell (by decide)
      by_cases hlt : k < n1
      · have hbelr : Below w.heap.size w wr := honly.below HB.out (fun q hq => by rcases hq with rfl | hq <;> omega) hlo
        obtain ⟨br, ofr, rfl, hbr, u, hcr, hiv⟩ : ∃ b off, a1 = some ⟨b, off, none⟩ ∧ b < w.heap.size ∧ ∃ u, w.cell? ⟨b, off + k, none⟩ = some u ∧ IV w u (xss[k]?.getD []) := by
          rcases (SV.at H.out).2.2.2 with h0 | ⟨b, off, rfl, hb, hc⟩
          · omega
          · obtain ⟨u, hu, hv⟩ := hc k hlt
            exact ⟨b, off, rfl, hb, u, hu, hv⟩
        obtain ⟨ar, m3, c3, rfl⟩ : ∃ a n c, u = .slice a n c := by obtain ⟨a, c, e, -⟩ := hiv; exact ⟨a, _, c, e⟩
        have hmx3 : m3 = (xss[k]?.getD []).length := (SV.at hiv).1
        have e1 : wr.cell? ⟨br, ofr + k, none⟩ = some (.slice ar m3 c3) := by rw [cell_below hbelr hbr]; exact hcr
        have o1 : wr.cell? ⟨ob, 1, none⟩ = some v := hor.cell (by decide)
        have HOUT := Lib.hid hout
        have HOR := Lib.hid hor
        have HON := Lib.hid honly
        have HBR := Lib.hid hbelr
        have HIV := Lib.hid (IV.below hiv hbelr)
        have HRR := Lib.hid hRr
        have HE1 := Lib.hid e1
        have HO1' := Lib.hid o1
        have HUS := Lib.hid hus; clear hus
        clear hcr hout hor honly hbelr hiv hRr
        obtain ⟨x, hx⟩ : ∃ x, xss[k]?.getD [] = x := ⟨_, rfl⟩
        have hx48 : x.length ≤ 1000000 := by
          have hkx : k < xss.length := by rw [← HN1.out]; exact hlt
          have := HROWS.out _ (List.getElem_mem hkx)
          rw [← hx, List.getElem?_eq_getElem hkx, Option.getD_some, this]
          have := lets_len al
          omega
        rw [hx] at hmx3 HIV
        have HX := Lib.hid hx; clear hx
        have HMX := Lib.hid hmx3; clear hmx3
        have HSX := Lib.hid (fun (w' : World) (hb : Below wr.heap.size wr w') => (show w'.cell? ⟨w.heap.size, 1, none⟩ = some (.slice (some ⟨br, ofr, none⟩) n1 c1) ∧ w'.cell? ⟨br, ofr + k, none⟩ = some (.slice ar m3 c3) from ⟨(rowIs_below HRR.out hb).cell (by decide), by rw [cell_below hb (by have := HBR.out.size; omega)]; exact HE1.out⟩))
        have HOB := Lib.hid (fun (w' : World) (hb : Below wr.heap.size wr w') => (show w'.cell? ⟨ob, 1, none⟩ = some v from by rw [cell_below hb (World.rowIs.lt HOR.out)]; exact HO1'.out))
        have hki : (k : Int) < (n1 : Int) := by omega
        go_wp2_with fail
        refine wp_region_held_drew (S := fun w' => w'.cell? ⟨w.heap.size, 1, none⟩ = some (.slice (some ⟨br, ofr, none⟩) n1 c1) ∧ w'.cell? ⟨br, ofr + k, none⟩ = some (.slice ar m3 c3)) (by kernel_rfl) (HSX.out _ (Below.refl _ _).drew) (fun hHeld => ?_)
        first | (refine wpAnyH_take (i := 0) (get_of_drop rfl) (by kernel_rfl) (by kernel_rfl) (by kernel_rfl) (fun _ _ _ h => h) (Or.inr ⟨?_, rfl⟩) hHeld ?_; (focus (simp [Region.wanted, yielded, undef]; done)); (try simp only [Act.put, List.setIfInBounds_toArray, List.set_cons_zero, List.set_cons_succ])) | (refine wpAnyH_take (i := 0) (v := ?_) (get_of_drop rfl) (by kernel_rfl) (by kernel_rfl) (by kernel_rfl) (fun _ _ _ h => h) (Or.inl ⟨?_, ?_⟩) hHeld ?_; rotate_left; (focus rfl); (focus (intro w hSw; (try dsimp only at hSw); go_simp; (try (with_reducible rfl)))); (try simp only [Act.put, List.setIfInBounds_toArray, List.set_cons_zero, List.set_cons_succ]))
        first | (refine wpAnyH_take (i := 3) (get_of_drop rfl) (by kernel_rfl) (by kernel_rfl) (by kernel_rfl) (fun _ _ _ h => h) (Or.inr ⟨?_, rfl⟩) hHeld ?_; (focus (simp [Region.wanted, yielded, undef]; done)); (try simp only [Act.put, List.setIfInBounds_toArray, List.set_cons_zero, List.set_cons_succ])) | (refine wpAnyH_take (i := 3) (v := ?_) (get_of_drop rfl) (by kernel_rfl) (by kernel_rfl) (by kernel_rfl) (fun _ _ _ h => h) (Or.inl ⟨?_, ?_⟩) hHeld ?_; rotate_left; (focus rfl); (focus (intro w hSw; (try dsimp only at hSw); go_simp; (try (with_reducible rfl)))); (try simp only [Act.put, List.setIfInBounds_toArray, List.set_cons_zero, List.set_cons_succ]))
        first | (refine wpAnyH_take (i := 4) (get_of_drop rfl) (by kernel_rfl) (by kernel_rfl) (by kernel_rfl) (fun _ _ _ h => h) (Or.inr ⟨?_, rfl⟩) hHeld ?_; (focus (simp [Region.wanted, yielded, undef]; done)); (try simp only [Act.put, List.setIfInBounds_toArray, List.set_cons_zero, List.set_cons_succ])) | (refine wpAnyH_take (i := 4) (v := ?_) (get_of_drop rfl) (by kernel_rfl) (by kernel_rfl) (by kernel_rfl) (fun _ _ _ h => h) (Or.inl ⟨?_, ?_⟩) hHeld ?_; rotate_left; (focus rfl); (focus (intro w hSw; (try dsimp only at hSw); go_simp; (try (with_reducible rfl)))); (try simp only [Act.put, List.setIfInBounds_toArray, List.set_cons_zero, List.set_cons_succ]))
        first | (refine wpAnyH_take (i := 5) (get_of_drop rfl) (by kernel_rfl) (by kernel_rfl) (by kernel_rfl) (fun _ _ _ h => h) (Or.inr ⟨?_, rfl⟩) hHeld ?_; (focus (simp [Region.wanted, yielded, undef]; done)); (try simp only [Act.put, List.setIfInBounds_toArray, List.set_cons_zero, List.set_cons_succ])) | (refine wpAnyH_take (i := 5) (v := ?_) (get_of_drop rfl) (by kernel_rfl) (by kernel_rfl) (by kernel_rfl) (fun _ _ _ h => h) (Or.inl ⟨?_, ?_⟩) hHeld ?_; rotate_left; (focus rfl); (focus (intro w hSw; (try dsimp only at hSw); go_simp; (try (with_reducible rfl)))); (try simp only [Act.put, List.setIfInBounds_toArray, List.set_cons_zero, List.set_cons_succ]))
        first | (refine wpAnyH_take (i := 6) (get_of_drop rfl) (by kernel_rfl) (by kernel_rfl) (by kernel_rfl) (fun _ _ _ h => h) (Or.inr ⟨?_, rfl⟩) hHeld ?_; (focus (simp [Region.wanted, yielded, undef]; done)); (try simp only [Act.put, List.setIfInBounds_toArray, List.set_cons_zero, List.set_cons_succ])) | (refine wpAnyH_take (i := 6) (v := ?_) (get_of_drop rfl) (by kernel_rfl) (by kernel_rfl) (by kernel_rfl) (fun _ _ _ h => h) (Or.inl ⟨?_, ?_⟩) hHeld ?_; rotate_left; (focus rfl); (focus (intro w hSw; (try dsimp only at hSw); go_simp; (try (with_reducible rfl)))); (try simp only [Act.put, List.setIfInBounds_toArray, List.set_cons_zero, List.set_cons_succ]))
        first | (refine wpAnyH_take (i := 7) (get_of_drop rfl) (by kernel_rfl) (by kernel_rfl) (by kernel_rfl) (fun _ _ _ h => h) (Or.inr ⟨?_, rfl⟩) hHeld ?_; (focus (simp [Region.wanted, yielded, undef]; done)); (try simp only [Act.put, List.setIfInBounds_toArray, List.set_cons_zero, List.set_cons_succ])) | (refine wpAnyH_take (i := 7) (v := ?_) (get_of_drop rfl) (by kernel_rfl) (by kernel_rfl) (by kernel_rfl) (fun _ _ _ h => h) (Or.inl ⟨?_, ?_⟩) hHeld ?_; rotate_left; (focus rfl); (focus (intro w hSw; (try dsimp only at hSw); go_simp; (try (with_reducible rfl)))); (try simp only [Act.put, List.setIfInBounds_toArray, List.set_cons_zero, List.set_cons_succ]))
        have o1d : wr.drew.cell? ⟨ob, 1, none⟩ = some v := HO1'.out
        have HBE := Lib.hid (show Below wr.heap.size wr (wr.alloc (.cells #[] 3)).drew from ((Below.refl wr.heap.size wr).alloc (Nat.le_refl _) _).drew)
        have HOE := Lib.hid (show IRow wr.heap.size (wr.alloc (.cells #[] 3)).drew (.slice (some ⟨wr.heap.size, 0, none⟩) 0 0) [] from IRow.empty wr.heap.size wr (Nat.le_refl _))
        have o1e : (wr.alloc (.cells #[] 3)).drew.cell? ⟨ob, 1, none⟩ = some v := HOB.out _ HBE.out
        refine wpAnyH_ready (rs := [1, 2]) (by kernel_rfl) (by simp) ?_
        refine AllReadyH.cons (get_of_drop rfl) (fun K hK => ?_) ?_
        · go_simp
          refine hK.out _ _ (HSX.out _ (Below.refl _ _).drew) (fun hHeld => ?_)
          clear hK K
          try simp only [Act.put, List.setIfInBounds_toArray, List.set_cons_zero, List.set_cons_succ]
          refine wpAnyH_ready (rs := [2]) (by kernel_rfl) (by simp) ?_
          refine AllReadyH.cons (get_of_drop rfl) (fun K hK => ?_) AllReadyH.nil
          go_simp
          refine hK.out _ _ (HSX.out _ HBE.out) (fun hHeld => ?_)
          clear hK K
          try simp only [Act.put, List.setIfInBounds_toArray, List.set_cons_zero, List.set_cons_succ]
          refine wpAnyH_ready (rs := [8]) (by kernel_rfl) (by simp) ?_
          refine AllReadyH.cons (get_of_drop rfl) (fun K hK => ?_) AllReadyH.nil
          rw [if_pos (by rfl)]
          refine wp_app_iv _ x wr.heap.size wr.heap.size _ _ rfl rfl HOE.out ar m3 c3 rfl (IV.below HIV.out HBE.out) hx48 HBE.out.size ?_
          intro ax cx w9 hown hkept
          have hb9 := hkept.1 wr HBE.out
          clear hkept
          refine hK.out _ _ (HSX.out _ hb9) (fun hHeld => ?_)
          clear hK K
          try simp only [Act.put, List.setIfInBounds_toArray, List.set_cons_zero, List.set_cons_succ]
          refine wpAnyH_ready (rs := [9]) (by kernel_rfl) (by simp) ?_
          refine AllReadyH.cons (get_of_drop rfl) (fun K hK => ?_) AllReadyH.nil
          go_simp
          refine hK.out _ _ (HSX.out _ (hb9.alloc hb9.size _)) (fun hHeld => ?_)
          clear hK K
          try simp only [Act.put, List.setIfInBounds_toArray, List.set_cons_zero, List.set_cons_succ]
          refine wpAnyH_ready (rs := [10]) (by kernel_rfl) (by simp) ?_
          refine AllReadyH.cons (get_of_drop rfl) (fun K hK => ?_) AllReadyH.nil
          rw [if_pos (by rfl)]
          have ho2 := HOUT.out.below hb9
          have hor2 := rowIs_below HOR.out hb9
          obtain ⟨gx, hwx, hgx⟩ := hown.wi
          have hvb : ∀ q, v.ownBlock = some q → wc.heap.size ≤ q ∧ q < wr.heap.size := fun q hq => World.ownsRow.lt HOUT.out.1 q hq
          obtain ⟨i0, hi, hz0, hz1, hz2⟩ := info_parts Try.infoRow
          have hus16 : us.length ≤ 16 := by have h1 := HUS.out; have h2 := HN1.out; omega
          have hs2 := hb9.size
          have hsx9 := HSX.out _ hb9
          refine wp_append_lies _ _ _ 22 rfl wc.heap.size 44 i0 _ 1 24 Try.underlying22 hi hz0 hz1 hz2 rfl (by decide) v us.length us rfl (World.ownsRow.alloc ho2.1 _) ⟨w9.heap.size, 0, none⟩ 1 1 [.slice ax m3 cx] rfl rfl (cell_one_new _ _ _) (by intro u hu; simp at hu; subst hu; rfl) (by decide) (by unfold maxLen; omega) (by omega) (by simp; omega) (w9.heap.size + 1) (by simp) ?_
          intro g cg w3 hown3 hgrow hat hlt3
          have hkeep3 : ∀ q, q < w9.heap.size → v.ownBlock ≠ some q → w3.heap[q]? = w9.heap[q]? := by
            intro q hq hne
            rw [hgrow.block q (by simp; omega) (fun h => hne h.symm)]
            exact Below.heap_alloc w9 _ q hq
          have hobne : v.ownBlock ≠ some ob := fun h => by have := (hvb ob h).1; omega
          have hgob : g ≠ ob := by
            rcases hat with hat | hat
            · intro h; subst h; exact hobne hat
            · omega
          have hor3 := hor2.of_block (hkeep3 ob (by omega) hobne)
          have hk1 := hkeep3 w.heap.size (by omega) (fun h => by have := (hvb _ h).1; omega)
          have hk2 := hkeep3 br (by omega) (fun h => by have := (hvb _ h).1; omega)
          have hS3 : w3.cell? ⟨w.heap.size, 1, none⟩ = some (.slice (some ⟨br, ofr, none⟩) n1 c1) ∧ w3.cell? ⟨br, ofr + k, none⟩ = some (.slice ar m3 c3) := ⟨by rw [World.cell?_of_block (w := w9) (w' := w3) (a := ⟨w.heap.size, 1, none⟩) hk1]; exact hsx9.1, by rw [World.cell?_of_block (w := w9) (w' := w3) (a := ⟨br, ofr + k, none⟩) hk2]; exact hsx9.2⟩
          have hS4 : ∀ u, (w3.setCell ⟨ob, 1, none⟩ u).cell? ⟨w.heap.size, 1, none⟩ = some (.slice (some ⟨br, ofr, none⟩) n1 c1) ∧ (w3.setCell ⟨ob, 1, none⟩ u).cell? ⟨br, ofr + k, none⟩ = some (.slice ar m3 c3) := fun u => ⟨by rw [World.cell?_of_block (w := w3) (Below.heap_setCell _ ⟨ob, 1, none⟩ u w.heap.size (by simp; omega))]; exact hS3.1, by rw [World.cell?_of_block (w := w3) (Below.heap_setCell _ ⟨ob, 1, none⟩ u br (by simp; omega))]; exact hS3.2⟩
          have s1 : w3.cell? ⟨ob, 1, none⟩ = some v := hor3.cell (by decide)
          have s2 := hor3.frozen 1
          have hsz3 : w9.heap.size + 1 ≤ w3.heap.size := by have := hgrow.size; simpa using this
          refine hK.out _ _ hS3 (fun hHeld => ?_)
          clear hK K
          try simp only [Act.put, List.setIfInBounds_toArray, List.set_cons_zero, List.set_cons_succ]
          first | (refine wpAnyH_take (i := 11) (get_of_drop rfl) (by kernel_rfl) (by kernel_rfl) (by kernel_rfl) (fun _ _ _ h => h) (Or.inr ⟨?_, rfl⟩) hHeld ?_; (focus (simp [Region.wanted, yielded, undef]; done)); (try simp only [Act.put, List.setIfInBounds_toArray, List.set_cons_zero, List.set_cons_succ])) | (refine wpAnyH_take (i := 11) (v := ?_) (get_of_drop rfl) (by kernel_rfl) (by kernel_rfl) (by kernel_rfl) (fun _ _ _ h => h) (Or.inl ⟨?_, ?_⟩) hHeld ?_; rotate_left; (focus rfl); (focus (intro w hSw; (try dsimp only at hSw); go_simp; (try (with_reducible rfl)))); (try simp only [Act.put, List.setIfInBounds_toArray, List.set_cons_zero, List.set_cons_succ]))
          refine wpAnyH_ready (rs := [12]) (by kernel_rfl) (by simp) ?_
          refine AllReadyH.cons (get_of_drop rfl) (fun K hK => ?_) AllReadyH.nil
          have HOR3 := Lib.hid hor3
          have HO2 := Lib.hid ho2
          have HWX := Lib.hid hwx
          have HGX := Lib.hid hgx
          have HVB := Lib.hid hvb
          have HOWN3 := Lib.hid hown3
          have HKEEP := Lib.hid hkeep3
          have HAT := Lib.hid hat
          have HGR := Lib.hid hgrow
          have HB3 := Lib.hid hb9
          have HS4 := Lib.hid hS4
          clear hor3 ho2 hwx hgx hvb hown3 hkeep3 hat hgrow hb9 hor2 hown hS3 hS4 hk1 hk2 hsx9
          go_simp
          refine hK.out _ _ (HS4.out _) (fun hHeld => ?_)
          clear hK K
          try simp only [Act.put, List.setIfInBounds_toArray, List.set_cons_zero, List.set_cons_succ]
          refine wpAnyH_done (by kernel_rfl) ?_ _
          go_wp2
          go_roundw
          case rel =>
            have hkeep4 : ∀ q, q < w9.heap.size → v.ownBlock ≠ some q → q ≠ ob → (w3.setCell ⟨ob, 1, none⟩ (.slice (some ⟨g, 0, none⟩) (us.length + 1) cg)).heap[q]? = w9.heap[q]? := by
              intro q hq h1 h2
              rw [Below.heap_setCell _ _ _ _ h2]
              exact HKEEP.out q hq h1
            refine ⟨k + 1, .slice (some ⟨g, 0, none⟩) (us.length + 1) cg, us ++ [.slice ax m3 cx], fun j => if j = us.length then gx else Bf j, by omega, by simp [HUS.out], by go_num, ?_, ?_, by simp; omega, ?_⟩
            · refine OutK.more (n2' := wr.heap.size) HO2.out hoblt (by omega) (by rw [HUS.out]; exact HX.out) HWX.out HGX.out hsz (fun i hi h0 => ((HOUT.out.2.1 i hi).2 h0).2.1) (fun q hq => (HVB.out q hq).2) (ownsRow_set HOWN3.out _ (fun h => hgob h.symm) _) HAT.out hkeep4 (by simp; omega)
            · exact (HOR3.out.set 1 _).congr (fun j hj => by
                obtain rfl | rfl | rfl : j = 0 ∨ j = 1 ∨ j = 2 := by omega
                all_goals rfl)
            · refine HON.out.trans ⟨?_, ?_, ?_, ?_, fun q hq hn => ?_⟩
              · exact HGR.out.os.trans HB3.out.os
              · exact HGR.out.tape.trans HB3.out.tape
              · exact HGR.out.output.trans HB3.out.output
              · simp; omega
              · rw [hkeep4 q (by omega) (fun h => hn (.inr (HVB.out q h).1)) (fun h => hn (.inl h))]
                exact HB3.out.block q hq
          case measure => simp [intOf] <;> omega
        · refine AllReadyH.cons (get_of_drop rfl) (fun K hK => ?_) AllReadyH.nil
          go_simp
          refine hK.out _ _ (HSX.out _ HBE.out) (fun hHeld => ?_)
          clear hK K
          try simp only [Act.put, List.setIfInBounds_toArray, List.set_cons_zero, List.set_cons_succ]
          refine wpAnyH_ready (rs := [1, 8]) (by kernel_rfl) (by simp) ?_
          refine AllReadyH.cons (get_of_drop rfl) (fun K hK => ?_) ?_
          · go_simp
            refine hK.out _ _ (HSX.out _ HBE.out) (fun hHeld => ?_)
            clear hK K
            try simp only [Act.put, List.setIfInBounds_toArray, List.set_cons_zero, List.set_cons_succ]
            refine wpAnyH_ready (rs := [8]) (by kernel_rfl) (by simp) ?_
            refine AllReadyH.cons (get_of_drop rfl) (fun K hK => ?_) AllReadyH.nil
            rw [if_pos (by rfl)]
            refine wp_app_iv _ x wr.heap.size wr.heap.size _ _ rfl rfl HOE.out ar m3 c3 rfl (IV.below HIV.out HBE.out) hx48 HBE.out.size ?_
            intro ax cx w9 hown hkept
            have hb9 := hkept.1 wr HBE.out
            clear hkept
            refine hK.out _ _ (HSX.out _ hb9) (fun hHeld => ?_)
            clear hK K
            try simp only [Act.put, List.setIfInBounds_toArray, List.set_cons_zero, List.set_cons_succ]
            refine wpAnyH_ready (rs := [9]) (by kernel_rfl) (by simp) ?_
            refine AllReadyH.cons (get_of_drop rfl) (fun K hK => ?_) AllReadyH.nil
            go_simp
            refine hK.out _ _ (HSX.out _ (hb9.alloc hb9.size _)) (fun hHeld => ?_)
            clear hK K
            try simp only [Act.put, List.setIfInBounds_toArray, List.set_cons_zero, List.set_cons_succ]
            refine wpAnyH_ready (rs := [10]) (by kernel_rfl) (by simp) ?_
            refine AllReadyH.cons (get_of_drop rfl) (fun K hK => ?_) AllReadyH.nil
            rw [if_pos (by rfl)]
            have ho2 := HOUT.out.below hb9
            have hor2 := rowIs_below HOR.out hb9
            obtain ⟨gx, hwx, hgx⟩ := hown.wi
            have hvb : ∀ q, v.ownBlock = some q → wc.heap.size ≤ q ∧ q < wr.heap.size := fun q hq => World.ownsRow.lt HOUT.out.1 q hq
            obtain ⟨i0, hi, hz0, hz1, hz2⟩ := info_parts Try.infoRow
            have hus16 : us.length ≤ 16 := by have h1 := HUS.out; have h2 := HN1.out; omega
            have hs2 := hb9.size
            have hsx9 := HSX.out _ hb9
            refine wp_append_lies _ _ _ 22 rfl wc.heap.size 44 i0 _ 1 24 Try.underlying22 hi hz0 hz1 hz2 rfl (by decide) v us.length us rfl (World.ownsRow.alloc ho2.1 _) ⟨w9.heap.size, 0, none⟩ 1 1 [.slice ax m3 cx] rfl rfl (cell_one_new _ _ _) (by intro u hu; simp at hu; subst hu; rfl) (by decide) (by unfold maxLen; omega) (by omega) (by simp; omega) (w9.heap.size + 1) (by simp) ?_
            intro g cg w3 hown3 hgrow hat hlt3
            have hkeep3 : ∀ q, q < w9.heap.size → v.ownBlock ≠ some q → w3.heap[q]? = w9.heap[q]? := by
              intro q hq hne
              rw [hgrow.block q (by simp; omega) (fun h => hne h.symm)]
              exact Below.heap_alloc w9 _ q hq
            have hobne : v.ownBlock ≠ some ob := fun h => by have := (hvb ob h).1; omega
            have hgob : g ≠ ob := by
              rcases hat with hat | hat
              · intro h; subst h; exact hobne hat
              · omega
            have hor3 := hor2.of_block (hkeep3 ob (by omega) hobne)
            have hk1 := hkeep3 w.heap.size (by omega) (fun h => by have := (hvb _ h).1; omega)
            have hk2 := hkeep3 br (by omega) (fun h => by have := (hvb _ h).1; omega)
            have hS3 : w3.cell? ⟨w.heap.size, 1, none⟩ = some (.slice (some ⟨br, ofr, none⟩) n1 c1) ∧ w3.cell? ⟨br, ofr + k, none⟩ = some (.slice ar m3 c3) := ⟨by rw [World.cell?_of_block (w := w9) (w' := w3) (a := ⟨w.heap.size, 1, none⟩) hk1]; exact hsx9.1, by rw [World.cell?_of_block (w := w9) (w' := w3) (a := ⟨br, ofr + k, none⟩) hk2]; exact hsx9.2⟩
            have hS4 : ∀ u, (w3.setCell ⟨ob, 1, none⟩ u).cell? ⟨w.heap.size, 1, none⟩ = some (.slice (some ⟨br, ofr, none⟩) n1 c1) ∧ (w3.setCell ⟨ob, 1, none⟩ u).cell? ⟨br, ofr + k, none⟩ = some (.slice ar m3 c3) := fun u => ⟨by rw [World.cell?_of_block (w := w3) (Below.heap_setCell _ ⟨ob, 1, none⟩ u w.heap.size (by simp; omega))]; exact hS3.1, by rw [World.cell?_of_block (w := w3) (Below.heap_setCell _ ⟨ob, 1, none⟩ u br (by simp; omega))]; exact hS3.2⟩
            have s1 : w3.cell? ⟨ob, 1, none⟩ = some v := hor3.cell (by decide)
            have s2 := hor3.frozen 1
            have hsz3 : w9.heap.size + 1 ≤ w3.heap.size := by have := hgrow.size; simpa using this
            refine hK.out _ _ hS3 (fun hHeld => ?_)
            clear hK K
            try simp only [Act.put, List.setIfInBounds_toArray, List.set_cons_zero, List.set_cons_succ]
            first | (refine wpAnyH_take (i := 11) (get_of_drop rfl) (by kernel_rfl) (by kernel_rfl) (by kernel_rfl) (fun _ _ _ h => h) (Or.inr ⟨?_, rfl⟩) hHeld ?_; (focus (simp [Region.wanted, yielded, undef]; done)); (try simp only [Act.put, List.setIfInBounds_toArray, List.set_cons_zero, List.set_cons_succ])) | (refine wpAnyH_take (i := 11) (v := ?_) (get_of_drop rfl) (by kernel_rfl) (by kernel_rfl) (by kernel_rfl) (fun _ _ _ h => h) (Or.inl ⟨?_, ?_⟩) hHeld ?_; rotate_left; (focus rfl); (focus (intro w hSw; (try dsimp only at hSw); go_simp; (try (with_reducible rfl)))); (try simp only [Act.put, List.setIfInBounds_toArray, List.set_cons_zero, List.set_cons_succ]))
            refine wpAnyH_ready (rs := [12]) (by kernel_rfl) (by simp) ?_
            refine AllReadyH.cons (get_of_drop rfl) (fun K hK => ?_) AllReadyH.nil
            have HOR3 := Lib.hid hor3
            have HO2 := Lib.hid ho2
            have HWX := Lib.hid hwx
            have HGX := Lib.hid hgx
            have HVB := Lib.hid hvb
            have HOWN3 := Lib.hid hown3
            have HKEEP := Lib.hid hkeep3
            have HAT := Lib.hid hat
            have HGR := Lib.hid hgrow
            have HB3 := Lib.hid hb9
            have HS4 := Lib.hid hS4
            clear hor3 ho2 hwx hgx hvb hown3 hkeep3 hat hgrow hb9 hor2 hown hS3 hS4 hk1 hk2 hsx9
            go_simp
            refine hK.out _ _ (HS4.out _) (fun hHeld => ?_)
            clear hK K
            try simp only [Act.put, List.setIfInBounds_toArray, List.set_cons_zero, List.set_cons_succ]
            refine wpAnyH_done (by kernel_rfl) ?_ _
            go_wp2
            go_roundw
            case rel =>
              have hkeep4 : ∀ q, q < w9.heap.size → v.ownBlock ≠ some q → q ≠ ob → (w3.setCell ⟨ob, 1, none⟩ (.slice (some ⟨g, 0, none⟩) (us.length + 1) cg)).heap[q]? = w9.heap[q]? := by
                intro q hq h1 h2
                rw [Below.heap_setCell _ _ _ _ h2]
                exact HKEEP.out q hq h1
              refine ⟨k + 1, .slice (some ⟨g, 0, none⟩) (us.length + 1) cg, us ++ [.slice ax m3 cx], fun j => if j = us.length then gx else Bf j, by omega, by simp [HUS.out], by go_num, ?_, ?_, by simp; omega, ?_⟩
              · refine OutK.more (n2' := wr.heap.size) HO2.out hoblt (by omega) (by rw [HUS.out]; exact HX.out) HWX.out HGX.out hsz (fun i hi h0 => ((HOUT.out.2.1 i hi).2 h0).2.1) (fun q hq => (HVB.out q hq).2) (ownsRow_set HOWN3.out _ (fun h => hgob h.symm) _) HAT.out hkeep4 (by simp; omega)
              · exact (HOR3.out.set 1 _).congr (fun j hj => by
                  obtain rfl | rfl | rfl : j = 0 ∨ j = 1 ∨ j = 2 := by omega
                  all_goals rfl)
              · refine HON.out.trans ⟨?_, ?_, ?_, ?_, fun q hq hn => ?_⟩
                · exact HGR.out.os.trans HB3.out.os
                · exact HGR.out.tape.trans HB3.out.tape
                · exact HGR.out.output.trans HB3.out.output
                · simp; omega
                · rw [hkeep4 q (by omega) (fun h => hn (.inr (HVB.out q h).1)) (fun h => hn (.inl h))]
                  exact HB3.out.block q hq
            case measure => simp [intOf] <;> omega
          · refine AllReadyH.cons (get_of_drop rfl) (fun K hK => ?_) AllReadyH.nil
            rw [if_pos (by rfl)]
            refine wp_app_iv _ x wr.heap.size wr.heap.size _ _ rfl rfl HOE.out ar m3 c3 rfl (IV.below HIV.out HBE.out) hx48 HBE.out.size ?_
            intro ax cx w9 hown hkept
            have hb9 := hkept.1 wr HBE.out
            clear hkept
            refine hK.out _ _ (HSX.out _ hb9) (fun hHeld => ?_)
            clear hK K
            try simp only [Act.put, List.setIfInBounds_toArray, List.set_cons_zero, List.set_cons_succ]
            have o19 := HOB.out _ hb9
            have holt9 : ob < w9.heap.size := Nat.lt_of_lt_of_le (World.rowIs.lt HOR.out) hb9.size
            have holtn : ¬ w9.heap.size = ob := Nat.ne_of_gt holt9
            have holtm : ¬ ob = w9.heap.size := Nat.ne_of_lt holt9
            refine wpAnyH_ready (rs := [1, 9]) (by kernel_rfl) (by simp) ?_
            refine AllReadyH.cons (get_of_drop rfl) (fun K hK => ?_) ?_
            · go_simp
              refine hK.out _ _ (HSX.out _ hb9) (fun hHeld => ?_)
              clear hK K
              try simp only [Act.put, List.setIfInBounds_toArray, List.set_cons_zero, List.set_cons_succ]
              refine wpAnyH_ready (rs := [9]) (by kernel_rfl) (by simp) ?_
              refine AllReadyH.cons (get_of_drop rfl) (fun K hK => ?_) AllReadyH.nil
              go_simp
              refine hK.out _ _ (HSX.out _ (hb9.alloc hb9.size _)) (fun hHeld => ?_)
              clear hK K
              try simp only [Act.put, List.setIfInBounds_toArray, List.set_cons_zero, List.set_cons_succ]
              refine wpAnyH_ready (rs := [10]) (by kernel_rfl) (by simp) ?_
              refine AllReadyH.cons (get_of_drop rfl) (fun K hK => ?_) AllReadyH.nil
              rw [if_pos (by rfl)]
              have ho2 := HOUT.out.below hb9
              have hor2 := rowIs_below HOR.out hb9
              obtain ⟨gx, hwx, hgx⟩ := hown.wi
              have hvb : ∀ q, v.ownBlock = some q → wc.heap.size ≤ q ∧ q < wr.heap.size := fun q hq => World.ownsRow.lt HOUT.out.1 q hq
              obtain ⟨i0, hi, hz0, hz1, hz2⟩ := info_parts Try.infoRow
              have hus16 : us.length ≤ 16 := by have h1 := HUS.out; have h2 := HN1.out; omega
              have hs2 := hb9.size
              have hsx9 := HSX.out _ hb9
              refine wp_append_lies _ _ _ 22 rfl wc.heap.size 44 i0 _ 1 24 Try.underlying22 hi hz0 hz1 hz2 rfl (by decide) v us.length us rfl (World.ownsRow.alloc ho2.1 _) ⟨w9.heap.size, 0, none⟩ 1 1 [.slice ax m3 cx] rfl rfl (cell_one_new _ _ _) (by intro u hu; simp at hu; subst hu; rfl) (by decide) (by unfold maxLen; omega) (by omega) (by simp; omega) (w9.heap.size + 1) (by simp) ?_
              intro g cg w3 hown3 hgrow hat hlt3
              have hkeep3 : ∀ q, q < w9.heap.size → v.ownBlock ≠ some q → w3.heap[q]? = w9.heap[q]? := by
                intro q hq hne
                rw [hgrow.block q (by simp; omega) (fun h => hne h.symm)]
                exact Below.heap_alloc w9 _ q hq
              have hobne : v.ownBlock ≠ some ob := fun h => by have := (hvb ob h).1; omega
              have hgob : g ≠ ob := by
                rcases hat with hat | hat
                · intro h; subst h; exact hobne hat
                · omega
              have hor3 := hor2.of_block (hkeep3 ob (by omega) hobne)
              have hk1 := hkeep3 w.heap.size (by omega) (fun h => by have := (hvb _ h).1; omega)
              have hk2 := hkeep3 br (by omega) (fun h => by have := (hvb _ h).1; omega)
              have hS3 : w3.cell? ⟨w.heap.size, 1, none⟩ = some (.slice (some ⟨br, ofr, none⟩) n1 c1) ∧ w3.cell? ⟨br, ofr + k, none⟩ = some (.slice ar m3 c3) := ⟨by rw [World.cell?_of_block (w := w9) (w' := w3) (a := ⟨w.heap.size, 1, none⟩) hk1]; exact hsx9.1, by rw [World.cell?_of_block (w := w9) (w' := w3) (a := ⟨br, ofr + k, none⟩) hk2]; exact hsx9.2⟩
              have hS4 : ∀ u, (w3.setCell ⟨ob, 1, none⟩ u).cell? ⟨w.heap.size, 1, none⟩ = some (.slice (some ⟨br, ofr, none⟩) n1 c1) ∧ (w3.setCell ⟨ob, 1, none⟩ u).cell? ⟨br, ofr + k, none⟩ = some (.slice ar m3 c3) := fun u => ⟨by rw [World.cell?_of_block (w := w3) (Below.heap_setCell _ ⟨ob, 1, none⟩ u w.heap.size (by simp; omega))]; exact hS3.1, by rw [World.cell?_of_block (w := w3) (Below.heap_setCell _ ⟨ob, 1, none⟩ u br (by simp; omega))]; exact hS3.2⟩
              have s1 : w3.cell? ⟨ob, 1, none⟩ = some v := hor3.cell (by decide)
              have s2 := hor3.frozen 1
              have hsz3 : w9.heap.size + 1 ≤ w3.heap.size := by have := hgrow.size; simpa using this
              refine hK.out _ _ hS3 (fun hHeld => ?_)
              clear hK K
              try simp only [Act.put, List.setIfInBounds_toArray, List.set_cons_zero, List.set_cons_succ]
              first | (refine wpAnyH_take (i := 11) (get_of_drop rfl) (by kernel_rfl) (by kernel_rfl) (by kernel_rfl) (fun _ _ _ h => h) (Or.inr ⟨?_, rfl⟩) hHeld ?_; (focus (simp [Region.wanted, yielded, undef]; done)); (try simp only [Act.put, List.setIfInBounds_toArray, List.set_cons_zero, List.set_cons_succ])) | (refine wpAnyH_take (i := 11) (v := ?_) (get_of_drop rfl) (by kernel_rfl) (by kernel_rfl) (by kernel_rfl) (fun _ _ _ h => h) (Or.inl ⟨?_, ?_⟩) hHeld ?_; rotate_left; (focus rfl); (focus (intro w hSw; (try dsimp only at hSw); go_simp; (try (with_reducible rfl)))); (try simp only [Act.put, List.setIfInBounds_toArray, List.set_cons_zero, List.set_cons_succ]))
              refine wpAnyH_ready (rs := [12]) (by kernel_rfl) (by simp) ?_
              refine AllReadyH.cons (get_of_drop rfl) (fun K hK => ?_) AllReadyH.nil
              have HOR3 := Lib.hid hor3
              have HO2 := Lib.hid ho2
              have HWX := Lib.hid hwx
              have HGX := Lib.hid hgx
              have HVB := Lib.hid hvb
              have HOWN3 := Lib.hid hown3
              have HKEEP := Lib.hid hkeep3
              have HAT := Lib.hid hat
              have HGR := Lib.hid hgrow
              have HB3 := Lib.hid hb9
              have HS4 := Lib.hid hS4
              clear hor3 ho2 hwx hgx hvb hown3 hkeep3 hat hgrow hb9 hor2 hown hS3 hS4 hk1 hk2 hsx9
              go_simp
              refine hK.out _ _ (HS4.out _) (fun hHeld => ?_)
              clear hK K
              try simp only [Act.put, List.setIfInBounds_toArray, List.set_cons_zero, List.set_cons_succ]
              refine wpAnyH_done (by kernel_rfl) ?_ _
              go_wp2
              go_roundw
              case rel =>
                have hkeep4 : ∀ q, q < w9.heap.size → v.ownBlock ≠ some q → q ≠ ob → (w3.setCell ⟨ob, 1, none⟩ (.slice (some ⟨g, 0, none⟩) (us.length + 1) cg)).heap[q]? = w9.heap[q]? := by
                  intro q hq h1 h2
                  rw [Below.heap_setCell _ _ _ _ h2]
                  exact HKEEP.out q hq h1
                refine ⟨k + 1, .slice (some ⟨g, 0, none⟩) (us.length + 1) cg, us ++ [.slice ax m3 cx], fun j => if j = us.length then gx else Bf j, by omega, by simp [HUS.out], by go_num, ?_, ?_, by simp; omega, ?_⟩
                · refine OutK.more (n2' := wr.heap.size) HO2.out hoblt (by omega) (by rw [HUS.out]; exact HX.out) HWX.out HGX.out hsz (fun i hi h0 => ((HOUT.out.2.1 i hi).2 h0).2.1) (fun q hq => (HVB.out q hq).2) (ownsRow_set HOWN3.out _ (fun h => hgob h.symm) _) HAT.out hkeep4 (by simp; omega)
                · exact (HOR3.out.set 1 _).congr (fun j hj => by
                    obtain rfl | rfl | rfl : j = 0 ∨ j = 1 ∨ j = 2 := by omega
                    all_goals rfl)
                · refine HON.out.trans ⟨?_, ?_, ?_, ?_, fun q hq hn => ?_⟩
                  · exact HGR.out.os.trans HB3.out.os
                  · exact HGR.out.tape.trans HB3.out.tape
                  · exact HGR.out.output.trans HB3.out.output
                  · simp; omega
                  · rw [hkeep4 q (by omega) (fun h => hn (.inr (HVB.out q h).1)) (fun h => hn (.inl h))]
                    exact HB3.out.block q hq
              case measure => simp [intOf] <;> omega
            · refine AllReadyH.cons (get_of_drop rfl) (fun K hK => ?_) AllReadyH.nil
              go_simp
              refine hK.out _ _ (HSX.out _ (hb9.alloc hb9.size _)) (fun hHeld => ?_)
              clear hK K
              try simp only [Act.put, List.setIfInBounds_toArray, List.set_cons_zero, List.set_cons_succ]
              refine wpAnyH_ready (rs := [1]) (by kernel_rfl) (by simp) ?_
              refine AllReadyH.cons (get_of_drop rfl) (fun K hK => ?_) AllReadyH.nil
              go_simp
              refine hK.out _ _ (HSX.out _ (hb9.alloc hb9.size _)) (fun hHeld => ?_)
              clear hK K
              try simp only [Act.put, List.setIfInBounds_toArray, List.set_cons_zero, List.set_cons_succ]
              refine wpAnyH_ready (rs := [10]) (by kernel_rfl) (by simp) ?_
              refine AllReadyH.cons (get_of_drop rfl) (fun K hK => ?_) AllReadyH.nil
              rw [if_pos (by rfl)]
              have ho2 := HOUT.out.below hb9
              have hor2 := rowIs_below HOR.out hb9
              obtain ⟨gx, hwx, hgx⟩ := hown.wi
              have hvb : ∀ q, v.ownBlock = some q → wc.heap.size ≤ q ∧ q < wr.heap.size := fun q hq => World.ownsRow.lt HOUT.out.1 q hq
              obtain ⟨i0, hi, hz0, hz1, hz2⟩ := info_parts Try.infoRow
              have hus16 : us.length ≤ 16 := by have h1 := HUS.out; have h2 := HN1.out; omega
              have hs2 := hb9.size
              have hsx9 := HSX.out _ hb9
              refine wp_append_lies _ _ _ 22 rfl wc.heap.size 44 i0 _ 1 24 Try.underlying22 hi hz0 hz1 hz2 rfl (by decide) v us.length us rfl (World.ownsRow.alloc ho2.1 _) ⟨w9.heap.size, 0, none⟩ 1 1 [.slice ax m3 cx] rfl rfl (cell_one_new _ _ _) (by intro u hu; simp at hu; subst hu; rfl) (by decide) (by unfold maxLen; omega) (by omega) (by simp; omega) (w9.heap.size + 1) (by simp) ?_
              intro g cg w3 hown3 hgrow hat hlt3
              have hkeep3 : ∀ q, q < w9.heap.size → v.ownBlock ≠ some q → w3.heap[q]? = w9.heap[q]? := by
                intro q hq hne
                rw [hgrow.block q (by simp; omega) (fun h => hne h.symm)]
                exact Below.heap_alloc w9 _ q hq
              have hobne : v.ownBlock ≠ some ob := fun h => by have := (hvb ob h).1; omega
              have hgob : g ≠ ob := by
                rcases hat with hat | hat
                · intro h; subst h; exact hobne hat
                · omega
              have hor3 := hor2.of_block (hkeep3 ob (by omega) hobne)
              have hk1 := hkeep3 w.heap.size (by omega) (fun h => by have := (hvb _ h).1; omega)
              have hk2 := hkeep3 br (by omega) (fun h => by have := (hvb _ h).1; omega)
              have hS3 : w3.cell? ⟨w.heap.size, 1, none⟩ = some (.slice (some ⟨br, ofr, none⟩) n1 c1) ∧ w3.cell? ⟨br, ofr + k, none⟩ = some (.slice ar m3 c3) := ⟨by rw [World.cell?_of_block (w := w9) (w' := w3) (a := ⟨w.heap.size, 1, none⟩) hk1]; exact hsx9.1, by rw [World.cell?_of_block (w := w9) (w' := w3) (a := ⟨br, ofr + k, none⟩) hk2]; exact hsx9.2⟩
              have hS4 : ∀ u, (w3.setCell ⟨ob, 1, none⟩ u).cell? ⟨w.heap.size, 1, none⟩ = some (.slice (some ⟨br, ofr, none⟩) n1 c1) ∧ (w3.setCell ⟨ob, 1, none⟩ u).cell? ⟨br, ofr + k, none⟩ = some (.slice ar m3 c3) := fun u => ⟨by rw [World.cell?_of_block (w := w3) (Below.heap_setCell _ ⟨ob, 1, none⟩ u w.heap.size (by simp; omega))]; exact hS3.1, by rw [World.cell?_of_block (w := w3) (Below.heap_setCell _ ⟨ob, 1, none⟩ u br (by simp; omega))]; exact hS3.2⟩
              have s1 : w3.cell? ⟨ob, 1, none⟩ = some v := hor3.cell (by decide)
              have s2 := hor3.frozen 1
              have hsz3 : w9.heap.size + 1 ≤ w3.heap.size := by have := hgrow.size; simpa using this
              refine hK.out _ _ hS3 (fun hHeld => ?_)
              clear hK K
              try simp only [Act.put, List.setIfInBounds_toArray, List.set_cons_zero, List.set_cons_succ]
              first | (refine wpAnyH_take (i := 11) (get_of_drop rfl) (by kernel_rfl) (by kernel_rfl) (by kernel_rfl) (fun _ _ _ h => h) (Or.inr ⟨?_, rfl⟩) hHeld ?_; (focus (simp [Region.wanted, yielded, undef]; done)); (try simp only [Act.put, List.setIfInBounds_toArray, List.set_cons_zero, List.set_cons_succ])) | (refine wpAnyH_take (i := 11) (v := ?_) (get_of_drop rfl) (by kernel_rfl) (by kernel_rfl) (by kernel_rfl) (fun _ _ _ h => h) (Or.inl ⟨?_, ?_⟩) hHeld ?_; rotate_left; (focus rfl); (focus (intro w hSw; (try dsimp only at hSw); go_simp; (try (with_reducible rfl)))); (try simp only [Act.put, List.setIfInBounds_toArray, List.set_cons_zero, List.set_cons_succ]))
              refine wpAnyH_ready (rs := [12]) (by kernel_rfl) (by simp) ?_
              refine AllReadyH.cons (get_of_drop rfl) (fun K hK => ?_) AllReadyH.nil
              have HOR3 := Lib.hid hor3
              have HO2 := Lib.hid ho2
              have HWX := Lib.hid hwx
              have HGX := Lib.hid hgx
              have HVB := Lib.hid hvb
              have HOWN3 := Lib.hid hown3
              have HKEEP := Lib.hid hkeep3
              have HAT := Lib.hid hat
              have HGR := Lib.hid hgrow
              have HB3 := Lib.hid hb9
              have HS4 := Lib.hid hS4
              clear hor3 ho2 hwx hgx hvb hown3 hkeep3 hat hgrow hb9 hor2 hown hS3 hS4 hk1 hk2 hsx9
              go_simp
              refine hK.out _ _ (HS4.out _) (fun hHeld => ?_)
              clear hK K
              try simp only [Act.put, List.setIfInBounds_toArray, List.set_cons_zero, List.set_cons_succ]
              refine wpAnyH_done (by kernel_rfl) ?_ _
              go_wp2
              go_roundw
              case rel =>
                have hkeep4 : ∀ q, q < w9.heap.size → v.ownBlock ≠ some q → q ≠ ob → (w3.setCell ⟨ob, 1, none⟩ (.slice (some ⟨g, 0, none⟩) (us.length + 1) cg)).heap[q]? = w9.heap[q]? := by
                  intro q hq h1 h2
                  rw [Below.heap_setCell _ _ _ _ h2]
                  exact HKEEP.out q hq h1
                refine ⟨k + 1, .slice (some ⟨g, 0, none⟩) (us.length + 1) cg, us ++ [.slice ax m3 cx], fun j => if j = us.length then gx else Bf j, by omega, by simp [HUS.out], by go_num, ?_, ?_, by simp; omega, ?_⟩
                · refine OutK.more (n2' := wr.heap.size) HO2.out hoblt (by omega) (by rw [HUS.out]; exact HX.out) HWX.out HGX.out hsz (fun i hi h0 => ((HOUT.out.2.1 i hi).2 h0).2.1) (fun q hq => (HVB.out q hq).2) (ownsRow_set HOWN3.out _ (fun h => hgob h.symm) _) HAT.out hkeep4 (by simp; omega)
                · exact (HOR3.out.set 1 _).congr (fun j hj => by
                    obtain rfl | rfl | rfl : j = 0 ∨ j = 1 ∨ j = 2 := by omega
                    all_goals rfl)
                · refine HON.out.trans ⟨?_, ?_, ?_, ?_, fun q hq hn => ?_⟩
                  · exact HGR.out.os.trans HB3.out.os
                  · exact HGR.out.tape.trans HB3.out.tape
                  · exact HGR.out.output.trans HB3.out.output
                  · simp; omega
                  · rw [hkeep4 q (by omega) (fun h => hn (.inr (HVB.out q h).1)) (fun h => hn (.inl h))]
                    exact HB3.out.block q hq
              case measure => simp [intOf] <;> omega
      · obtain rfl : k = n1 := by omega
        have hbelr : Below w.heap.size w wr := honly.below HB.out (fun q hq => by rcases hq with rfl | hq <;> omega) hlo
        obtain ⟨g, cg, rfl, hg1, hg2⟩ := World.ownsRow.form hout.1 (by rw [hus]; have := HN1.out; omega)
        have hz := HZ.out.of_block (honly.2.2.2.2 (w.heap.size + 1) (World.rowIs.lt HZ.out) (by have hzlt := World.rowIs.lt HZ.out; rintro (h | h) <;> omega))
        have z0 : wr.cell? ⟨w.heap.size + 1, 0, none⟩ = some (.int .i64 0) := hz.cell (by decide)
        have z1 : wr.cell? ⟨w.heap.size + 1, 1, none⟩ = some (.slice none 0 0) := hz.cell (by decide)
        have z2 : wr.cell? ⟨w.heap.size + 1, 2, none⟩ = some (.slice none 0 0) := hz.cell (by decide)
        have zf0 := hz.frozen 0
        have zf1 := hz.frozen 1
        have zf2 := hz.frozen 2
        have o0 : wr.cell? ⟨ob, 0, none⟩ = some (.int .i64 al) := hor.cell (by decide)
        have o1 : wr.cell? ⟨ob, 1, none⟩ = some (.slice (some ⟨g, 0, none⟩) us.length cg) := hor.cell (by decide)
        have o2 : wr.cell? ⟨ob, 2, none⟩ = some (.slice ao n2 cc) := hor.cell (by decide)
        have HOUT := Lib.hid hout
        have HON := Lib.hid honly
        have HBR := Lib.hid hbelr
        have HZR := Lib.hid hz
        clear hout honly hbelr hz hor
        have HUS := Lib.hid hus; clear hus
        go_wp2
        obtain ⟨wf, hwf⟩ : ∃ wf, (((wr.setCell ⟨w.heap.size + 1, 0, none⟩ (.int .i64 al)).setCell ⟨w.heap.size + 1, 1, none⟩ (.slice (some ⟨g, 0, none⟩) us.length cg)).setCell ⟨w.heap.size + 1, 2, none⟩ (.slice ao n2 cc)) = wf := ⟨_, rfl⟩
        have hfin := store3 HZR.out (.int .i64 al) (.slice (some ⟨g, 0, none⟩) us.length cg) (.slice ao n2 cc)
        have hbut : But (w.heap.size + 1) wr wf := by rw [← hwf]; exact (((But.refl (w.heap.size + 1) wr).set 0 _).set 1 _).set 2 _
        rw [hwf] at hfin ⊢
        clear hwf
        have f0 : wf.cell? ⟨w.heap.size + 1, 0, none⟩ = some (.int .i64 al) := hfin.cell (by decide)
        have f1 : wf.cell? ⟨w.heap.size + 1, 1, none⟩ = some (.slice (some ⟨g, 0, none⟩) us.length cg) := hfin.cell (by decide)
        have f2 : wf.cell? ⟨w.heap.size + 1, 2, none⟩ = some (.slice ao n2 cc) := hfin.cell (by decide)
        refine bodyPost_ret (v := .agg #[.int .i64 al, .slice (some ⟨g, 0, none⟩) us.length cg, .slice ao n2 cc]) ?_ rfl ?_
        · simp [results, Try.results48, go_sem, f0, f1, f2]
        · have hn : us.length = xss.length := by rw [HUS.out, HN1.out]
          have hb1lt : b1 < wc.heap.size := by
            obtain ⟨q1, q2, q3, q4, q5, q6⟩ := HW.out
            rcases q6 with q6 | ⟨-, q6, -⟩
            · omega
            · exact q6
          have ho := Only.of_but hbut
          have hwb := (HW.out.only HON.out (fun _ h => by rcases h with h | h <;> omega)).only ho (fun _ h => by omega)
          have hbl : ∀ i, i < xss.length → (xss[i]?.getD []).length ≠ 0 → wc.heap.size ≤ Bf i ∧ Bf i < wr.heap.size ∧ g ≠ Bf i := by
            intro i hi h0
            obtain ⟨q1, q2, q3⟩ := (HOUT.out.2.1 i (by rw [hn]; exact hi)).2 h0
            exact ⟨q1, q2, fun h => q3 (by rw [← h]; rfl)⟩
          refine ⟨g, b1, Bf, _, _, rfl, ⟨?_, hwb, by omega, fun i hi h0 => by have := (hbl i hi h0).1; omega, fun i hi h0 => by have h1 := (hbl i hi h0).2.1; have h2 := hbut.2.2.2.1; omega⟩, by omega, by omega, fun i hi h0 => by have := (hbl i hi h0).1; omega, ?_⟩
          · refine ⟨some ⟨g, 0, none⟩, cg, by rw [hn], ?_, ?_, .inr ⟨0, rfl, by have := hbut.2.2.2.1; omega, fun i hi => ?_⟩, fun i j hi hj h1 h2 he => HOUT.out.2.2 i j (by rw [hn]; exact hi) (by rw [hn]; exact hj) h1 h2 he, fun i hi h0 => fun h => (hbl i hi h0).2.2 h.symm⟩
            · rcases HOUT.out.1.2 with ⟨q, -⟩ | ⟨g', cap', cur, hv', hB', hg', hc', hm', hs', ht'⟩
              · cases q
              · injection hv' with q1 q2 q3
                rw [← hn, q3]; exact hc'
            · rcases HOUT.out.1.2 with ⟨q, -⟩ | ⟨g', cap', cur, hv', hB', hg', hc', hm', hs', ht'⟩
              · cases q
              · injection hv' with q1 q2 q3
                rw [q3]; exact hm'
            · have hi' : i < us.length := by rw [hn]; exact hi
              refine ⟨us[i]?.getD undef, ?_, (HOUT.out.2.1 i hi').1.only ho (fun h0 => by have := (hbl i hi h0).1; omega)⟩
              rw [Nat.zero_add, World.cell?_of_block (w := wr) (w' := wf) (a := ⟨g, i, none⟩) (hbut.2.2.2.2 g hg2 (by omega))]
              rw [World.ownsRow.cellAt HOUT.out.1 i (by omega)]
              simp [List.getElem?_eq_getElem hi']
          · exact hbut.below HBR.out (by omega) (by have := HBR.out.size; omega)
end Go.Proofs.Ytagegbhchljggaa
