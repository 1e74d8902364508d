/- l2Wrong: a copy of a system, sometimes spoilt. -/
import Derived.Test.YtnjakhojdhkihaaGreatDoorDWrong
import Derived.Deep.Upon

namespace Go.Proofs.YtnjakhojdhkihaaGreatDoor
open Go.RowKit
set_option linter.unusedVariables false
set_option linter.unusedSimpArgs false
set_option maxRecDepth 100000

/-- The append of all the edges of a slice that has an address, as one operation of a region that draws. -/
theorem wp_app_edges {o : Oper} {a : Act} {K : Act → World → Prop} {Q : Exit → Act → World → Prop} (w : World) (es : List Edg) (B R : Nat) (s y : Operand)
    (ho : o.op = .call { callee := .builtin .append, args := #[s, y], argTypes := #[22, 22] }) (v : Value) (hs : a.eval s = v) (hown : EOwn B w v [])
    (b off n c : Nat) (hy : a.eval y = .slice (some ⟨b, off, none⟩) n c) (hn : n = es.length) (hev : EVR R w (.slice (some ⟨b, off, none⟩) n c) es) (hb : es.length ≤ 1000000) (hB : B ≤ w.heap.size)
    (h : ∀ ao n' cap w1, n' = es.length → EOwn B w1 (.slice ao n' cap) es → Kept B w w1 v → K (a.put o.dst (.slice ao n' cap)) w1) :
    o.wp Tryz.prog a w K Q := by
  obtain ⟨i0, hi, hz0, hz1, hz2⟩ := info_parts Tryz.infoEdge
  subst hn
  refine wp_append_own w s y 22 ho B 41 i0 (.agg #[.int .i64 0, .int .i64 0, .int .i64 0]) 3 24 Tryz.underlying22 hi hz0 hz1 hz2 rfl (by decide) v 0 [] hs hown ⟨b, off, none⟩ es.length c (eflat es) hy (eflat_len es) (evr_flat hev) (eflat_one es) (by unfold maxLen; omega) (by omega) hB ?_
  intro v' w1 hown' hgrow _
  have hown2 : EOwn B w1 v' es := by unfold EOwn; simpa using hown'
  have hK : Kept B w w1 v := ⟨fun w0 h0 => h0.grown hgrow hB (fun k hk => (World.ownsRow.lt hown k hk).1), hgrow⟩
  obtain ⟨ao, n', cap, rfl, hn'⟩ := hown2.shape
  exact h ao n' cap w1 hn' hown2 hK
theorem wp_app_any {o : Oper} {a : Act} {K : Act → World → Prop} {Q : Exit → Act → World → Prop} (w : World) (es : List Edg) (B R q : Nat) (s y : Operand)
    (ho : o.op = .call { callee := .builtin .append, args := #[s, y], argTypes := #[22, 22] }) (hs : a.eval s = .slice (some ⟨q, 0, none⟩) 0 0) (hown : EOwn B w (.slice (some ⟨q, 0, none⟩) 0 0) [])
    (ad : Option Addr) (n c : Nat) (hy : a.eval y = .slice ad n c) (hev : EVR R w (.slice ad n c) es) (hb : es.length ≤ 1000000) (hB : B ≤ w.heap.size)
    (h : ∀ ao n' cap w1, n' = es.length → EOwn B w1 (.slice ao n' cap) es → Kept B w w1 (.slice (some ⟨q, 0, none⟩) 0 0) → K (a.put o.dst (.slice ao n' cap)) w1) :
    o.wp Tryz.prog a w K Q := by
  obtain ⟨i0, hi, hz0, hz1, hz2⟩ := info_parts Tryz.infoEdge
  have hev0 := hev
  obtain ⟨ao, cap, q1, q2, q3, q4⟩ := hev
  injection q1 with e1 e2 e3
  subst e1
  by_cases h0 : es.length = 0
  · obtain rfl := List.eq_nil_of_length_eq_zero h0
    have hn0 : n = 0 := by simpa using e2
    subst hn0
    have hK : Kept B w w (.slice (some ⟨q, 0, none⟩) 0 0) := ⟨fun _ h => h, World.grownBy.refl w _⟩
    cases ad with
    | none =>
      have hr := run_append_nothing (P := Tryz.prog) w 22 22 o.type 41 i0 Tryz.underlying22 hi (some ⟨q, 0, none⟩) 0 0 (Nat.le_refl _) (.slice none 0 c) (Src.ofNil w Tryz.underlying22 c)
      unfold Oper.wp execOp
      simp only [ho, resolve, invoke, builtin, Sem.run_bind, Sem.run_pure, Result.andThen_ok, List.map_toArray, List.map_cons, List.map_nil, hs, hy, hr]
      exact h _ 0 0 w rfl hown hK
    | some A =>
      refine wp_append_own w s y 22 ho B 41 i0 (.agg #[.int .i64 0, .int .i64 0, .int .i64 0]) 3 24 Tryz.underlying22 hi hz0 hz1 hz2 rfl (by decide) _ 0 [] hs hown A 0 c [] hy rfl (fun j u hu => by simp at hu) (fun u hu => by cases hu) (by decide) (by decide) hB ?_
      intro v' w1 hown' hgrow _
      have hown2 : EOwn B w1 v' [] := hown'
      have hK : Kept B w w1 (.slice (some ⟨q, 0, none⟩) 0 0) := ⟨fun w0 h0 => h0.grown hgrow hB (fun k hk => (World.ownsRow.lt hown k hk).1), hgrow⟩
      obtain ⟨ao, n', cap, rfl, hn'⟩ := hown2.shape
      exact h ao n' cap w1 hn' hown2 hK
  · rcases q4 with q4 | ⟨b, off, q5, -⟩
    · exact absurd q4 h0
    · subst q5
      exact wp_app_edges w es B R s y ho _ hs hown b off n c hy e2 hev0 hb hB h
theorem EOwn.empty (B : Nat) (w : World) (hb : B ≤ w.heap.size) : EOwn B (w.alloc (.cells #[] 41)) (.slice (some ⟨w.heap.size, 0, none⟩) 0 0) [] := World.ownsRow_made w #[] 0 hb (by decide) rfl
theorem mkDW {R p S : Nat} {al st : Int} {wL w6 : World} {v : Value} {es : List Edg} {f : Nat → Value} (hR : RdOk R p wL) (hb : Below wL.heap.size wL w6) (hs : w6.rowIs S 24 3 f) (hS : wL.heap.size ≤ S) (ho : EOwn wL.heap.size w6 v es) :
    DW R p S al st wL (((w6.setCell ⟨S, 0, none⟩ (.int .i64 al)).setCell ⟨S, 1, none⟩ (.int .i64 st)).setCell ⟨S, 2, none⟩ v) v es := by
  have hlt := hR.lt
  have hne := own_ne ho hs
  exact ⟨(((hR.below hb).set (by omega)).set (by omega)).set (by omega), rowIs_set3 hs _ _ _, ((ho.setNe hne).setNe hne).setNe hne, hlt, hS, grown_set _ (grown_set _ (grown_set _ (grown_below _ hb) hS) hS) hS⟩
set_option maxHeartbeats 8000000 in
theorem l2Wrong_any (R p : Nat) (al st : Int) (ad : Option Addr) (n c : Nat) (es : List Edg) (w : World) (hr : RdOk R p w) (hp : p ≤ 800000) (h : EVR R w (.slice ad n c) es) (hes : es.length ≤ 100000) :
    Calls Tryz.prog 57 #[.pointer (some ⟨R, 0, none⟩), .agg #[.int .i64 al, .int .i64 st, .slice ad n c]] w (SysR R p 10 (es.length + 1) w) := by
  have hRlt := hr.lt
  have hx0 := sys_cells w al st (.slice ad n c) 24
  have hb0 := below_new' w 24 #[.int .i64 al, .int .i64 st, .slice ad n c]
  obtain ⟨wx, hwx⟩ : ∃ wx, (w.alloc (.cells #[.int .i64 al, .int .i64 st, .slice ad n c] 24)) = wx := ⟨_, rfl⟩
  have hsx : wx.heap.size = w.heap.size + 1 := by rw [← hwx]; simp
  rw [hwx] at hx0 hb0
  have hq0 := sys_cells wx 0 0 (.slice none 0 0) 24
  have hb1 := below_new' wx 24 #[.int .i64 0, .int .i64 0, .slice none 0 0]
  obtain ⟨wL, hwL⟩ : ∃ wL, (wx.alloc (.cells #[.int .i64 0, .int .i64 0, .slice none 0 0] 24)) = wL := ⟨_, rfl⟩
  have hsL : wL.heap.size = w.heap.size + 2 := by rw [← hwL]; simp; omega
  rw [hwL] at hq0 hb1
  obtain ⟨X, hX⟩ : ∃ X, w.heap.size = X := ⟨_, rfl⟩
  obtain ⟨Z, hZ⟩ : ∃ Z, wx.heap.size = Z := ⟨_, rfl⟩
  rw [hX] at hx0 hsx hsL
  rw [hZ] at hq0 hsx
  have hX1 := rowIs_below' hx0 hb1
  have hbL : Below w.heap.size w wL := hb0.trans (hb1.mono hb0.size)
  have HRL := Lib.hid (hr.below hbL)
  have HEL := Lib.hid (h.below hbL)
  have HGL := Lib.hid (grown_below (some R) hbL)
  have HQL := Lib.hid hq0
  have c0 : wL.cell? ⟨X, 0, none⟩ = some (.int .i64 al) := hX1.cell (by decide)
  have c1' : wL.cell? ⟨X, 1, none⟩ = some (.int .i64 st) := hX1.cell (by decide)
  have c2' : wL.cell? ⟨X, 2, none⟩ = some (.slice ad n c) := hX1.cell (by decide)
  clear hr h hx0 hb0 hq0 hb1 hX1 hbL
  subst hsx
  have HSW := Lib.hid (fun (w' : World) (hb : Below wL.heap.size wL w') => (show Below wL.heap.size wL w' ∧ w'.cell? ⟨X, 0, none⟩ = some (.int .i64 al) ∧ w'.cell? ⟨X, 1, none⟩ = some (.int .i64 st) ∧ w'.cell? ⟨X, 2, none⟩ = some (.slice ad n c) from ⟨hb, keep_cell hb c0, keep_cell hb c1', keep_cell hb c2'⟩))
  have HBE := Lib.hid (show Below wL.heap.size wL (wL.alloc (.cells #[] 41)).drew from ((Below.refl wL.heap.size wL).alloc (Nat.le_refl _) _).drew)
  have HOE := Lib.hid (show EOwn wL.heap.size (wL.alloc (.cells #[] 41)).drew (.slice (some ⟨X + 2, 0, none⟩) 0 0) [] from hsL ▸ EOwn.empty wL.heap.size wL (Nat.le_refl _))
  go_enter Tryz.func57, Tryz.ntmps57
  go_wp2_with fail
  go_cut [5] from 8 to 17 (fun s5 wc => ∃ (S m cap : Nat) (a : Option Addr), s5 = .pointer (some ⟨S, 0, none⟩) ∧ DW R p S al st wL wc (.slice a m cap) es ∧ m = es.length)
  case first =>
    refine wp_region_held_drew (S := fun w' => Below wL.heap.size wL w' ∧ w'.cell? ⟨X, 0, none⟩ = some (.int .i64 al) ∧ w'.cell? ⟨X, 1, none⟩ = some (.int .i64 st) ∧ w'.cell? ⟨X, 2, none⟩ = some (.slice ad n c)) (by kernel_rfl) ⟨(Below.refl _ _).drew, c0, c1', c2'⟩ (fun hHeld => ?_)
    first | (refine wpAnyH_take (i := 0) (get_of_drop' rfl) (by kernel_rfl) (by kernel_rfl) (by kernel_rfl) (fun _ _ _ h => h) (Or.inr ⟨?_, rfl⟩) hHeld ?_; (focus (simp [Region.wanted, yielded, undef]; done)); (try simp only [Act.put, List.setIfInBounds_toArray, List.set_cons_zero, List.set_cons_succ])) | (refine wpAnyH_take (i := 0) (v := ?_) (get_of_drop' rfl) (by kernel_rfl) (by kernel_rfl) (by kernel_rfl) (fun _ _ _ h => h) (Or.inl ⟨?_, ?_⟩) hHeld ?_; rotate_left; (focus rfl); (focus (intro w hSw; (try dsimp only at hSw); go_simp; (try (with_reducible rfl)))); (try simp only [Act.put, List.setIfInBounds_toArray, List.set_cons_zero, List.set_cons_succ]))
    first | (refine wpAnyH_take (i := 1) (get_of_drop' rfl) (by kernel_rfl) (by kernel_rfl) (by kernel_rfl) (fun _ _ _ h => h) (Or.inr ⟨?_, rfl⟩) hHeld ?_; (focus (simp [Region.wanted, yielded, undef]; done)); (try simp only [Act.put, List.setIfInBounds_toArray, List.set_cons_zero, List.set_cons_succ])) | (refine wpAnyH_take (i := 1) (v := ?_) (get_of_drop' rfl) (by kernel_rfl) (by kernel_rfl) (by kernel_rfl) (fun _ _ _ h => h) (Or.inl ⟨?_, ?_⟩) hHeld ?_; rotate_left; (focus rfl); (focus (intro w hSw; (try dsimp only at hSw); go_simp; (try (with_reducible rfl)))); (try simp only [Act.put, List.setIfInBounds_toArray, List.set_cons_zero, List.set_cons_succ]))
    first | (refine wpAnyH_take (i := 2) (get_of_drop' rfl) (by kernel_rfl) (by kernel_rfl) (by kernel_rfl) (fun _ _ _ h => h) (Or.inr ⟨?_, rfl⟩) hHeld ?_; (focus (simp [Region.wanted, yielded, undef]; done)); (try simp only [Act.put, List.setIfInBounds_toArray, List.set_cons_zero, List.set_cons_succ])) | (refine wpAnyH_take (i := 2) (v := ?_) (get_of_drop' rfl) (by kernel_rfl) (by kernel_rfl) (by kernel_rfl) (fun _ _ _ h => h) (Or.inl ⟨?_, ?_⟩) hHeld ?_; rotate_left; (focus rfl); (focus (intro w hSw; (try dsimp only at hSw); go_simp; (try (with_reducible rfl)))); (try simp only [Act.put, List.setIfInBounds_toArray, List.set_cons_zero, List.set_cons_succ]))
    first | (refine wpAnyH_take (i := 3) (get_of_drop' rfl) (by kernel_rfl) (by kernel_rfl) (by kernel_rfl) (fun _ _ _ h => h) (Or.inr ⟨?_, rfl⟩) hHeld ?_; (focus (simp [Region.wanted, yielded, undef]; done)); (try simp only [Act.put, List.setIfInBounds_toArray, List.set_cons_zero, List.set_cons_succ])) | (refine wpAnyH_take (i := 3) (v := ?_) (get_of_drop' rfl) (by kernel_rfl) (by kernel_rfl) (by kernel_rfl) (fun _ _ _ h => h) (Or.inl ⟨?_, ?_⟩) hHeld ?_; rotate_left; (focus rfl); (focus (intro w hSw; (try dsimp only at hSw); go_simp; (try (with_reducible rfl)))); (try simp only [Act.put, List.setIfInBounds_toArray, List.set_cons_zero, List.set_cons_succ]))
    first | (refine wpAnyH_take (i := 5) (get_of_drop' rfl) (by kernel_rfl) (by kernel_rfl) (by kernel_rfl) (fun _ _ _ h => h) (Or.inr ⟨?_, rfl⟩) hHeld ?_; (focus (simp [Region.wanted, yielded, undef]; done)); (try simp only [Act.put, List.setIfInBounds_toArray, List.set_cons_zero, List.set_cons_succ])) | (refine wpAnyH_take (i := 5) (v := ?_) (get_of_drop' rfl) (by kernel_rfl) (by kernel_rfl) (by kernel_rfl) (fun _ _ _ h => h) (Or.inl ⟨?_, ?_⟩) hHeld ?_; rotate_left; (focus rfl); (focus (intro w hSw; (try dsimp only at hSw); go_simp; (try (with_reducible rfl)))); (try simp only [Act.put, List.setIfInBounds_toArray, List.set_cons_zero, List.set_cons_succ]))
    first | (refine wpAnyH_take (i := 6) (get_of_drop' rfl) (by kernel_rfl) (by kernel_rfl) (by kernel_rfl) (fun _ _ _ h => h) (Or.inr ⟨?_, rfl⟩) hHeld ?_; (focus (simp [Region.wanted, yielded, undef]; done)); (try simp only [Act.put, List.setIfInBounds_toArray, List.set_cons_zero, List.set_cons_succ])) | (refine wpAnyH_take (i := 6) (v := ?_) (get_of_drop' rfl) (by kernel_rfl) (by kernel_rfl) (by kernel_rfl) (fun _ _ _ h => h) (Or.inl ⟨?_, ?_⟩) hHeld ?_; rotate_left; (focus rfl); (focus (intro w hSw; (try dsimp only at hSw); go_simp; (try (with_reducible rfl)))); (try simp only [Act.put, List.setIfInBounds_toArray, List.set_cons_zero, List.set_cons_succ]))
    refine wpAnyH_ready (rs := [4, 9]) (by kernel_rfl) (by simp) ?_
    refine AllReadyH.cons (get_of_drop' rfl) (fun K hK => ?_) ?_
    · go_simp
      refine hK.out _ _ (HSW.out _ HBE.out) (fun hHeld => ?_)
      clear hK K
      try simp only [Act.put, List.setIfInBounds_toArray, List.set_cons_zero, List.set_cons_succ]
      refine wpAnyH_ready (rs := [7, 9]) (by kernel_rfl) (by simp) ?_
      refine AllReadyH.cons (get_of_drop' rfl) (fun K hK => ?_) ?_
      · rw [if_pos (by rfl)]
        refine wp_app_any _ es wL.heap.size R (X + 2) _ _ rfl rfl HOE.out ad n c rfl (EVR.below HEL.out HBE.out) (by omega) (HBE.out).size ?_
        intro ao' n' cap' w5 hn' hown' hkept
        have HN := Lib.hid hn'; clear hn'
        have hb5 := hkept.1 wL HBE.out
        refine hK.out _ _ (HSW.out _ hb5) (fun hHeld => ?_)
        clear hK K
        try simp only [Act.put, List.setIfInBounds_toArray, List.set_cons_zero, List.set_cons_succ]
        first | (refine wpAnyH_take (i := 8) (get_of_drop' rfl) (by kernel_rfl) (by kernel_rfl) (by kernel_rfl) (fun _ _ _ h => h) (Or.inr ⟨?_, rfl⟩) hHeld ?_; (focus (simp [Region.wanted, yielded, undef]; done)); (try simp only [Act.put, List.setIfInBounds_toArray, List.set_cons_zero, List.set_cons_succ])) | (refine wpAnyH_take (i := 8) (v := ?_) (get_of_drop' rfl) (by kernel_rfl) (by kernel_rfl) (by kernel_rfl) (fun _ _ _ h => h) (Or.inl ⟨?_, ?_⟩) hHeld ?_; rotate_left; (focus rfl); (focus (intro w hSw; (try dsimp only at hSw); go_simp; (try (with_reducible rfl)))); (try simp only [Act.put, List.setIfInBounds_toArray, List.set_cons_zero, List.set_cons_succ]))
        obtain ⟨S, hS⟩ : ∃ S, (w5).heap.size = S := ⟨_, rfl⟩
        obtain ⟨w6, hwS⟩ : ∃ w6, ((w5).alloc (.cells #[.int .i64 0, .int .i64 0, .slice none 0 0] 24)) = w6 := ⟨_, rfl⟩
        have hb6 := below_new' (w5) 24 #[.int .i64 0, .int .i64 0, .slice none 0 0]
        have hr6 := sys_cells (w5) 0 0 (.slice none 0 0) 24
        rw [hS] at hr6
        rw [hwS] at hb6 hr6
        have hbL6 := hb5.trans (hb6.mono hb5.size)
        have hown6 := hown'.below hb6
        have hSw : wL.heap.size ≤ S := by have := hb5.size; omega
        have s0 : w6.cell? ⟨S, 0, none⟩ = some (.int .i64 0) := (hr6).cell (by decide)
        have s1 : w6.cell? ⟨S, 1, none⟩ = some (.int .i64 0) := (hr6).cell (by decide)
        have s2 : w6.cell? ⟨S, 2, none⟩ = some (.slice none 0 0) := (hr6).cell (by decide)
        have sf0 := (hr6).frozen 0
        have sf1 := (hr6).frozen 1
        have sf2 := (hr6).frozen 2
        refine wpAnyH_ready (rs := [9]) (by kernel_rfl) (by simp) ?_
        refine AllReadyH.cons (get_of_drop' rfl) (fun K hK => ?_) AllReadyH.nil
        go_simp
        refine hK.out _ _ (HSW.out _ hbL6) (fun hHeld => ?_)
        clear hK K
        try simp only [Act.put, List.setIfInBounds_toArray, List.set_cons_zero, List.set_cons_succ]
        have HD := Lib.hid (mkDW (al := al) (st := st) HRL.out hbL6 hr6 hSw hown6)
        have HBF : Below wL.heap.size wL (((w6.setCell ⟨S, 0, none⟩ (.int .i64 al)).setCell ⟨S, 1, none⟩ (.int .i64 st)).setCell ⟨S, 2, none⟩ (.slice ao' n' cap')) := (((hbL6).setCell (p := ⟨S, 0, none⟩) hSw _).setCell (p := ⟨S, 1, none⟩) hSw _).setCell (p := ⟨S, 2, none⟩) hSw _
        clear hown' hkept
        refine wpAnyH_ready (rs := [10]) (by kernel_rfl) (by simp) ?_
        refine AllReadyH.cons (get_of_drop' rfl) (fun K hK => ?_) AllReadyH.nil
        go_simp
        refine hK.out _ _ (HSW.out _ HBF) (fun hHeld => ?_)
        clear hK K
        try simp only [Act.put, List.setIfInBounds_toArray, List.set_cons_zero, List.set_cons_succ]
        refine wpAnyH_done (by kernel_rfl) ?_ _
        go_wp2_with fail
        go_meet
        case rel => exact ⟨S, n', cap', ao', rfl, HD.out, HN.out⟩
      · refine AllReadyH.cons (get_of_drop' rfl) (fun K hK => ?_) AllReadyH.nil
        obtain ⟨S, hS⟩ : ∃ S, ((wL.alloc (.cells #[] 41)).drew).heap.size = S := ⟨_, rfl⟩
        obtain ⟨wS, hwS⟩ : ∃ wS, (((wL.alloc (.cells #[] 41)).drew).alloc (.cells #[.int .i64 0, .int .i64 0, .slice none 0 0] 24)) = wS := ⟨_, rfl⟩
        have hb6 := below_new' ((wL.alloc (.cells #[] 41)).drew) 24 #[.int .i64 0, .int .i64 0, .slice none 0 0]
        have hr6 := sys_cells ((wL.alloc (.cells #[] 41)).drew) 0 0 (.slice none 0 0) 24
        rw [hS] at hr6
        rw [hwS] at hb6 hr6
        have hbS := HBE.out.trans (hb6.mono HBE.out.size)
        have hSw : wL.heap.size ≤ S := by have := HBE.out.size; omega
        go_simp
        refine hK.out _ _ (HSW.out _ hbS) (fun hHeld => ?_)
        clear hK K
        try simp only [Act.put, List.setIfInBounds_toArray, List.set_cons_zero, List.set_cons_succ]
        refine wpAnyH_ready (rs := [7]) (by kernel_rfl) (by simp) ?_
        refine AllReadyH.cons (get_of_drop' rfl) (fun K hK => ?_) AllReadyH.nil
        rw [if_pos (by rfl)]
        refine wp_app_any wS es wL.heap.size R (X + 2) _ _ rfl rfl (HOE.out.below hb6) ad n c rfl (EVR.below HEL.out hbS) (by omega) (hbS).size ?_
        intro ao' n' cap' w5 hn' hown' hkept
        have HN := Lib.hid hn'; clear hn'
        have hb5 := hkept.1 wL hbS
        refine hK.out _ _ (HSW.out _ hb5) (fun hHeld => ?_)
        clear hK K
        try simp only [Act.put, List.setIfInBounds_toArray, List.set_cons_zero, List.set_cons_succ]
        have hr5 := hr6.of_block (hkept.2.block S (World.rowIs.lt hr6) (fun e => own_ne (HOE.out.below hb6) hr6 e.symm))
        have s0 : w5.cell? ⟨S, 0, none⟩ = some (.int .i64 0) := (hr5).cell (by decide)
        have s1 : w5.cell? ⟨S, 1, none⟩ = some (.int .i64 0) := (hr5).cell (by decide)
        have s2 : w5.cell? ⟨S, 2, none⟩ = some (.slice none 0 0) := (hr5).cell (by decide)
        have sf0 := (hr5).frozen 0
        have sf1 := (hr5).frozen 1
        have sf2 := (hr5).frozen 2
        first | (refine wpAnyH_take (i := 8) (get_of_drop' rfl) (by kernel_rfl) (by kernel_rfl) (by kernel_rfl) (fun _ _ _ h => h) (Or.inr ⟨?_, rfl⟩) hHeld ?_; (focus (simp [Region.wanted, yielded, undef]; done)); (try simp only [Act.put, List.setIfInBounds_toArray, List.set_cons_zero, List.set_cons_succ])) | (refine wpAnyH_take (i := 8) (v := ?_) (get_of_drop' rfl) (by kernel_rfl) (by kernel_rfl) (by kernel_rfl) (fun _ _ _ h => h) (Or.inl ⟨?_, ?_⟩) hHeld ?_; rotate_left; (focus rfl); (focus (intro w hSw; (try dsimp only at hSw); go_simp; (try (with_reducible rfl)))); (try simp only [Act.put, List.setIfInBounds_toArray, List.set_cons_zero, List.set_cons_succ]))
        have HD := Lib.hid (mkDW (al := al) (st := st) HRL.out hb5 hr5 hSw hown')
        have HBF : Below wL.heap.size wL (((w5.setCell ⟨S, 0, none⟩ (.int .i64 al)).setCell ⟨S, 1, none⟩ (.int .i64 st)).setCell ⟨S, 2, none⟩ (.slice ao' n' cap')) := (((hb5).setCell (p := ⟨S, 0, none⟩) hSw _).setCell (p := ⟨S, 1, none⟩) hSw _).setCell (p := ⟨S, 2, none⟩) hSw _
        clear hown' hkept
        refine wpAnyH_ready (rs := [10]) (by kernel_rfl) (by simp) ?_
        refine AllReadyH.cons (get_of_drop' rfl) (fun K hK => ?_) AllReadyH.nil
        go_simp
        refine hK.out _ _ (HSW.out _ HBF) (fun hHeld => ?_)
        clear hK K
        try simp only [Act.put, List.setIfInBounds_toArray, List.set_cons_zero, List.set_cons_succ]
        refine wpAnyH_done (by kernel_rfl) ?_ _
        go_wp2_with fail
        go_meet
        case rel => exact ⟨S, n', cap', ao', rfl, HD.out, HN.out⟩
    · refine AllReadyH.cons (get_of_drop' rfl) (fun K hK => ?_) AllReadyH.nil
      obtain ⟨S, hS⟩ : ∃ S, (wL.drew).heap.size = S := ⟨_, rfl⟩
      obtain ⟨wS, hwS⟩ : ∃ wS, ((wL.drew).alloc (.cells #[.int .i64 0, .int .i64 0, .slice none 0 0] 24)) = wS := ⟨_, rfl⟩
      have hb6 := below_new' (wL.drew) 24 #[.int .i64 0, .int .i64 0, .slice none 0 0]
      have hr6 := sys_cells (wL.drew) 0 0 (.slice none 0 0) 24
      rw [hS] at hr6
      rw [hwS] at hb6 hr6
      have hbS : Below wL.heap.size wL wS := ((Below.refl wL.heap.size wL).drew).trans hb6
      have hSw : wL.heap.size ≤ S := by have h : wL.drew.heap.size = wL.heap.size := rfl; omega
      go_simp
      refine hK.out _ _ (HSW.out _ hbS) (fun hHeld => ?_)
      clear hK K
      try simp only [Act.put, List.setIfInBounds_toArray, List.set_cons_zero, List.set_cons_succ]
      refine wpAnyH_ready (rs := [4]) (by kernel_rfl) (by simp) ?_
      refine AllReadyH.cons (get_of_drop' rfl) (fun K hK => ?_) AllReadyH.nil
      obtain ⟨q, hq⟩ : ∃ q, wS.heap.size = q := ⟨_, rfl⟩
      obtain ⟨wE, hwE⟩ : ∃ wE, (wS.alloc (.cells #[] 41)) = wE := ⟨_, rfl⟩
      have hbE := below_new' wS 41 #[]
      have hoE := EOwn.empty wL.heap.size wS hbS.size
      rw [hq] at hoE
      rw [hwE] at hbE hoE
      have hrE := rowIs_below' hr6 hbE
      have hbLE := hbS.trans (hbE.mono hbS.size)
      go_simp
      refine hK.out _ _ (HSW.out _ hbLE) (fun hHeld => ?_)
      clear hK K
      try simp only [Act.put, List.setIfInBounds_toArray, List.set_cons_zero, List.set_cons_succ]
      refine wpAnyH_ready (rs := [7]) (by kernel_rfl) (by simp) ?_
      refine AllReadyH.cons (get_of_drop' rfl) (fun K hK => ?_) AllReadyH.nil
      rw [if_pos (by rfl)]
      refine wp_app_any wE es wL.heap.size R (q) _ _ rfl rfl hoE ad n c rfl (EVR.below HEL.out hbLE) (by omega) (hbLE).size ?_
      intro ao' n' cap' w5 hn' hown' hkept
      have HN := Lib.hid hn'; clear hn'
      have hb5 := hkept.1 wL hbLE
      refine hK.out _ _ (HSW.out _ hb5) (fun hHeld => ?_)
      clear hK K
      try simp only [Act.put, List.setIfInBounds_toArray, List.set_cons_zero, List.set_cons_succ]
      have hr5 := hrE.of_block (hkept.2.block S (World.rowIs.lt hrE) (fun e => own_ne hoE hrE e.symm))
      have s0 : w5.cell? ⟨S, 0, none⟩ = some (.int .i64 0) := (hr5).cell (by decide)
      have s1 : w5.cell? ⟨S, 1, none⟩ = some (.int .i64 0) := (hr5).cell (by decide)
      have s2 : w5.cell? ⟨S, 2, none⟩ = some (.slice none 0 0) := (hr5).cell (by decide)
      have sf0 := (hr5).frozen 0
      have sf1 := (hr5).frozen 1
      have sf2 := (hr5).frozen 2
      first | (refine wpAnyH_take (i := 8) (get_of_drop' rfl) (by kernel_rfl) (by kernel_rfl) (by kernel_rfl) (fun _ _ _ h => h) (Or.inr ⟨?_, rfl⟩) hHeld ?_; (focus (simp [Region.wanted, yielded, undef]; done)); (try simp only [Act.put, List.setIfInBounds_toArray, List.set_cons_zero, List.set_cons_succ])) | (refine wpAnyH_take (i := 8) (v := ?_) (get_of_drop' rfl) (by kernel_rfl) (by kernel_rfl) (by kernel_rfl) (fun _ _ _ h => h) (Or.inl ⟨?_, ?_⟩) hHeld ?_; rotate_left; (focus rfl); (focus (intro w hSw; (try dsimp only at hSw); go_simp; (try (with_reducible rfl)))); (try simp only [Act.put, List.setIfInBounds_toArray, List.set_cons_zero, List.set_cons_succ]))
      have HD := Lib.hid (mkDW (al := al) (st := st) HRL.out hb5 hr5 hSw hown')
      have HBF : Below wL.heap.size wL (((w5.setCell ⟨S, 0, none⟩ (.int .i64 al)).setCell ⟨S, 1, none⟩ (.int .i64 st)).setCell ⟨S, 2, none⟩ (.slice ao' n' cap')) := (((hb5).setCell (p := ⟨S, 0, none⟩) hSw _).setCell (p := ⟨S, 1, none⟩) hSw _).setCell (p := ⟨S, 2, none⟩) hSw _
      clear hown' hkept
      refine wpAnyH_ready (rs := [10]) (by kernel_rfl) (by simp) ?_
      refine AllReadyH.cons (get_of_drop' rfl) (fun K hK => ?_) AllReadyH.nil
      go_simp
      refine hK.out _ _ (HSW.out _ HBF) (fun hHeld => ?_)
      clear hK K
      try simp only [Act.put, List.setIfInBounds_toArray, List.set_cons_zero, List.set_cons_succ]
      refine wpAnyH_done (by kernel_rfl) ?_ _
      go_wp2_with fail
      go_meet
      case rel => exact ⟨S, n', cap', ao', rfl, HD.out, HN.out⟩
  case rest =>
    obtain ⟨S, m, cap, a', rfl, hdw, hm⟩ := hcut
    have HD := Lib.hid hdw
    have HM := Lib.hid hm; clear hm
    have hSw : wL.heap.size ≤ S := hdw.2.2.2.2.1
    have hRZ : X + 1 ≠ R := by omega
    have hXw : w.heap.size ≤ X + 1 := by omega
    have q2 : wc.cell? ⟨S, 2, none⟩ = some (.slice a' m cap) := hdw.2.1.cell (by decide)
    have hrd := hdw.1
    have hmcap : m ≤ cap ∧ cap ≤ 9223372036854775807 := by
      obtain ⟨ao1, cap1, t1, t2, t3, -⟩ := hdw.2.2.1.evr (R := R) hdw.2.2.2.1
      injection t1 with t4 t5 t6
      unfold maxLen at t3
      omega
    obtain ⟨hmc, hcm⟩ := hmcap
    clear hdw HSW HBE HOE c0 c1' c2'
    go_wp2_with fail
    refine (pick_any R p (m : Int) wc hrd (by omega)).mono ?_
    rintro e w4 ⟨k, rfl, hk, -, hr4, hg4⟩
    have HD4 := Lib.hid (HD.out.pick hr4 hg4)
    clear hg4 hrd q2 HD
    go_wp2_with fail
    refine (pick_any R (p + 1) 30 w4 hr4 (by omega)).mono ?_
    rintro e w5 ⟨cc, rfl, -, -, hr5, hg5⟩
    have hd5 := HD4.out.pick hr5 hg5
    have HD5 := Lib.hid hd5
    have r0 : w5.cell? ⟨S, 0, none⟩ = some (.int .i64 al) := hd5.2.1.cell (by decide)
    have r1 : w5.cell? ⟨S, 1, none⟩ = some (.int .i64 st) := hd5.2.1.cell (by decide)
    have r2 : w5.cell? ⟨S, 2, none⟩ = some (.slice a' m cap) := hd5.2.1.cell (by decide)
    have hrd5 := hd5.1
    clear hr4 hr5 hg5 hd5 HD4
    by_cases hc0 : cc = 0
    · subst hc0
      go_wp2_with fail
      refine (num_lit R (p + 2) [64, -1, 1, 63] _ _ w5 rfl hrd5 (by omega) 4 rfl (by omega) (by omega)).mono ?_
      rintro e w6 ⟨j1, x, -, -, rfl, p6, hp6, hr6, hg6⟩
      have hd6 := HD5.out.pick hr6 hg6
      have u0 : w6.cell? ⟨S, 0, none⟩ = some _ := hd6.2.1.cell (by decide)
      have uf := hd6.2.1.frozen 0
      obtain ⟨w7, hw7⟩ : ∃ w7, w6.setCell ⟨S, 0, none⟩ (.int .i64 x) = w7 := ⟨_, rfl⟩
      have hde := (hd6.setS (j := 0) (u := .int .i64 x) (al' := x) (st' := st) (fun i hi => by
        obtain rfl | rfl | rfl : i = 0 ∨ i = 1 ∨ i = 2 := by omega
        all_goals rfl)).de
      rw [hw7] at hde
      clear hd6 r0 r1 r2 hr6 hg6
      simp at u0
      have HRD := Lib.hid hde.1
      have HGR := Lib.hid (grown_trans HGL.out hde.2.2.2)
      have HQ := Lib.hid (row_grown HQL.out hde.2.2.2 hRZ)
      have HEV := Lib.hid (show ∀ R', R' ≤ X + 1 → EVR R' w7 (.slice a' m cap) es from fun R' hR' => hde.2.2.1 R' (by omega))
      have t0 : w7.cell? ⟨S, 0, none⟩ = some (.int .i64 x) := hde.2.1.cell (by decide)
      have t1 : w7.cell? ⟨S, 1, none⟩ = some (.int .i64 st) := hde.2.1.cell (by decide)
      have t2 : w7.cell? ⟨S, 2, none⟩ = some (.slice a' m cap) := hde.2.1.cell (by decide)
      have z0 : w7.cell? ⟨X + 1, 0, none⟩ = some (.int .i64 0) := HQ.out.cell (by decide)
      have z1 : w7.cell? ⟨X + 1, 1, none⟩ = some (.int .i64 0) := HQ.out.cell (by decide)
      have z2 : w7.cell? ⟨X + 1, 2, none⟩ = some (.slice none 0 0) := HQ.out.cell (by decide)
      have zf0 := HQ.out.frozen 0
      have zf1 := HQ.out.frozen 1
      have zf2 := HQ.out.frozen 2
      clear hde
      go_wp2
      have hdone := sys_done (al := x) (st := st) HRD.out HGR.out hXw hRlt HEV.out HQ.out
      obtain ⟨wf, hwf⟩ : ∃ wf, (((w7.setCell ⟨X + 1, 0, none⟩ (.int .i64 x)).setCell ⟨X + 1, 1, none⟩ (.int .i64 st)).setCell ⟨X + 1, 2, none⟩ (.slice a' m cap)) = wf := ⟨_, rfl⟩
      rw [hwf] at hdone ⊢
      clear hwf
      obtain ⟨d1, d2, d3, hfin⟩ := hdone
      have f0 : wf.cell? ⟨X + 1, 0, none⟩ = some (.int .i64 x) := hfin.cell (by decide)
      have f1 : wf.cell? ⟨X + 1, 1, none⟩ = some (.int .i64 st) := hfin.cell (by decide)
      have f2 : wf.cell? ⟨X + 1, 2, none⟩ = some (.slice a' m cap) := hfin.cell (by decide)
      refine bodyPost_ret (v := .agg #[.int .i64 x, .int .i64 st, .slice a' m cap]) ?_ rfl ?_
      rotate_left
      · exact ⟨_, _, _, _, _, es, rfl, by first | omega | (simp [setE_len]), d1, p6, by omega, d2, d3⟩
      · simp [results, Tryz.results57, go_sem, f0, f1, f2]
    by_cases hc1 : cc = 1
    · subst hc1
      go_wp2_with fail
      refine (num_lit R (p + 2) [0, 17, -1, 16, 1] _ _ w5 rfl hrd5 (by omega) 5 rfl (by omega) (by omega)).mono ?_
      rintro e w6 ⟨j1, x, -, -, rfl, p6, hp6, hr6, hg6⟩
      have hd6 := HD5.out.pick hr6 hg6
      have u0 : w6.cell? ⟨S, 1, none⟩ = some _ := hd6.2.1.cell (by decide)
      have uf := hd6.2.1.frozen 1
      obtain ⟨w7, hw7⟩ : ∃ w7, w6.setCell ⟨S, 1, none⟩ (.int .i64 x) = w7 := ⟨_, rfl⟩
      have hde := (hd6.setS (j := 1) (u := .int .i64 x) (al' := al) (st' := x) (fun i hi => by
        obtain rfl | rfl | rfl : i = 0 ∨ i = 1 ∨ i = 2 := by omega
        all_goals rfl)).de
      rw [hw7] at hde
      clear hd6 r0 r1 r2 hr6 hg6
      simp at u0
      have HRD := Lib.hid hde.1
      have HGR := Lib.hid (grown_trans HGL.out hde.2.2.2)
      have HQ := Lib.hid (row_grown HQL.out hde.2.2.2 hRZ)
      have HEV := Lib.hid (show ∀ R', R' ≤ X + 1 → EVR R' w7 (.slice a' m cap) es from fun R' hR' => hde.2.2.1 R' (by omega))
      have t0 : w7.cell? ⟨S, 0, none⟩ = some (.int .i64 al) := hde.2.1.cell (by decide)
      have t1 : w7.cell? ⟨S, 1, none⟩ = some (.int .i64 x) := hde.2.1.cell (by decide)
      have t2 : w7.cell? ⟨S, 2, none⟩ = some (.slice a' m cap) := hde.2.1.cell (by decide)
      have z0 : w7.cell? ⟨X + 1, 0, none⟩ = some (.int .i64 0) := HQ.out.cell (by decide)
      have z1 : w7.cell? ⟨X + 1, 1, none⟩ = some (.int .i64 0) := HQ.out.cell (by decide)
      have z2 : w7.cell? ⟨X + 1, 2, none⟩ = some (.slice none 0 0) := HQ.out.cell (by decide)
      have zf0 := HQ.out.frozen 0
      have zf1 := HQ.out.frozen 1
      have zf2 := HQ.out.frozen 2
      clear hde
      go_wp2
      have hdone := sys_done (al := al) (st := x) HRD.out HGR.out hXw hRlt HEV.out HQ.out
      obtain ⟨wf, hwf⟩ : ∃ wf, (((w7.setCell ⟨X + 1, 0, none⟩ (.int .i64 al)).setCell ⟨X + 1, 1, none⟩ (.int .i64 x)).setCell ⟨X + 1, 2, none⟩ (.slice a' m cap)) = wf := ⟨_, rfl⟩
      rw [hwf] at hdone ⊢
      clear hwf
      obtain ⟨d1, d2, d3, hfin⟩ := hdone
      have f0 : wf.cell? ⟨X + 1, 0, none⟩ = some (.int .i64 al) := hfin.cell (by decide)
      have f1 : wf.cell? ⟨X + 1, 1, none⟩ = some (.int .i64 x) := hfin.cell (by decide)
      have f2 : wf.cell? ⟨X + 1, 2, none⟩ = some (.slice a' m cap) := hfin.cell (by decide)
      refine bodyPost_ret (v := .agg #[.int .i64 al, .int .i64 x, .slice a' m cap]) ?_ rfl ?_
      rotate_left
      · exact ⟨_, _, _, _, _, es, rfl, by first | omega | (simp [setE_len]), d1, p6, by omega, d2, d3⟩
      · simp [results, Tryz.results57, go_sem, f0, f1, f2]
    by_cases hc2 : cc = 2
    · subst hc2
      by_cases hm0 : m = 0
      · subst hm0
        have hde := HD5.out.de
        have HRD := Lib.hid hde.1
        have HGR := Lib.hid (grown_trans HGL.out hde.2.2.2)
        have HQ := Lib.hid (row_grown HQL.out hde.2.2.2 hRZ)
        have HEV := Lib.hid (show ∀ R', R' ≤ X + 1 → EVR R' w5 (.slice a' 0 cap) es from fun R' hR' => hde.2.2.1 R' (by omega))
        have t0 : w5.cell? ⟨S, 0, none⟩ = some (.int .i64 al) := hde.2.1.cell (by decide)
        have t1 : w5.cell? ⟨S, 1, none⟩ = some (.int .i64 st) := hde.2.1.cell (by decide)
        have t2 : w5.cell? ⟨S, 2, none⟩ = some (.slice a' 0 cap) := hde.2.1.cell (by decide)
        have z0 : w5.cell? ⟨X + 1, 0, none⟩ = some (.int .i64 0) := HQ.out.cell (by decide)
        have z1 : w5.cell? ⟨X + 1, 1, none⟩ = some (.int .i64 0) := HQ.out.cell (by decide)
        have z2 : w5.cell? ⟨X + 1, 2, none⟩ = some (.slice none 0 0) := HQ.out.cell (by decide)
        have zf0 := HQ.out.frozen 0
        have zf1 := HQ.out.frozen 1
        have zf2 := HQ.out.frozen 2
        clear hde
        go_wp2
        have hdone := sys_done (al := al) (st := st) HRD.out HGR.out hXw hRlt HEV.out HQ.out
        obtain ⟨wf, hwf⟩ : ∃ wf, (((w5.setCell ⟨X + 1, 0, none⟩ (.int .i64 al)).setCell ⟨X + 1, 1, none⟩ (.int .i64 st)).setCell ⟨X + 1, 2, none⟩ (.slice a' 0 cap)) = wf := ⟨_, rfl⟩
        rw [hwf] at hdone ⊢
        clear hwf
        obtain ⟨d1, d2, d3, hfin⟩ := hdone
        have f0 : wf.cell? ⟨X + 1, 0, none⟩ = some (.int .i64 al) := hfin.cell (by decide)
        have f1 : wf.cell? ⟨X + 1, 1, none⟩ = some (.int .i64 st) := hfin.cell (by decide)
        have f2 : wf.cell? ⟨X + 1, 2, none⟩ = some (.slice a' 0 cap) := hfin.cell (by decide)
        refine bodyPost_ret (v := .agg #[.int .i64 al, .int .i64 st, .slice a' 0 cap]) ?_ rfl ?_
        rotate_left
        · exact ⟨_, _, _, _, _, es, rfl, by first | omega | (simp [setE_len]), d1, p + 2, by omega, d2, d3⟩
        · simp [results, Tryz.results57, go_sem, f0, f1, f2]
      · obtain ⟨hk0, hk1⟩ := hk (by omega)
        obtain ⟨k, rfl⟩ := Int.eq_ofNat_of_zero_le hk0
        have hkm : k < m := by omega
        have hmpos : (0 : Int) < (m : Int) := by omega
        obtain ⟨g, hg0, hg1⟩ : ∃ g, a' = some ⟨g, 0, none⟩ ∧ wL.heap.size ≤ g := by
          rcases HD5.out.2.2.1.2 with ⟨t1, t2⟩ | ⟨g, cg, cur, t1, t2, -⟩
          · have := HM.out; omega
          · injection t1 with t3 t4 t5
            exact ⟨g, t3, t2⟩
        subst hg0
        clear hk
        obtain ⟨e0, e1, e2⟩ : w5.cell? ⟨g, k * 3, none⟩ = some (.int .i64 (Edg.at es k).1) ∧ w5.cell? ⟨g, k * 3 + 1, none⟩ = some (.int .i64 (Edg.at es k).2.1) ∧ w5.cell? ⟨g, k * 3 + 2, none⟩ = some (.int .i64 (Edg.at es k).2.2) := by
          obtain ⟨ao1, cap1, t1, t2, t3, t4⟩ := HD5.out.2.2.1.evr (R := R) HD5.out.2.2.2.1
          rcases t4 with t4 | ⟨b1, off1, t5, t6, t7, t8⟩
          · have := HM.out; omega
          · injection t1 with t9 t10 t11
            rw [← t9] at t5
            injection t5 with t5
            injection t5 with t5 t5' _
            subst t5
            subst t5'
            have := t8 k (by have := HM.out; omega)
            simpa using this
        go_wp2_with fail
        refine wp_region_held_drew (S := fun w' => w'.cell? ⟨S, 2, none⟩ = some (.slice (some ⟨g, 0, none⟩) m cap)) (by kernel_rfl) r2 (fun hHeld => ?_)
        first | (refine wpAnyH_take (i := 0) (get_of_drop' rfl) (by kernel_rfl) (by kernel_rfl) (by kernel_rfl) (fun _ _ _ h => h) (Or.inr ⟨?_, rfl⟩) hHeld ?_; (focus (simp [Region.wanted, yielded, undef]; done)); (try simp only [Act.put, List.setIfInBounds_toArray, List.set_cons_zero, List.set_cons_succ])) | (refine wpAnyH_take (i := 0) (v := ?_) (get_of_drop' rfl) (by kernel_rfl) (by kernel_rfl) (by kernel_rfl) (fun _ _ _ h => h) (Or.inl ⟨?_, ?_⟩) hHeld ?_; rotate_left; (focus rfl); (focus (intro w hSw; (try dsimp only at hSw); go_simp; (try (with_reducible rfl)))); (try simp only [Act.put, List.setIfInBounds_toArray, List.set_cons_zero, List.set_cons_succ]))
        first | (refine wpAnyH_take (i := 1) (get_of_drop' rfl) (by kernel_rfl) (by kernel_rfl) (by kernel_rfl) (fun _ _ _ h => h) (Or.inr ⟨?_, rfl⟩) hHeld ?_; (focus (simp [Region.wanted, yielded, undef]; done)); (try simp only [Act.put, List.setIfInBounds_toArray, List.set_cons_zero, List.set_cons_succ])) | (refine wpAnyH_take (i := 1) (v := ?_) (get_of_drop' rfl) (by kernel_rfl) (by kernel_rfl) (by kernel_rfl) (fun _ _ _ h => h) (Or.inl ⟨?_, ?_⟩) hHeld ?_; rotate_left; (focus rfl); (focus (intro w hSw; (try dsimp only at hSw); go_simp; (try (with_reducible rfl)))); (try simp only [Act.put, List.setIfInBounds_toArray, List.set_cons_zero, List.set_cons_succ]))
        first | (refine wpAnyH_take (i := 2) (get_of_drop' rfl) (by kernel_rfl) (by kernel_rfl) (by kernel_rfl) (fun _ _ _ h => h) (Or.inr ⟨?_, rfl⟩) hHeld ?_; (focus (simp [Region.wanted, yielded, undef]; done)); (try simp only [Act.put, List.setIfInBounds_toArray, List.set_cons_zero, List.set_cons_succ])) | (refine wpAnyH_take (i := 2) (v := ?_) (get_of_drop' rfl) (by kernel_rfl) (by kernel_rfl) (by kernel_rfl) (fun _ _ _ h => h) (Or.inl ⟨?_, ?_⟩) hHeld ?_; rotate_left; (focus rfl); (focus (intro w hSw; (try dsimp only at hSw); go_simp; (try (with_reducible rfl)))); (try simp only [Act.put, List.setIfInBounds_toArray, List.set_cons_zero, List.set_cons_succ]))
        first | (refine wpAnyH_take (i := 3) (get_of_drop' rfl) (by kernel_rfl) (by kernel_rfl) (by kernel_rfl) (fun _ _ _ h => h) (Or.inr ⟨?_, rfl⟩) hHeld ?_; (focus (simp [Region.wanted, yielded, undef]; done)); (try simp only [Act.put, List.setIfInBounds_toArray, List.set_cons_zero, List.set_cons_succ])) | (refine wpAnyH_take (i := 3) (v := ?_) (get_of_drop' rfl) (by kernel_rfl) (by kernel_rfl) (by kernel_rfl) (fun _ _ _ h => h) (Or.inl ⟨?_, ?_⟩) hHeld ?_; rotate_left; (focus rfl); (focus (intro w hSw; (try dsimp only at hSw); go_simp; (try (with_reducible rfl)))); (try simp only [Act.put, List.setIfInBounds_toArray, List.set_cons_zero, List.set_cons_succ]))
        refine wpAnyH_ready (rs := [4]) (by kernel_rfl) (by simp) ?_
        refine AllReadyH.cons (get_of_drop' rfl) (fun K hK => ?_) AllReadyH.nil
        go_simp
        refine hK.out _ _ (keep_cell (below_new' w5 _ _) r2) (fun hHeld => ?_)
        clear hK K
        try simp only [Act.put, List.setIfInBounds_toArray, List.set_cons_zero, List.set_cons_succ]
        refine wpAnyH_ready (rs := [5]) (by kernel_rfl) (by simp) ?_
        refine AllReadyH.cons (get_of_drop' rfl) (fun K hK => ?_) AllReadyH.nil
        go_simp
        go_at_call 71
        refine (num_lit R (p + 2) [-1, 16, 0, 2] _ _ w5.drew rfl (hrd5.drewN 1) (by omega) 4 rfl (by omega) (by omega)).mono ?_
        rintro e w6 ⟨j1, x, -, -, rfl, p6, hp6, hr6, hg6⟩
        have hd6 := HD5.out.drew.pick hr6 hg6
        have hgR : g ≠ R := by omega
        have hgc := World.grownBy.cell hg6 (a := ⟨g, k * 3, none⟩) e0 (fun e => hgR (by injection e))
        have hgf := World.ownsRow.frozenAt (show w6.ownsRow wL.heap.size 41 3 (.slice (some ⟨g, 0, none⟩) m cap) m (eflat es) from by have h := hd6.2.2.1; unfold EOwn at h; rw [← HM.out] at h; exact h) (k * 3)
        have hde := DW.elem (f := 0) (x := x) hd6 HM.out hkm (by decide)
        have hS6 : w6.cell? ⟨S, 2, none⟩ = some (.slice (some ⟨g, 0, none⟩) m cap) := hd6.2.1.cell (by decide)
        obtain ⟨w7, hw7⟩ : ∃ w7, w6.setCell ⟨g, k * 3, none⟩ (.int .i64 x) = w7 := ⟨_, rfl⟩
        have hde' : DE R p6 S al st wL w7 (.slice (some ⟨g, 0, none⟩) m cap) (setE es k 0 x) := by rw [← hw7]; exact hde
        have hS7 : w7.cell? ⟨S, 2, none⟩ = some (.slice (some ⟨g, 0, none⟩) m cap) := hde'.2.1.cell (by decide)
        clear hde hd6 hr6 hg6 r0 r1
        go_wp2_with fail
        refine hK.out _ _ hS6 (fun hHeld => ?_)
        clear hK K
        try simp only [Act.put, List.setIfInBounds_toArray, List.set_cons_zero, List.set_cons_succ]
        first | (refine wpAnyH_take (i := 6) (get_of_drop' rfl) (by kernel_rfl) (by kernel_rfl) (by kernel_rfl) (fun _ _ _ h => h) (Or.inr ⟨?_, rfl⟩) hHeld ?_; (focus (simp [Region.wanted, yielded, undef]; done)); (try simp only [Act.put, List.setIfInBounds_toArray, List.set_cons_zero, List.set_cons_succ])) | (refine wpAnyH_take (i := 6) (v := ?_) (get_of_drop' rfl) (by kernel_rfl) (by kernel_rfl) (by kernel_rfl) (fun _ _ _ h => h) (Or.inl ⟨?_, ?_⟩) hHeld ?_; rotate_left; (focus rfl); (focus (intro w hSw; (try dsimp only at hSw); go_simp; (try (with_reducible rfl)))); (try simp only [Act.put, List.setIfInBounds_toArray, List.set_cons_zero, List.set_cons_succ]))
        first | (refine wpAnyH_take (i := 7) (get_of_drop' rfl) (by kernel_rfl) (by kernel_rfl) (by kernel_rfl) (fun _ _ _ h => h) (Or.inr ⟨?_, rfl⟩) hHeld ?_; (focus (simp [Region.wanted, yielded, undef]; done)); (try simp only [Act.put, List.setIfInBounds_toArray, List.set_cons_zero, List.set_cons_succ])) | (refine wpAnyH_take (i := 7) (v := ?_) (get_of_drop' rfl) (by kernel_rfl) (by kernel_rfl) (by kernel_rfl) (fun _ _ _ h => h) (Or.inl ⟨?_, ?_⟩) hHeld ?_; rotate_left; (focus rfl); (focus (intro w hSw; (try dsimp only at hSw); go_simp; (try (with_reducible rfl)))); (try simp only [Act.put, List.setIfInBounds_toArray, List.set_cons_zero, List.set_cons_succ]))
        refine wpAnyH_ready (rs := [8]) (by kernel_rfl) (by simp) ?_
        refine AllReadyH.cons (get_of_drop' rfl) (fun K hK => ?_) AllReadyH.nil
        go_simp
        refine hK.out _ _ hS7 (fun hHeld => ?_)
        clear hK K r2 hS6 hS7 e0 e1 e2
        try simp only [Act.put, List.setIfInBounds_toArray, List.set_cons_zero, List.set_cons_succ]
        refine wpAnyH_done (by kernel_rfl) ?_ _
        have hde := hde'
        clear hde'
        have HRD := Lib.hid hde.1
        have HGR := Lib.hid (grown_trans HGL.out hde.2.2.2)
        have HQ := Lib.hid (row_grown HQL.out hde.2.2.2 hRZ)
        have HEV := Lib.hid (show ∀ R', R' ≤ X + 1 → EVR R' w7 (.slice (some ⟨g, 0, none⟩) m cap) (setE es k 0 x) from fun R' hR' => hde.2.2.1 R' (by omega))
        have t0 : w7.cell? ⟨S, 0, none⟩ = some (.int .i64 al) := hde.2.1.cell (by decide)
        have t1 : w7.cell? ⟨S, 1, none⟩ = some (.int .i64 st) := hde.2.1.cell (by decide)
        have t2 : w7.cell? ⟨S, 2, none⟩ = some (.slice (some ⟨g, 0, none⟩) m cap) := hde.2.1.cell (by decide)
        have z0 : w7.cell? ⟨X + 1, 0, none⟩ = some (.int .i64 0) := HQ.out.cell (by decide)
        have z1 : w7.cell? ⟨X + 1, 1, none⟩ = some (.int .i64 0) := HQ.out.cell (by decide)
        have z2 : w7.cell? ⟨X + 1, 2, none⟩ = some (.slice none 0 0) := HQ.out.cell (by decide)
        have zf0 := HQ.out.frozen 0
        have zf1 := HQ.out.frozen 1
        have zf2 := HQ.out.frozen 2
        clear hde
        go_wp2
        have hdone := sys_done (al := al) (st := st) HRD.out HGR.out hXw hRlt HEV.out HQ.out
        obtain ⟨wf, hwf⟩ : ∃ wf, (((w7.setCell ⟨X + 1, 0, none⟩ (.int .i64 al)).setCell ⟨X + 1, 1, none⟩ (.int .i64 st)).setCell ⟨X + 1, 2, none⟩ (.slice (some ⟨g, 0, none⟩) m cap)) = wf := ⟨_, rfl⟩
        rw [hwf] at hdone ⊢
        clear hwf
        obtain ⟨d1, d2, d3, hfin⟩ := hdone
        have f0 : wf.cell? ⟨X + 1, 0, none⟩ = some (.int .i64 al) := hfin.cell (by decide)
        have f1 : wf.cell? ⟨X + 1, 1, none⟩ = some (.int .i64 st) := hfin.cell (by decide)
        have f2 : wf.cell? ⟨X + 1, 2, none⟩ = some (.slice (some ⟨g, 0, none⟩) m cap) := hfin.cell (by decide)
        refine bodyPost_ret (v := .agg #[.int .i64 al, .int .i64 st, .slice (some ⟨g, 0, none⟩) m cap]) ?_ rfl ?_
        rotate_left
        · exact ⟨_, _, _, _, _, (setE es k 0 x), rfl, by first | omega | (simp [setE_len]), d1, p6, by omega, d2, d3⟩
        · simp [results, Tryz.results57, go_sem, f0, f1, f2]
    by_cases hc3 : cc = 3
    · subst hc3
      by_cases hm0 : m = 0
      · subst hm0
        have hde := HD5.out.de
        have HRD := Lib.hid hde.1
        have HGR := Lib.hid (grown_trans HGL.out hde.2.2.2)
        have HQ := Lib.hid (row_grown HQL.out hde.2.2.2 hRZ)
        have HEV := Lib.hid (show ∀ R', R' ≤ X + 1 → EVR R' w5 (.slice a' 0 cap) es from fun R' hR' => hde.2.2.1 R' (by omega))
        have t0 : w5.cell? ⟨S, 0, none⟩ = some (.int .i64 al) := hde.2.1.cell (by decide)
        have t1 : w5.cell? ⟨S, 1, none⟩ = some (.int .i64 st) := hde.2.1.cell (by decide)
        have t2 : w5.cell? ⟨S, 2, none⟩ = some (.slice a' 0 cap) := hde.2.1.cell (by decide)
        have z0 : w5.cell? ⟨X + 1, 0, none⟩ = some (.int .i64 0) := HQ.out.cell (by decide)
        have z1 : w5.cell? ⟨X + 1, 1, none⟩ = some (.int .i64 0) := HQ.out.cell (by decide)
        have z2 : w5.cell? ⟨X + 1, 2, none⟩ = some (.slice none 0 0) := HQ.out.cell (by decide)
        have zf0 := HQ.out.frozen 0
        have zf1 := HQ.out.frozen 1
        have zf2 := HQ.out.frozen 2
        clear hde
        go_wp2
        have hdone := sys_done (al := al) (st := st) HRD.out HGR.out hXw hRlt HEV.out HQ.out
        obtain ⟨wf, hwf⟩ : ∃ wf, (((w5.setCell ⟨X + 1, 0, none⟩ (.int .i64 al)).setCell ⟨X + 1, 1, none⟩ (.int .i64 st)).setCell ⟨X + 1, 2, none⟩ (.slice a' 0 cap)) = wf := ⟨_, rfl⟩
        rw [hwf] at hdone ⊢
        clear hwf
        obtain ⟨d1, d2, d3, hfin⟩ := hdone
        have f0 : wf.cell? ⟨X + 1, 0, none⟩ = some (.int .i64 al) := hfin.cell (by decide)
        have f1 : wf.cell? ⟨X + 1, 1, none⟩ = some (.int .i64 st) := hfin.cell (by decide)
        have f2 : wf.cell? ⟨X + 1, 2, none⟩ = some (.slice a' 0 cap) := hfin.cell (by decide)
        refine bodyPost_ret (v := .agg #[.int .i64 al, .int .i64 st, .slice a' 0 cap]) ?_ rfl ?_
        rotate_left
        · exact ⟨_, _, _, _, _, es, rfl, by first | omega | (simp [setE_len]), d1, p + 2, by omega, d2, d3⟩
        · simp [results, Tryz.results57, go_sem, f0, f1, f2]
      · obtain ⟨hk0, hk1⟩ := hk (by omega)
        obtain ⟨k, rfl⟩ := Int.eq_ofNat_of_zero_le hk0
        have hkm : k < m := by omega
        have hmpos : (0 : Int) < (m : Int) := by omega
        obtain ⟨g, hg0, hg1⟩ : ∃ g, a' = some ⟨g, 0, none⟩ ∧ wL.heap.size ≤ g := by
          rcases HD5.out.2.2.1.2 with ⟨t1, t2⟩ | ⟨g, cg, cur, t1, t2, -⟩
          · have := HM.out; omega
          · injection t1 with t3 t4 t5
            exact ⟨g, t3, t2⟩
        subst hg0
        clear hk
        obtain ⟨e0, e1, e2⟩ : w5.cell? ⟨g, k * 3, none⟩ = some (.int .i64 (Edg.at es k).1) ∧ w5.cell? ⟨g, k * 3 + 1, none⟩ = some (.int .i64 (Edg.at es k).2.1) ∧ w5.cell? ⟨g, k * 3 + 2, none⟩ = some (.int .i64 (Edg.at es k).2.2) := by
          obtain ⟨ao1, cap1, t1, t2, t3, t4⟩ := HD5.out.2.2.1.evr (R := R) HD5.out.2.2.2.1
          rcases t4 with t4 | ⟨b1, off1, t5, t6, t7, t8⟩
          · have := HM.out; omega
          · injection t1 with t9 t10 t11
            rw [← t9] at t5
            injection t5 with t5
            injection t5 with t5 t5' _
            subst t5
            subst t5'
            have := t8 k (by have := HM.out; omega)
            simpa using this
        go_wp2_with fail
        refine wp_region_held_drew (S := fun w' => w'.cell? ⟨S, 2, none⟩ = some (.slice (some ⟨g, 0, none⟩) m cap)) (by kernel_rfl) r2 (fun hHeld => ?_)
        first | (refine wpAnyH_take (i := 0) (get_of_drop' rfl) (by kernel_rfl) (by kernel_rfl) (by kernel_rfl) (fun _ _ _ h => h) (Or.inr ⟨?_, rfl⟩) hHeld ?_; (focus (simp [Region.wanted, yielded, undef]; done)); (try simp only [Act.put, List.setIfInBounds_toArray, List.set_cons_zero, List.set_cons_succ])) | (refine wpAnyH_take (i := 0) (v := ?_) (get_of_drop' rfl) (by kernel_rfl) (by kernel_rfl) (by kernel_rfl) (fun _ _ _ h => h) (Or.inl ⟨?_, ?_⟩) hHeld ?_; rotate_left; (focus rfl); (focus (intro w hSw; (try dsimp only at hSw); go_simp; (try (with_reducible rfl)))); (try simp only [Act.put, List.setIfInBounds_toArray, List.set_cons_zero, List.set_cons_succ]))
        first | (refine wpAnyH_take (i := 1) (get_of_drop' rfl) (by kernel_rfl) (by kernel_rfl) (by kernel_rfl) (fun _ _ _ h => h) (Or.inr ⟨?_, rfl⟩) hHeld ?_; (focus (simp [Region.wanted, yielded, undef]; done)); (try simp only [Act.put, List.setIfInBounds_toArray, List.set_cons_zero, List.set_cons_succ])) | (refine wpAnyH_take (i := 1) (v := ?_) (get_of_drop' rfl) (by kernel_rfl) (by kernel_rfl) (by kernel_rfl) (fun _ _ _ h => h) (Or.inl ⟨?_, ?_⟩) hHeld ?_; rotate_left; (focus rfl); (focus (intro w hSw; (try dsimp only at hSw); go_simp; (try (with_reducible rfl)))); (try simp only [Act.put, List.setIfInBounds_toArray, List.set_cons_zero, List.set_cons_succ]))
        first | (refine wpAnyH_take (i := 2) (get_of_drop' rfl) (by kernel_rfl) (by kernel_rfl) (by kernel_rfl) (fun _ _ _ h => h) (Or.inr ⟨?_, rfl⟩) hHeld ?_; (focus (simp [Region.wanted, yielded, undef]; done)); (try simp only [Act.put, List.setIfInBounds_toArray, List.set_cons_zero, List.set_cons_succ])) | (refine wpAnyH_take (i := 2) (v := ?_) (get_of_drop' rfl) (by kernel_rfl) (by kernel_rfl) (by kernel_rfl) (fun _ _ _ h => h) (Or.inl ⟨?_, ?_⟩) hHeld ?_; rotate_left; (focus rfl); (focus (intro w hSw; (try dsimp only at hSw); go_simp; (try (with_reducible rfl)))); (try simp only [Act.put, List.setIfInBounds_toArray, List.set_cons_zero, List.set_cons_succ]))
        first | (refine wpAnyH_take (i := 3) (get_of_drop' rfl) (by kernel_rfl) (by kernel_rfl) (by kernel_rfl) (fun _ _ _ h => h) (Or.inr ⟨?_, rfl⟩) hHeld ?_; (focus (simp [Region.wanted, yielded, undef]; done)); (try simp only [Act.put, List.setIfInBounds_toArray, List.set_cons_zero, List.set_cons_succ])) | (refine wpAnyH_take (i := 3) (v := ?_) (get_of_drop' rfl) (by kernel_rfl) (by kernel_rfl) (by kernel_rfl) (fun _ _ _ h => h) (Or.inl ⟨?_, ?_⟩) hHeld ?_; rotate_left; (focus rfl); (focus (intro w hSw; (try dsimp only at hSw); go_simp; (try (with_reducible rfl)))); (try simp only [Act.put, List.setIfInBounds_toArray, List.set_cons_zero, List.set_cons_succ]))
        refine wpAnyH_ready (rs := [4]) (by kernel_rfl) (by simp) ?_
        refine AllReadyH.cons (get_of_drop' rfl) (fun K hK => ?_) AllReadyH.nil
        go_simp
        refine hK.out _ _ (keep_cell (below_new' w5 _ _) r2) (fun hHeld => ?_)
        clear hK K
        try simp only [Act.put, List.setIfInBounds_toArray, List.set_cons_zero, List.set_cons_succ]
        refine wpAnyH_ready (rs := [5]) (by kernel_rfl) (by simp) ?_
        refine AllReadyH.cons (get_of_drop' rfl) (fun K hK => ?_) AllReadyH.nil
        go_simp
        go_at_call 71
        refine (num_lit R (p + 2) [-1, 16, 0, 3] _ _ w5.drew rfl (hrd5.drewN 1) (by omega) 4 rfl (by omega) (by omega)).mono ?_
        rintro e w6 ⟨j1, x, -, -, rfl, p6, hp6, hr6, hg6⟩
        have hd6 := HD5.out.drew.pick hr6 hg6
        have hgR : g ≠ R := by omega
        have hgc := World.grownBy.cell hg6 (a := ⟨g, k * 3 + 2, none⟩) e2 (fun e => hgR (by injection e))
        have hgf := World.ownsRow.frozenAt (show w6.ownsRow wL.heap.size 41 3 (.slice (some ⟨g, 0, none⟩) m cap) m (eflat es) from by have h := hd6.2.2.1; unfold EOwn at h; rw [← HM.out] at h; exact h) (k * 3 + 2)
        have hde := DW.elem (f := 2) (x := x) hd6 HM.out hkm (by decide)
        have hS6 : w6.cell? ⟨S, 2, none⟩ = some (.slice (some ⟨g, 0, none⟩) m cap) := hd6.2.1.cell (by decide)
        obtain ⟨w7, hw7⟩ : ∃ w7, w6.setCell ⟨g, k * 3 + 2, none⟩ (.int .i64 x) = w7 := ⟨_, rfl⟩
        have hde' : DE R p6 S al st wL w7 (.slice (some ⟨g, 0, none⟩) m cap) (setE es k 2 x) := by rw [← hw7]; exact hde
        have hS7 : w7.cell? ⟨S, 2, none⟩ = some (.slice (some ⟨g, 0, none⟩) m cap) := hde'.2.1.cell (by decide)
        clear hde hd6 hr6 hg6 r0 r1
        go_wp2_with fail
        refine hK.out _ _ hS6 (fun hHeld => ?_)
        clear hK K
        try simp only [Act.put, List.setIfInBounds_toArray, List.set_cons_zero, List.set_cons_succ]
        first | (refine wpAnyH_take (i := 6) (get_of_drop' rfl) (by kernel_rfl) (by kernel_rfl) (by kernel_rfl) (fun _ _ _ h => h) (Or.inr ⟨?_, rfl⟩) hHeld ?_; (focus (simp [Region.wanted, yielded, undef]; done)); (try simp only [Act.put, List.setIfInBounds_toArray, List.set_cons_zero, List.set_cons_succ])) | (refine wpAnyH_take (i := 6) (v := ?_) (get_of_drop' rfl) (by kernel_rfl) (by kernel_rfl) (by kernel_rfl) (fun _ _ _ h => h) (Or.inl ⟨?_, ?_⟩) hHeld ?_; rotate_left; (focus rfl); (focus (intro w hSw; (try dsimp only at hSw); go_simp; (try (with_reducible rfl)))); (try simp only [Act.put, List.setIfInBounds_toArray, List.set_cons_zero, List.set_cons_succ]))
        first | (refine wpAnyH_take (i := 7) (get_of_drop' rfl) (by kernel_rfl) (by kernel_rfl) (by kernel_rfl) (fun _ _ _ h => h) (Or.inr ⟨?_, rfl⟩) hHeld ?_; (focus (simp [Region.wanted, yielded, undef]; done)); (try simp only [Act.put, List.setIfInBounds_toArray, List.set_cons_zero, List.set_cons_succ])) | (refine wpAnyH_take (i := 7) (v := ?_) (get_of_drop' rfl) (by kernel_rfl) (by kernel_rfl) (by kernel_rfl) (fun _ _ _ h => h) (Or.inl ⟨?_, ?_⟩) hHeld ?_; rotate_left; (focus rfl); (focus (intro w hSw; (try dsimp only at hSw); go_simp; (try (with_reducible rfl)))); (try simp only [Act.put, List.setIfInBounds_toArray, List.set_cons_zero, List.set_cons_succ]))
        refine wpAnyH_ready (rs := [8]) (by kernel_rfl) (by simp) ?_
        refine AllReadyH.cons (get_of_drop' rfl) (fun K hK => ?_) AllReadyH.nil
        go_simp
        refine hK.out _ _ hS7 (fun hHeld => ?_)
        clear hK K r2 hS6 hS7 e0 e1 e2
        try simp only [Act.put, List.setIfInBounds_toArray, List.set_cons_zero, List.set_cons_succ]
        refine wpAnyH_done (by kernel_rfl) ?_ _
        have hde := hde'
        clear hde'
        have HRD := Lib.hid hde.1
        have HGR := Lib.hid (grown_trans HGL.out hde.2.2.2)
        have HQ := Lib.hid (row_grown HQL.out hde.2.2.2 hRZ)
        have HEV := Lib.hid (show ∀ R', R' ≤ X + 1 → EVR R' w7 (.slice (some ⟨g, 0, none⟩) m cap) (setE es k 2 x) from fun R' hR' => hde.2.2.1 R' (by omega))
        have t0 : w7.cell? ⟨S, 0, none⟩ = some (.int .i64 al) := hde.2.1.cell (by decide)
        have t1 : w7.cell? ⟨S, 1, none⟩ = some (.int .i64 st) := hde.2.1.cell (by decide)
        have t2 : w7.cell? ⟨S, 2, none⟩ = some (.slice (some ⟨g, 0, none⟩) m cap) := hde.2.1.cell (by decide)
        have z0 : w7.cell? ⟨X + 1, 0, none⟩ = some (.int .i64 0) := HQ.out.cell (by decide)
        have z1 : w7.cell? ⟨X + 1, 1, none⟩ = some (.int .i64 0) := HQ.out.cell (by decide)
        have z2 : w7.cell? ⟨X + 1, 2, none⟩ = some (.slice none 0 0) := HQ.out.cell (by decide)
        have zf0 := HQ.out.frozen 0
        have zf1 := HQ.out.frozen 1
        have zf2 := HQ.out.frozen 2
        clear hde
        go_wp2
        have hdone := sys_done (al := al) (st := st) HRD.out HGR.out hXw hRlt HEV.out HQ.out
        obtain ⟨wf, hwf⟩ : ∃ wf, (((w7.setCell ⟨X + 1, 0, none⟩ (.int .i64 al)).setCell ⟨X + 1, 1, none⟩ (.int .i64 st)).setCell ⟨X + 1, 2, none⟩ (.slice (some ⟨g, 0, none⟩) m cap)) = wf := ⟨_, rfl⟩
        rw [hwf] at hdone ⊢
        clear hwf
        obtain ⟨d1, d2, d3, hfin⟩ := hdone
        have f0 : wf.cell? ⟨X + 1, 0, none⟩ = some (.int .i64 al) := hfin.cell (by decide)
        have f1 : wf.cell? ⟨X + 1, 1, none⟩ = some (.int .i64 st) := hfin.cell (by decide)
        have f2 : wf.cell? ⟨X + 1, 2, none⟩ = some (.slice (some ⟨g, 0, none⟩) m cap) := hfin.cell (by decide)
        refine bodyPost_ret (v := .agg #[.int .i64 al, .int .i64 st, .slice (some ⟨g, 0, none⟩) m cap]) ?_ rfl ?_
        rotate_left
        · exact ⟨_, _, _, _, _, (setE es k 2 x), rfl, by first | omega | (simp [setE_len]), d1, p6, by omega, d2, d3⟩
        · simp [results, Tryz.results57, go_sem, f0, f1, f2]
    by_cases hc4 : cc = 4
    · subst hc4
      by_cases hm0 : m = 0
      · subst hm0
        have hde := HD5.out.de
        have HRD := Lib.hid hde.1
        have HGR := Lib.hid (grown_trans HGL.out hde.2.2.2)
        have HQ := Lib.hid (row_grown HQL.out hde.2.2.2 hRZ)
        have HEV := Lib.hid (show ∀ R', R' ≤ X + 1 → EVR R' w5 (.slice a' 0 cap) es from fun R' hR' => hde.2.2.1 R' (by omega))
        have t0 : w5.cell? ⟨S, 0, none⟩ = some (.int .i64 al) := hde.2.1.cell (by decide)
        have t1 : w5.cell? ⟨S, 1, none⟩ = some (.int .i64 st) := hde.2.1.cell (by decide)
        have t2 : w5.cell? ⟨S, 2, none⟩ = some (.slice a' 0 cap) := hde.2.1.cell (by decide)
        have z0 : w5.cell? ⟨X + 1, 0, none⟩ = some (.int .i64 0) := HQ.out.cell (by decide)
        have z1 : w5.cell? ⟨X + 1, 1, none⟩ = some (.int .i64 0) := HQ.out.cell (by decide)
        have z2 : w5.cell? ⟨X + 1, 2, none⟩ = some (.slice none 0 0) := HQ.out.cell (by decide)
        have zf0 := HQ.out.frozen 0
        have zf1 := HQ.out.frozen 1
        have zf2 := HQ.out.frozen 2
        clear hde
        go_wp2
        have hdone := sys_done (al := al) (st := st) HRD.out HGR.out hXw hRlt HEV.out HQ.out
        obtain ⟨wf, hwf⟩ : ∃ wf, (((w5.setCell ⟨X + 1, 0, none⟩ (.int .i64 al)).setCell ⟨X + 1, 1, none⟩ (.int .i64 st)).setCell ⟨X + 1, 2, none⟩ (.slice a' 0 cap)) = wf := ⟨_, rfl⟩
        rw [hwf] at hdone ⊢
        clear hwf
        obtain ⟨d1, d2, d3, hfin⟩ := hdone
        have f0 : wf.cell? ⟨X + 1, 0, none⟩ = some (.int .i64 al) := hfin.cell (by decide)
        have f1 : wf.cell? ⟨X + 1, 1, none⟩ = some (.int .i64 st) := hfin.cell (by decide)
        have f2 : wf.cell? ⟨X + 1, 2, none⟩ = some (.slice a' 0 cap) := hfin.cell (by decide)
        refine bodyPost_ret (v := .agg #[.int .i64 al, .int .i64 st, .slice a' 0 cap]) ?_ rfl ?_
        rotate_left
        · exact ⟨_, _, _, _, _, es, rfl, by first | omega | (simp [setE_len]), d1, p + 2, by omega, d2, d3⟩
        · simp [results, Tryz.results57, go_sem, f0, f1, f2]
      · obtain ⟨hk0, hk1⟩ := hk (by omega)
        obtain ⟨k, rfl⟩ := Int.eq_ofNat_of_zero_le hk0
        have hkm : k < m := by omega
        have hmpos : (0 : Int) < (m : Int) := by omega
        obtain ⟨g, hg0, hg1⟩ : ∃ g, a' = some ⟨g, 0, none⟩ ∧ wL.heap.size ≤ g := by
          rcases HD5.out.2.2.1.2 with ⟨t1, t2⟩ | ⟨g, cg, cur, t1, t2, -⟩
          · have := HM.out; omega
          · injection t1 with t3 t4 t5
            exact ⟨g, t3, t2⟩
        subst hg0
        clear hk
        obtain ⟨e0, e1, e2⟩ : w5.cell? ⟨g, k * 3, none⟩ = some (.int .i64 (Edg.at es k).1) ∧ w5.cell? ⟨g, k * 3 + 1, none⟩ = some (.int .i64 (Edg.at es k).2.1) ∧ w5.cell? ⟨g, k * 3 + 2, none⟩ = some (.int .i64 (Edg.at es k).2.2) := by
          obtain ⟨ao1, cap1, t1, t2, t3, t4⟩ := HD5.out.2.2.1.evr (R := R) HD5.out.2.2.2.1
          rcases t4 with t4 | ⟨b1, off1, t5, t6, t7, t8⟩
          · have := HM.out; omega
          · injection t1 with t9 t10 t11
            rw [← t9] at t5
            injection t5 with t5
            injection t5 with t5 t5' _
            subst t5
            subst t5'
            have := t8 k (by have := HM.out; omega)
            simpa using this
        go_wp2_with fail
        refine wp_region_held_drew (S := fun w' => w'.cell? ⟨S, 2, none⟩ = some (.slice (some ⟨g, 0, none⟩) m cap)) (by kernel_rfl) r2 (fun hHeld => ?_)
        first | (refine wpAnyH_take (i := 0) (get_of_drop' rfl) (by kernel_rfl) (by kernel_rfl) (by kernel_rfl) (fun _ _ _ h => h) (Or.inr ⟨?_, rfl⟩) hHeld ?_; (focus (simp [Region.wanted, yielded, undef]; done)); (try simp only [Act.put, List.setIfInBounds_toArray, List.set_cons_zero, List.set_cons_succ])) | (refine wpAnyH_take (i := 0) (v := ?_) (get_of_drop' rfl) (by kernel_rfl) (by kernel_rfl) (by kernel_rfl) (fun _ _ _ h => h) (Or.inl ⟨?_, ?_⟩) hHeld ?_; rotate_left; (focus rfl); (focus (intro w hSw; (try dsimp only at hSw); go_simp; (try (with_reducible rfl)))); (try simp only [Act.put, List.setIfInBounds_toArray, List.set_cons_zero, List.set_cons_succ]))
        first | (refine wpAnyH_take (i := 1) (get_of_drop' rfl) (by kernel_rfl) (by kernel_rfl) (by kernel_rfl) (fun _ _ _ h => h) (Or.inr ⟨?_, rfl⟩) hHeld ?_; (focus (simp [Region.wanted, yielded, undef]; done)); (try simp only [Act.put, List.setIfInBounds_toArray, List.set_cons_zero, List.set_cons_succ])) | (refine wpAnyH_take (i := 1) (v := ?_) (get_of_drop' rfl) (by kernel_rfl) (by kernel_rfl) (by kernel_rfl) (fun _ _ _ h => h) (Or.inl ⟨?_, ?_⟩) hHeld ?_; rotate_left; (focus rfl); (focus (intro w hSw; (try dsimp only at hSw); go_simp; (try (with_reducible rfl)))); (try simp only [Act.put, List.setIfInBounds_toArray, List.set_cons_zero, List.set_cons_succ]))
        first | (refine wpAnyH_take (i := 2) (get_of_drop' rfl) (by kernel_rfl) (by kernel_rfl) (by kernel_rfl) (fun _ _ _ h => h) (Or.inr ⟨?_, rfl⟩) hHeld ?_; (focus (simp [Region.wanted, yielded, undef]; done)); (try simp only [Act.put, List.setIfInBounds_toArray, List.set_cons_zero, List.set_cons_succ])) | (refine wpAnyH_take (i := 2) (v := ?_) (get_of_drop' rfl) (by kernel_rfl) (by kernel_rfl) (by kernel_rfl) (fun _ _ _ h => h) (Or.inl ⟨?_, ?_⟩) hHeld ?_; rotate_left; (focus rfl); (focus (intro w hSw; (try dsimp only at hSw); go_simp; (try (with_reducible rfl)))); (try simp only [Act.put, List.setIfInBounds_toArray, List.set_cons_zero, List.set_cons_succ]))
        first | (refine wpAnyH_take (i := 3) (get_of_drop' rfl) (by kernel_rfl) (by kernel_rfl) (by kernel_rfl) (fun _ _ _ h => h) (Or.inr ⟨?_, rfl⟩) hHeld ?_; (focus (simp [Region.wanted, yielded, undef]; done)); (try simp only [Act.put, List.setIfInBounds_toArray, List.set_cons_zero, List.set_cons_succ])) | (refine wpAnyH_take (i := 3) (v := ?_) (get_of_drop' rfl) (by kernel_rfl) (by kernel_rfl) (by kernel_rfl) (fun _ _ _ h => h) (Or.inl ⟨?_, ?_⟩) hHeld ?_; rotate_left; (focus rfl); (focus (intro w hSw; (try dsimp only at hSw); go_simp; (try (with_reducible rfl)))); (try simp only [Act.put, List.setIfInBounds_toArray, List.set_cons_zero, List.set_cons_succ]))
        refine wpAnyH_ready (rs := [4]) (by kernel_rfl) (by simp) ?_
        refine AllReadyH.cons (get_of_drop' rfl) (fun K hK => ?_) AllReadyH.nil
        go_simp
        refine hK.out _ _ (keep_cell (below_new' w5 _ _) r2) (fun hHeld => ?_)
        clear hK K
        try simp only [Act.put, List.setIfInBounds_toArray, List.set_cons_zero, List.set_cons_succ]
        refine wpAnyH_ready (rs := [5]) (by kernel_rfl) (by simp) ?_
        refine AllReadyH.cons (get_of_drop' rfl) (fun K hK => ?_) AllReadyH.nil
        go_simp
        go_at_call 71
        refine (num_lit R (p + 2) [-1, 6, 70, 5, 0] _ _ w5.drew rfl (hrd5.drewN 1) (by omega) 5 rfl (by omega) (by omega)).mono ?_
        rintro e w6 ⟨j1, x, -, -, rfl, p6, hp6, hr6, hg6⟩
        have hd6 := HD5.out.drew.pick hr6 hg6
        have hgR : g ≠ R := by omega
        have hgc := World.grownBy.cell hg6 (a := ⟨g, k * 3 + 1, none⟩) e1 (fun e => hgR (by injection e))
        have hgf := World.ownsRow.frozenAt (show w6.ownsRow wL.heap.size 41 3 (.slice (some ⟨g, 0, none⟩) m cap) m (eflat es) from by have h := hd6.2.2.1; unfold EOwn at h; rw [← HM.out] at h; exact h) (k * 3 + 1)
        have hde := DW.elem (f := 1) (x := x) hd6 HM.out hkm (by decide)
        have hS6 : w6.cell? ⟨S, 2, none⟩ = some (.slice (some ⟨g, 0, none⟩) m cap) := hd6.2.1.cell (by decide)
        obtain ⟨w7, hw7⟩ : ∃ w7, w6.setCell ⟨g, k * 3 + 1, none⟩ (.int .i64 x) = w7 := ⟨_, rfl⟩
        have hde' : DE R p6 S al st wL w7 (.slice (some ⟨g, 0, none⟩) m cap) (setE es k 1 x) := by rw [← hw7]; exact hde
        have hS7 : w7.cell? ⟨S, 2, none⟩ = some (.slice (some ⟨g, 0, none⟩) m cap) := hde'.2.1.cell (by decide)
        clear hde hd6 hr6 hg6 r0 r1
        go_wp2_with fail
        refine hK.out _ _ hS6 (fun hHeld => ?_)
        clear hK K
        try simp only [Act.put, List.setIfInBounds_toArray, List.set_cons_zero, List.set_cons_succ]
        first | (refine wpAnyH_take (i := 6) (get_of_drop' rfl) (by kernel_rfl) (by kernel_rfl) (by kernel_rfl) (fun _ _ _ h => h) (Or.inr ⟨?_, rfl⟩) hHeld ?_; (focus (simp [Region.wanted, yielded, undef]; done)); (try simp only [Act.put, List.setIfInBounds_toArray, List.set_cons_zero, List.set_cons_succ])) | (refine wpAnyH_take (i := 6) (v := ?_) (get_of_drop' rfl) (by kernel_rfl) (by kernel_rfl) (by kernel_rfl) (fun _ _ _ h => h) (Or.inl ⟨?_, ?_⟩) hHeld ?_; rotate_left; (focus rfl); (focus (intro w hSw; (try dsimp only at hSw); go_simp; (try (with_reducible rfl)))); (try simp only [Act.put, List.setIfInBounds_toArray, List.set_cons_zero, List.set_cons_succ]))
        first | (refine wpAnyH_take (i := 7) (get_of_drop' rfl) (by kernel_rfl) (by kernel_rfl) (by kernel_rfl) (fun _ _ _ h => h) (Or.inr ⟨?_, rfl⟩) hHeld ?_; (focus (simp [Region.wanted, yielded, undef]; done)); (try simp only [Act.put, List.setIfInBounds_toArray, List.set_cons_zero, List.set_cons_succ])) | (refine wpAnyH_take (i := 7) (v := ?_) (get_of_drop' rfl) (by kernel_rfl) (by kernel_rfl) (by kernel_rfl) (fun _ _ _ h => h) (Or.inl ⟨?_, ?_⟩) hHeld ?_; rotate_left; (focus rfl); (focus (intro w hSw; (try dsimp only at hSw); go_simp; (try (with_reducible rfl)))); (try simp only [Act.put, List.setIfInBounds_toArray, List.set_cons_zero, List.set_cons_succ]))
        refine wpAnyH_ready (rs := [8]) (by kernel_rfl) (by simp) ?_
        refine AllReadyH.cons (get_of_drop' rfl) (fun K hK => ?_) AllReadyH.nil
        go_simp
        refine hK.out _ _ hS7 (fun hHeld => ?_)
        clear hK K r2 hS6 hS7 e0 e1 e2
        try simp only [Act.put, List.setIfInBounds_toArray, List.set_cons_zero, List.set_cons_succ]
        refine wpAnyH_done (by kernel_rfl) ?_ _
        have hde := hde'
        clear hde'
        have HRD := Lib.hid hde.1
        have HGR := Lib.hid (grown_trans HGL.out hde.2.2.2)
        have HQ := Lib.hid (row_grown HQL.out hde.2.2.2 hRZ)
        have HEV := Lib.hid (show ∀ R', R' ≤ X + 1 → EVR R' w7 (.slice (some ⟨g, 0, none⟩) m cap) (setE es k 1 x) from fun R' hR' => hde.2.2.1 R' (by omega))
        have t0 : w7.cell? ⟨S, 0, none⟩ = some (.int .i64 al) := hde.2.1.cell (by decide)
        have t1 : w7.cell? ⟨S, 1, none⟩ = some (.int .i64 st) := hde.2.1.cell (by decide)
        have t2 : w7.cell? ⟨S, 2, none⟩ = some (.slice (some ⟨g, 0, none⟩) m cap) := hde.2.1.cell (by decide)
        have z0 : w7.cell? ⟨X + 1, 0, none⟩ = some (.int .i64 0) := HQ.out.cell (by decide)
        have z1 : w7.cell? ⟨X + 1, 1, none⟩ = some (.int .i64 0) := HQ.out.cell (by decide)
        have z2 : w7.cell? ⟨X + 1, 2, none⟩ = some (.slice none 0 0) := HQ.out.cell (by decide)
        have zf0 := HQ.out.frozen 0
        have zf1 := HQ.out.frozen 1
        have zf2 := HQ.out.frozen 2
        clear hde
        go_wp2
        have hdone := sys_done (al := al) (st := st) HRD.out HGR.out hXw hRlt HEV.out HQ.out
        obtain ⟨wf, hwf⟩ : ∃ wf, (((w7.setCell ⟨X + 1, 0, none⟩ (.int .i64 al)).setCell ⟨X + 1, 1, none⟩ (.int .i64 st)).setCell ⟨X + 1, 2, none⟩ (.slice (some ⟨g, 0, none⟩) m cap)) = wf := ⟨_, rfl⟩
        rw [hwf] at hdone ⊢
        clear hwf
        obtain ⟨d1, d2, d3, hfin⟩ := hdone
        have f0 : wf.cell? ⟨X + 1, 0, none⟩ = some (.int .i64 al) := hfin.cell (by decide)
        have f1 : wf.cell? ⟨X + 1, 1, none⟩ = some (.int .i64 st) := hfin.cell (by decide)
        have f2 : wf.cell? ⟨X + 1, 2, none⟩ = some (.slice (some ⟨g, 0, none⟩) m cap) := hfin.cell (by decide)
        refine bodyPost_ret (v := .agg #[.int .i64 al, .int .i64 st, .slice (some ⟨g, 0, none⟩) m cap]) ?_ rfl ?_
        rotate_left
        · exact ⟨_, _, _, _, _, (setE es k 1 x), rfl, by first | omega | (simp [setE_len]), d1, p6, by omega, d2, d3⟩
        · simp [results, Tryz.results57, go_sem, f0, f1, f2]
    by_cases hc5 : cc = 5
    · subst hc5
      by_cases hm0 : m = 0
      · subst hm0
        have hde := HD5.out.de
        have HRD := Lib.hid hde.1
        have HGR := Lib.hid (grown_trans HGL.out hde.2.2.2)
        have HQ := Lib.hid (row_grown HQL.out hde.2.2.2 hRZ)
        have HEV := Lib.hid (show ∀ R', R' ≤ X + 1 → EVR R' w5 (.slice a' 0 cap) es from fun R' hR' => hde.2.2.1 R' (by omega))
        have t0 : w5.cell? ⟨S, 0, none⟩ = some (.int .i64 al) := hde.2.1.cell (by decide)
        have t1 : w5.cell? ⟨S, 1, none⟩ = some (.int .i64 st) := hde.2.1.cell (by decide)
        have t2 : w5.cell? ⟨S, 2, none⟩ = some (.slice a' 0 cap) := hde.2.1.cell (by decide)
        have z0 : w5.cell? ⟨X + 1, 0, none⟩ = some (.int .i64 0) := HQ.out.cell (by decide)
        have z1 : w5.cell? ⟨X + 1, 1, none⟩ = some (.int .i64 0) := HQ.out.cell (by decide)
        have z2 : w5.cell? ⟨X + 1, 2, none⟩ = some (.slice none 0 0) := HQ.out.cell (by decide)
        have zf0 := HQ.out.frozen 0
        have zf1 := HQ.out.frozen 1
        have zf2 := HQ.out.frozen 2
        clear hde
        go_wp2
        have hdone := sys_done (al := al) (st := st) HRD.out HGR.out hXw hRlt HEV.out HQ.out
        obtain ⟨wf, hwf⟩ : ∃ wf, (((w5.setCell ⟨X + 1, 0, none⟩ (.int .i64 al)).setCell ⟨X + 1, 1, none⟩ (.int .i64 st)).setCell ⟨X + 1, 2, none⟩ (.slice a' 0 cap)) = wf := ⟨_, rfl⟩
        rw [hwf] at hdone ⊢
        clear hwf
        obtain ⟨d1, d2, d3, hfin⟩ := hdone
        have f0 : wf.cell? ⟨X + 1, 0, none⟩ = some (.int .i64 al) := hfin.cell (by decide)
        have f1 : wf.cell? ⟨X + 1, 1, none⟩ = some (.int .i64 st) := hfin.cell (by decide)
        have f2 : wf.cell? ⟨X + 1, 2, none⟩ = some (.slice a' 0 cap) := hfin.cell (by decide)
        refine bodyPost_ret (v := .agg #[.int .i64 al, .int .i64 st, .slice a' 0 cap]) ?_ rfl ?_
        rotate_left
        · exact ⟨_, _, _, _, _, es, rfl, by first | omega | (simp [setE_len]), d1, p + 2, by omega, d2, d3⟩
        · simp [results, Tryz.results57, go_sem, f0, f1, f2]
      · obtain ⟨hk0, hk1⟩ := hk (by omega)
        obtain ⟨k, rfl⟩ := Int.eq_ofNat_of_zero_le hk0
        have hkm : k < m := by omega
        have hmpos : (0 : Int) < (m : Int) := by omega
        obtain ⟨g, hg0, hg1⟩ : ∃ g, a' = some ⟨g, 0, none⟩ ∧ wL.heap.size ≤ g := by
          rcases HD5.out.2.2.1.2 with ⟨t1, t2⟩ | ⟨g, cg, cur, t1, t2, -⟩
          · have := HM.out; omega
          · injection t1 with t3 t4 t5
            exact ⟨g, t3, t2⟩
        subst hg0
        clear hk
        obtain ⟨e0, e1, e2⟩ : w5.cell? ⟨g, k * 3, none⟩ = some (.int .i64 (Edg.at es k).1) ∧ w5.cell? ⟨g, k * 3 + 1, none⟩ = some (.int .i64 (Edg.at es k).2.1) ∧ w5.cell? ⟨g, k * 3 + 2, none⟩ = some (.int .i64 (Edg.at es k).2.2) := by
          obtain ⟨ao1, cap1, t1, t2, t3, t4⟩ := HD5.out.2.2.1.evr (R := R) HD5.out.2.2.2.1
          rcases t4 with t4 | ⟨b1, off1, t5, t6, t7, t8⟩
          · have := HM.out; omega
          · injection t1 with t9 t10 t11
            rw [← t9] at t5
            injection t5 with t5
            injection t5 with t5 t5' _
            subst t5
            subst t5'
            have := t8 k (by have := HM.out; omega)
            simpa using this
        obtain ⟨f, l, t, he⟩ : ∃ f l t, Edg.at es k = (f, l, t) := ⟨_, _, _, rfl⟩
        rw [he] at e0 e1 e2
        dsimp only at e0 e1 e2
        have hLw : wL.heap.size ≤ w5.drew.heap.size := HD5.out.2.2.2.2.2.size
        have r3 : (w5.alloc (.cells #[.int .i64 f, .int .i64 l, .int .i64 t] 41)).cell? ⟨S, 2, none⟩ = some (.slice (some ⟨g, 0, none⟩) m cap) := keep_cell (below_new' _ _ _) r2
        clear he
        go_wp2_with fail
        refine wp_region_held_drew (S := fun _ => True) (by kernel_rfl) trivial (fun hHeld => ?_)
        first | (refine wpAnyH_take (i := 0) (get_of_drop' rfl) (by kernel_rfl) (by kernel_rfl) (by kernel_rfl) (fun _ _ _ h => h) (Or.inr ⟨?_, rfl⟩) hHeld ?_; (focus (simp [Region.wanted, yielded, undef]; done)); (try simp only [Act.put, List.setIfInBounds_toArray, List.set_cons_zero, List.set_cons_succ])) | (refine wpAnyH_take (i := 0) (v := ?_) (get_of_drop' rfl) (by kernel_rfl) (by kernel_rfl) (by kernel_rfl) (fun _ _ _ h => h) (Or.inl ⟨?_, ?_⟩) hHeld ?_; rotate_left; (focus rfl); (focus (intro w hSw; (try dsimp only at hSw); go_simp; (try (with_reducible rfl)))); (try simp only [Act.put, List.setIfInBounds_toArray, List.set_cons_zero, List.set_cons_succ]))
        first | (refine wpAnyH_take (i := 2) (get_of_drop' rfl) (by kernel_rfl) (by kernel_rfl) (by kernel_rfl) (fun _ _ _ h => h) (Or.inr ⟨?_, rfl⟩) hHeld ?_; (focus (simp [Region.wanted, yielded, undef]; done)); (try simp only [Act.put, List.setIfInBounds_toArray, List.set_cons_zero, List.set_cons_succ])) | (refine wpAnyH_take (i := 2) (v := ?_) (get_of_drop' rfl) (by kernel_rfl) (by kernel_rfl) (by kernel_rfl) (fun _ _ _ h => h) (Or.inl ⟨?_, ?_⟩) hHeld ?_; rotate_left; (focus rfl); (focus (intro w hSw; (try dsimp only at hSw); go_simp; (try (with_reducible rfl)))); (try simp only [Act.put, List.setIfInBounds_toArray, List.set_cons_zero, List.set_cons_succ]))
        first | (refine wpAnyH_take (i := 4) (get_of_drop' rfl) (by kernel_rfl) (by kernel_rfl) (by kernel_rfl) (fun _ _ _ h => h) (Or.inr ⟨?_, rfl⟩) hHeld ?_; (focus (simp [Region.wanted, yielded, undef]; done)); (try simp only [Act.put, List.setIfInBounds_toArray, List.set_cons_zero, List.set_cons_succ])) | (refine wpAnyH_take (i := 4) (v := ?_) (get_of_drop' rfl) (by kernel_rfl) (by kernel_rfl) (by kernel_rfl) (fun _ _ _ h => h) (Or.inl ⟨?_, ?_⟩) hHeld ?_; rotate_left; (focus rfl); (focus (intro w hSw; (try dsimp only at hSw); go_simp; (try (with_reducible rfl)))); (try simp only [Act.put, List.setIfInBounds_toArray, List.set_cons_zero, List.set_cons_succ]))
        refine wpAnyH_ready (rs := [1, 3]) (by kernel_rfl) (by simp) ?_
        refine AllReadyH.cons (get_of_drop' rfl) (fun K hK => ?_) ?_
        · go_simp
          refine hK.out _ _ trivial (fun hHeld => ?_)
          clear hK K
          try simp only [Act.put, List.setIfInBounds_toArray, List.set_cons_zero, List.set_cons_succ]
          refine wpAnyH_ready (rs := [3]) (by kernel_rfl) (by simp) ?_
          refine AllReadyH.cons (get_of_drop' rfl) (fun K hK => ?_) AllReadyH.nil
          go_simp
          refine hK.out _ _ trivial (fun hHeld => ?_)
          clear hK K
          try simp only [Act.put, List.setIfInBounds_toArray, List.set_cons_zero, List.set_cons_succ]
          first | (refine wpAnyH_take (i := 5) (get_of_drop' rfl) (by kernel_rfl) (by kernel_rfl) (by kernel_rfl) (fun _ _ _ h => h) (Or.inr ⟨?_, rfl⟩) hHeld ?_; (focus (simp [Region.wanted, yielded, undef]; done)); (try simp only [Act.put, List.setIfInBounds_toArray, List.set_cons_zero, List.set_cons_succ])) | (refine wpAnyH_take (i := 5) (v := ?_) (get_of_drop' rfl) (by kernel_rfl) (by kernel_rfl) (by kernel_rfl) (fun _ _ _ h => h) (Or.inl ⟨?_, ?_⟩) hHeld ?_; rotate_left; (focus rfl); (focus (intro w hSw; (try dsimp only at hSw); go_simp; (try (with_reducible rfl)))); (try simp only [Act.put, List.setIfInBounds_toArray, List.set_cons_zero, List.set_cons_succ]))
          refine wpAnyH_ready (rs := [6]) (by kernel_rfl) (by simp) ?_
          refine AllReadyH.cons (get_of_drop' rfl) (fun K hK => ?_) AllReadyH.nil
          go_simp
          refine hK.out _ _ trivial (fun hHeld => ?_)
          clear hK K
          try simp only [Act.put, List.setIfInBounds_toArray, List.set_cons_zero, List.set_cons_succ]
          refine wpAnyH_ready (rs := [7]) (by kernel_rfl) (by simp) ?_
          refine AllReadyH.cons (get_of_drop' rfl) (fun K hK => ?_) AllReadyH.nil
          go_simp
          refine hK.out _ _ trivial (fun hHeld => ?_)
          clear hK K
          try simp only [Act.put, List.setIfInBounds_toArray, List.set_cons_zero, List.set_cons_succ]
          refine wpAnyH_ready (rs := [8]) (by kernel_rfl) (by simp) ?_
          refine AllReadyH.cons (get_of_drop' rfl) (fun K hK => ?_) AllReadyH.nil
          rw [if_pos (by rfl)]
          refine wp_app_edge w5.drew (f, l, t) wL.heap.size _ _ rfl _ es rfl (HD5.out.drew).2.2.1 rfl (by omega) (HD5.out.drew).2.2.2.2.2.size ?_
          intro ao' n' cap' w9 hn' hown' hkept
          have hdx := (HD5.out.drew).app hkept hown'
          obtain ⟨x2, xf⟩ := (HD5.out.drew).cells hkept
          obtain ⟨wY, hwY⟩ : ∃ wY, w9.setCell ⟨S, 2, none⟩ (.slice ao' n' cap') = wY := ⟨_, rfl⟩
          have hde := hdx.de
          rw [hwY] at hde
          have HN9 := Lib.hid hn'; clear hn'
          clear hdx hkept hown'
          refine hK.out _ _ trivial (fun hHeld => ?_)
          clear hK K
          try simp only [Act.put, List.setIfInBounds_toArray, List.set_cons_zero, List.set_cons_succ]
          first | (refine wpAnyH_take (i := 9) (get_of_drop' rfl) (by kernel_rfl) (by kernel_rfl) (by kernel_rfl) (fun _ _ _ h => h) (Or.inr ⟨?_, rfl⟩) hHeld ?_; (focus (simp [Region.wanted, yielded, undef]; done)); (try simp only [Act.put, List.setIfInBounds_toArray, List.set_cons_zero, List.set_cons_succ])) | (refine wpAnyH_take (i := 9) (v := ?_) (get_of_drop' rfl) (by kernel_rfl) (by kernel_rfl) (by kernel_rfl) (fun _ _ _ h => h) (Or.inl ⟨?_, ?_⟩) hHeld ?_; rotate_left; (focus rfl); (focus (intro w hSw; (try dsimp only at hSw); go_simp; (try (with_reducible rfl)))); (try simp only [Act.put, List.setIfInBounds_toArray, List.set_cons_zero, List.set_cons_succ]))
          refine wpAnyH_ready (rs := [10]) (by kernel_rfl) (by simp) ?_
          refine AllReadyH.cons (get_of_drop' rfl) (fun K hK => ?_) AllReadyH.nil
          go_simp
          refine hK.out _ _ trivial (fun hHeld => ?_)
          clear hK K
          try simp only [Act.put, List.setIfInBounds_toArray, List.set_cons_zero, List.set_cons_succ]
          refine wpAnyH_done (by kernel_rfl) ?_ _
          clear hwY x2 xf r0 r1 r2
          have HRD := Lib.hid hde.1
          have HGR := Lib.hid (grown_trans HGL.out hde.2.2.2)
          have HQ := Lib.hid (row_grown HQL.out hde.2.2.2 hRZ)
          have HEV := Lib.hid (show ∀ R', R' ≤ X + 1 → EVR R' wY (.slice ao' n' cap') (es ++ [(f, l, t)]) from fun R' hR' => hde.2.2.1 R' (by omega))
          have t0 : wY.cell? ⟨S, 0, none⟩ = some (.int .i64 al) := hde.2.1.cell (by decide)
          have t1 : wY.cell? ⟨S, 1, none⟩ = some (.int .i64 st) := hde.2.1.cell (by decide)
          have t2 : wY.cell? ⟨S, 2, none⟩ = some (.slice ao' n' cap') := hde.2.1.cell (by decide)
          have z0 : wY.cell? ⟨X + 1, 0, none⟩ = some (.int .i64 0) := HQ.out.cell (by decide)
          have z1 : wY.cell? ⟨X + 1, 1, none⟩ = some (.int .i64 0) := HQ.out.cell (by decide)
          have z2 : wY.cell? ⟨X + 1, 2, none⟩ = some (.slice none 0 0) := HQ.out.cell (by decide)
          have zf0 := HQ.out.frozen 0
          have zf1 := HQ.out.frozen 1
          have zf2 := HQ.out.frozen 2
          clear hde
          go_wp2
          have hdone := sys_done (al := al) (st := st) HRD.out HGR.out hXw hRlt HEV.out HQ.out
          obtain ⟨wf, hwf⟩ : ∃ wf, (((wY.setCell ⟨X + 1, 0, none⟩ (.int .i64 al)).setCell ⟨X + 1, 1, none⟩ (.int .i64 st)).setCell ⟨X + 1, 2, none⟩ (.slice ao' n' cap')) = wf := ⟨_, rfl⟩
          rw [hwf] at hdone ⊢
          clear hwf
          obtain ⟨d1, d2, d3, hfin⟩ := hdone
          have f0 : wf.cell? ⟨X + 1, 0, none⟩ = some (.int .i64 al) := hfin.cell (by decide)
          have f1 : wf.cell? ⟨X + 1, 1, none⟩ = some (.int .i64 st) := hfin.cell (by decide)
          have f2 : wf.cell? ⟨X + 1, 2, none⟩ = some (.slice ao' n' cap') := hfin.cell (by decide)
          refine bodyPost_ret (v := .agg #[.int .i64 al, .int .i64 st, .slice ao' n' cap']) ?_ rfl ?_
          rotate_left
          · exact ⟨_, _, _, _, _, (es ++ [(f, l, t)]), rfl, by simp, d1, p + 2, by omega, d2, d3⟩
          · simp [results, Tryz.results57, go_sem, f0, f1, f2]
        · refine AllReadyH.cons (get_of_drop' rfl) (fun K hK => ?_) AllReadyH.nil
          go_simp
          refine hK.out _ _ trivial (fun hHeld => ?_)
          clear hK K
          try simp only [Act.put, List.setIfInBounds_toArray, List.set_cons_zero, List.set_cons_succ]
          first | (refine wpAnyH_take (i := 5) (get_of_drop' rfl) (by kernel_rfl) (by kernel_rfl) (by kernel_rfl) (fun _ _ _ h => h) (Or.inr ⟨?_, rfl⟩) hHeld ?_; (focus (simp [Region.wanted, yielded, undef]; done)); (try simp only [Act.put, List.setIfInBounds_toArray, List.set_cons_zero, List.set_cons_succ])) | (refine wpAnyH_take (i := 5) (v := ?_) (get_of_drop' rfl) (by kernel_rfl) (by kernel_rfl) (by kernel_rfl) (fun _ _ _ h => h) (Or.inl ⟨?_, ?_⟩) hHeld ?_; rotate_left; (focus rfl); (focus (intro w hSw; (try dsimp only at hSw); go_simp; (try (with_reducible rfl)))); (try simp only [Act.put, List.setIfInBounds_toArray, List.set_cons_zero, List.set_cons_succ]))
          refine wpAnyH_ready (rs := [1, 6]) (by kernel_rfl) (by simp) ?_
          refine AllReadyH.cons (get_of_drop' rfl) (fun K hK => ?_) ?_
          · go_simp
            refine hK.out _ _ trivial (fun hHeld => ?_)
            clear hK K
            try simp only [Act.put, List.setIfInBounds_toArray, List.set_cons_zero, List.set_cons_succ]
            refine wpAnyH_ready (rs := [6]) (by kernel_rfl) (by simp) ?_
            refine AllReadyH.cons (get_of_drop' rfl) (fun K hK => ?_) AllReadyH.nil
            go_simp
            refine hK.out _ _ trivial (fun hHeld => ?_)
            clear hK K
            try simp only [Act.put, List.setIfInBounds_toArray, List.set_cons_zero, List.set_cons_succ]
            refine wpAnyH_ready (rs := [7]) (by kernel_rfl) (by simp) ?_
            refine AllReadyH.cons (get_of_drop' rfl) (fun K hK => ?_) AllReadyH.nil
            go_simp
            refine hK.out _ _ trivial (fun hHeld => ?_)
            clear hK K
            try simp only [Act.put, List.setIfInBounds_toArray, List.set_cons_zero, List.set_cons_succ]
            refine wpAnyH_ready (rs := [8]) (by kernel_rfl) (by simp) ?_
            refine AllReadyH.cons (get_of_drop' rfl) (fun K hK => ?_) AllReadyH.nil
            rw [if_pos (by rfl)]
            refine wp_app_edge w5.drew (f, l, t) wL.heap.size _ _ rfl _ es rfl (HD5.out.drew).2.2.1 rfl (by omega) (HD5.out.drew).2.2.2.2.2.size ?_
            intro ao' n' cap' w9 hn' hown' hkept
            have hdx := (HD5.out.drew).app hkept hown'
            obtain ⟨x2, xf⟩ := (HD5.out.drew).cells hkept
            obtain ⟨wY, hwY⟩ : ∃ wY, w9.setCell ⟨S, 2, none⟩ (.slice ao' n' cap') = wY := ⟨_, rfl⟩
            have hde := hdx.de
            rw [hwY] at hde
            have HN9 := Lib.hid hn'; clear hn'
            clear hdx hkept hown'
            refine hK.out _ _ trivial (fun hHeld => ?_)
            clear hK K
            try simp only [Act.put, List.setIfInBounds_toArray, List.set_cons_zero, List.set_cons_succ]
            first | (refine wpAnyH_take (i := 9) (get_of_drop' rfl) (by kernel_rfl) (by kernel_rfl) (by kernel_rfl) (fun _ _ _ h => h) (Or.inr ⟨?_, rfl⟩) hHeld ?_; (focus (simp [Region.wanted, yielded, undef]; done)); (try simp only [Act.put, List.setIfInBounds_toArray, List.set_cons_zero, List.set_cons_succ])) | (refine wpAnyH_take (i := 9) (v := ?_) (get_of_drop' rfl) (by kernel_rfl) (by kernel_rfl) (by kernel_rfl) (fun _ _ _ h => h) (Or.inl ⟨?_, ?_⟩) hHeld ?_; rotate_left; (focus rfl); (focus (intro w hSw; (try dsimp only at hSw); go_simp; (try (with_reducible rfl)))); (try simp only [Act.put, List.setIfInBounds_toArray, List.set_cons_zero, List.set_cons_succ]))
            refine wpAnyH_ready (rs := [10]) (by kernel_rfl) (by simp) ?_
            refine AllReadyH.cons (get_of_drop' rfl) (fun K hK => ?_) AllReadyH.nil
            go_simp
            refine hK.out _ _ trivial (fun hHeld => ?_)
            clear hK K
            try simp only [Act.put, List.setIfInBounds_toArray, List.set_cons_zero, List.set_cons_succ]
            refine wpAnyH_done (by kernel_rfl) ?_ _
            clear hwY x2 xf r0 r1 r2
            have HRD := Lib.hid hde.1
            have HGR := Lib.hid (grown_trans HGL.out hde.2.2.2)
            have HQ := Lib.hid (row_grown HQL.out hde.2.2.2 hRZ)
            have HEV := Lib.hid (show ∀ R', R' ≤ X + 1 → EVR R' wY (.slice ao' n' cap') (es ++ [(f, l, t)]) from fun R' hR' => hde.2.2.1 R' (by omega))
            have t0 : wY.cell? ⟨S, 0, none⟩ = some (.int .i64 al) := hde.2.1.cell (by decide)
            have t1 : wY.cell? ⟨S, 1, none⟩ = some (.int .i64 st) := hde.2.1.cell (by decide)
            have t2 : wY.cell? ⟨S, 2, none⟩ = some (.slice ao' n' cap') := hde.2.1.cell (by decide)
            have z0 : wY.cell? ⟨X + 1, 0, none⟩ = some (.int .i64 0) := HQ.out.cell (by decide)
            have z1 : wY.cell? ⟨X + 1, 1, none⟩ = some (.int .i64 0) := HQ.out.cell (by decide)
            have z2 : wY.cell? ⟨X + 1, 2, none⟩ = some (.slice none 0 0) := HQ.out.cell (by decide)
            have zf0 := HQ.out.frozen 0
            have zf1 := HQ.out.frozen 1
            have zf2 := HQ.out.frozen 2
            clear hde
            go_wp2
            have hdone := sys_done (al := al) (st := st) HRD.out HGR.out hXw hRlt HEV.out HQ.out
            obtain ⟨wf, hwf⟩ : ∃ wf, (((wY.setCell ⟨X + 1, 0, none⟩ (.int .i64 al)).setCell ⟨X + 1, 1, none⟩ (.int .i64 st)).setCell ⟨X + 1, 2, none⟩ (.slice ao' n' cap')) = wf := ⟨_, rfl⟩
            rw [hwf] at hdone ⊢
            clear hwf
            obtain ⟨d1, d2, d3, hfin⟩ := hdone
            have f0 : wf.cell? ⟨X + 1, 0, none⟩ = some (.int .i64 al) := hfin.cell (by decide)
            have f1 : wf.cell? ⟨X + 1, 1, none⟩ = some (.int .i64 st) := hfin.cell (by decide)
            have f2 : wf.cell? ⟨X + 1, 2, none⟩ = some (.slice ao' n' cap') := hfin.cell (by decide)
            refine bodyPost_ret (v := .agg #[.int .i64 al, .int .i64 st, .slice ao' n' cap']) ?_ rfl ?_
            rotate_left
            · exact ⟨_, _, _, _, _, (es ++ [(f, l, t)]), rfl, by simp, d1, p + 2, by omega, d2, d3⟩
            · simp [results, Tryz.results57, go_sem, f0, f1, f2]
          · refine AllReadyH.cons (get_of_drop' rfl) (fun K hK => ?_) AllReadyH.nil
            go_simp
            refine hK.out _ _ trivial (fun hHeld => ?_)
            clear hK K
            try simp only [Act.put, List.setIfInBounds_toArray, List.set_cons_zero, List.set_cons_succ]
            refine wpAnyH_ready (rs := [1, 7]) (by kernel_rfl) (by simp) ?_
            refine AllReadyH.cons (get_of_drop' rfl) (fun K hK => ?_) ?_
            · go_simp
              refine hK.out _ _ trivial (fun hHeld => ?_)
              clear hK K
              try simp only [Act.put, List.setIfInBounds_toArray, List.set_cons_zero, List.set_cons_succ]
              refine wpAnyH_ready (rs := [7]) (by kernel_rfl) (by simp) ?_
              refine AllReadyH.cons (get_of_drop' rfl) (fun K hK => ?_) AllReadyH.nil
              go_simp
              refine hK.out _ _ trivial (fun hHeld => ?_)
              clear hK K
              try simp only [Act.put, List.setIfInBounds_toArray, List.set_cons_zero, List.set_cons_succ]
              refine wpAnyH_ready (rs := [8]) (by kernel_rfl) (by simp) ?_
              refine AllReadyH.cons (get_of_drop' rfl) (fun K hK => ?_) AllReadyH.nil
              rw [if_pos (by rfl)]
              refine wp_app_edge w5.drew (f, l, t) wL.heap.size _ _ rfl _ es rfl (HD5.out.drew).2.2.1 rfl (by omega) (HD5.out.drew).2.2.2.2.2.size ?_
              intro ao' n' cap' w9 hn' hown' hkept
              have hdx := (HD5.out.drew).app hkept hown'
              obtain ⟨x2, xf⟩ := (HD5.out.drew).cells hkept
              obtain ⟨wY, hwY⟩ : ∃ wY, w9.setCell ⟨S, 2, none⟩ (.slice ao' n' cap') = wY := ⟨_, rfl⟩
              have hde := hdx.de
              rw [hwY] at hde
              have HN9 := Lib.hid hn'; clear hn'
              clear hdx hkept hown'
              refine hK.out _ _ trivial (fun hHeld => ?_)
              clear hK K
              try simp only [Act.put, List.setIfInBounds_toArray, List.set_cons_zero, List.set_cons_succ]
              first | (refine wpAnyH_take (i := 9) (get_of_drop' rfl) (by kernel_rfl) (by kernel_rfl) (by kernel_rfl) (fun _ _ _ h => h) (Or.inr ⟨?_, rfl⟩) hHeld ?_; (focus (simp [Region.wanted, yielded, undef]; done)); (try simp only [Act.put, List.setIfInBounds_toArray, List.set_cons_zero, List.set_cons_succ])) | (refine wpAnyH_take (i := 9) (v := ?_) (get_of_drop' rfl) (by kernel_rfl) (by kernel_rfl) (by kernel_rfl) (fun _ _ _ h => h) (Or.inl ⟨?_, ?_⟩) hHeld ?_; rotate_left; (focus rfl); (focus (intro w hSw; (try dsimp only at hSw); go_simp; (try (with_reducible rfl)))); (try simp only [Act.put, List.setIfInBounds_toArray, List.set_cons_zero, List.set_cons_succ]))
              refine wpAnyH_ready (rs := [10]) (by kernel_rfl) (by simp) ?_
              refine AllReadyH.cons (get_of_drop' rfl) (fun K hK => ?_) AllReadyH.nil
              go_simp
              refine hK.out _ _ trivial (fun hHeld => ?_)
              clear hK K
              try simp only [Act.put, List.setIfInBounds_toArray, List.set_cons_zero, List.set_cons_succ]
              refine wpAnyH_done (by kernel_rfl) ?_ _
              clear hwY x2 xf r0 r1 r2
              have HRD := Lib.hid hde.1
              have HGR := Lib.hid (grown_trans HGL.out hde.2.2.2)
              have HQ := Lib.hid (row_grown HQL.out hde.2.2.2 hRZ)
              have HEV := Lib.hid (show ∀ R', R' ≤ X + 1 → EVR R' wY (.slice ao' n' cap') (es ++ [(f, l, t)]) from fun R' hR' => hde.2.2.1 R' (by omega))
              have t0 : wY.cell? ⟨S, 0, none⟩ = some (.int .i64 al) := hde.2.1.cell (by decide)
              have t1 : wY.cell? ⟨S, 1, none⟩ = some (.int .i64 st) := hde.2.1.cell (by decide)
              have t2 : wY.cell? ⟨S, 2, none⟩ = some (.slice ao' n' cap') := hde.2.1.cell (by decide)
              have z0 : wY.cell? ⟨X + 1, 0, none⟩ = some (.int .i64 0) := HQ.out.cell (by decide)
              have z1 : wY.cell? ⟨X + 1, 1, none⟩ = some (.int .i64 0) := HQ.out.cell (by decide)
              have z2 : wY.cell? ⟨X + 1, 2, none⟩ = some (.slice none 0 0) := HQ.out.cell (by decide)
              have zf0 := HQ.out.frozen 0
              have zf1 := HQ.out.frozen 1
              have zf2 := HQ.out.frozen 2
              clear hde
              go_wp2
              have hdone := sys_done (al := al) (st := st) HRD.out HGR.out hXw hRlt HEV.out HQ.out
              obtain ⟨wf, hwf⟩ : ∃ wf, (((wY.setCell ⟨X + 1, 0, none⟩ (.int .i64 al)).setCell ⟨X + 1, 1, none⟩ (.int .i64 st)).setCell ⟨X + 1, 2, none⟩ (.slice ao' n' cap')) = wf := ⟨_, rfl⟩
              rw [hwf] at hdone ⊢
              clear hwf
              obtain ⟨d1, d2, d3, hfin⟩ := hdone
              have f0 : wf.cell? ⟨X + 1, 0, none⟩ = some (.int .i64 al) := hfin.cell (by decide)
              have f1 : wf.cell? ⟨X + 1, 1, none⟩ = some (.int .i64 st) := hfin.cell (by decide)
              have f2 : wf.cell? ⟨X + 1, 2, none⟩ = some (.slice ao' n' cap') := hfin.cell (by decide)
              refine bodyPost_ret (v := .agg #[.int .i64 al, .int .i64 st, .slice ao' n' cap']) ?_ rfl ?_
              rotate_left
              · exact ⟨_, _, _, _, _, (es ++ [(f, l, t)]), rfl, by simp, d1, p + 2, by omega, d2, d3⟩
              · simp [results, Tryz.results57, go_sem, f0, f1, f2]
            · refine AllReadyH.cons (get_of_drop' rfl) (fun K hK => ?_) AllReadyH.nil
              go_simp
              refine hK.out _ _ trivial (fun hHeld => ?_)
              clear hK K
              try simp only [Act.put, List.setIfInBounds_toArray, List.set_cons_zero, List.set_cons_succ]
              refine wpAnyH_ready (rs := [1]) (by kernel_rfl) (by simp) ?_
              refine AllReadyH.cons (get_of_drop' rfl) (fun K hK => ?_) AllReadyH.nil
              go_simp
              refine hK.out _ _ trivial (fun hHeld => ?_)
              clear hK K
              try simp only [Act.put, List.setIfInBounds_toArray, List.set_cons_zero, List.set_cons_succ]
              refine wpAnyH_ready (rs := [8]) (by kernel_rfl) (by simp) ?_
              refine AllReadyH.cons (get_of_drop' rfl) (fun K hK => ?_) AllReadyH.nil
              rw [if_pos (by rfl)]
              refine wp_app_edge w5.drew (f, l, t) wL.heap.size _ _ rfl _ es rfl (HD5.out.drew).2.2.1 rfl (by omega) (HD5.out.drew).2.2.2.2.2.size ?_
              intro ao' n' cap' w9 hn' hown' hkept
              have hdx := (HD5.out.drew).app hkept hown'
              obtain ⟨x2, xf⟩ := (HD5.out.drew).cells hkept
              obtain ⟨wY, hwY⟩ : ∃ wY, w9.setCell ⟨S, 2, none⟩ (.slice ao' n' cap') = wY := ⟨_, rfl⟩
              have hde := hdx.de
              rw [hwY] at hde
              have HN9 := Lib.hid hn'; clear hn'
              clear hdx hkept hown'
              refine hK.out _ _ trivial (fun hHeld => ?_)
              clear hK K
              try simp only [Act.put, List.setIfInBounds_toArray, List.set_cons_zero, List.set_cons_succ]
              first | (refine wpAnyH_take (i := 9) (get_of_drop' rfl) (by kernel_rfl) (by kernel_rfl) (by kernel_rfl) (fun _ _ _ h => h) (Or.inr ⟨?_, rfl⟩) hHeld ?_; (focus (simp [Region.wanted, yielded, undef]; done)); (try simp only [Act.put, List.setIfInBounds_toArray, List.set_cons_zero, List.set_cons_succ])) | (refine wpAnyH_take (i := 9) (v := ?_) (get_of_drop' rfl) (by kernel_rfl) (by kernel_rfl) (by kernel_rfl) (fun _ _ _ h => h) (Or.inl ⟨?_, ?_⟩) hHeld ?_; rotate_left; (focus rfl); (focus (intro w hSw; (try dsimp only at hSw); go_simp; (try (with_reducible rfl)))); (try simp only [Act.put, List.setIfInBounds_toArray, List.set_cons_zero, List.set_cons_succ]))
              refine wpAnyH_ready (rs := [10]) (by kernel_rfl) (by simp) ?_
              refine AllReadyH.cons (get_of_drop' rfl) (fun K hK => ?_) AllReadyH.nil
              go_simp
              refine hK.out _ _ trivial (fun hHeld => ?_)
              clear hK K
              try simp only [Act.put, List.setIfInBounds_toArray, List.set_cons_zero, List.set_cons_succ]
              refine wpAnyH_done (by kernel_rfl) ?_ _
              clear hwY x2 xf r0 r1 r2
              have HRD := Lib.hid hde.1
              have HGR := Lib.hid (grown_trans HGL.out hde.2.2.2)
              have HQ := Lib.hid (row_grown HQL.out hde.2.2.2 hRZ)
              have HEV := Lib.hid (show ∀ R', R' ≤ X + 1 → EVR R' wY (.slice ao' n' cap') (es ++ [(f, l, t)]) from fun R' hR' => hde.2.2.1 R' (by omega))
              have t0 : wY.cell? ⟨S, 0, none⟩ = some (.int .i64 al) := hde.2.1.cell (by decide)
              have t1 : wY.cell? ⟨S, 1, none⟩ = some (.int .i64 st) := hde.2.1.cell (by decide)
              have t2 : wY.cell? ⟨S, 2, none⟩ = some (.slice ao' n' cap') := hde.2.1.cell (by decide)
              have z0 : wY.cell? ⟨X + 1, 0, none⟩ = some (.int .i64 0) := HQ.out.cell (by decide)
              have z1 : wY.cell? ⟨X + 1, 1, none⟩ = some (.int .i64 0) := HQ.out.cell (by decide)
              have z2 : wY.cell? ⟨X + 1, 2, none⟩ = some (.slice none 0 0) := HQ.out.cell (by decide)
              have zf0 := HQ.out.frozen 0
              have zf1 := HQ.out.frozen 1
              have zf2 := HQ.out.frozen 2
              clear hde
              go_wp2
              have hdone := sys_done (al := al) (st := st) HRD.out HGR.out hXw hRlt HEV.out HQ.out
              obtain ⟨wf, hwf⟩ : ∃ wf, (((wY.setCell ⟨X + 1, 0, none⟩ (.int .i64 al)).setCell ⟨X + 1, 1, none⟩ (.int .i64 st)).setCell ⟨X + 1, 2, none⟩ (.slice ao' n' cap')) = wf := ⟨_, rfl⟩
              rw [hwf] at hdone ⊢
              clear hwf
              obtain ⟨d1, d2, d3, hfin⟩ := hdone
              have f0 : wf.cell? ⟨X + 1, 0, none⟩ = some (.int .i64 al) := hfin.cell (by decide)
              have f1 : wf.cell? ⟨X + 1, 1, none⟩ = some (.int .i64 st) := hfin.cell (by decide)
              have f2 : wf.cell? ⟨X + 1, 2, none⟩ = some (.slice ao' n' cap') := hfin.cell (by decide)
              refine bodyPost_ret (v := .agg #[.int .i64 al, .int .i64 st, .slice ao' n' cap']) ?_ rfl ?_
              rotate_left
              · exact ⟨_, _, _, _, _, (es ++ [(f, l, t)]), rfl, by simp, d1, p + 2, by omega, d2, d3⟩
              · simp [results, Tryz.results57, go_sem, f0, f1, f2]
    by_cases hc6 : cc = 6
    · subst hc6
      go_wp2_with fail
      refine wp_region_held_drew (S := fun _ => True) (by kernel_rfl) trivial (fun hHeld => ?_)
      first | (refine wpAnyH_take (i := 0) (get_of_drop' rfl) (by kernel_rfl) (by kernel_rfl) (by kernel_rfl) (fun _ _ _ h => h) (Or.inr ⟨?_, rfl⟩) hHeld ?_; (focus (simp [Region.wanted, yielded, undef]; done)); (try simp only [Act.put, List.setIfInBounds_toArray, List.set_cons_zero, List.set_cons_succ])) | (refine wpAnyH_take (i := 0) (v := ?_) (get_of_drop' rfl) (by kernel_rfl) (by kernel_rfl) (by kernel_rfl) (fun _ _ _ h => h) (Or.inl ⟨?_, ?_⟩) hHeld ?_; rotate_left; (focus rfl); (focus (intro w hSw; (try dsimp only at hSw); go_simp; (try (with_reducible rfl)))); (try simp only [Act.put, List.setIfInBounds_toArray, List.set_cons_zero, List.set_cons_succ]))
      first | (refine wpAnyH_take (i := 2) (get_of_drop' rfl) (by kernel_rfl) (by kernel_rfl) (by kernel_rfl) (fun _ _ _ h => h) (Or.inr ⟨?_, rfl⟩) hHeld ?_; (focus (simp [Region.wanted, yielded, undef]; done)); (try simp only [Act.put, List.setIfInBounds_toArray, List.set_cons_zero, List.set_cons_succ])) | (refine wpAnyH_take (i := 2) (v := ?_) (get_of_drop' rfl) (by kernel_rfl) (by kernel_rfl) (by kernel_rfl) (fun _ _ _ h => h) (Or.inl ⟨?_, ?_⟩) hHeld ?_; rotate_left; (focus rfl); (focus (intro w hSw; (try dsimp only at hSw); go_simp; (try (with_reducible rfl)))); (try simp only [Act.put, List.setIfInBounds_toArray, List.set_cons_zero, List.set_cons_succ]))
      first | (refine wpAnyH_take (i := 4) (get_of_drop' rfl) (by kernel_rfl) (by kernel_rfl) (by kernel_rfl) (fun _ _ _ h => h) (Or.inr ⟨?_, rfl⟩) hHeld ?_; (focus (simp [Region.wanted, yielded, undef]; done)); (try simp only [Act.put, List.setIfInBounds_toArray, List.set_cons_zero, List.set_cons_succ])) | (refine wpAnyH_take (i := 4) (v := ?_) (get_of_drop' rfl) (by kernel_rfl) (by kernel_rfl) (by kernel_rfl) (fun _ _ _ h => h) (Or.inl ⟨?_, ?_⟩) hHeld ?_; rotate_left; (focus rfl); (focus (intro w hSw; (try dsimp only at hSw); go_simp; (try (with_reducible rfl)))); (try simp only [Act.put, List.setIfInBounds_toArray, List.set_cons_zero, List.set_cons_succ]))
      first | (refine wpAnyH_take (i := 6) (get_of_drop' rfl) (by kernel_rfl) (by kernel_rfl) (by kernel_rfl) (fun _ _ _ h => h) (Or.inr ⟨?_, rfl⟩) hHeld ?_; (focus (simp [Region.wanted, yielded, undef]; done)); (try simp only [Act.put, List.setIfInBounds_toArray, List.set_cons_zero, List.set_cons_succ])) | (refine wpAnyH_take (i := 6) (v := ?_) (get_of_drop' rfl) (by kernel_rfl) (by kernel_rfl) (by kernel_rfl) (fun _ _ _ h => h) (Or.inl ⟨?_, ?_⟩) hHeld ?_; rotate_left; (focus rfl); (focus (intro w hSw; (try dsimp only at hSw); go_simp; (try (with_reducible rfl)))); (try simp only [Act.put, List.setIfInBounds_toArray, List.set_cons_zero, List.set_cons_succ]))
      refine wpAnyH_ready (rs := [1, 3]) (by kernel_rfl) (by simp) ?_
      refine AllReadyH.cons (get_of_drop' rfl) (fun K hK => ?_) ?_
      · go_simp
        refine hK.out _ _ trivial (fun hHeld => ?_)
        clear hK K
        try simp only [Act.put, List.setIfInBounds_toArray, List.set_cons_zero, List.set_cons_succ]
        refine wpAnyH_ready (rs := [3]) (by kernel_rfl) (by simp) ?_
        refine AllReadyH.cons (get_of_drop' rfl) (fun K hK => ?_) AllReadyH.nil
        go_simp
        go_at_call 46
        refine (pick_any R (p + 2) 4 w5.drew (hrd5.drewN 1) (by omega)).mono ?_
        rintro e w6 ⟨ka, rfl, -, -, hr6, hg6⟩
        have hd6 := HD5.out.drew.pick hr6 hg6
        have r6 : w6.cell? ⟨S, 2, none⟩ = some (.slice a' m cap) := hd6.2.1.cell (by decide)
        have HD6 := Lib.hid hd6
        clear hd6 hg6
        go_wp2_with fail
        refine hK.out _ _ trivial (fun hHeld => ?_)
        clear hK K
        try simp only [Act.put, List.setIfInBounds_toArray, List.set_cons_zero, List.set_cons_succ]
        refine wpAnyH_ready (rs := [5]) (by kernel_rfl) (by simp) ?_
        refine AllReadyH.cons (get_of_drop' rfl) (fun K hK => ?_) AllReadyH.nil
        go_simp
        go_at_call 46
        refine (pick_any R (p + 2 + 1) 3 w6 hr6 (by omega)).mono ?_
        rintro e w7 ⟨kb, rfl, -, -, hr7, hg7⟩
        have hd7 := HD6.out.pick hr7 hg7
        have r7 : w7.cell? ⟨S, 2, none⟩ = some (.slice a' m cap) := hd7.2.1.cell (by decide)
        have HD7 := Lib.hid hd7
        clear hd7 hg7 hr6
        go_wp2_with fail
        refine hK.out _ _ trivial (fun hHeld => ?_)
        clear hK K
        try simp only [Act.put, List.setIfInBounds_toArray, List.set_cons_zero, List.set_cons_succ]
        refine wpAnyH_ready (rs := [7]) (by kernel_rfl) (by simp) ?_
        refine AllReadyH.cons (get_of_drop' rfl) (fun K hK => ?_) AllReadyH.nil
        go_simp
        go_at_call 46
        refine (pick_any R (p + 2 + 1 + 1) 4 w7 hr7 (by omega)).mono ?_
        rintro e w8 ⟨kc, rfl, -, -, hr8, hg8⟩
        have hd8 := HD7.out.pick hr8 hg8
        have r8 : w8.cell? ⟨S, 2, none⟩ = some (.slice a' m cap) := hd8.2.1.cell (by decide)
        have r9 : (w8.alloc (.cells #[.int .i64 ka, .int .i64 kb, .int .i64 kc] 41)).cell? ⟨S, 2, none⟩ = some (.slice a' m cap) := keep_cell (below_new' _ _ _) r8
        have HD8 := Lib.hid hd8
        clear hd8 hg8 hr7 hr8
        go_wp2_with fail
        refine hK.out _ _ trivial (fun hHeld => ?_)
        clear hK K
        try simp only [Act.put, List.setIfInBounds_toArray, List.set_cons_zero, List.set_cons_succ]
        first | (refine wpAnyH_take (i := 8) (get_of_drop' rfl) (by kernel_rfl) (by kernel_rfl) (by kernel_rfl) (fun _ _ _ h => h) (Or.inr ⟨?_, rfl⟩) hHeld ?_; (focus (simp [Region.wanted, yielded, undef]; done)); (try simp only [Act.put, List.setIfInBounds_toArray, List.set_cons_zero, List.set_cons_succ])) | (refine wpAnyH_take (i := 8) (v := ?_) (get_of_drop' rfl) (by kernel_rfl) (by kernel_rfl) (by kernel_rfl) (fun _ _ _ h => h) (Or.inl ⟨?_, ?_⟩) hHeld ?_; rotate_left; (focus rfl); (focus (intro w hSw; (try dsimp only at hSw); go_simp; (try (with_reducible rfl)))); (try simp only [Act.put, List.setIfInBounds_toArray, List.set_cons_zero, List.set_cons_succ]))
        refine wpAnyH_ready (rs := [9]) (by kernel_rfl) (by simp) ?_
        refine AllReadyH.cons (get_of_drop' rfl) (fun K hK => ?_) AllReadyH.nil
        go_simp
        refine hK.out _ _ trivial (fun hHeld => ?_)
        clear hK K
        try simp only [Act.put, List.setIfInBounds_toArray, List.set_cons_zero, List.set_cons_succ]
        refine wpAnyH_ready (rs := [10]) (by kernel_rfl) (by simp) ?_
        refine AllReadyH.cons (get_of_drop' rfl) (fun K hK => ?_) AllReadyH.nil
        rw [if_pos (by rfl)]
        refine wp_app_edge w8 (ka, kb, kc) wL.heap.size _ _ rfl _ es rfl (HD8.out).2.2.1 rfl (by omega) (HD8.out).2.2.2.2.2.size ?_
        intro ao' n' cap' w9 hn' hown' hkept
        have hdx := (HD8.out).app hkept hown'
        obtain ⟨x2, xf⟩ := (HD8.out).cells hkept
        obtain ⟨wY, hwY⟩ : ∃ wY, w9.setCell ⟨S, 2, none⟩ (.slice ao' n' cap') = wY := ⟨_, rfl⟩
        have hde := hdx.de
        rw [hwY] at hde
        have HN9 := Lib.hid hn'; clear hn'
        clear hdx hkept hown'
        refine hK.out _ _ trivial (fun hHeld => ?_)
        clear hK K
        try simp only [Act.put, List.setIfInBounds_toArray, List.set_cons_zero, List.set_cons_succ]
        first | (refine wpAnyH_take (i := 11) (get_of_drop' rfl) (by kernel_rfl) (by kernel_rfl) (by kernel_rfl) (fun _ _ _ h => h) (Or.inr ⟨?_, rfl⟩) hHeld ?_; (focus (simp [Region.wanted, yielded, undef]; done)); (try simp only [Act.put, List.setIfInBounds_toArray, List.set_cons_zero, List.set_cons_succ])) | (refine wpAnyH_take (i := 11) (v := ?_) (get_of_drop' rfl) (by kernel_rfl) (by kernel_rfl) (by kernel_rfl) (fun _ _ _ h => h) (Or.inl ⟨?_, ?_⟩) hHeld ?_; rotate_left; (focus rfl); (focus (intro w hSw; (try dsimp only at hSw); go_simp; (try (with_reducible rfl)))); (try simp only [Act.put, List.setIfInBounds_toArray, List.set_cons_zero, List.set_cons_succ]))
        refine wpAnyH_ready (rs := [12]) (by kernel_rfl) (by simp) ?_
        refine AllReadyH.cons (get_of_drop' rfl) (fun K hK => ?_) AllReadyH.nil
        go_simp
        refine hK.out _ _ trivial (fun hHeld => ?_)
        clear hK K
        try simp only [Act.put, List.setIfInBounds_toArray, List.set_cons_zero, List.set_cons_succ]
        refine wpAnyH_done (by kernel_rfl) ?_ _
        clear hwY x2 xf r0 r1 r2
        have HRD := Lib.hid hde.1
        have HGR := Lib.hid (grown_trans HGL.out hde.2.2.2)
        have HQ := Lib.hid (row_grown HQL.out hde.2.2.2 hRZ)
        have HEV := Lib.hid (show ∀ R', R' ≤ X + 1 → EVR R' wY (.slice ao' n' cap') (es ++ [(ka, kb, kc)]) from fun R' hR' => hde.2.2.1 R' (by omega))
        have t0 : wY.cell? ⟨S, 0, none⟩ = some (.int .i64 al) := hde.2.1.cell (by decide)
        have t1 : wY.cell? ⟨S, 1, none⟩ = some (.int .i64 st) := hde.2.1.cell (by decide)
        have t2 : wY.cell? ⟨S, 2, none⟩ = some (.slice ao' n' cap') := hde.2.1.cell (by decide)
        have z0 : wY.cell? ⟨X + 1, 0, none⟩ = some (.int .i64 0) := HQ.out.cell (by decide)
        have z1 : wY.cell? ⟨X + 1, 1, none⟩ = some (.int .i64 0) := HQ.out.cell (by decide)
        have z2 : wY.cell? ⟨X + 1, 2, none⟩ = some (.slice none 0 0) := HQ.out.cell (by decide)
        have zf0 := HQ.out.frozen 0
        have zf1 := HQ.out.frozen 1
        have zf2 := HQ.out.frozen 2
        clear hde
        go_wp2
        have hdone := sys_done (al := al) (st := st) HRD.out HGR.out hXw hRlt HEV.out HQ.out
        obtain ⟨wf, hwf⟩ : ∃ wf, (((wY.setCell ⟨X + 1, 0, none⟩ (.int .i64 al)).setCell ⟨X + 1, 1, none⟩ (.int .i64 st)).setCell ⟨X + 1, 2, none⟩ (.slice ao' n' cap')) = wf := ⟨_, rfl⟩
        rw [hwf] at hdone ⊢
        clear hwf
        obtain ⟨d1, d2, d3, hfin⟩ := hdone
        have f0 : wf.cell? ⟨X + 1, 0, none⟩ = some (.int .i64 al) := hfin.cell (by decide)
        have f1 : wf.cell? ⟨X + 1, 1, none⟩ = some (.int .i64 st) := hfin.cell (by decide)
        have f2 : wf.cell? ⟨X + 1, 2, none⟩ = some (.slice ao' n' cap') := hfin.cell (by decide)
        refine bodyPost_ret (v := .agg #[.int .i64 al, .int .i64 st, .slice ao' n' cap']) ?_ rfl ?_
        rotate_left
        · exact ⟨_, _, _, _, _, (es ++ [(ka, kb, kc)]), rfl, by simp, d1, p + 2 + 1 + 1 + 1, by omega, d2, d3⟩
        · simp [results, Tryz.results57, go_sem, f0, f1, f2]
      · refine AllReadyH.cons (get_of_drop' rfl) (fun K hK => ?_) AllReadyH.nil
        go_simp
        go_at_call 46
        refine (pick_any R (p + 2) 4 w5.drew (hrd5.drewN 1) (by omega)).mono ?_
        rintro e w6 ⟨ka, rfl, -, -, hr6, hg6⟩
        have hd6 := HD5.out.drew.pick hr6 hg6
        have r6 : w6.cell? ⟨S, 2, none⟩ = some (.slice a' m cap) := hd6.2.1.cell (by decide)
        have HD6 := Lib.hid hd6
        clear hd6 hg6
        go_wp2_with fail
        refine hK.out _ _ trivial (fun hHeld => ?_)
        clear hK K
        try simp only [Act.put, List.setIfInBounds_toArray, List.set_cons_zero, List.set_cons_succ]
        refine wpAnyH_ready (rs := [1, 5]) (by kernel_rfl) (by simp) ?_
        refine AllReadyH.cons (get_of_drop' rfl) (fun K hK => ?_) ?_
        · go_simp
          refine hK.out _ _ trivial (fun hHeld => ?_)
          clear hK K
          try simp only [Act.put, List.setIfInBounds_toArray, List.set_cons_zero, List.set_cons_succ]
          refine wpAnyH_ready (rs := [5]) (by kernel_rfl) (by simp) ?_
          refine AllReadyH.cons (get_of_drop' rfl) (fun K hK => ?_) AllReadyH.nil
          go_simp
          go_at_call 46
          refine (pick_any R (p + 2 + 1) 3 w6 hr6 (by omega)).mono ?_
          rintro e w7 ⟨kb, rfl, -, -, hr7, hg7⟩
          have hd7 := HD6.out.pick hr7 hg7
          have r7 : w7.cell? ⟨S, 2, none⟩ = some (.slice a' m cap) := hd7.2.1.cell (by decide)
          have HD7 := Lib.hid hd7
          clear hd7 hg7 hr6
          go_wp2_with fail
          refine hK.out _ _ trivial (fun hHeld => ?_)
          clear hK K
          try simp only [Act.put, List.setIfInBounds_toArray, List.set_cons_zero, List.set_cons_succ]
          refine wpAnyH_ready (rs := [7]) (by kernel_rfl) (by simp) ?_
          refine AllReadyH.cons (get_of_drop' rfl) (fun K hK => ?_) AllReadyH.nil
          go_simp
          go_at_call 46
          refine (pick_any R (p + 2 + 1 + 1) 4 w7 hr7 (by omega)).mono ?_
          rintro e w8 ⟨kc, rfl, -, -, hr8, hg8⟩
          have hd8 := HD7.out.pick hr8 hg8
          have r8 : w8.cell? ⟨S, 2, none⟩ = some (.slice a' m cap) := hd8.2.1.cell (by decide)
          have r9 : (w8.alloc (.cells #[.int .i64 ka, .int .i64 kb, .int .i64 kc] 41)).cell? ⟨S, 2, none⟩ = some (.slice a' m cap) := keep_cell (below_new' _ _ _) r8
          have HD8 := Lib.hid hd8
          clear hd8 hg8 hr7 hr8
          go_wp2_with fail
          refine hK.out _ _ trivial (fun hHeld => ?_)
          clear hK K
          try simp only [Act.put, List.setIfInBounds_toArray, List.set_cons_zero, List.set_cons_succ]
          first | (refine wpAnyH_take (i := 8) (get_of_drop' rfl) (by kernel_rfl) (by kernel_rfl) (by kernel_rfl) (fun _ _ _ h => h) (Or.inr ⟨?_, rfl⟩) hHeld ?_; (focus (simp [Region.wanted, yielded, undef]; done)); (try simp only [Act.put, List.setIfInBounds_toArray, List.set_cons_zero, List.set_cons_succ])) | (refine wpAnyH_take (i := 8) (v := ?_) (get_of_drop' rfl) (by kernel_rfl) (by kernel_rfl) (by kernel_rfl) (fun _ _ _ h => h) (Or.inl ⟨?_, ?_⟩) hHeld ?_; rotate_left; (focus rfl); (focus (intro w hSw; (try dsimp only at hSw); go_simp; (try (with_reducible rfl)))); (try simp only [Act.put, List.setIfInBounds_toArray, List.set_cons_zero, List.set_cons_succ]))
          refine wpAnyH_ready (rs := [9]) (by kernel_rfl) (by simp) ?_
          refine AllReadyH.cons (get_of_drop' rfl) (fun K hK => ?_) AllReadyH.nil
          go_simp
          refine hK.out _ _ trivial (fun hHeld => ?_)
          clear hK K
          try simp only [Act.put, List.setIfInBounds_toArray, List.set_cons_zero, List.set_cons_succ]
          refine wpAnyH_ready (rs := [10]) (by kernel_rfl) (by simp) ?_
          refine AllReadyH.cons (get_of_drop' rfl) (fun K hK => ?_) AllReadyH.nil
          rw [if_pos (by rfl)]
          refine wp_app_edge w8 (ka, kb, kc) wL.heap.size _ _ rfl _ es rfl (HD8.out).2.2.1 rfl (by omega) (HD8.out).2.2.2.2.2.size ?_
          intro ao' n' cap' w9 hn' hown' hkept
          have hdx := (HD8.out).app hkept hown'
          obtain ⟨x2, xf⟩ := (HD8.out).cells hkept
          obtain ⟨wY, hwY⟩ : ∃ wY, w9.setCell ⟨S, 2, none⟩ (.slice ao' n' cap') = wY := ⟨_, rfl⟩
          have hde := hdx.de
          rw [hwY] at hde
          have HN9 := Lib.hid hn'; clear hn'
          clear hdx hkept hown'
          refine hK.out _ _ trivial (fun hHeld => ?_)
          clear hK K
          try simp only [Act.put, List.setIfInBounds_toArray, List.set_cons_zero, List.set_cons_succ]
          first | (refine wpAnyH_take (i := 11) (get_of_drop' rfl) (by kernel_rfl) (by kernel_rfl) (by kernel_rfl) (fun _ _ _ h => h) (Or.inr ⟨?_, rfl⟩) hHeld ?_; (focus (simp [Region.wanted, yielded, undef]; done)); (try simp only [Act.put, List.setIfInBounds_toArray, List.set_cons_zero, List.set_cons_succ])) | (refine wpAnyH_take (i := 11) (v := ?_) (get_of_drop' rfl) (by kernel_rfl) (by kernel_rfl) (by kernel_rfl) (fun _ _ _ h => h) (Or.inl ⟨?_, ?_⟩) hHeld ?_; rotate_left; (focus rfl); (focus (intro w hSw; (try dsimp only at hSw); go_simp; (try (with_reducible rfl)))); (try simp only [Act.put, List.setIfInBounds_toArray, List.set_cons_zero, List.set_cons_succ]))
          refine wpAnyH_ready (rs := [12]) (by kernel_rfl) (by simp) ?_
          refine AllReadyH.cons (get_of_drop' rfl) (fun K hK => ?_) AllReadyH.nil
          go_simp
          refine hK.out _ _ trivial (fun hHeld => ?_)
          clear hK K
          try simp only [Act.put, List.setIfInBounds_toArray, List.set_cons_zero, List.set_cons_succ]
          refine wpAnyH_done (by kernel_rfl) ?_ _
          clear hwY x2 xf r0 r1 r2
          have HRD := Lib.hid hde.1
          have HGR := Lib.hid (grown_trans HGL.out hde.2.2.2)
          have HQ := Lib.hid (row_grown HQL.out hde.2.2.2 hRZ)
          have HEV := Lib.hid (show ∀ R', R' ≤ X + 1 → EVR R' wY (.slice ao' n' cap') (es ++ [(ka, kb, kc)]) from fun R' hR' => hde.2.2.1 R' (by omega))
          have t0 : wY.cell? ⟨S, 0, none⟩ = some (.int .i64 al) := hde.2.1.cell (by decide)
          have t1 : wY.cell? ⟨S, 1, none⟩ = some (.int .i64 st) := hde.2.1.cell (by decide)
          have t2 : wY.cell? ⟨S, 2, none⟩ = some (.slice ao' n' cap') := hde.2.1.cell (by decide)
          have z0 : wY.cell? ⟨X + 1, 0, none⟩ = some (.int .i64 0) := HQ.out.cell (by decide)
          have z1 : wY.cell? ⟨X + 1, 1, none⟩ = some (.int .i64 0) := HQ.out.cell (by decide)
          have z2 : wY.cell? ⟨X + 1, 2, none⟩ = some (.slice none 0 0) := HQ.out.cell (by decide)
          have zf0 := HQ.out.frozen 0
          have zf1 := HQ.out.frozen 1
          have zf2 := HQ.out.frozen 2
          clear hde
          go_wp2
          have hdone := sys_done (al := al) (st := st) HRD.out HGR.out hXw hRlt HEV.out HQ.out
          obtain ⟨wf, hwf⟩ : ∃ wf, (((wY.setCell ⟨X + 1, 0, none⟩ (.int .i64 al)).setCell ⟨X + 1, 1, none⟩ (.int .i64 st)).setCell ⟨X + 1, 2, none⟩ (.slice ao' n' cap')) = wf := ⟨_, rfl⟩
          rw [hwf] at hdone ⊢
          clear hwf
          obtain ⟨d1, d2, d3, hfin⟩ := hdone
          have f0 : wf.cell? ⟨X + 1, 0, none⟩ = some (.int .i64 al) := hfin.cell (by decide)
          have f1 : wf.cell? ⟨X + 1, 1, none⟩ = some (.int .i64 st) := hfin.cell (by decide)
          have f2 : wf.cell? ⟨X + 1, 2, none⟩ = some (.slice ao' n' cap') := hfin.cell (by decide)
          refine bodyPost_ret (v := .agg #[.int .i64 al, .int .i64 st, .slice ao' n' cap']) ?_ rfl ?_
          rotate_left
          · exact ⟨_, _, _, _, _, (es ++ [(ka, kb, kc)]), rfl, by simp, d1, p + 2 + 1 + 1 + 1, by omega, d2, d3⟩
          · simp [results, Tryz.results57, go_sem, f0, f1, f2]
        · refine AllReadyH.cons (get_of_drop' rfl) (fun K hK => ?_) AllReadyH.nil
          go_simp
          go_at_call 46
          refine (pick_any R (p + 2 + 1) 3 w6 hr6 (by omega)).mono ?_
          rintro e w7 ⟨kb, rfl, -, -, hr7, hg7⟩
          have hd7 := HD6.out.pick hr7 hg7
          have r7 : w7.cell? ⟨S, 2, none⟩ = some (.slice a' m cap) := hd7.2.1.cell (by decide)
          have HD7 := Lib.hid hd7
          clear hd7 hg7 hr6
          go_wp2_with fail
          refine hK.out _ _ trivial (fun hHeld => ?_)
          clear hK K
          try simp only [Act.put, List.setIfInBounds_toArray, List.set_cons_zero, List.set_cons_succ]
          refine wpAnyH_ready (rs := [1, 7]) (by kernel_rfl) (by simp) ?_
          refine AllReadyH.cons (get_of_drop' rfl) (fun K hK => ?_) ?_
          · go_simp
            refine hK.out _ _ trivial (fun hHeld => ?_)
            clear hK K
            try simp only [Act.put, List.setIfInBounds_toArray, List.set_cons_zero, List.set_cons_succ]
            refine wpAnyH_ready (rs := [7]) (by kernel_rfl) (by simp) ?_
            refine AllReadyH.cons (get_of_drop' rfl) (fun K hK => ?_) AllReadyH.nil
            go_simp
            go_at_call 46
            refine (pick_any R (p + 2 + 1 + 1) 4 w7 hr7 (by omega)).mono ?_
            rintro e w8 ⟨kc, rfl, -, -, hr8, hg8⟩
            have hd8 := HD7.out.pick hr8 hg8
            have r8 : w8.cell? ⟨S, 2, none⟩ = some (.slice a' m cap) := hd8.2.1.cell (by decide)
            have r9 : (w8.alloc (.cells #[.int .i64 ka, .int .i64 kb, .int .i64 kc] 41)).cell? ⟨S, 2, none⟩ = some (.slice a' m cap) := keep_cell (below_new' _ _ _) r8
            have HD8 := Lib.hid hd8
            clear hd8 hg8 hr7 hr8
            go_wp2_with fail
            refine hK.out _ _ trivial (fun hHeld => ?_)
            clear hK K
            try simp only [Act.put, List.setIfInBounds_toArray, List.set_cons_zero, List.set_cons_succ]
            first | (refine wpAnyH_take (i := 8) (get_of_drop' rfl) (by kernel_rfl) (by kernel_rfl) (by kernel_rfl) (fun _ _ _ h => h) (Or.inr ⟨?_, rfl⟩) hHeld ?_; (focus (simp [Region.wanted, yielded, undef]; done)); (try simp only [Act.put, List.setIfInBounds_toArray, List.set_cons_zero, List.set_cons_succ])) | (refine wpAnyH_take (i := 8) (v := ?_) (get_of_drop' rfl) (by kernel_rfl) (by kernel_rfl) (by kernel_rfl) (fun _ _ _ h => h) (Or.inl ⟨?_, ?_⟩) hHeld ?_; rotate_left; (focus rfl); (focus (intro w hSw; (try dsimp only at hSw); go_simp; (try (with_reducible rfl)))); (try simp only [Act.put, List.setIfInBounds_toArray, List.set_cons_zero, List.set_cons_succ]))
            refine wpAnyH_ready (rs := [9]) (by kernel_rfl) (by simp) ?_
            refine AllReadyH.cons (get_of_drop' rfl) (fun K hK => ?_) AllReadyH.nil
            go_simp
            refine hK.out _ _ trivial (fun hHeld => ?_)
            clear hK K
            try simp only [Act.put, List.setIfInBounds_toArray, List.set_cons_zero, List.set_cons_succ]
            refine wpAnyH_ready (rs := [10]) (by kernel_rfl) (by simp) ?_
            refine AllReadyH.cons (get_of_drop' rfl) (fun K hK => ?_) AllReadyH.nil
            rw [if_pos (by rfl)]
            refine wp_app_edge w8 (ka, kb, kc) wL.heap.size _ _ rfl _ es rfl (HD8.out).2.2.1 rfl (by omega) (HD8.out).2.2.2.2.2.size ?_
            intro ao' n' cap' w9 hn' hown' hkept
            have hdx := (HD8.out).app hkept hown'
            obtain ⟨x2, xf⟩ := (HD8.out).cells hkept
            obtain ⟨wY, hwY⟩ : ∃ wY, w9.setCell ⟨S, 2, none⟩ (.slice ao' n' cap') = wY := ⟨_, rfl⟩
            have hde := hdx.de
            rw [hwY] at hde
            have HN9 := Lib.hid hn'; clear hn'
            clear hdx hkept hown'
            refine hK.out _ _ trivial (fun hHeld => ?_)
            clear hK K
            try simp only [Act.put, List.setIfInBounds_toArray, List.set_cons_zero, List.set_cons_succ]
            first | (refine wpAnyH_take (i := 11) (get_of_drop' rfl) (by kernel_rfl) (by kernel_rfl) (by kernel_rfl) (fun _ _ _ h => h) (Or.inr ⟨?_, rfl⟩) hHeld ?_; (focus (simp [Region.wanted, yielded, undef]; done)); (try simp only [Act.put, List.setIfInBounds_toArray, List.set_cons_zero, List.set_cons_succ])) | (refine wpAnyH_take (i := 11) (v := ?_) (get_of_drop' rfl) (by kernel_rfl) (by kernel_rfl) (by kernel_rfl) (fun _ _ _ h => h) (Or.inl ⟨?_, ?_⟩) hHeld ?_; rotate_left; (focus rfl); (focus (intro w hSw; (try dsimp only at hSw); go_simp; (try (with_reducible rfl)))); (try simp only [Act.put, List.setIfInBounds_toArray, List.set_cons_zero, List.set_cons_succ]))
            refine wpAnyH_ready (rs := [12]) (by kernel_rfl) (by simp) ?_
            refine AllReadyH.cons (get_of_drop' rfl) (fun K hK => ?_) AllReadyH.nil
            go_simp
            refine hK.out _ _ trivial (fun hHeld => ?_)
            clear hK K
            try simp only [Act.put, List.setIfInBounds_toArray, List.set_cons_zero, List.set_cons_succ]
            refine wpAnyH_done (by kernel_rfl) ?_ _
            clear hwY x2 xf r0 r1 r2
            have HRD := Lib.hid hde.1
            have HGR := Lib.hid (grown_trans HGL.out hde.2.2.2)
            have HQ := Lib.hid (row_grown HQL.out hde.2.2.2 hRZ)
            have HEV := Lib.hid (show ∀ R', R' ≤ X + 1 → EVR R' wY (.slice ao' n' cap') (es ++ [(ka, kb, kc)]) from fun R' hR' => hde.2.2.1 R' (by omega))
            have t0 : wY.cell? ⟨S, 0, none⟩ = some (.int .i64 al) := hde.2.1.cell (by decide)
            have t1 : wY.cell? ⟨S, 1, none⟩ = some (.int .i64 st) := hde.2.1.cell (by decide)
            have t2 : wY.cell? ⟨S, 2, none⟩ = some (.slice ao' n' cap') := hde.2.1.cell (by decide)
            have z0 : wY.cell? ⟨X + 1, 0, none⟩ = some (.int .i64 0) := HQ.out.cell (by decide)
            have z1 : wY.cell? ⟨X + 1, 1, none⟩ = some (.int .i64 0) := HQ.out.cell (by decide)
            have z2 : wY.cell? ⟨X + 1, 2, none⟩ = some (.slice none 0 0) := HQ.out.cell (by decide)
            have zf0 := HQ.out.frozen 0
            have zf1 := HQ.out.frozen 1
            have zf2 := HQ.out.frozen 2
            clear hde
            go_wp2
            have hdone := sys_done (al := al) (st := st) HRD.out HGR.out hXw hRlt HEV.out HQ.out
            obtain ⟨wf, hwf⟩ : ∃ wf, (((wY.setCell ⟨X + 1, 0, none⟩ (.int .i64 al)).setCell ⟨X + 1, 1, none⟩ (.int .i64 st)).setCell ⟨X + 1, 2, none⟩ (.slice ao' n' cap')) = wf := ⟨_, rfl⟩
            rw [hwf] at hdone ⊢
            clear hwf
            obtain ⟨d1, d2, d3, hfin⟩ := hdone
            have f0 : wf.cell? ⟨X + 1, 0, none⟩ = some (.int .i64 al) := hfin.cell (by decide)
            have f1 : wf.cell? ⟨X + 1, 1, none⟩ = some (.int .i64 st) := hfin.cell (by decide)
            have f2 : wf.cell? ⟨X + 1, 2, none⟩ = some (.slice ao' n' cap') := hfin.cell (by decide)
            refine bodyPost_ret (v := .agg #[.int .i64 al, .int .i64 st, .slice ao' n' cap']) ?_ rfl ?_
            rotate_left
            · exact ⟨_, _, _, _, _, (es ++ [(ka, kb, kc)]), rfl, by simp, d1, p + 2 + 1 + 1 + 1, by omega, d2, d3⟩
            · simp [results, Tryz.results57, go_sem, f0, f1, f2]
          · refine AllReadyH.cons (get_of_drop' rfl) (fun K hK => ?_) AllReadyH.nil
            go_simp
            go_at_call 46
            refine (pick_any R (p + 2 + 1 + 1) 4 w7 hr7 (by omega)).mono ?_
            rintro e w8 ⟨kc, rfl, -, -, hr8, hg8⟩
            have hd8 := HD7.out.pick hr8 hg8
            have r8 : w8.cell? ⟨S, 2, none⟩ = some (.slice a' m cap) := hd8.2.1.cell (by decide)
            have r9 : (w8.alloc (.cells #[.int .i64 ka, .int .i64 kb, .int .i64 kc] 41)).cell? ⟨S, 2, none⟩ = some (.slice a' m cap) := keep_cell (below_new' _ _ _) r8
            have HD8 := Lib.hid hd8
            clear hd8 hg8 hr7 hr8
            go_wp2_with fail
            refine hK.out _ _ trivial (fun hHeld => ?_)
            clear hK K
            try simp only [Act.put, List.setIfInBounds_toArray, List.set_cons_zero, List.set_cons_succ]
            first | (refine wpAnyH_take (i := 8) (get_of_drop' rfl) (by kernel_rfl) (by kernel_rfl) (by kernel_rfl) (fun _ _ _ h => h) (Or.inr ⟨?_, rfl⟩) hHeld ?_; (focus (simp [Region.wanted, yielded, undef]; done)); (try simp only [Act.put, List.setIfInBounds_toArray, List.set_cons_zero, List.set_cons_succ])) | (refine wpAnyH_take (i := 8) (v := ?_) (get_of_drop' rfl) (by kernel_rfl) (by kernel_rfl) (by kernel_rfl) (fun _ _ _ h => h) (Or.inl ⟨?_, ?_⟩) hHeld ?_; rotate_left; (focus rfl); (focus (intro w hSw; (try dsimp only at hSw); go_simp; (try (with_reducible rfl)))); (try simp only [Act.put, List.setIfInBounds_toArray, List.set_cons_zero, List.set_cons_succ]))
            refine wpAnyH_ready (rs := [1, 9]) (by kernel_rfl) (by simp) ?_
            refine AllReadyH.cons (get_of_drop' rfl) (fun K hK => ?_) ?_
            · go_simp
              refine hK.out _ _ trivial (fun hHeld => ?_)
              clear hK K
              try simp only [Act.put, List.setIfInBounds_toArray, List.set_cons_zero, List.set_cons_succ]
              refine wpAnyH_ready (rs := [9]) (by kernel_rfl) (by simp) ?_
              refine AllReadyH.cons (get_of_drop' rfl) (fun K hK => ?_) AllReadyH.nil
              go_simp
              refine hK.out _ _ trivial (fun hHeld => ?_)
              clear hK K
              try simp only [Act.put, List.setIfInBounds_toArray, List.set_cons_zero, List.set_cons_succ]
              refine wpAnyH_ready (rs := [10]) (by kernel_rfl) (by simp) ?_
              refine AllReadyH.cons (get_of_drop' rfl) (fun K hK => ?_) AllReadyH.nil
              rw [if_pos (by rfl)]
              refine wp_app_edge w8 (ka, kb, kc) wL.heap.size _ _ rfl _ es rfl (HD8.out).2.2.1 rfl (by omega) (HD8.out).2.2.2.2.2.size ?_
              intro ao' n' cap' w9 hn' hown' hkept
              have hdx := (HD8.out).app hkept hown'
              obtain ⟨x2, xf⟩ := (HD8.out).cells hkept
              obtain ⟨wY, hwY⟩ : ∃ wY, w9.setCell ⟨S, 2, none⟩ (.slice ao' n' cap') = wY := ⟨_, rfl⟩
              have hde := hdx.de
              rw [hwY] at hde
              have HN9 := Lib.hid hn'; clear hn'
              clear hdx hkept hown'
              refine hK.out _ _ trivial (fun hHeld => ?_)
              clear hK K
              try simp only [Act.put, List.setIfInBounds_toArray, List.set_cons_zero, List.set_cons_succ]
              first | (refine wpAnyH_take (i := 11) (get_of_drop' rfl) (by kernel_rfl) (by kernel_rfl) (by kernel_rfl) (fun _ _ _ h => h) (Or.inr ⟨?_, rfl⟩) hHeld ?_; (focus (simp [Region.wanted, yielded, undef]; done)); (try simp only [Act.put, List.setIfInBounds_toArray, List.set_cons_zero, List.set_cons_succ])) | (refine wpAnyH_take (i := 11) (v := ?_) (get_of_drop' rfl) (by kernel_rfl) (by kernel_rfl) (by kernel_rfl) (fun _ _ _ h => h) (Or.inl ⟨?_, ?_⟩) hHeld ?_; rotate_left; (focus rfl); (focus (intro w hSw; (try dsimp only at hSw); go_simp; (try (with_reducible rfl)))); (try simp only [Act.put, List.setIfInBounds_toArray, List.set_cons_zero, List.set_cons_succ]))
              refine wpAnyH_ready (rs := [12]) (by kernel_rfl) (by simp) ?_
              refine AllReadyH.cons (get_of_drop' rfl) (fun K hK => ?_) AllReadyH.nil
              go_simp
              refine hK.out _ _ trivial (fun hHeld => ?_)
              clear hK K
              try simp only [Act.put, List.setIfInBounds_toArray, List.set_cons_zero, List.set_cons_succ]
              refine wpAnyH_done (by kernel_rfl) ?_ _
              clear hwY x2 xf r0 r1 r2
              have HRD := Lib.hid hde.1
              have HGR := Lib.hid (grown_trans HGL.out hde.2.2.2)
              have HQ := Lib.hid (row_grown HQL.out hde.2.2.2 hRZ)
              have HEV := Lib.hid (show ∀ R', R' ≤ X + 1 → EVR R' wY (.slice ao' n' cap') (es ++ [(ka, kb, kc)]) from fun R' hR' => hde.2.2.1 R' (by omega))
              have t0 : wY.cell? ⟨S, 0, none⟩ = some (.int .i64 al) := hde.2.1.cell (by decide)
              have t1 : wY.cell? ⟨S, 1, none⟩ = some (.int .i64 st) := hde.2.1.cell (by decide)
              have t2 : wY.cell? ⟨S, 2, none⟩ = some (.slice ao' n' cap') := hde.2.1.cell (by decide)
              have z0 : wY.cell? ⟨X + 1, 0, none⟩ = some (.int .i64 0) := HQ.out.cell (by decide)
              have z1 : wY.cell? ⟨X + 1, 1, none⟩ = some (.int .i64 0) := HQ.out.cell (by decide)
              have z2 : wY.cell? ⟨X + 1, 2, none⟩ = some (.slice none 0 0) := HQ.out.cell (by decide)
              have zf0 := HQ.out.frozen 0
              have zf1 := HQ.out.frozen 1
              have zf2 := HQ.out.frozen 2
              clear hde
              go_wp2
              have hdone := sys_done (al := al) (st := st) HRD.out HGR.out hXw hRlt HEV.out HQ.out
              obtain ⟨wf, hwf⟩ : ∃ wf, (((wY.setCell ⟨X + 1, 0, none⟩ (.int .i64 al)).setCell ⟨X + 1, 1, none⟩ (.int .i64 st)).setCell ⟨X + 1, 2, none⟩ (.slice ao' n' cap')) = wf := ⟨_, rfl⟩
              rw [hwf] at hdone ⊢
              clear hwf
              obtain ⟨d1, d2, d3, hfin⟩ := hdone
              have f0 : wf.cell? ⟨X + 1, 0, none⟩ = some (.int .i64 al) := hfin.cell (by decide)
              have f1 : wf.cell? ⟨X + 1, 1, none⟩ = some (.int .i64 st) := hfin.cell (by decide)
              have f2 : wf.cell? ⟨X + 1, 2, none⟩ = some (.slice ao' n' cap') := hfin.cell (by decide)
              refine bodyPost_ret (v := .agg #[.int .i64 al, .int .i64 st, .slice ao' n' cap']) ?_ rfl ?_
              rotate_left
              · exact ⟨_, _, _, _, _, (es ++ [(ka, kb, kc)]), rfl, by simp, d1, p + 2 + 1 + 1 + 1, by omega, d2, d3⟩
              · simp [results, Tryz.results57, go_sem, f0, f1, f2]
            · refine AllReadyH.cons (get_of_drop' rfl) (fun K hK => ?_) AllReadyH.nil
              go_simp
              refine hK.out _ _ trivial (fun hHeld => ?_)
              clear hK K
              try simp only [Act.put, List.setIfInBounds_toArray, List.set_cons_zero, List.set_cons_succ]
              refine wpAnyH_ready (rs := [1]) (by kernel_rfl) (by simp) ?_
              refine AllReadyH.cons (get_of_drop' rfl) (fun K hK => ?_) AllReadyH.nil
              go_simp
              refine hK.out _ _ trivial (fun hHeld => ?_)
              clear hK K
              try simp only [Act.put, List.setIfInBounds_toArray, List.set_cons_zero, List.set_cons_succ]
              refine wpAnyH_ready (rs := [10]) (by kernel_rfl) (by simp) ?_
              refine AllReadyH.cons (get_of_drop' rfl) (fun K hK => ?_) AllReadyH.nil
              rw [if_pos (by rfl)]
              refine wp_app_edge w8 (ka, kb, kc) wL.heap.size _ _ rfl _ es rfl (HD8.out).2.2.1 rfl (by omega) (HD8.out).2.2.2.2.2.size ?_
              intro ao' n' cap' w9 hn' hown' hkept
              have hdx := (HD8.out).app hkept hown'
              obtain ⟨x2, xf⟩ := (HD8.out).cells hkept
              obtain ⟨wY, hwY⟩ : ∃ wY, w9.setCell ⟨S, 2, none⟩ (.slice ao' n' cap') = wY := ⟨_, rfl⟩
              have hde := hdx.de
              rw [hwY] at hde
              have HN9 := Lib.hid hn'; clear hn'
              clear hdx hkept hown'
              refine hK.out _ _ trivial (fun hHeld => ?_)
              clear hK K
              try simp only [Act.put, List.setIfInBounds_toArray, List.set_cons_zero, List.set_cons_succ]
              first | (refine wpAnyH_take (i := 11) (get_of_drop' rfl) (by kernel_rfl) (by kernel_rfl) (by kernel_rfl) (fun _ _ _ h => h) (Or.inr ⟨?_, rfl⟩) hHeld ?_; (focus (simp [Region.wanted, yielded, undef]; done)); (try simp only [Act.put, List.setIfInBounds_toArray, List.set_cons_zero, List.set_cons_succ])) | (refine wpAnyH_take (i := 11) (v := ?_) (get_of_drop' rfl) (by kernel_rfl) (by kernel_rfl) (by kernel_rfl) (fun _ _ _ h => h) (Or.inl ⟨?_, ?_⟩) hHeld ?_; rotate_left; (focus rfl); (focus (intro w hSw; (try dsimp only at hSw); go_simp; (try (with_reducible rfl)))); (try simp only [Act.put, List.setIfInBounds_toArray, List.set_cons_zero, List.set_cons_succ]))
              refine wpAnyH_ready (rs := [12]) (by kernel_rfl) (by simp) ?_
              refine AllReadyH.cons (get_of_drop' rfl) (fun K hK => ?_) AllReadyH.nil
              go_simp
              refine hK.out _ _ trivial (fun hHeld => ?_)
              clear hK K
              try simp only [Act.put, List.setIfInBounds_toArray, List.set_cons_zero, List.set_cons_succ]
              refine wpAnyH_done (by kernel_rfl) ?_ _
              clear hwY x2 xf r0 r1 r2
              have HRD := Lib.hid hde.1
              have HGR := Lib.hid (grown_trans HGL.out hde.2.2.2)
              have HQ := Lib.hid (row_grown HQL.out hde.2.2.2 hRZ)
              have HEV := Lib.hid (show ∀ R', R' ≤ X + 1 → EVR R' wY (.slice ao' n' cap') (es ++ [(ka, kb, kc)]) from fun R' hR' => hde.2.2.1 R' (by omega))
              have t0 : wY.cell? ⟨S, 0, none⟩ = some (.int .i64 al) := hde.2.1.cell (by decide)
              have t1 : wY.cell? ⟨S, 1, none⟩ = some (.int .i64 st) := hde.2.1.cell (by decide)
              have t2 : wY.cell? ⟨S, 2, none⟩ = some (.slice ao' n' cap') := hde.2.1.cell (by decide)
              have z0 : wY.cell? ⟨X + 1, 0, none⟩ = some (.int .i64 0) := HQ.out.cell (by decide)
              have z1 : wY.cell? ⟨X + 1, 1, none⟩ = some (.int .i64 0) := HQ.out.cell (by decide)
              have z2 : wY.cell? ⟨X + 1, 2, none⟩ = some (.slice none 0 0) := HQ.out.cell (by decide)
              have zf0 := HQ.out.frozen 0
              have zf1 := HQ.out.frozen 1
              have zf2 := HQ.out.frozen 2
              clear hde
              go_wp2
              have hdone := sys_done (al := al) (st := st) HRD.out HGR.out hXw hRlt HEV.out HQ.out
              obtain ⟨wf, hwf⟩ : ∃ wf, (((wY.setCell ⟨X + 1, 0, none⟩ (.int .i64 al)).setCell ⟨X + 1, 1, none⟩ (.int .i64 st)).setCell ⟨X + 1, 2, none⟩ (.slice ao' n' cap')) = wf := ⟨_, rfl⟩
              rw [hwf] at hdone ⊢
              clear hwf
              obtain ⟨d1, d2, d3, hfin⟩ := hdone
              have f0 : wf.cell? ⟨X + 1, 0, none⟩ = some (.int .i64 al) := hfin.cell (by decide)
              have f1 : wf.cell? ⟨X + 1, 1, none⟩ = some (.int .i64 st) := hfin.cell (by decide)
              have f2 : wf.cell? ⟨X + 1, 2, none⟩ = some (.slice ao' n' cap') := hfin.cell (by decide)
              refine bodyPost_ret (v := .agg #[.int .i64 al, .int .i64 st, .slice ao' n' cap']) ?_ rfl ?_
              rotate_left
              · exact ⟨_, _, _, _, _, (es ++ [(ka, kb, kc)]), rfl, by simp, d1, p + 2 + 1 + 1 + 1, by omega, d2, d3⟩
              · simp [results, Tryz.results57, go_sem, f0, f1, f2]
    · have hde := HD5.out.de
      have HRD := Lib.hid hde.1
      have HGR := Lib.hid (grown_trans HGL.out hde.2.2.2)
      have HQ := Lib.hid (row_grown HQL.out hde.2.2.2 hRZ)
      have HEV := Lib.hid (show ∀ R', R' ≤ X + 1 → EVR R' w5 (.slice a' m cap) es from fun R' hR' => hde.2.2.1 R' (by omega))
      have t0 : w5.cell? ⟨S, 0, none⟩ = some (.int .i64 al) := hde.2.1.cell (by decide)
      have t1 : w5.cell? ⟨S, 1, none⟩ = some (.int .i64 st) := hde.2.1.cell (by decide)
      have t2 : w5.cell? ⟨S, 2, none⟩ = some (.slice a' m cap) := hde.2.1.cell (by decide)
      have z0 : w5.cell? ⟨X + 1, 0, none⟩ = some (.int .i64 0) := HQ.out.cell (by decide)
      have z1 : w5.cell? ⟨X + 1, 1, none⟩ = some (.int .i64 0) := HQ.out.cell (by decide)
      have z2 : w5.cell? ⟨X + 1, 2, none⟩ = some (.slice none 0 0) := HQ.out.cell (by decide)
      have zf0 := HQ.out.frozen 0
      have zf1 := HQ.out.frozen 1
      have zf2 := HQ.out.frozen 2
      clear hde
      go_wp2
      have hdone := sys_done (al := al) (st := st) HRD.out HGR.out hXw hRlt HEV.out HQ.out
      obtain ⟨wf, hwf⟩ : ∃ wf, (((w5.setCell ⟨X + 1, 0, none⟩ (.int .i64 al)).setCell ⟨X + 1, 1, none⟩ (.int .i64 st)).setCell ⟨X + 1, 2, none⟩ (.slice a' m cap)) = wf := ⟨_, rfl⟩
      rw [hwf] at hdone ⊢
      clear hwf
      obtain ⟨d1, d2, d3, hfin⟩ := hdone
      have f0 : wf.cell? ⟨X + 1, 0, none⟩ = some (.int .i64 al) := hfin.cell (by decide)
      have f1 : wf.cell? ⟨X + 1, 1, none⟩ = some (.int .i64 st) := hfin.cell (by decide)
      have f2 : wf.cell? ⟨X + 1, 2, none⟩ = some (.slice a' m cap) := hfin.cell (by decide)
      refine bodyPost_ret (v := .agg #[.int .i64 al, .int .i64 st, .slice a' m cap]) ?_ rfl ?_
      rotate_left
      · exact ⟨_, _, _, _, _, es, rfl, by first | omega | (simp [setE_len]), d1, p + 2, by omega, d2, d3⟩
      · simp [results, Tryz.results57, go_sem, f0, f1, f2]
end Go.Proofs.YtnjakhojdhkihaaGreatDoor
