/- l3Wrong: what it returns. -/
import Derived.Test.YtagegbhchljggaaACopy

namespace Go.Proofs.Ytagegbhchljggaa
open Go.RowKit
set_option linter.unusedVariables false
set_option linter.unusedSimpArgs false
set_option maxRecDepth 100000

theorem lens_push {xss : List (List Int)} {x : List Int} {N : Nat} (h : ∀ l ∈ xss, l.length ≤ N) (hx : x.length ≤ N) : ∀ l ∈ xss ++ [x], l.length ≤ N := fun l hl => by
  rcases List.mem_append.1 hl with hl | hl
  · exact h l hl
  · rw [List.mem_singleton.1 hl]; exact hx
theorem irow_iv {B : Nat} {w : World} {v : Value} {x : List Int} (h : IRow B w v x) : IV w v x := by
  rcases h.2 with ⟨hv, h0⟩ | ⟨g', c', cur', hv, hB', hg', hc', hm', hs', ht'⟩
  · exact ⟨none, 0, by rw [hv, h0], by omega, by decide, .inl h0⟩
  · refine ⟨_, c', hv, hc', hm', .inr ⟨g', 0, rfl, (Array.getElem?_eq_some_iff.1 hg').1, fun j hj => ⟨_, ?_, rfl⟩⟩⟩
    have hr := h
    rw [hv] at hr
    rw [Nat.zero_add, World.ownsRow.cellAt hr j (by omega)]
    simp [List.getElem?_eq_getElem hj]
/-- The length of the rows, out of the box. -/
def boxLen (S : Nat) (w : World) : Nat := match w.cell? ⟨S, 1, none⟩ with | some (.slice _ n _) => n | _ => 0
theorem Chg.refl (B : Nat) (w : World) : Chg B w w := ⟨rfl, rfl, rfl, Nat.le_refl _, fun _ _ => rfl, fun _ _ _ h => h⟩
theorem Chg.below {B : Nat} {w w' : World} (h : Below w.heap.size w w') (hB : B ≤ w.heap.size) : Chg B w w' := ⟨h.os, h.tape, h.output, h.size, fun k hk => h.block k (by omega), fun _ _ _ hr => rowIs_below hr h⟩
theorem AQ.keep {row : Option Nat} {Z S : Nat} {al : Int} {w0 w w5 : World} {v1 v2 : Value} {us us' : List Value} {xss xss' : List (List Int)} {bs bs' : List Bool} (h : AQ row Z S al w0 w v1 v2 us xss bs) (hx : AX Z w5 v1 v2 us' xss' bs') (hc : Chg Z w w5) :
    AQ row Z S al w0 w5 v1 v2 us' xss' bs' ∧ ∀ p R, R < Z → RdOk R p w → RdOk R p w5 :=
  ⟨⟨hx, hc.grown h.2.1 (Nat.le_of_eq h.2.2.2.2.1), hc.box h.2.2.1, hc.box h.2.2.2.1, h.2.2.2.2⟩, fun p R hR hr => hc.rd hr hR⟩
theorem RO.none (B : Nat) (w : World) (hB : B ≤ w.heap.size) : RO B (w.alloc (.cells #[] 44)) (.slice (some ⟨w.heap.size, 0, none⟩) 0 0) [] [] :=
  ⟨World.ownsRow_made w #[] 0 hB (by decide) rfl, rfl, fun i hi => by simp at hi, fun i j hi => by simp at hi⟩
theorem appK_int_lies {K : Act → World → Prop} {o : Oper} {a : Act} {Q : Exit → Act → World → Prop} (wr : World) (B : Nat) (s y : Operand)
    (ho : o.op = .call { callee := .builtin .append, args := #[s, y], argTypes := #[44, 44] }) (x : Int) (v : Value) (xs : List Int) (hs : a.eval s = v) (hown : IRow B wr v xs)
    (hy : a.eval y = .slice (some ⟨wr.heap.size, 0, none⟩) 1 1) (hb : xs.length ≤ 1000000) (hB : B ≤ wr.heap.size)
    (h : ∀ g cap w1, IRow B w1 (.slice (some ⟨g, 0, none⟩) (xs.length + 1) cap) (xs ++ [x]) → wr.grownBy w1 v.ownBlock → (v.ownBlock = some g ∨ wr.heap.size ≤ g) → K (a.put o.dst (.slice (some ⟨g, 0, none⟩) (xs.length + 1) cap)) w1) :
    o.wp Try.prog a (wr.alloc (.cells #[.int .i64 x] 3)) K Q := by
  obtain ⟨i0, hi, hz0, hz1, hz2⟩ := info_parts Try.infoInt
  refine wp_append_lies _ s y 44 ho B 3 i0 (.int .i64 0) 1 8 Try.underlying44 hi hz0 hz1 hz2 rfl (by decide) v xs.length (xs.map (Value.int .i64)) hs (World.ownsRow.alloc hown _) ⟨wr.heap.size, 0, none⟩ 1 1 [.int .i64 x] hy rfl (cell_one_new _ _ _) (by intro u hu; simp at hu; subst hu; rfl) (by decide) (by unfold maxLen; omega) (by omega) (by simp; omega) _ rfl ?_
  intro g cap w' hown' hgrow hat hlt
  refine h g cap w' (by simpa [IRow] using hown') ⟨hgrow.os, hgrow.tape, hgrow.output, ?_, fun k hk hne => ?_⟩ ?_
  · have := hgrow.size; simp at this; omega
  · rw [hgrow.block k (by simp; omega) hne]; exact Below.heap_alloc wr _ k hk
  · rcases hat with hat | hat
    · exact .inl hat
    · right; rw [hat]; simp
set_option maxHeartbeats 8000000 in
theorem l3Wrong_any (R p : Nat) (al : Int) (a1 : Option Addr) (n1 c1 : Nat) (a2 : Option Addr) (n2 c2 : Nat) (xss : List (List Int)) (bs : List Bool) (w : World) (hr : RdOk R p w) (hp : p ≤ 900000) (h : MV w (.slice a1 n1 c1) xss) (hb : BV w (.slice a2 n2 c2) bs) (hxl : xss.length ≤ 100) (hbl : bs.length ≤ 100) (hxx : ∀ l ∈ xss, l.length ≤ 100) :
    Calls Try.prog 72 #[.pointer (some ⟨R, 0, none⟩), .agg #[.int .i64 al, .slice a1 n1 c1, .slice a2 n2 c2]] w (DA R p 10 120 w) := by
  have hRlt := hr.lt
  have hX0 := own_cells w #[.int .i64 al, .slice a1 n1 c1, .slice a2 n2 c2] 28 3 rfl
  have hb0 := below_newA w 28 #[.int .i64 al, .slice a1 n1 c1, .slice a2 n2 c2]
  go_enter Try.func72, Try.ntmps72
  go_wp2_with fail
  obtain ⟨w0, hw0⟩ : ∃ w0, w.alloc (.cells #[.int .i64 al, .slice a1 n1 c1, .slice a2 n2 c2] 28) = w0 := ⟨_, rfl⟩
  have hs0 : w0.heap.size = w.heap.size + 1 := by rw [← hw0]; simp
  rw [hw0] at hX0 hb0 ⊢
  clear hw0
  obtain ⟨Z, hZ1⟩ : ∃ Z, w0.heap.size = Z := ⟨_, rfl⟩
  have hb1 := below_newA w0 28 #[.int .i64 0, .slice none 0 0, .slice none 0 0]
  have hz1 := own_cells w0 #[.int .i64 0, .slice none 0 0, .slice none 0 0] 28 3 rfl
  obtain ⟨w1, hw1⟩ : ∃ w1, w0.alloc (.cells #[.int .i64 0, .slice none 0 0, .slice none 0 0] 28) = w1 := ⟨_, rfl⟩
  have hs1 : w1.heap.size = Z + 1 := by rw [← hw1, ← hZ1]; simp
  rw [hw1] at hb1 hz1 ⊢
  clear hw1
  rw [hZ1] at hz1
  have hZ2 : w.heap.size + 1 = Z := by omega
  rw [hZ2]
  have hb01 : Below w.heap.size w w1 := hb0.trans (hb1.mono (by omega))
  refine (specCopy_own al a1 n1 c1 a2 n2 c2 xss bs w1 (MV.below h hb01) (BV.below hb hb01) hxl hbl hxx).mono ?_
  rintro e w2 ⟨a3, n3, c3, a4, n4, c4, us, rfl, hax, hb2⟩
  have hr2 := (hr.below hb01).below hb2
  have hz2 := rowIs_below hz1 hb2
  have hs2 := own_cells w2 #[.int .i64 al, .slice a3 n3 c3, .slice a4 n4 c4] 28 3 rfl
  have hb3 := below_newA w2 28 #[.int .i64 al, .slice a3 n3 c3, .slice a4 n4 c4]
  have hlt2 := hb2.size
  obtain ⟨S, hS⟩ : ∃ S, w2.heap.size = S := ⟨_, rfl⟩
  obtain ⟨w3, hw3⟩ : ∃ w3, w2.alloc (.cells #[.int .i64 al, .slice a3 n3 c3, .slice a4 n4 c4] 28) = w3 := ⟨_, rfl⟩
  rw [hw3] at hs2 hb3
  rw [hS] at hs2
  have haq : AQ (some R) Z S al w0 w3 (.slice a3 n3 c3) (.slice a4 n4 c4) us xss bs := ⟨(hax.base (by omega)).below hb3, grown_below (some R) ((hb1.trans (hb2.mono (by omega))).trans (hb3.mono (by omega))), rowIs_below hz2 hb3, hs2, hZ1, by omega, fun r hr => by injection hr with hr; omega⟩
  have hn3 : n3 = us.length := by obtain ⟨a, c, e⟩ := own_shape haq.1.1.1; injection e
  have hn4 : n4 = bs.length := by obtain ⟨a, c, e⟩ := own_shape haq.1.2; injection e
  obtain ⟨q0, q1, q2⟩ := haq.cells
  have hux : us.length = xss.length := haq.1.1.2.1
  have HAQ := Lib.hid haq
  have HR := Lib.hid (hr2.below hb3)
  have HG0 := Lib.hid (grown_below (some R) hb0)
  clear hax haq hb3 hs2 hr2 hz2 hb2 hr hb01 hz1 hb1 hb0 hX0 h hb
  have HXX := Lib.hid hxx; clear hxx
  have HN4 := Lib.hid hn4; clear hn4
  have HN3 := Lib.hid hn3; clear hn3
  have HUX := Lib.hid hux; clear hux
  go_wp2_with fail
  refine (pick_any R p n3 w3 HR.out (by omega)).mono ?_
  rintro e w4 ⟨k, rfl, hk, hk0, hr4, hg4⟩
  have haq4 := HAQ.out.pick hg4
  have HR4 := Lib.hid hr4
  clear HAQ HR hr4 hg4 q0 q1 q2
  go_wp2_with fail
  refine (pick_any R (p + 1) 30 w4 HR4.out (by omega)).mono ?_
  rintro e w5 ⟨y, rfl, -, -, hr5, hg5⟩
  have haq5 := haq4.pick hg5
  obtain ⟨q0, q1, q2⟩ := haq5.cells
  have HAQ := Lib.hid haq5
  have HR := Lib.hid hr5
  clear haq4 haq5 HR4 hr5 hg5
  have hk0' : 0 ≤ k := by
    by_cases hn : 0 < n3
    · exact (hk (by omega)).1
    · rw [hk0 (by omega)]; exact Int.le_refl _
  obtain ⟨k, rfl⟩ := Int.eq_ofNat_of_zero_le hk0'
  have hkn : 0 < n3 → k < n3 := fun hn => by have := (hk (by omega)).2; omega
  clear hk hk0 hk0'

  have HXL := Lib.hid (show xss.length ≤ 120 by omega)
  have HBL := Lib.hid (show bs.length ≤ 120 by omega)
  have HX1 := HXX
  have HXX := Lib.hid (show ∀ l ∈ xss, l.length ≤ 120 from fun l hl => Nat.le_trans (HX1.out l hl) (by decide))
  by_cases hy0 : y = 0
  · subst hy0
    go_wp2_with fail
    refine (num_lit R (p + 1 + 1) [64, -1, 1, 63, 0] _ _ w5 rfl HR.out (by omega) 5 rfl (by omega) (by omega)).mono ?_
    rintro e w6 ⟨j6, x, -, -, rfl, p6, hp6, hr6, hg6⟩
    have haq6 := HAQ.out.pick hg6
    have s0 := haq6.cells.1
    have sf := haq6.2.2.2.1.frozen 0
    have hn := haq6.next (j := 0) (u := .int .i64 x) (al' := x) haq6.1 (Chg.refl Z w6) (fun j hj => by
      obtain rfl | rfl | rfl : j = 0 ∨ j = 1 ∨ j = 2 := by omega
      all_goals rfl)
    obtain ⟨w7, hw7⟩ : ∃ w7, w6.setCell ⟨S, 0, none⟩ (.int .i64 x) = w7 := ⟨_, rfl⟩
    rw [hw7] at hn
    clear HAQ q0 q1 q2
    have HAQ := Lib.hid hn.1
    have HR := Lib.hid (hn.2 p6 R (by omega) hr6)
    clear hn haq6 hg6 hr6
    have hz := HAQ.out.2.2.1
    have z0 : w7.cell? ⟨Z, 0, none⟩ = some (.int .i64 0) := hz.cell (by decide)
    have z1 : w7.cell? ⟨Z, 1, none⟩ = some (.slice none 0 0) := hz.cell (by decide)
    have z2 : w7.cell? ⟨Z, 2, none⟩ = some (.slice none 0 0) := hz.cell (by decide)
    have zf0 := hz.frozen 0
    have zf1 := hz.frozen 1
    have zf2 := hz.frozen 2
    obtain ⟨q0, q1, q2⟩ := HAQ.out.cells
    clear hz
    go_wp2
    have hfin := HAQ.out.fin
    obtain ⟨wf, hwf⟩ : ∃ wf, (((w7.setCell ⟨Z, 0, none⟩ (.int .i64 x)).setCell ⟨Z, 1, none⟩ (.slice a3 n3 c3)).setCell ⟨Z, 2, none⟩ (.slice a4 n4 c4)) = wf := ⟨_, rfl⟩
    rw [hwf] at hfin ⊢
    clear hwf
    obtain ⟨d1, d2, d3, d4⟩ := hfin
    have f0 : wf.cell? ⟨Z, 0, none⟩ = some (.int .i64 x) := d3.cell (by decide)
    have f1 : wf.cell? ⟨Z, 1, none⟩ = some (.slice a3 n3 c3) := d3.cell (by decide)
    have f2 : wf.cell? ⟨Z, 2, none⟩ = some (.slice a4 n4 c4) := d3.cell (by decide)
    refine bodyPost_ret (v := .agg #[.int .i64 x, .slice a3 n3 c3, .slice a4 n4 c4]) ?_ rfl ?_
    · simp [results, Try.results72, go_sem, f0, f1, f2]
    · exact ⟨_, _, _, _, _, _, _, _, _, _, rfl, d1.1.base (by omega), d1.2.base (by omega), HXL.out, HBL.out, HXX.out, ⟨p6, by omega, d4 R (p6) (by omega) HR.out, grown_trans HG0.out d2⟩⟩
  by_cases hy1 : y = 1
  · subst hy1
    have hb6 : bs.length ≤ 1000000 := by omega
    have hZ5 := HAQ.out.low
    go_wp2_with (at_builtin; refine appL_bool w5 Z rfl _ _ rfl true (.slice a4 n4 c4) bs rfl HAQ.out.1.2 rfl hb6 hZ5 ?_)
    intro ao m cap w6 hm hown hkept
    subst hm
    have hs6 := HAQ.out.box2 hkept
    have s2 : w6.cell? ⟨S, 2, none⟩ = some (.slice a4 n4 c4) := hs6.cell (by decide)
    have sf := hs6.frozen 2
    have hn := HAQ.out.app2 hkept (show TRow Z w6 (.slice ao (bs.length + 1) cap) (bs ++ [true]) by unfold TRow; simpa using hown)
    obtain ⟨w7, hw7⟩ : ∃ w7, w6.setCell ⟨S, 2, none⟩ (.slice ao (bs.length + 1) cap) = w7 := ⟨_, rfl⟩
    rw [hw7] at hn
    have HR7 := Lib.hid (hn.2 _ R (by omega) HR.out)
    clear HAQ HR q0 q1 q2 hs6 hown hkept HBL
    have HAQ := Lib.hid hn.1
    have HR := HR7
    have HBL := Lib.hid (show (bs ++ [true]).length ≤ 120 by simp; omega)
    clear hn
    have hz := HAQ.out.2.2.1
    have z0 : w7.cell? ⟨Z, 0, none⟩ = some (.int .i64 0) := hz.cell (by decide)
    have z1 : w7.cell? ⟨Z, 1, none⟩ = some (.slice none 0 0) := hz.cell (by decide)
    have z2 : w7.cell? ⟨Z, 2, none⟩ = some (.slice none 0 0) := hz.cell (by decide)
    have zf0 := hz.frozen 0
    have zf1 := hz.frozen 1
    have zf2 := hz.frozen 2
    obtain ⟨q0, q1, q2⟩ := HAQ.out.cells
    clear hz
    go_wp2
    have hfin := HAQ.out.fin
    obtain ⟨wf, hwf⟩ : ∃ wf, (((w7.setCell ⟨Z, 0, none⟩ (.int .i64 al)).setCell ⟨Z, 1, none⟩ (.slice a3 n3 c3)).setCell ⟨Z, 2, none⟩ (.slice ao (bs.length + 1) cap)) = wf := ⟨_, rfl⟩
    rw [hwf] at hfin ⊢
    clear hwf
    obtain ⟨d1, d2, d3, d4⟩ := hfin
    have f0 : wf.cell? ⟨Z, 0, none⟩ = some (.int .i64 al) := d3.cell (by decide)
    have f1 : wf.cell? ⟨Z, 1, none⟩ = some (.slice a3 n3 c3) := d3.cell (by decide)
    have f2 : wf.cell? ⟨Z, 2, none⟩ = some (.slice ao (bs.length + 1) cap) := d3.cell (by decide)
    refine bodyPost_ret (v := .agg #[.int .i64 al, .slice a3 n3 c3, .slice ao (bs.length + 1) cap]) ?_ rfl ?_
    · simp [results, Try.results72, go_sem, f0, f1, f2]
    · exact ⟨_, _, _, _, _, _, _, _, _, _, rfl, d1.1.base (by omega), d1.2.base (by omega), HXL.out, HBL.out, HXX.out, ⟨p + 1 + 1, by omega, d4 R (p + 1 + 1) (by omega) HR.out, grown_trans HG0.out d2⟩⟩
  by_cases hy2 : y = 2
  · subst hy2
    by_cases hn0 : 0 < n3
    · have hkn3 := hkn hn0
      have hku : k < us.length := by have := HN3.out; omega
      obtain ⟨g1, cg, hv1, hcg, hcm, hcl, hfz⟩ := HAQ.out.1.form1 (by omega)
      injection hv1 with e1 e2 e3
      subst e1 e3
      have hck := hcl k hku
      have hru := HAQ.out.1.1.2.2.1 k hku
      obtain ⟨⟨ar, cr, hu, hcr, hmr⟩, -⟩ := hru.form
      obtain ⟨x, hx⟩ : ∃ x, xAt xss k = x := ⟨_, rfl⟩
      have hxm : x.length ≤ 100 := by rw [← hx]; exact HX1.out _ (xAt_mem _ _ (by have := HUX.out; omega))
      rw [hx] at hu hru hcr
      rw [hu] at hck
      have HRU := Lib.hid hru; clear hru
      have HU := Lib.hid hu; clear hu
      have HX := Lib.hid hx; clear hx
      have hkn' : (k : Int) < (n3 : Int) := by omega
      clear hcl hfz e2
      have HSX := Lib.hid q1
      have hckd : w5.drew.cell? ⟨g1, k, none⟩ = some (.slice ar x.length cr) := hck
      have hcke := keep_cellA (below_newA w5 3 #[.int .i64 0]) hck
      have hqe := keep_cellA (below_newA w5 3 #[.int .i64 0]) q1
      have hZ5 := HAQ.out.low
      go_wp2_with fail
      refine wp_region_held_drew (S := fun w' => w'.cell? ⟨S, 1, none⟩ = some (.slice (some ⟨g1, 0, none⟩) n3 c3)) (by kernel_rfl) HSX.out (fun hHeld => ?_)
      first | (refine wpAnyH_take (i := 0) (get_of_drop rfl) (by kernel_rfl) (by kernel_rfl) (by kernel_rfl) (fun _ _ _ h => h) (Or.inr ⟨?_, rfl⟩) hHeld ?_; (focus (simp [Region.wanted, yielded, undef]; done)); (try simp only [Act.put, List.setIfInBounds_toArray, List.set_cons_zero, List.set_cons_succ])) | (refine wpAnyH_take (i := 0) (v := ?_) (get_of_drop rfl) (by kernel_rfl) (by kernel_rfl) (by kernel_rfl) (fun _ _ _ h => h) (Or.inl ⟨?_, ?_⟩) hHeld ?_; rotate_left; (focus rfl); (focus (intro w hSw; (try dsimp only at hSw); go_simp; (try (with_reducible rfl)))); (try simp only [Act.put, List.setIfInBounds_toArray, List.set_cons_zero, List.set_cons_succ]))
      first | (refine wpAnyH_take (i := 1) (get_of_drop rfl) (by kernel_rfl) (by kernel_rfl) (by kernel_rfl) (fun _ _ _ h => h) (Or.inr ⟨?_, rfl⟩) hHeld ?_; (focus (simp [Region.wanted, yielded, undef]; done)); (try simp only [Act.put, List.setIfInBounds_toArray, List.set_cons_zero, List.set_cons_succ])) | (refine wpAnyH_take (i := 1) (v := ?_) (get_of_drop rfl) (by kernel_rfl) (by kernel_rfl) (by kernel_rfl) (fun _ _ _ h => h) (Or.inl ⟨?_, ?_⟩) hHeld ?_; rotate_left; (focus rfl); (focus (intro w hSw; (try dsimp only at hSw); go_simp; (try (with_reducible rfl)))); (try simp only [Act.put, List.setIfInBounds_toArray, List.set_cons_zero, List.set_cons_succ]))
      first | (refine wpAnyH_take (i := 2) (get_of_drop rfl) (by kernel_rfl) (by kernel_rfl) (by kernel_rfl) (fun _ _ _ h => h) (Or.inr ⟨?_, rfl⟩) hHeld ?_; (focus (simp [Region.wanted, yielded, undef]; done)); (try simp only [Act.put, List.setIfInBounds_toArray, List.set_cons_zero, List.set_cons_succ])) | (refine wpAnyH_take (i := 2) (v := ?_) (get_of_drop rfl) (by kernel_rfl) (by kernel_rfl) (by kernel_rfl) (fun _ _ _ h => h) (Or.inl ⟨?_, ?_⟩) hHeld ?_; rotate_left; (focus rfl); (focus (intro w hSw; (try dsimp only at hSw); go_simp; (try (with_reducible rfl)))); (try simp only [Act.put, List.setIfInBounds_toArray, List.set_cons_zero, List.set_cons_succ]))
      first | (refine wpAnyH_take (i := 3) (get_of_drop rfl) (by kernel_rfl) (by kernel_rfl) (by kernel_rfl) (fun _ _ _ h => h) (Or.inr ⟨?_, rfl⟩) hHeld ?_; (focus (simp [Region.wanted, yielded, undef]; done)); (try simp only [Act.put, List.setIfInBounds_toArray, List.set_cons_zero, List.set_cons_succ])) | (refine wpAnyH_take (i := 3) (v := ?_) (get_of_drop rfl) (by kernel_rfl) (by kernel_rfl) (by kernel_rfl) (fun _ _ _ h => h) (Or.inl ⟨?_, ?_⟩) hHeld ?_; rotate_left; (focus rfl); (focus (intro w hSw; (try dsimp only at hSw); go_simp; (try (with_reducible rfl)))); (try simp only [Act.put, List.setIfInBounds_toArray, List.set_cons_zero, List.set_cons_succ]))
      first | (refine wpAnyH_take (i := 4) (get_of_drop rfl) (by kernel_rfl) (by kernel_rfl) (by kernel_rfl) (fun _ _ _ h => h) (Or.inr ⟨?_, rfl⟩) hHeld ?_; (focus (simp [Region.wanted, yielded, undef]; done)); (try simp only [Act.put, List.setIfInBounds_toArray, List.set_cons_zero, List.set_cons_succ])) | (refine wpAnyH_take (i := 4) (v := ?_) (get_of_drop rfl) (by kernel_rfl) (by kernel_rfl) (by kernel_rfl) (fun _ _ _ h => h) (Or.inl ⟨?_, ?_⟩) hHeld ?_; rotate_left; (focus rfl); (focus (intro w hSw; (try dsimp only at hSw); go_simp; (try (with_reducible rfl)))); (try simp only [Act.put, List.setIfInBounds_toArray, List.set_cons_zero, List.set_cons_succ]))
      first | (refine wpAnyH_take (i := 5) (get_of_drop rfl) (by kernel_rfl) (by kernel_rfl) (by kernel_rfl) (fun _ _ _ h => h) (Or.inr ⟨?_, rfl⟩) hHeld ?_; (focus (simp [Region.wanted, yielded, undef]; done)); (try simp only [Act.put, List.setIfInBounds_toArray, List.set_cons_zero, List.set_cons_succ])) | (refine wpAnyH_take (i := 5) (v := ?_) (get_of_drop rfl) (by kernel_rfl) (by kernel_rfl) (by kernel_rfl) (fun _ _ _ h => h) (Or.inl ⟨?_, ?_⟩) hHeld ?_; rotate_left; (focus rfl); (focus (intro w hSw; (try dsimp only at hSw); go_simp; (try (with_reducible rfl)))); (try simp only [Act.put, List.setIfInBounds_toArray, List.set_cons_zero, List.set_cons_succ]))
      first | (refine wpAnyH_take (i := 6) (get_of_drop rfl) (by kernel_rfl) (by kernel_rfl) (by kernel_rfl) (fun _ _ _ h => h) (Or.inr ⟨?_, rfl⟩) hHeld ?_; (focus (simp [Region.wanted, yielded, undef]; done)); (try simp only [Act.put, List.setIfInBounds_toArray, List.set_cons_zero, List.set_cons_succ])) | (refine wpAnyH_take (i := 6) (v := ?_) (get_of_drop rfl) (by kernel_rfl) (by kernel_rfl) (by kernel_rfl) (fun _ _ _ h => h) (Or.inl ⟨?_, ?_⟩) hHeld ?_; rotate_left; (focus rfl); (focus (intro w hSw; (try dsimp only at hSw); go_simp; (try (with_reducible rfl)))); (try simp only [Act.put, List.setIfInBounds_toArray, List.set_cons_zero, List.set_cons_succ]))
      refine wpAnyH_ready (rs := [7, 8]) (by kernel_rfl) (by simp) ?_
      refine AllReadyH.cons (get_of_drop rfl) (fun K hK => ?_) ?_
      · go_simp
        refine hK.out _ _ HSX.out (fun hHeld => ?_)
        clear hK K
        try simp only [Act.put, List.setIfInBounds_toArray, List.set_cons_zero, List.set_cons_succ]
        refine wpAnyH_ready (rs := [8]) (by kernel_rfl) (by simp) ?_
        refine AllReadyH.cons (get_of_drop rfl) (fun K hK => ?_) AllReadyH.nil
        go_simp
        refine hK.out _ _ hqe (fun hHeld => ?_)
        clear hK K
        try simp only [Act.put, List.setIfInBounds_toArray, List.set_cons_zero, List.set_cons_succ]
        refine wpAnyH_ready (rs := [9]) (by kernel_rfl) (by simp) ?_
        refine AllReadyH.cons (get_of_drop rfl) (fun K hK => ?_) AllReadyH.nil
        rw [if_pos (by rfl)]
        refine appK_int_lies w5.drew Z _ _ rfl 0 (.slice ar x.length cr) x rfl (by have := HRU.out; rw [HU.out] at this; exact this) rfl (by omega) hZ5 ?_
        intro gn cn w6 hrow hgr hat
        have hgr' : w5.drew.grownBy w6 (uAt us k).ownBlock := by rw [HU.out]; exact hgr
        have hrk : IRow Z w5.drew (uAt us k) (xAt xss k) := HAQ.out.drew.1.1.2.2.1 k hku
        have hc6 : Chg Z w5.drew w6 := Chg.own hgr' hrk (by decide) hZ5
        have hs6 := hc6.box HAQ.out.drew.2.2.2.1
        have s1 : w6.cell? ⟨S, 1, none⟩ = some (.slice (some ⟨g1, 0, none⟩) n3 c3) := hs6.cell (by decide)
        have hown6 := HAQ.out.drew.1.1.1.kept hgr' (own_apart HAQ.out.drew.1.1.1 hrk (by decide))
        rw [HN3.out] at hown6
        have h6c := World.ownsRow.cellAt hown6 k (by omega)
        rw [List.getElem?_eq_getElem hku] at h6c
        have h6f := World.ownsRow.frozenAt hown6 k
        have haq7 := HAQ.out.drew.keep (HAQ.out.drew.1.put (H := 0) (i := k) (u' := .slice (some ⟨gn, 0, none⟩) (x.length + 1) cn) HN3.out hku hZ5 hgr' hrow (by
          rcases hat with hat | hat
          · left; rw [HU.out, hat]; rfl
          · right; exact ⟨gn, hat, rfl⟩)).1 (HAQ.out.drew.1.put (H := 0) (i := k) (u' := .slice (some ⟨gn, 0, none⟩) (x.length + 1) cn) HN3.out hku hZ5 hgr' hrow (by
          rcases hat with hat | hat
          · left; rw [HU.out, hat]; rfl
          · right; exact ⟨gn, hat, rfl⟩)).2
        refine hK.out _ _ s1 (fun hHeld => ?_)
        clear hK K
        try simp only [Act.put, List.setIfInBounds_toArray, List.set_cons_zero, List.set_cons_succ]
        first | (refine wpAnyH_take (i := 10) (get_of_drop rfl) (by kernel_rfl) (by kernel_rfl) (by kernel_rfl) (fun _ _ _ h => h) (Or.inr ⟨?_, rfl⟩) hHeld ?_; (focus (simp [Region.wanted, yielded, undef]; done)); (try simp only [Act.put, List.setIfInBounds_toArray, List.set_cons_zero, List.set_cons_succ])) | (refine wpAnyH_take (i := 10) (v := ?_) (get_of_drop rfl) (by kernel_rfl) (by kernel_rfl) (by kernel_rfl) (fun _ _ _ h => h) (Or.inl ⟨?_, ?_⟩) hHeld ?_; rotate_left; (focus rfl); (focus (intro w hSw; (try dsimp only at hSw); go_simp; (try (with_reducible rfl)))); (try simp only [Act.put, List.setIfInBounds_toArray, List.set_cons_zero, List.set_cons_succ]))
        refine wpAnyH_ready (rs := [11]) (by kernel_rfl) (by simp) ?_
        refine AllReadyH.cons (get_of_drop rfl) (fun K hK => ?_) AllReadyH.nil
        obtain ⟨w7, hw7⟩ : ∃ w7, w6.setCell ⟨g1, k, none⟩ (.slice (some ⟨gn, 0, none⟩) (x.length + 1) cn) = w7 := ⟨_, rfl⟩
        rw [hw7] at haq7
        have HR7 := Lib.hid (haq7.2 _ R (by omega) (HR.out.drewN 1))
        have HAQ7 := Lib.hid haq7.1
        clear haq7 hown6 hs6 hc6 hrk hgr' hgr hat hrow
        go_simp
        refine hK.out _ _ HAQ7.out.cells.2.1 (fun hHeld => ?_)
        clear hK K
        try simp only [Act.put, List.setIfInBounds_toArray, List.set_cons_zero, List.set_cons_succ]
        refine wpAnyH_done (by kernel_rfl) ?_ _
        have HAQ := HAQ7
        have HR := HR7
        have hxs := lens_set (N := 120) (i := k) (x := x ++ [0]) HXX.out (by simp; omega)
        have hxl2 : (xss.set k (x ++ [0])).length ≤ 120 := by simp; omega
        clear HXX HXL
        have HXX := Lib.hid hxs
        have HXL := Lib.hid hxl2
        clear q0 q1 q2 hck hckd hcke hqe s1 h6c h6f HAQ7 HR7
        have hz := HAQ.out.2.2.1
        have z0 : w7.cell? ⟨Z, 0, none⟩ = some (.int .i64 0) := hz.cell (by decide)
        have z1 : w7.cell? ⟨Z, 1, none⟩ = some (.slice none 0 0) := hz.cell (by decide)
        have z2 : w7.cell? ⟨Z, 2, none⟩ = some (.slice none 0 0) := hz.cell (by decide)
        have zf0 := hz.frozen 0
        have zf1 := hz.frozen 1
        have zf2 := hz.frozen 2
        obtain ⟨q0, q1, q2⟩ := HAQ.out.cells
        clear hz
        go_wp2
        have hfin := HAQ.out.fin
        obtain ⟨wf, hwf⟩ : ∃ wf, (((w7.setCell ⟨Z, 0, none⟩ (.int .i64 al)).setCell ⟨Z, 1, none⟩ (.slice (some ⟨g1, 0, none⟩) n3 c3)).setCell ⟨Z, 2, none⟩ (.slice a4 n4 c4)) = wf := ⟨_, rfl⟩
        rw [hwf] at hfin ⊢
        clear hwf
        obtain ⟨d1, d2, d3, d4⟩ := hfin
        have f0 : wf.cell? ⟨Z, 0, none⟩ = some (.int .i64 al) := d3.cell (by decide)
        have f1 : wf.cell? ⟨Z, 1, none⟩ = some (.slice (some ⟨g1, 0, none⟩) n3 c3) := d3.cell (by decide)
        have f2 : wf.cell? ⟨Z, 2, none⟩ = some (.slice a4 n4 c4) := d3.cell (by decide)
        refine bodyPost_ret (v := .agg #[.int .i64 al, .slice (some ⟨g1, 0, none⟩) n3 c3, .slice a4 n4 c4]) ?_ rfl ?_
        · simp [results, Try.results72, go_sem, f0, f1, f2]
        · exact ⟨_, _, _, _, _, _, _, _, _, _, rfl, d1.1.base (by omega), d1.2.base (by omega), HXL.out, HBL.out, HXX.out, ⟨p + 1 + 1, by omega, d4 R (p + 1 + 1) (by omega) HR.out, grown_trans HG0.out d2⟩⟩
      · refine AllReadyH.cons (get_of_drop rfl) (fun K hK => ?_) AllReadyH.nil
        go_simp
        refine hK.out _ _ hqe (fun hHeld => ?_)
        clear hK K
        try simp only [Act.put, List.setIfInBounds_toArray, List.set_cons_zero, List.set_cons_succ]
        refine wpAnyH_ready (rs := [7]) (by kernel_rfl) (by simp) ?_
        refine AllReadyH.cons (get_of_drop rfl) (fun K hK => ?_) AllReadyH.nil
        go_simp
        refine hK.out _ _ hqe (fun hHeld => ?_)
        clear hK K
        try simp only [Act.put, List.setIfInBounds_toArray, List.set_cons_zero, List.set_cons_succ]
        refine wpAnyH_ready (rs := [9]) (by kernel_rfl) (by simp) ?_
        refine AllReadyH.cons (get_of_drop rfl) (fun K hK => ?_) AllReadyH.nil
        rw [if_pos (by rfl)]
        refine appK_int_lies w5.drew Z _ _ rfl 0 (.slice ar x.length cr) x rfl (by have := HRU.out; rw [HU.out] at this; exact this) rfl (by omega) hZ5 ?_
        intro gn cn w6 hrow hgr hat
        have hgr' : w5.drew.grownBy w6 (uAt us k).ownBlock := by rw [HU.out]; exact hgr
        have hrk : IRow Z w5.drew (uAt us k) (xAt xss k) := HAQ.out.drew.1.1.2.2.1 k hku
        have hc6 : Chg Z w5.drew w6 := Chg.own hgr' hrk (by decide) hZ5
        have hs6 := hc6.box HAQ.out.drew.2.2.2.1
        have s1 : w6.cell? ⟨S, 1, none⟩ = some (.slice (some ⟨g1, 0, none⟩) n3 c3) := hs6.cell (by decide)
        have hown6 := HAQ.out.drew.1.1.1.kept hgr' (own_apart HAQ.out.drew.1.1.1 hrk (by decide))
        rw [HN3.out] at hown6
        have h6c := World.ownsRow.cellAt hown6 k (by omega)
        rw [List.getElem?_eq_getElem hku] at h6c
        have h6f := World.ownsRow.frozenAt hown6 k
        have haq7 := HAQ.out.drew.keep (HAQ.out.drew.1.put (H := 0) (i := k) (u' := .slice (some ⟨gn, 0, none⟩) (x.length + 1) cn) HN3.out hku hZ5 hgr' hrow (by
          rcases hat with hat | hat
          · left; rw [HU.out, hat]; rfl
          · right; exact ⟨gn, hat, rfl⟩)).1 (HAQ.out.drew.1.put (H := 0) (i := k) (u' := .slice (some ⟨gn, 0, none⟩) (x.length + 1) cn) HN3.out hku hZ5 hgr' hrow (by
          rcases hat with hat | hat
          · left; rw [HU.out, hat]; rfl
          · right; exact ⟨gn, hat, rfl⟩)).2
        refine hK.out _ _ s1 (fun hHeld => ?_)
        clear hK K
        try simp only [Act.put, List.setIfInBounds_toArray, List.set_cons_zero, List.set_cons_succ]
        first | (refine wpAnyH_take (i := 10) (get_of_drop rfl) (by kernel_rfl) (by kernel_rfl) (by kernel_rfl) (fun _ _ _ h => h) (Or.inr ⟨?_, rfl⟩) hHeld ?_; (focus (simp [Region.wanted, yielded, undef]; done)); (try simp only [Act.put, List.setIfInBounds_toArray, List.set_cons_zero, List.set_cons_succ])) | (refine wpAnyH_take (i := 10) (v := ?_) (get_of_drop rfl) (by kernel_rfl) (by kernel_rfl) (by kernel_rfl) (fun _ _ _ h => h) (Or.inl ⟨?_, ?_⟩) hHeld ?_; rotate_left; (focus rfl); (focus (intro w hSw; (try dsimp only at hSw); go_simp; (try (with_reducible rfl)))); (try simp only [Act.put, List.setIfInBounds_toArray, List.set_cons_zero, List.set_cons_succ]))
        refine wpAnyH_ready (rs := [11]) (by kernel_rfl) (by simp) ?_
        refine AllReadyH.cons (get_of_drop rfl) (fun K hK => ?_) AllReadyH.nil
        obtain ⟨w7, hw7⟩ : ∃ w7, w6.setCell ⟨g1, k, none⟩ (.slice (some ⟨gn, 0, none⟩) (x.length + 1) cn) = w7 := ⟨_, rfl⟩
        rw [hw7] at haq7
        have HR7 := Lib.hid (haq7.2 _ R (by omega) (HR.out.drewN 1))
        have HAQ7 := Lib.hid haq7.1
        clear haq7 hown6 hs6 hc6 hrk hgr' hgr hat hrow
        go_simp
        refine hK.out _ _ HAQ7.out.cells.2.1 (fun hHeld => ?_)
        clear hK K
        try simp only [Act.put, List.setIfInBounds_toArray, List.set_cons_zero, List.set_cons_succ]
        refine wpAnyH_done (by kernel_rfl) ?_ _
        have HAQ := HAQ7
        have HR := HR7
        have hxs := lens_set (N := 120) (i := k) (x := x ++ [0]) HXX.out (by simp; omega)
        have hxl2 : (xss.set k (x ++ [0])).length ≤ 120 := by simp; omega
        clear HXX HXL
        have HXX := Lib.hid hxs
        have HXL := Lib.hid hxl2
        clear q0 q1 q2 hck hckd hcke hqe s1 h6c h6f HAQ7 HR7
        have hz := HAQ.out.2.2.1
        have z0 : w7.cell? ⟨Z, 0, none⟩ = some (.int .i64 0) := hz.cell (by decide)
        have z1 : w7.cell? ⟨Z, 1, none⟩ = some (.slice none 0 0) := hz.cell (by decide)
        have z2 : w7.cell? ⟨Z, 2, none⟩ = some (.slice none 0 0) := hz.cell (by decide)
        have zf0 := hz.frozen 0
        have zf1 := hz.frozen 1
        have zf2 := hz.frozen 2
        obtain ⟨q0, q1, q2⟩ := HAQ.out.cells
        clear hz
        go_wp2
        have hfin := HAQ.out.fin
        obtain ⟨wf, hwf⟩ : ∃ wf, (((w7.setCell ⟨Z, 0, none⟩ (.int .i64 al)).setCell ⟨Z, 1, none⟩ (.slice (some ⟨g1, 0, none⟩) n3 c3)).setCell ⟨Z, 2, none⟩ (.slice a4 n4 c4)) = wf := ⟨_, rfl⟩
        rw [hwf] at hfin ⊢
        clear hwf
        obtain ⟨d1, d2, d3, d4⟩ := hfin
        have f0 : wf.cell? ⟨Z, 0, none⟩ = some (.int .i64 al) := d3.cell (by decide)
        have f1 : wf.cell? ⟨Z, 1, none⟩ = some (.slice (some ⟨g1, 0, none⟩) n3 c3) := d3.cell (by decide)
        have f2 : wf.cell? ⟨Z, 2, none⟩ = some (.slice a4 n4 c4) := d3.cell (by decide)
        refine bodyPost_ret (v := .agg #[.int .i64 al, .slice (some ⟨g1, 0, none⟩) n3 c3, .slice a4 n4 c4]) ?_ rfl ?_
        · simp [results, Try.results72, go_sem, f0, f1, f2]
        · exact ⟨_, _, _, _, _, _, _, _, _, _, rfl, d1.1.base (by omega), d1.2.base (by omega), HXL.out, HBL.out, HXX.out, ⟨p + 1 + 1, by omega, d4 R (p + 1 + 1) (by omega) HR.out, grown_trans HG0.out d2⟩⟩
    · have hn0' : ¬ (0 : Int) < (n3 : Int) := by omega
      have hz := HAQ.out.2.2.1
      have z0 : w5.cell? ⟨Z, 0, none⟩ = some (.int .i64 0) := hz.cell (by decide)
      have z1 : w5.cell? ⟨Z, 1, none⟩ = some (.slice none 0 0) := hz.cell (by decide)
      have z2 : w5.cell? ⟨Z, 2, none⟩ = some (.slice none 0 0) := hz.cell (by decide)
      have zf0 := hz.frozen 0
      have zf1 := hz.frozen 1
      have zf2 := hz.frozen 2
      obtain ⟨q0, q1, q2⟩ := HAQ.out.cells
      clear hz
      go_wp2
      have hfin := HAQ.out.fin
      obtain ⟨wf, hwf⟩ : ∃ wf, (((w5.setCell ⟨Z, 0, none⟩ (.int .i64 al)).setCell ⟨Z, 1, none⟩ (.slice a3 n3 c3)).setCell ⟨Z, 2, none⟩ (.slice a4 n4 c4)) = wf := ⟨_, rfl⟩
      rw [hwf] at hfin ⊢
      clear hwf
      obtain ⟨d1, d2, d3, d4⟩ := hfin
      have f0 : wf.cell? ⟨Z, 0, none⟩ = some (.int .i64 al) := d3.cell (by decide)
      have f1 : wf.cell? ⟨Z, 1, none⟩ = some (.slice a3 n3 c3) := d3.cell (by decide)
      have f2 : wf.cell? ⟨Z, 2, none⟩ = some (.slice a4 n4 c4) := d3.cell (by decide)
      refine bodyPost_ret (v := .agg #[.int .i64 al, .slice a3 n3 c3, .slice a4 n4 c4]) ?_ rfl ?_
      · simp [results, Try.results72, go_sem, f0, f1, f2]
      · exact ⟨_, _, _, _, _, _, _, _, _, _, rfl, d1.1.base (by omega), d1.2.base (by omega), HXL.out, HBL.out, HXX.out, ⟨p + 1 + 1, by omega, d4 R (p + 1 + 1) (by omega) HR.out, grown_trans HG0.out d2⟩⟩
  by_cases hy3 : y = 3
  · subst hy3
    by_cases hn0 : 0 < n3
    · have hkn3 := hkn hn0
      have hku : k < us.length := by have := HN3.out; omega
      obtain ⟨g1, cg, hv1, hcg, hcm, hcl, hfz⟩ := HAQ.out.1.form1 (by omega)
      injection hv1 with e1 e2 e3
      subst e1 e3
      have hck := hcl k hku
      have hru := HAQ.out.1.1.2.2.1 k hku
      obtain ⟨⟨ar, cr, hu, hcr, hmr⟩, hform⟩ := hru.form
      obtain ⟨x, hx⟩ : ∃ x, xAt xss k = x := ⟨_, rfl⟩
      have hxm : x.length ≤ 100 := by rw [← hx]; exact HX1.out _ (xAt_mem _ _ (by have := HUX.out; omega))
      rw [hx] at hu hru hcr hform
      rw [hu] at hck
      have hkn' : (k : Int) < (n3 : Int) := by omega
      have hn0' : (0 : Int) < (n3 : Int) := by omega
      by_cases hx0 : 0 < x.length
      · obtain ⟨gr, cr', hu', -, -, -, -⟩ := hform hx0
        rw [hu] at hu'
        injection hu' with e4 e5 e6
        subst e4 e6
        have hx0' : (0 : Int) < (x.length : Int) := by omega
        have HRU := Lib.hid hru; clear hru
        have HU := Lib.hid hu; clear hu
        have HX := Lib.hid hx; clear hx
        clear hcl hfz e2 e5 hform
        go_wp2_with fail
        refine (pick_any R (p + 1 + 1) x.length w5 HR.out (by omega)).mono ?_
        rintro e w6 ⟨j, rfl, hj, -, hr6, hg6⟩
        obtain ⟨hj0, hj1⟩ := hj (by omega)
        obtain ⟨j, rfl⟩ := Int.eq_ofNat_of_zero_le hj0
        have hjx : j < x.length := by omega
        have haq6 := HAQ.out.pick hg6
        have q61 : w6.cell? ⟨S, 1, none⟩ = some (.slice (some ⟨g1, 0, none⟩) n3 c3) := haq6.cells.2.1
        have ho6 := haq6.1.1.1
        rw [← HN3.out] at ho6
        have ck6 : w6.cell? ⟨g1, k, none⟩ = some (.slice (some ⟨gr, 0, none⟩) x.length cr) := by
          rw [World.ownsRow.cellAt ho6 k (by omega), List.getElem?_eq_getElem hku, ← HU.out]
          unfold uAt
          rw [List.getElem?_eq_getElem hku]; rfl
        have HAQ6 := Lib.hid haq6
        have HR6 := Lib.hid hr6; clear hr6
        have HO6 := Lib.hid ho6; clear ho6
        clear hj hg6 haq6 q0 q1 q2 hck HAQ HR
        have HS6 := Lib.hid (show ∀ w' : World, Below w6.heap.size w6 w' → w'.cell? ⟨S, 1, none⟩ = some (.slice (some ⟨g1, 0, none⟩) n3 c3) ∧ w'.cell? ⟨g1, k, none⟩ = some (.slice (some ⟨gr, 0, none⟩) x.length cr) from fun w' hb => ⟨keep_cellA hb q61, keep_cellA hb ck6⟩)
        have hjx' : (j : Int) < (x.length : Int) := by omega
        go_wp2_with fail
        refine wp_region_held_drew (S := fun w' => w'.cell? ⟨S, 1, none⟩ = some (.slice (some ⟨g1, 0, none⟩) n3 c3) ∧ w'.cell? ⟨g1, k, none⟩ = some (.slice (some ⟨gr, 0, none⟩) x.length cr)) (by kernel_rfl) (HS6.out _ (Below.refl _ _).drew) (fun hHeld => ?_)
        first | (refine wpAnyH_take (i := 0) (get_of_drop rfl) (by kernel_rfl) (by kernel_rfl) (by kernel_rfl) (fun _ _ _ h => h) (Or.inr ⟨?_, rfl⟩) hHeld ?_; (focus (simp [Region.wanted, yielded, undef]; done)); (try simp only [Act.put, List.setIfInBounds_toArray, List.set_cons_zero, List.set_cons_succ])) | (refine wpAnyH_take (i := 0) (v := ?_) (get_of_drop rfl) (by kernel_rfl) (by kernel_rfl) (by kernel_rfl) (fun _ _ _ h => h) (Or.inl ⟨?_, ?_⟩) hHeld ?_; rotate_left; (focus rfl); (focus (intro w hSw; (try dsimp only at hSw); go_simp; (try (with_reducible rfl)))); (try simp only [Act.put, List.setIfInBounds_toArray, List.set_cons_zero, List.set_cons_succ]))
        first | (refine wpAnyH_take (i := 1) (get_of_drop rfl) (by kernel_rfl) (by kernel_rfl) (by kernel_rfl) (fun _ _ _ h => h) (Or.inr ⟨?_, rfl⟩) hHeld ?_; (focus (simp [Region.wanted, yielded, undef]; done)); (try simp only [Act.put, List.setIfInBounds_toArray, List.set_cons_zero, List.set_cons_succ])) | (refine wpAnyH_take (i := 1) (v := ?_) (get_of_drop rfl) (by kernel_rfl) (by kernel_rfl) (by kernel_rfl) (fun _ _ _ h => h) (Or.inl ⟨?_, ?_⟩) hHeld ?_; rotate_left; (focus rfl); (focus (intro w hSw; (try dsimp only at hSw); go_simp; (try (with_reducible rfl)))); (try simp only [Act.put, List.setIfInBounds_toArray, List.set_cons_zero, List.set_cons_succ]))
        first | (refine wpAnyH_take (i := 2) (get_of_drop rfl) (by kernel_rfl) (by kernel_rfl) (by kernel_rfl) (fun _ _ _ h => h) (Or.inr ⟨?_, rfl⟩) hHeld ?_; (focus (simp [Region.wanted, yielded, undef]; done)); (try simp only [Act.put, List.setIfInBounds_toArray, List.set_cons_zero, List.set_cons_succ])) | (refine wpAnyH_take (i := 2) (v := ?_) (get_of_drop rfl) (by kernel_rfl) (by kernel_rfl) (by kernel_rfl) (fun _ _ _ h => h) (Or.inl ⟨?_, ?_⟩) hHeld ?_; rotate_left; (focus rfl); (focus (intro w hSw; (try dsimp only at hSw); go_simp; (try (with_reducible rfl)))); (try simp only [Act.put, List.setIfInBounds_toArray, List.set_cons_zero, List.set_cons_succ]))
        first | (refine wpAnyH_take (i := 3) (get_of_drop rfl) (by kernel_rfl) (by kernel_rfl) (by kernel_rfl) (fun _ _ _ h => h) (Or.inr ⟨?_, rfl⟩) hHeld ?_; (focus (simp [Region.wanted, yielded, undef]; done)); (try simp only [Act.put, List.setIfInBounds_toArray, List.set_cons_zero, List.set_cons_succ])) | (refine wpAnyH_take (i := 3) (v := ?_) (get_of_drop rfl) (by kernel_rfl) (by kernel_rfl) (by kernel_rfl) (fun _ _ _ h => h) (Or.inl ⟨?_, ?_⟩) hHeld ?_; rotate_left; (focus rfl); (focus (intro w hSw; (try dsimp only at hSw); go_simp; (try (with_reducible rfl)))); (try simp only [Act.put, List.setIfInBounds_toArray, List.set_cons_zero, List.set_cons_succ]))
        first | (refine wpAnyH_take (i := 4) (get_of_drop rfl) (by kernel_rfl) (by kernel_rfl) (by kernel_rfl) (fun _ _ _ h => h) (Or.inr ⟨?_, rfl⟩) hHeld ?_; (focus (simp [Region.wanted, yielded, undef]; done)); (try simp only [Act.put, List.setIfInBounds_toArray, List.set_cons_zero, List.set_cons_succ])) | (refine wpAnyH_take (i := 4) (v := ?_) (get_of_drop rfl) (by kernel_rfl) (by kernel_rfl) (by kernel_rfl) (fun _ _ _ h => h) (Or.inl ⟨?_, ?_⟩) hHeld ?_; rotate_left; (focus rfl); (focus (intro w hSw; (try dsimp only at hSw); go_simp; (try (with_reducible rfl)))); (try simp only [Act.put, List.setIfInBounds_toArray, List.set_cons_zero, List.set_cons_succ]))
        first | (refine wpAnyH_take (i := 5) (get_of_drop rfl) (by kernel_rfl) (by kernel_rfl) (by kernel_rfl) (fun _ _ _ h => h) (Or.inr ⟨?_, rfl⟩) hHeld ?_; (focus (simp [Region.wanted, yielded, undef]; done)); (try simp only [Act.put, List.setIfInBounds_toArray, List.set_cons_zero, List.set_cons_succ])) | (refine wpAnyH_take (i := 5) (v := ?_) (get_of_drop rfl) (by kernel_rfl) (by kernel_rfl) (by kernel_rfl) (fun _ _ _ h => h) (Or.inl ⟨?_, ?_⟩) hHeld ?_; rotate_left; (focus rfl); (focus (intro w hSw; (try dsimp only at hSw); go_simp; (try (with_reducible rfl)))); (try simp only [Act.put, List.setIfInBounds_toArray, List.set_cons_zero, List.set_cons_succ]))
        first | (refine wpAnyH_take (i := 6) (get_of_drop rfl) (by kernel_rfl) (by kernel_rfl) (by kernel_rfl) (fun _ _ _ h => h) (Or.inr ⟨?_, rfl⟩) hHeld ?_; (focus (simp [Region.wanted, yielded, undef]; done)); (try simp only [Act.put, List.setIfInBounds_toArray, List.set_cons_zero, List.set_cons_succ])) | (refine wpAnyH_take (i := 6) (v := ?_) (get_of_drop rfl) (by kernel_rfl) (by kernel_rfl) (by kernel_rfl) (fun _ _ _ h => h) (Or.inl ⟨?_, ?_⟩) hHeld ?_; rotate_left; (focus rfl); (focus (intro w hSw; (try dsimp only at hSw); go_simp; (try (with_reducible rfl)))); (try simp only [Act.put, List.setIfInBounds_toArray, List.set_cons_zero, List.set_cons_succ]))
        first | (refine wpAnyH_take (i := 7) (get_of_drop rfl) (by kernel_rfl) (by kernel_rfl) (by kernel_rfl) (fun _ _ _ h => h) (Or.inr ⟨?_, rfl⟩) hHeld ?_; (focus (simp [Region.wanted, yielded, undef]; done)); (try simp only [Act.put, List.setIfInBounds_toArray, List.set_cons_zero, List.set_cons_succ])) | (refine wpAnyH_take (i := 7) (v := ?_) (get_of_drop rfl) (by kernel_rfl) (by kernel_rfl) (by kernel_rfl) (fun _ _ _ h => h) (Or.inl ⟨?_, ?_⟩) hHeld ?_; rotate_left; (focus rfl); (focus (intro w hSw; (try dsimp only at hSw); go_simp; (try (with_reducible rfl)))); (try simp only [Act.put, List.setIfInBounds_toArray, List.set_cons_zero, List.set_cons_succ]))
        first | (refine wpAnyH_take (i := 8) (get_of_drop rfl) (by kernel_rfl) (by kernel_rfl) (by kernel_rfl) (fun _ _ _ h => h) (Or.inr ⟨?_, rfl⟩) hHeld ?_; (focus (simp [Region.wanted, yielded, undef]; done)); (try simp only [Act.put, List.setIfInBounds_toArray, List.set_cons_zero, List.set_cons_succ])) | (refine wpAnyH_take (i := 8) (v := ?_) (get_of_drop rfl) (by kernel_rfl) (by kernel_rfl) (by kernel_rfl) (fun _ _ _ h => h) (Or.inl ⟨?_, ?_⟩) hHeld ?_; rotate_left; (focus rfl); (focus (intro w hSw; (try dsimp only at hSw); go_simp; (try (with_reducible rfl)))); (try simp only [Act.put, List.setIfInBounds_toArray, List.set_cons_zero, List.set_cons_succ]))
        first | (refine wpAnyH_take (i := 9) (get_of_drop rfl) (by kernel_rfl) (by kernel_rfl) (by kernel_rfl) (fun _ _ _ h => h) (Or.inr ⟨?_, rfl⟩) hHeld ?_; (focus (simp [Region.wanted, yielded, undef]; done)); (try simp only [Act.put, List.setIfInBounds_toArray, List.set_cons_zero, List.set_cons_succ])) | (refine wpAnyH_take (i := 9) (v := ?_) (get_of_drop rfl) (by kernel_rfl) (by kernel_rfl) (by kernel_rfl) (fun _ _ _ h => h) (Or.inl ⟨?_, ?_⟩) hHeld ?_; rotate_left; (focus rfl); (focus (intro w hSw; (try dsimp only at hSw); go_simp; (try (with_reducible rfl)))); (try simp only [Act.put, List.setIfInBounds_toArray, List.set_cons_zero, List.set_cons_succ]))
        refine wpAnyH_ready (rs := [10]) (by kernel_rfl) (by simp) ?_
        refine AllReadyH.cons (get_of_drop rfl) (fun K hK => ?_) AllReadyH.nil
        go_simp
        refine hK.out _ _ (HS6.out _ ((Below.refl w6.heap.size w6).drew.alloc (Nat.le_refl _) _)) (fun hHeld => ?_)
        clear hK K
        try simp only [Act.put, List.setIfInBounds_toArray, List.set_cons_zero, List.set_cons_succ]
        refine wpAnyH_ready (rs := [11]) (by kernel_rfl) (by simp) ?_
        refine AllReadyH.cons (get_of_drop rfl) (fun K hK => ?_) AllReadyH.nil
        go_simp
        go_at_call 58
        refine (num_lit R (p + 1 + 1 + 1) [-1, (n3 : Int), IntKind.i64.wrap ((n3 : Int) - 1), 0] _ _ w6.drew rfl (HR6.out.drewN 1) (by omega) 4 rfl (by omega) (by omega)).mono ?_
        rintro e w7 ⟨j7, z, -, -, rfl, p7, hp7, hr7, hg7⟩
        have haq7 := HAQ6.out.drew.pick hg7
        have q71 : w7.cell? ⟨S, 1, none⟩ = some (.slice (some ⟨g1, 0, none⟩) n3 c3) := haq7.cells.2.1
        have hox : ∀ wq : World, wq.ownsRow Z 44 1 (.slice (some ⟨g1, 0, none⟩) n3 c3) n3 us → wq.cell? ⟨g1, k, none⟩ = some (.slice (some ⟨gr, 0, none⟩) x.length cr) := fun wq ho => by
          rw [World.ownsRow.cellAt ho k (by omega), List.getElem?_eq_getElem hku, ← HU.out]
          unfold uAt
          rw [List.getElem?_eq_getElem hku]; rfl
        have ho7 := haq7.1.1.1
        rw [← HN3.out] at ho7
        have ck7 := hox w7 ho7
        have hr7k := haq7.1.1.2.2.1 k hku
        rw [HU.out, HX.out] at hr7k
        have hg7c := World.ownsRow.cellAt (show w7.ownsRow Z 3 1 (.slice (some ⟨gr, 0, none⟩) x.length cr) x.length (x.map (Value.int .i64)) from hr7k) j (by omega)
        rw [List.getElem?_eq_getElem (by simpa using hjx)] at hg7c
        have hg7f := World.ownsRow.frozenAt (show w7.ownsRow Z 3 1 (.slice (some ⟨gr, 0, none⟩) x.length cr) x.length (x.map (Value.int .i64)) from hr7k) j
        obtain ⟨hax8, hc8⟩ := haq7.1.num (i := k) (j := j) (x := z) hku HU.out (by rw [HX.out]) haq7.low
        obtain ⟨haq8, hrd8⟩ := haq7.keep hax8 hc8
        have ho8 := haq8.1.1.1
        rw [← HN3.out] at ho8
        have ck8 := hox _ ho8
        have HAQ8 := Lib.hid haq8
        have HR8 := Lib.hid (hrd8 p7 R (by omega) hr7)
        have HS7 := Lib.hid (show w7.cell? ⟨S, 1, none⟩ = some (.slice (some ⟨g1, 0, none⟩) n3 c3) ∧ w7.cell? ⟨g1, k, none⟩ = some (.slice (some ⟨gr, 0, none⟩) x.length cr) from ⟨q71, ck7⟩)
        have HC8 := Lib.hid ck8
        clear haq7 hg7 ho7 hr7k hax8 hc8 haq8 hrd8 ho8 hox ck8 q71 ck7
        go_wp2_with fail
        refine hK.out _ _ HS7.out (fun hHeld => ?_)
        clear hK K
        try simp only [Act.put, List.setIfInBounds_toArray, List.set_cons_zero, List.set_cons_succ]
        first | (refine wpAnyH_take (i := 12) (get_of_drop rfl) (by kernel_rfl) (by kernel_rfl) (by kernel_rfl) (fun _ _ _ h => h) (Or.inr ⟨?_, rfl⟩) hHeld ?_; (focus (simp [Region.wanted, yielded, undef]; done)); (try simp only [Act.put, List.setIfInBounds_toArray, List.set_cons_zero, List.set_cons_succ])) | (refine wpAnyH_take (i := 12) (v := ?_) (get_of_drop rfl) (by kernel_rfl) (by kernel_rfl) (by kernel_rfl) (fun _ _ _ h => h) (Or.inl ⟨?_, ?_⟩) hHeld ?_; rotate_left; (focus rfl); (focus (intro w hSw; (try dsimp only at hSw); go_simp; (try (with_reducible rfl)))); (try simp only [Act.put, List.setIfInBounds_toArray, List.set_cons_zero, List.set_cons_succ]))
        refine wpAnyH_ready (rs := [13]) (by kernel_rfl) (by simp) ?_
        refine AllReadyH.cons (get_of_drop rfl) (fun K hK => ?_) AllReadyH.nil
        go_simp
        refine hK.out _ _ ⟨HAQ8.out.cells.2.1, HC8.out⟩ (fun hHeld => ?_)
        clear hK K
        try simp only [Act.put, List.setIfInBounds_toArray, List.set_cons_zero, List.set_cons_succ]
        refine wpAnyH_done (by kernel_rfl) ?_ _
        have HAQ := HAQ8
        have HR := HR8
        have HC9 := HC8
        clear HAQ8 HR8 HC8 HS7 hg7c hg7f HS6 HAQ6 HR6 HO6 q61 ck6
        have hxs := lens_set (N := 120) (i := k) (x := (xAt xss k).set j z) HXX.out (by rw [HX.out, List.length_set]; omega)
        have hxl2 : (xss.set k ((xAt xss k).set j z)).length ≤ 120 := by rw [List.length_set]; omega
        clear HXX HXL HC9
        have HXX := Lib.hid hxs
        have HXL := Lib.hid hxl2
        clear hxs hxl2
        obtain ⟨w8, hw8⟩ : ∃ w8, w7.setCell ⟨gr, j, none⟩ (.int .i64 z) = w8 := ⟨_, rfl⟩
        rw [hw8] at HAQ HR
        have hz := HAQ.out.2.2.1
        have z0 : w8.cell? ⟨Z, 0, none⟩ = some (.int .i64 0) := hz.cell (by decide)
        have z1 : w8.cell? ⟨Z, 1, none⟩ = some (.slice none 0 0) := hz.cell (by decide)
        have z2 : w8.cell? ⟨Z, 2, none⟩ = some (.slice none 0 0) := hz.cell (by decide)
        have zf0 := hz.frozen 0
        have zf1 := hz.frozen 1
        have zf2 := hz.frozen 2
        obtain ⟨q0, q1, q2⟩ := HAQ.out.cells
        clear hz
        go_wp2
        have hfin := HAQ.out.fin
        obtain ⟨wf, hwf⟩ : ∃ wf, (((w8.setCell ⟨Z, 0, none⟩ (.int .i64 al)).setCell ⟨Z, 1, none⟩ (.slice (some ⟨g1, 0, none⟩) n3 c3)).setCell ⟨Z, 2, none⟩ (.slice a4 n4 c4)) = wf := ⟨_, rfl⟩
        rw [hwf] at hfin ⊢
        clear hwf
        obtain ⟨d1, d2, d3, d4⟩ := hfin
        have f0 : wf.cell? ⟨Z, 0, none⟩ = some (.int .i64 al) := d3.cell (by decide)
        have f1 : wf.cell? ⟨Z, 1, none⟩ = some (.slice (some ⟨g1, 0, none⟩) n3 c3) := d3.cell (by decide)
        have f2 : wf.cell? ⟨Z, 2, none⟩ = some (.slice a4 n4 c4) := d3.cell (by decide)
        refine bodyPost_ret (v := .agg #[.int .i64 al, .slice (some ⟨g1, 0, none⟩) n3 c3, .slice a4 n4 c4]) ?_ rfl ?_
        · simp [results, Try.results72, go_sem, f0, f1, f2]
        · exact ⟨_, _, _, _, _, _, _, _, _, _, rfl, d1.1.base (by omega), d1.2.base (by omega), HXL.out, HBL.out, HXX.out, ⟨p7, by omega, d4 R (p7) (by omega) HR.out, grown_trans HG0.out d2⟩⟩
      · have hx0' : ¬ (0 : Int) < (x.length : Int) := by omega
        clear hcl hfz hru hu hx hform e2
        have hz := HAQ.out.2.2.1
        have z0 : w5.cell? ⟨Z, 0, none⟩ = some (.int .i64 0) := hz.cell (by decide)
        have z1 : w5.cell? ⟨Z, 1, none⟩ = some (.slice none 0 0) := hz.cell (by decide)
        have z2 : w5.cell? ⟨Z, 2, none⟩ = some (.slice none 0 0) := hz.cell (by decide)
        have zf0 := hz.frozen 0
        have zf1 := hz.frozen 1
        have zf2 := hz.frozen 2
        obtain ⟨q0, q1, q2⟩ := HAQ.out.cells
        clear hz
        go_wp2
        have hfin := HAQ.out.fin
        obtain ⟨wf, hwf⟩ : ∃ wf, (((w5.setCell ⟨Z, 0, none⟩ (.int .i64 al)).setCell ⟨Z, 1, none⟩ (.slice (some ⟨g1, 0, none⟩) n3 c3)).setCell ⟨Z, 2, none⟩ (.slice a4 n4 c4)) = wf := ⟨_, rfl⟩
        rw [hwf] at hfin ⊢
        clear hwf
        obtain ⟨d1, d2, d3, d4⟩ := hfin
        have f0 : wf.cell? ⟨Z, 0, none⟩ = some (.int .i64 al) := d3.cell (by decide)
        have f1 : wf.cell? ⟨Z, 1, none⟩ = some (.slice (some ⟨g1, 0, none⟩) n3 c3) := d3.cell (by decide)
        have f2 : wf.cell? ⟨Z, 2, none⟩ = some (.slice a4 n4 c4) := d3.cell (by decide)
        refine bodyPost_ret (v := .agg #[.int .i64 al, .slice (some ⟨g1, 0, none⟩) n3 c3, .slice a4 n4 c4]) ?_ rfl ?_
        · simp [results, Try.results72, go_sem, f0, f1, f2]
        · exact ⟨_, _, _, _, _, _, _, _, _, _, rfl, d1.1.base (by omega), d1.2.base (by omega), HXL.out, HBL.out, HXX.out, ⟨p + 1 + 1, by omega, d4 R (p + 1 + 1) (by omega) HR.out, grown_trans HG0.out d2⟩⟩
    · have hn0' : ¬ (0 : Int) < (n3 : Int) := by omega
      have hz := HAQ.out.2.2.1
      have z0 : w5.cell? ⟨Z, 0, none⟩ = some (.int .i64 0) := hz.cell (by decide)
      have z1 : w5.cell? ⟨Z, 1, none⟩ = some (.slice none 0 0) := hz.cell (by decide)
      have z2 : w5.cell? ⟨Z, 2, none⟩ = some (.slice none 0 0) := hz.cell (by decide)
      have zf0 := hz.frozen 0
      have zf1 := hz.frozen 1
      have zf2 := hz.frozen 2
      obtain ⟨q0, q1, q2⟩ := HAQ.out.cells
      clear hz
      go_wp2
      have hfin := HAQ.out.fin
      obtain ⟨wf, hwf⟩ : ∃ wf, (((w5.setCell ⟨Z, 0, none⟩ (.int .i64 al)).setCell ⟨Z, 1, none⟩ (.slice a3 n3 c3)).setCell ⟨Z, 2, none⟩ (.slice a4 n4 c4)) = wf := ⟨_, rfl⟩
      rw [hwf] at hfin ⊢
      clear hwf
      obtain ⟨d1, d2, d3, d4⟩ := hfin
      have f0 : wf.cell? ⟨Z, 0, none⟩ = some (.int .i64 al) := d3.cell (by decide)
      have f1 : wf.cell? ⟨Z, 1, none⟩ = some (.slice a3 n3 c3) := d3.cell (by decide)
      have f2 : wf.cell? ⟨Z, 2, none⟩ = some (.slice a4 n4 c4) := d3.cell (by decide)
      refine bodyPost_ret (v := .agg #[.int .i64 al, .slice a3 n3 c3, .slice a4 n4 c4]) ?_ rfl ?_
      · simp [results, Try.results72, go_sem, f0, f1, f2]
      · exact ⟨_, _, _, _, _, _, _, _, _, _, rfl, d1.1.base (by omega), d1.2.base (by omega), HXL.out, HBL.out, HXX.out, ⟨p + 1 + 1, by omega, d4 R (p + 1 + 1) (by omega) HR.out, grown_trans HG0.out d2⟩⟩
  by_cases hy4 : y = 4
  · subst hy4
    have haq5 := HAQ.out
    have hb6 := below_newA w5 44 #[]
    have hro6 := RO.none Z w5 haq5.low
    obtain ⟨g6, hg6⟩ : ∃ g6, w5.heap.size = g6 := ⟨_, rfl⟩
    obtain ⟨w6, hw6⟩ : ∃ w6, w5.alloc (.cells #[] 44) = w6 := ⟨_, rfl⟩
    rw [hw6] at hb6 hro6
    rw [hg6] at hro6
    have hs6 := rowIs_below haq5.2.2.2.1 hb6
    have s1 : w6.cell? ⟨S, 1, none⟩ = some (.slice a3 n3 c3) := hs6.cell (by decide)
    have sf1 := hs6.frozen 1
    obtain ⟨haq7, hrd7⟩ := haq5.next (j := 1) (u := .slice (some ⟨g6, 0, none⟩) 0 0) (al' := al) (w5 := w6) (v1' := .slice (some ⟨g6, 0, none⟩) 0 0) (us' := []) (xss' := []) ⟨hro6, (haq5.below hb6).1.2⟩ (Chg.below hb6 haq5.low) (fun j hj => by
      obtain rfl | rfl | rfl : j = 0 ∨ j = 1 ∨ j = 2 := by omega
      all_goals rfl)
    obtain ⟨w7, hw7⟩ : ∃ w7, w6.setCell ⟨S, 1, none⟩ (.slice (some ⟨g6, 0, none⟩) 0 0) = w7 := ⟨_, rfl⟩
    rw [hw7] at haq7 hrd7
    have hr7 := hrd7 _ R (by omega) HR.out
    have hb8 := below_newA w7 4 #[]
    have hto8 := trow_empty Z w7 haq7.low
    obtain ⟨g8, hg8⟩ : ∃ g8, w7.heap.size = g8 := ⟨_, rfl⟩
    obtain ⟨w8, hw8⟩ : ∃ w8, w7.alloc (.cells #[] 4) = w8 := ⟨_, rfl⟩
    rw [hw8] at hb8 hto8
    rw [hg8] at hto8
    have hs8 := rowIs_below haq7.2.2.2.1 hb8
    have s2 : w8.cell? ⟨S, 2, none⟩ = some (.slice a4 n4 c4) := hs8.cell (by decide)
    have sf2 := hs8.frozen 2
    obtain ⟨haq9, hrd9⟩ := haq7.next (j := 2) (u := .slice (some ⟨g8, 0, none⟩) 0 0) (al' := al) (w5 := w8) (v2' := .slice (some ⟨g8, 0, none⟩) 0 0) (bs' := []) ⟨(haq7.below hb8).1.1, hto8⟩ (Chg.below hb8 haq7.low) (fun j hj => by
      obtain rfl | rfl | rfl : j = 0 ∨ j = 1 ∨ j = 2 := by omega
      all_goals rfl)
    obtain ⟨w9, hw9⟩ : ∃ w9, w8.setCell ⟨S, 2, none⟩ (.slice (some ⟨g8, 0, none⟩) 0 0) = w9 := ⟨_, rfl⟩
    rw [hw9] at haq9 hrd9
    have HR9 := Lib.hid (hrd9 _ R (by omega) hr7)
    clear HAQ HR q0 q1 q2 haq5 haq7 hrd7 hr7 hrd9 hs6 hs8 hro6 hto8 hb6 hb8 HBL HXL HXX
    have HAQ := Lib.hid haq9
    have HR := HR9
    have HXL := Lib.hid (show ([] : List (List Int)).length ≤ 120 by decide)
    have HBL := Lib.hid (show ([] : List Bool).length ≤ 120 by decide)
    have HXX := Lib.hid (show ∀ l ∈ ([] : List (List Int)), l.length ≤ 120 from fun l hl => by cases hl)
    clear haq9
    have hz := HAQ.out.2.2.1
    have z0 : w9.cell? ⟨Z, 0, none⟩ = some (.int .i64 0) := hz.cell (by decide)
    have z1 : w9.cell? ⟨Z, 1, none⟩ = some (.slice none 0 0) := hz.cell (by decide)
    have z2 : w9.cell? ⟨Z, 2, none⟩ = some (.slice none 0 0) := hz.cell (by decide)
    have zf0 := hz.frozen 0
    have zf1 := hz.frozen 1
    have zf2 := hz.frozen 2
    obtain ⟨q0, q1, q2⟩ := HAQ.out.cells
    clear hz
    go_wp2
    have hfin := HAQ.out.fin
    obtain ⟨wf, hwf⟩ : ∃ wf, (((w9.setCell ⟨Z, 0, none⟩ (.int .i64 al)).setCell ⟨Z, 1, none⟩ (.slice (some ⟨g6, 0, none⟩) 0 0)).setCell ⟨Z, 2, none⟩ (.slice (some ⟨g8, 0, none⟩) 0 0)) = wf := ⟨_, rfl⟩
    rw [hwf] at hfin ⊢
    clear hwf
    obtain ⟨d1, d2, d3, d4⟩ := hfin
    have f0 : wf.cell? ⟨Z, 0, none⟩ = some (.int .i64 al) := d3.cell (by decide)
    have f1 : wf.cell? ⟨Z, 1, none⟩ = some (.slice (some ⟨g6, 0, none⟩) 0 0) := d3.cell (by decide)
    have f2 : wf.cell? ⟨Z, 2, none⟩ = some (.slice (some ⟨g8, 0, none⟩) 0 0) := d3.cell (by decide)
    refine bodyPost_ret (v := .agg #[.int .i64 al, .slice (some ⟨g6, 0, none⟩) 0 0, .slice (some ⟨g8, 0, none⟩) 0 0]) ?_ rfl ?_
    · simp [results, Try.results72, go_sem, f0, f1, f2]
    · exact ⟨_, _, _, _, _, _, _, _, _, _, rfl, d1.1.base (by omega), d1.2.base (by omega), HXL.out, HBL.out, HXX.out, ⟨p + 1 + 1, by omega, d4 R (p + 1 + 1) (by omega) HR.out, grown_trans HG0.out d2⟩⟩
  by_cases hy5 : y = 5
  · subst hy5
    have haq0 := HAQ.out
    have hbl0 : bs.length ≤ 100 + xss.length := by omega
    clear q0 q1 q2
    go_wp2
    go_loopw [89] (fun i wr => ∃ (v1 v2 : Value) (us : List Value) (xss : List (List Int)) (bs : List Bool), AQ (some R) Z S al w0 wr v1 v2 us xss bs ∧ RdOk R (p + 1 + 1) wr ∧ (0 < n3 → 0 < xss.length) ∧ xss.length ≤ 100 ∧ bs.length ≤ 113 ∧ bs.length ≤ 100 + xss.length ∧ (∀ l ∈ xss, l.length ≤ 100)) (fun _ wr => 13 - boxLen S wr)
    case atStart => exact ⟨_, _, us, xss, bs, haq0, HR.out, (by have h1 := HN3.out; have h2 := HUX.out; omega), hxl, by omega, by omega, HX1.out⟩
    case round =>
      clear haq0 HAQ HR HXL HBL HXX HX1 hbl0 hxl hbl HN4 HN3 HUX
      obtain ⟨v1, v2, us, xss, bs, haq, hrd, hpos, hxl, hbl, hbx, hxx⟩ := hrel
      have hux : us.length = xss.length := haq.1.1.2.1
      obtain ⟨q0, q1, q2⟩ := haq.cells
      have HAQ := Lib.hid haq
      have HR := Lib.hid hrd; clear hrd
      have HXX := Lib.hid hxx; clear hxx
      have HUX := Lib.hid hux; clear hux
      by_cases hgo : 0 < n3 ∧ xss.length ≤ 12
      · obtain ⟨hn0, hl12⟩ := hgo
        have hx0 := hpos hn0
        have hn0' : (0 : Int) < (n3 : Int) := by omega
        have hu0 : 0 < us.length := by have := HUX.out; omega
        have hu12 : us.length ≤ 12 := by have := HUX.out; omega
        have hu12' : (us.length : Int) ≤ 12 := by omega
        obtain ⟨g1, cg, rfl, hcg, hcm, hcl, hfz⟩ := haq.1.form1 hu0
        have hck := hcl 0 hu0
        have hru := haq.1.1.2.2.1 0 hu0
        obtain ⟨⟨ar, cr, hu, hcr, hmr⟩, -⟩ := hru.form
        obtain ⟨x, hx⟩ : ∃ x, xAt xss 0 = x := ⟨_, rfl⟩
        have hxm : x.length ≤ 100 := by rw [← hx]; exact HXX.out _ (xAt_mem _ _ hx0)
        rw [hx] at hu hru hcr
        rw [hu] at hck hru
        have HIV := Lib.hid (irow_iv hru)
        have HO1 := Lib.hid q1
        have HLEN := Lib.hid q1
        have HU := Lib.hid hu; clear hu
        have HX := Lib.hid hx; clear hx
        clear hru haq hcl hfz
        go_wp2_with fail
        go_cut [6] from 97 to 107 (fun s6 wc => s6 = .int .i64 n3 ∧ ∃ (v1 : Value) (us' : List Value) (xss' : List (List Int)), AQ (some R) Z S al w0 wc v1 v2 us' xss' bs ∧ RdOk R (p + 1 + 1) wc ∧ us'.length = us.length + 1 ∧ xss'.length = xss.length + 1 ∧ (∀ l ∈ xss', l.length ≤ 100))
        case first =>
          have HBE := Lib.hid (show Below wr.heap.size wr (wr.alloc (.cells #[] 3)).drew from ((Below.refl wr.heap.size wr).alloc (Nat.le_refl _) _).drew)
          have HOE := Lib.hid (show IRow wr.heap.size (wr.alloc (.cells #[] 3)).drew (.slice (some ⟨wr.heap.size, 0, none⟩) 0 0) [] from IRow.empty wr.heap.size wr (Nat.le_refl _))
          have o1e := keep_cellA HBE.out q1
          have g1e := keep_cellA HBE.out hck
          have o1f := keep_cellA (below_newA wr 3 #[]) q1
          have g1f := keep_cellA (below_newA wr 3 #[]) hck
          refine wp_region_held_drew (S := fun _ => True) (by kernel_rfl) trivial (fun hHeld => ?_)
          first | (refine wpAnyH_take (i := 0) (get_of_drop rfl) (by kernel_rfl) (by kernel_rfl) (by kernel_rfl) (fun _ _ _ h => h) (Or.inr ⟨?_, rfl⟩) hHeld ?_; (focus (simp [Region.wanted, yielded, undef]; done)); (try simp only [Act.put, List.setIfInBounds_toArray, List.set_cons_zero, List.set_cons_succ])) | (refine wpAnyH_take (i := 0) (v := ?_) (get_of_drop rfl) (by kernel_rfl) (by kernel_rfl) (by kernel_rfl) (fun _ _ _ h => h) (Or.inl ⟨?_, ?_⟩) hHeld ?_; rotate_left; (focus rfl); (focus (intro w hSw; (try dsimp only at hSw); go_simp; (try (with_reducible rfl)))); (try simp only [Act.put, List.setIfInBounds_toArray, List.set_cons_zero, List.set_cons_succ]))
          first | (refine wpAnyH_take (i := 3) (get_of_drop rfl) (by kernel_rfl) (by kernel_rfl) (by kernel_rfl) (fun _ _ _ h => h) (Or.inr ⟨?_, rfl⟩) hHeld ?_; (focus (simp [Region.wanted, yielded, undef]; done)); (try simp only [Act.put, List.setIfInBounds_toArray, List.set_cons_zero, List.set_cons_succ])) | (refine wpAnyH_take (i := 3) (v := ?_) (get_of_drop rfl) (by kernel_rfl) (by kernel_rfl) (by kernel_rfl) (fun _ _ _ h => h) (Or.inl ⟨?_, ?_⟩) hHeld ?_; rotate_left; (focus rfl); (focus (intro w hSw; (try dsimp only at hSw); go_simp; (try (with_reducible rfl)))); (try simp only [Act.put, List.setIfInBounds_toArray, List.set_cons_zero, List.set_cons_succ]))
          refine wpAnyH_ready (rs := [1, 2, 4]) (by kernel_rfl) (by simp) ?_
          refine AllReadyH.cons (get_of_drop rfl) (fun K hK => ?_) ?_
          · go_simp
            refine hK.out _ _ trivial (fun hHeld => ?_)
            clear hK K
            try simp only [Act.put, List.setIfInBounds_toArray, List.set_cons_zero, List.set_cons_succ]
            refine wpAnyH_ready (rs := [2, 4]) (by kernel_rfl) (by simp) ?_
            refine AllReadyH.cons (get_of_drop rfl) (fun K hK => ?_) ?_
            · go_simp
              refine hK.out _ _ trivial (fun hHeld => ?_)
              clear hK K
              try simp only [Act.put, List.setIfInBounds_toArray, List.set_cons_zero, List.set_cons_succ]
              refine wpAnyH_ready (rs := [4]) (by kernel_rfl) (by simp) ?_
              refine AllReadyH.cons (get_of_drop rfl) (fun K hK => ?_) AllReadyH.nil
              go_simp
              refine hK.out _ _ trivial (fun hHeld => ?_)
              clear hK K
              try simp only [Act.put, List.setIfInBounds_toArray, List.set_cons_zero, List.set_cons_succ]
              first | (refine wpAnyH_take (i := 5) (get_of_drop rfl) (by kernel_rfl) (by kernel_rfl) (by kernel_rfl) (fun _ _ _ h => h) (Or.inr ⟨?_, rfl⟩) hHeld ?_; (focus (simp [Region.wanted, yielded, undef]; done)); (try simp only [Act.put, List.setIfInBounds_toArray, List.set_cons_zero, List.set_cons_succ])) | (refine wpAnyH_take (i := 5) (v := ?_) (get_of_drop rfl) (by kernel_rfl) (by kernel_rfl) (by kernel_rfl) (fun _ _ _ h => h) (Or.inl ⟨?_, ?_⟩) hHeld ?_; rotate_left; (focus rfl); (focus (intro w hSw; (try dsimp only at hSw); go_simp; (try (with_reducible rfl)))); (try simp only [Act.put, List.setIfInBounds_toArray, List.set_cons_zero, List.set_cons_succ]))
              refine wpAnyH_ready (rs := [6]) (by kernel_rfl) (by simp) ?_
              refine AllReadyH.cons (get_of_drop rfl) (fun K hK => ?_) AllReadyH.nil
              go_simp
              refine hK.out _ _ trivial (fun hHeld => ?_)
              clear hK K
              try simp only [Act.put, List.setIfInBounds_toArray, List.set_cons_zero, List.set_cons_succ]
              refine wpAnyH_ready (rs := [7]) (by kernel_rfl) (by simp) ?_
              refine AllReadyH.cons (get_of_drop rfl) (fun K hK => ?_) AllReadyH.nil
              rw [if_pos (by rfl)]
              refine wp_app_iv _ x wr.heap.size wr.heap.size _ _ rfl rfl HOE.out ar x.length cr rfl (IV.below HIV.out HBE.out) (by omega) HBE.out.size ?_
              intro ax cx w9 hown hkept
              have hb9 := hkept.1 wr HBE.out
              clear hkept
              refine hK.out _ _ trivial (fun hHeld => ?_)
              clear hK K
              try simp only [Act.put, List.setIfInBounds_toArray, List.set_cons_zero, List.set_cons_succ]
              have o19 := keep_cellA hb9 HO1.out
              have o1x := keep_cellA (below_newA w9 44 #[.slice ax x.length cx]) o19
              have o1y := keep_cellA ((below_newA w9 44 #[.slice ax x.length cx]).drew) o19
              refine wpAnyH_ready (rs := [8]) (by kernel_rfl) (by simp) ?_
              refine AllReadyH.cons (get_of_drop rfl) (fun K hK => ?_) AllReadyH.nil
              go_simp
              refine hK.out _ _ trivial (fun hHeld => ?_)
              clear hK K
              try simp only [Act.put, List.setIfInBounds_toArray, List.set_cons_zero, List.set_cons_succ]
              refine wpAnyH_ready (rs := [9]) (by kernel_rfl) (by simp) ?_
              refine AllReadyH.cons (get_of_drop rfl) (fun K hK => ?_) AllReadyH.nil
              rw [if_pos (by rfl)]
              have hq9 := HAQ.out.below hb9
              have hun : w9.ownsRow Z 44 1 (.slice (some ⟨g1, 0, none⟩) us.length cg) us.length (us.map id) := by rw [List.map_id]; exact hq9.1.1.1
              have HQ9 := Lib.hid hq9
              have HUN := Lib.hid hun; clear hun
              have HROW := Lib.hid (hown.base HAQ.out.low)
              have HRLO := Lib.hid (fun g hg => (World.ownsRow.lt hown g hg).1)
              have HR9 := Lib.hid (HR.out.below hb9)
              have hZ9 := HQ9.out.low
              clear hq9
              refine appK_rows w9 Z rfl _ _ rfl (.slice ax x.length cx) rfl (.slice (some ⟨g1, 0, none⟩) us.length cg) us rfl HUN.out rfl (by omega) hZ9 ?_
              intro ao1 m1 cap1 w8 hm1 hown8 hkept8
              subst hm1
              refine hK.out _ _ trivial (fun hHeld => ?_)
              clear hK K
              try simp only [Act.put, List.setIfInBounds_toArray, List.set_cons_zero, List.set_cons_succ]
              first | (refine wpAnyH_take (i := 10) (get_of_drop rfl) (by kernel_rfl) (by kernel_rfl) (by kernel_rfl) (fun _ _ _ h => h) (Or.inr ⟨?_, rfl⟩) hHeld ?_; (focus (simp [Region.wanted, yielded, undef]; done)); (try simp only [Act.put, List.setIfInBounds_toArray, List.set_cons_zero, List.set_cons_succ])) | (refine wpAnyH_take (i := 10) (v := ?_) (get_of_drop rfl) (by kernel_rfl) (by kernel_rfl) (by kernel_rfl) (fun _ _ _ h => h) (Or.inl ⟨?_, ?_⟩) hHeld ?_; rotate_left; (focus rfl); (focus (intro w hSw; (try dsimp only at hSw); go_simp; (try (with_reducible rfl)))); (try simp only [Act.put, List.setIfInBounds_toArray, List.set_cons_zero, List.set_cons_succ]))
              refine wpAnyH_ready (rs := [11]) (by kernel_rfl) (by simp) ?_
              refine AllReadyH.cons (get_of_drop rfl) (fun K hK => ?_) AllReadyH.nil
              have hs8 := HQ9.out.box1 hkept8
              have s1 : w8.cell? ⟨S, 1, none⟩ = some (.slice (some ⟨g1, 0, none⟩) us.length cg) := hs8.cell (by decide)
              have s2 := hs8.frozen 1
              have hd8 := HQ9.out.app1 (x := x) HROW.out HAQ.out.lt HRLO.out hkept8 (by simpa using hown8)
              have HD8 := Lib.hid hd8.1
              have HR8 := Lib.hid (hd8.2 _ R (by omega) HR9.out)
              clear hs8 hkept8 hown8 hown hb9 hd8
              go_simp
              refine hK.out _ _ trivial (fun hHeld => ?_)
              clear hK K
              try simp only [Act.put, List.setIfInBounds_toArray, List.set_cons_zero, List.set_cons_succ]
              refine wpAnyH_done (by kernel_rfl) ?_ _
              go_wp2_with fail
              go_meet
              case rel => exact ⟨rfl, _, _, _, HD8.out, HR8.out, by simp, by simp, lens_push HXX.out hxm⟩
            refine AllReadyH.cons (get_of_drop rfl) (fun K hK => ?_) AllReadyH.nil
            go_simp
            refine hK.out _ _ trivial (fun hHeld => ?_)
            clear hK K
            try simp only [Act.put, List.setIfInBounds_toArray, List.set_cons_zero, List.set_cons_succ]
            first | (refine wpAnyH_take (i := 5) (get_of_drop rfl) (by kernel_rfl) (by kernel_rfl) (by kernel_rfl) (fun _ _ _ h => h) (Or.inr ⟨?_, rfl⟩) hHeld ?_; (focus (simp [Region.wanted, yielded, undef]; done)); (try simp only [Act.put, List.setIfInBounds_toArray, List.set_cons_zero, List.set_cons_succ])) | (refine wpAnyH_take (i := 5) (v := ?_) (get_of_drop rfl) (by kernel_rfl) (by kernel_rfl) (by kernel_rfl) (fun _ _ _ h => h) (Or.inl ⟨?_, ?_⟩) hHeld ?_; rotate_left; (focus rfl); (focus (intro w hSw; (try dsimp only at hSw); go_simp; (try (with_reducible rfl)))); (try simp only [Act.put, List.setIfInBounds_toArray, List.set_cons_zero, List.set_cons_succ]))
            refine wpAnyH_ready (rs := [2, 6]) (by kernel_rfl) (by simp) ?_
            refine AllReadyH.cons (get_of_drop rfl) (fun K hK => ?_) ?_
            · go_simp
              refine hK.out _ _ trivial (fun hHeld => ?_)
              clear hK K
              try simp only [Act.put, List.setIfInBounds_toArray, List.set_cons_zero, List.set_cons_succ]
              refine wpAnyH_ready (rs := [6]) (by kernel_rfl) (by simp) ?_
              refine AllReadyH.cons (get_of_drop rfl) (fun K hK => ?_) AllReadyH.nil
              go_simp
              refine hK.out _ _ trivial (fun hHeld => ?_)
              clear hK K
              try simp only [Act.put, List.setIfInBounds_toArray, List.set_cons_zero, List.set_cons_succ]
              refine wpAnyH_ready (rs := [7]) (by kernel_rfl) (by simp) ?_
              refine AllReadyH.cons (get_of_drop rfl) (fun K hK => ?_) AllReadyH.nil
              rw [if_pos (by rfl)]
              refine wp_app_iv _ x wr.heap.size wr.heap.size _ _ rfl rfl HOE.out ar x.length cr rfl (IV.below HIV.out HBE.out) (by omega) HBE.out.size ?_
              intro ax cx w9 hown hkept
              have hb9 := hkept.1 wr HBE.out
              clear hkept
              refine hK.out _ _ trivial (fun hHeld => ?_)
              clear hK K
              try simp only [Act.put, List.setIfInBounds_toArray, List.set_cons_zero, List.set_cons_succ]
              have o19 := keep_cellA hb9 HO1.out
              have o1x := keep_cellA (below_newA w9 44 #[.slice ax x.length cx]) o19
              have o1y := keep_cellA ((below_newA w9 44 #[.slice ax x.length cx]).drew) o19
              refine wpAnyH_ready (rs := [8]) (by kernel_rfl) (by simp) ?_
              refine AllReadyH.cons (get_of_drop rfl) (fun K hK => ?_) AllReadyH.nil
              go_simp
              refine hK.out _ _ trivial (fun hHeld => ?_)
              clear hK K
              try simp only [Act.put, List.setIfInBounds_toArray, List.set_cons_zero, List.set_cons_succ]
              refine wpAnyH_ready (rs := [9]) (by kernel_rfl) (by simp) ?_
              refine AllReadyH.cons (get_of_drop rfl) (fun K hK => ?_) AllReadyH.nil
              rw [if_pos (by rfl)]
              have hq9 := HAQ.out.below hb9
              have hun : w9.ownsRow Z 44 1 (.slice (some ⟨g1, 0, none⟩) us.length cg) us.length (us.map id) := by rw [List.map_id]; exact hq9.1.1.1
              have HQ9 := Lib.hid hq9
              have HUN := Lib.hid hun; clear hun
              have HROW := Lib.hid (hown.base HAQ.out.low)
              have HRLO := Lib.hid (fun g hg => (World.ownsRow.lt hown g hg).1)
              have HR9 := Lib.hid (HR.out.below hb9)
              have hZ9 := HQ9.out.low
              clear hq9
              refine appK_rows w9 Z rfl _ _ rfl (.slice ax x.length cx) rfl (.slice (some ⟨g1, 0, none⟩) us.length cg) us rfl HUN.out rfl (by omega) hZ9 ?_
              intro ao1 m1 cap1 w8 hm1 hown8 hkept8
              subst hm1
              refine hK.out _ _ trivial (fun hHeld => ?_)
              clear hK K
              try simp only [Act.put, List.setIfInBounds_toArray, List.set_cons_zero, List.set_cons_succ]
              first | (refine wpAnyH_take (i := 10) (get_of_drop rfl) (by kernel_rfl) (by kernel_rfl) (by kernel_rfl) (fun _ _ _ h => h) (Or.inr ⟨?_, rfl⟩) hHeld ?_; (focus (simp [Region.wanted, yielded, undef]; done)); (try simp only [Act.put, List.setIfInBounds_toArray, List.set_cons_zero, List.set_cons_succ])) | (refine wpAnyH_take (i := 10) (v := ?_) (get_of_drop rfl) (by kernel_rfl) (by kernel_rfl) (by kernel_rfl) (fun _ _ _ h => h) (Or.inl ⟨?_, ?_⟩) hHeld ?_; rotate_left; (focus rfl); (focus (intro w hSw; (try dsimp only at hSw); go_simp; (try (with_reducible rfl)))); (try simp only [Act.put, List.setIfInBounds_toArray, List.set_cons_zero, List.set_cons_succ]))
              refine wpAnyH_ready (rs := [11]) (by kernel_rfl) (by simp) ?_
              refine AllReadyH.cons (get_of_drop rfl) (fun K hK => ?_) AllReadyH.nil
              have hs8 := HQ9.out.box1 hkept8
              have s1 : w8.cell? ⟨S, 1, none⟩ = some (.slice (some ⟨g1, 0, none⟩) us.length cg) := hs8.cell (by decide)
              have s2 := hs8.frozen 1
              have hd8 := HQ9.out.app1 (x := x) HROW.out HAQ.out.lt HRLO.out hkept8 (by simpa using hown8)
              have HD8 := Lib.hid hd8.1
              have HR8 := Lib.hid (hd8.2 _ R (by omega) HR9.out)
              clear hs8 hkept8 hown8 hown hb9 hd8
              go_simp
              refine hK.out _ _ trivial (fun hHeld => ?_)
              clear hK K
              try simp only [Act.put, List.setIfInBounds_toArray, List.set_cons_zero, List.set_cons_succ]
              refine wpAnyH_done (by kernel_rfl) ?_ _
              go_wp2_with fail
              go_meet
              case rel => exact ⟨rfl, _, _, _, HD8.out, HR8.out, by simp, by simp, lens_push HXX.out hxm⟩
            refine AllReadyH.cons (get_of_drop rfl) (fun K hK => ?_) AllReadyH.nil
            go_simp
            refine hK.out _ _ trivial (fun hHeld => ?_)
            clear hK K
            try simp only [Act.put, List.setIfInBounds_toArray, List.set_cons_zero, List.set_cons_succ]
            refine wpAnyH_ready (rs := [2]) (by kernel_rfl) (by simp) ?_
            refine AllReadyH.cons (get_of_drop rfl) (fun K hK => ?_) AllReadyH.nil
            go_simp
            refine hK.out _ _ trivial (fun hHeld => ?_)
            clear hK K
            try simp only [Act.put, List.setIfInBounds_toArray, List.set_cons_zero, List.set_cons_succ]
            refine wpAnyH_ready (rs := [7]) (by kernel_rfl) (by simp) ?_
            refine AllReadyH.cons (get_of_drop rfl) (fun K hK => ?_) AllReadyH.nil
            rw [if_pos (by rfl)]
            refine wp_app_iv _ x wr.heap.size wr.heap.size _ _ rfl rfl HOE.out ar x.length cr rfl (IV.below HIV.out HBE.out) (by omega) HBE.out.size ?_
            intro ax cx w9 hown hkept
            have hb9 := hkept.1 wr HBE.out
            clear hkept
            refine hK.out _ _ trivial (fun hHeld => ?_)
            clear hK K
            try simp only [Act.put, List.setIfInBounds_toArray, List.set_cons_zero, List.set_cons_succ]
            have o19 := keep_cellA hb9 HO1.out
            have o1x := keep_cellA (below_newA w9 44 #[.slice ax x.length cx]) o19
            have o1y := keep_cellA ((below_newA w9 44 #[.slice ax x.length cx]).drew) o19
            refine wpAnyH_ready (rs := [8]) (by kernel_rfl) (by simp) ?_
            refine AllReadyH.cons (get_of_drop rfl) (fun K hK => ?_) AllReadyH.nil
            go_simp
            refine hK.out _ _ trivial (fun hHeld => ?_)
            clear hK K
            try simp only [Act.put, List.setIfInBounds_toArray, List.set_cons_zero, List.set_cons_succ]
            refine wpAnyH_ready (rs := [9]) (by kernel_rfl) (by simp) ?_
            refine AllReadyH.cons (get_of_drop rfl) (fun K hK => ?_) AllReadyH.nil
            rw [if_pos (by rfl)]
            have hq9 := HAQ.out.below hb9
            have hun : w9.ownsRow Z 44 1 (.slice (some ⟨g1, 0, none⟩) us.length cg) us.length (us.map id) := by rw [List.map_id]; exact hq9.1.1.1
            have HQ9 := Lib.hid hq9
            have HUN := Lib.hid hun; clear hun
            have HROW := Lib.hid (hown.base HAQ.out.low)
            have HRLO := Lib.hid (fun g hg => (World.ownsRow.lt hown g hg).1)
            have HR9 := Lib.hid (HR.out.below hb9)
            have hZ9 := HQ9.out.low
            clear hq9
            refine appK_rows w9 Z rfl _ _ rfl (.slice ax x.length cx) rfl (.slice (some ⟨g1, 0, none⟩) us.length cg) us rfl HUN.out rfl (by omega) hZ9 ?_
            intro ao1 m1 cap1 w8 hm1 hown8 hkept8
            subst hm1
            refine hK.out _ _ trivial (fun hHeld => ?_)
            clear hK K
            try simp only [Act.put, List.setIfInBounds_toArray, List.set_cons_zero, List.set_cons_succ]
            first | (refine wpAnyH_take (i := 10) (get_of_drop rfl) (by kernel_rfl) (by kernel_rfl) (by kernel_rfl) (fun _ _ _ h => h) (Or.inr ⟨?_, rfl⟩) hHeld ?_; (focus (simp [Region.wanted, yielded, undef]; done)); (try simp only [Act.put, List.setIfInBounds_toArray, List.set_cons_zero, List.set_cons_succ])) | (refine wpAnyH_take (i := 10) (v := ?_) (get_of_drop rfl) (by kernel_rfl) (by kernel_rfl) (by kernel_rfl) (fun _ _ _ h => h) (Or.inl ⟨?_, ?_⟩) hHeld ?_; rotate_left; (focus rfl); (focus (intro w hSw; (try dsimp only at hSw); go_simp; (try (with_reducible rfl)))); (try simp only [Act.put, List.setIfInBounds_toArray, List.set_cons_zero, List.set_cons_succ]))
            refine wpAnyH_ready (rs := [11]) (by kernel_rfl) (by simp) ?_
            refine AllReadyH.cons (get_of_drop rfl) (fun K hK => ?_) AllReadyH.nil
            have hs8 := HQ9.out.box1 hkept8
            have s1 : w8.cell? ⟨S, 1, none⟩ = some (.slice (some ⟨g1, 0, none⟩) us.length cg) := hs8.cell (by decide)
            have s2 := hs8.frozen 1
            have hd8 := HQ9.out.app1 (x := x) HROW.out HAQ.out.lt HRLO.out hkept8 (by simpa using hown8)
            have HD8 := Lib.hid hd8.1
            have HR8 := Lib.hid (hd8.2 _ R (by omega) HR9.out)
            clear hs8 hkept8 hown8 hown hb9 hd8
            go_simp
            refine hK.out _ _ trivial (fun hHeld => ?_)
            clear hK K
            try simp only [Act.put, List.setIfInBounds_toArray, List.set_cons_zero, List.set_cons_succ]
            refine wpAnyH_done (by kernel_rfl) ?_ _
            go_wp2_with fail
            go_meet
            case rel => exact ⟨rfl, _, _, _, HD8.out, HR8.out, by simp, by simp, lens_push HXX.out hxm⟩
          refine AllReadyH.cons (get_of_drop rfl) (fun K hK => ?_) ?_
          · go_simp
            refine hK.out _ _ trivial (fun hHeld => ?_)
            clear hK K
            try simp only [Act.put, List.setIfInBounds_toArray, List.set_cons_zero, List.set_cons_succ]
            refine wpAnyH_ready (rs := [1, 4]) (by kernel_rfl) (by simp) ?_
            refine AllReadyH.cons (get_of_drop rfl) (fun K hK => ?_) ?_
            · go_simp
              refine hK.out _ _ trivial (fun hHeld => ?_)
              clear hK K
              try simp only [Act.put, List.setIfInBounds_toArray, List.set_cons_zero, List.set_cons_succ]
              refine wpAnyH_ready (rs := [4]) (by kernel_rfl) (by simp) ?_
              refine AllReadyH.cons (get_of_drop rfl) (fun K hK => ?_) AllReadyH.nil
              go_simp
              refine hK.out _ _ trivial (fun hHeld => ?_)
              clear hK K
              try simp only [Act.put, List.setIfInBounds_toArray, List.set_cons_zero, List.set_cons_succ]
              first | (refine wpAnyH_take (i := 5) (get_of_drop rfl) (by kernel_rfl) (by kernel_rfl) (by kernel_rfl) (fun _ _ _ h => h) (Or.inr ⟨?_, rfl⟩) hHeld ?_; (focus (simp [Region.wanted, yielded, undef]; done)); (try simp only [Act.put, List.setIfInBounds_toArray, List.set_cons_zero, List.set_cons_succ])) | (refine wpAnyH_take (i := 5) (v := ?_) (get_of_drop rfl) (by kernel_rfl) (by kernel_rfl) (by kernel_rfl) (fun _ _ _ h => h) (Or.inl ⟨?_, ?_⟩) hHeld ?_; rotate_left; (focus rfl); (focus (intro w hSw; (try dsimp only at hSw); go_simp; (try (with_reducible rfl)))); (try simp only [Act.put, List.setIfInBounds_toArray, List.set_cons_zero, List.set_cons_succ]))
              refine wpAnyH_ready (rs := [6]) (by kernel_rfl) (by simp) ?_
              refine AllReadyH.cons (get_of_drop rfl) (fun K hK => ?_) AllReadyH.nil
              go_simp
              refine hK.out _ _ trivial (fun hHeld => ?_)
              clear hK K
              try simp only [Act.put, List.setIfInBounds_toArray, List.set_cons_zero, List.set_cons_succ]
              refine wpAnyH_ready (rs := [7]) (by kernel_rfl) (by simp) ?_
              refine AllReadyH.cons (get_of_drop rfl) (fun K hK => ?_) AllReadyH.nil
              rw [if_pos (by rfl)]
              refine wp_app_iv _ x wr.heap.size wr.heap.size _ _ rfl rfl HOE.out ar x.length cr rfl (IV.below HIV.out HBE.out) (by omega) HBE.out.size ?_
              intro ax cx w9 hown hkept
              have hb9 := hkept.1 wr HBE.out
              clear hkept
              refine hK.out _ _ trivial (fun hHeld => ?_)
              clear hK K
              try simp only [Act.put, List.setIfInBounds_toArray, List.set_cons_zero, List.set_cons_succ]
              have o19 := keep_cellA hb9 HO1.out
              have o1x := keep_cellA (below_newA w9 44 #[.slice ax x.length cx]) o19
              have o1y := keep_cellA ((below_newA w9 44 #[.slice ax x.length cx]).drew) o19
              refine wpAnyH_ready (rs := [8]) (by kernel_rfl) (by simp) ?_
              refine AllReadyH.cons (get_of_drop rfl) (fun K hK => ?_) AllReadyH.nil
              go_simp
              refine hK.out _ _ trivial (fun hHeld => ?_)
              clear hK K
              try simp only [Act.put, List.setIfInBounds_toArray, List.set_cons_zero, List.set_cons_succ]
              refine wpAnyH_ready (rs := [9]) (by kernel_rfl) (by simp) ?_
              refine AllReadyH.cons (get_of_drop rfl) (fun K hK => ?_) AllReadyH.nil
              rw [if_pos (by rfl)]
              have hq9 := HAQ.out.below hb9
              have hun : w9.ownsRow Z 44 1 (.slice (some ⟨g1, 0, none⟩) us.length cg) us.length (us.map id) := by rw [List.map_id]; exact hq9.1.1.1
              have HQ9 := Lib.hid hq9
              have HUN := Lib.hid hun; clear hun
              have HROW := Lib.hid (hown.base HAQ.out.low)
              have HRLO := Lib.hid (fun g hg => (World.ownsRow.lt hown g hg).1)
              have HR9 := Lib.hid (HR.out.below hb9)
              have hZ9 := HQ9.out.low
              clear hq9
              refine appK_rows w9 Z rfl _ _ rfl (.slice ax x.length cx) rfl (.slice (some ⟨g1, 0, none⟩) us.length cg) us rfl HUN.out rfl (by omega) hZ9 ?_
              intro ao1 m1 cap1 w8 hm1 hown8 hkept8
              subst hm1
              refine hK.out _ _ trivial (fun hHeld => ?_)
              clear hK K
              try simp only [Act.put, List.setIfInBounds_toArray, List.set_cons_zero, List.set_cons_succ]
              first | (refine wpAnyH_take (i := 10) (get_of_drop rfl) (by kernel_rfl) (by kernel_rfl) (by kernel_rfl) (fun _ _ _ h => h) (Or.inr ⟨?_, rfl⟩) hHeld ?_; (focus (simp [Region.wanted, yielded, undef]; done)); (try simp only [Act.put, List.setIfInBounds_toArray, List.set_cons_zero, List.set_cons_succ])) | (refine wpAnyH_take (i := 10) (v := ?_) (get_of_drop rfl) (by kernel_rfl) (by kernel_rfl) (by kernel_rfl) (fun _ _ _ h => h) (Or.inl ⟨?_, ?_⟩) hHeld ?_; rotate_left; (focus rfl); (focus (intro w hSw; (try dsimp only at hSw); go_simp; (try (with_reducible rfl)))); (try simp only [Act.put, List.setIfInBounds_toArray, List.set_cons_zero, List.set_cons_succ]))
              refine wpAnyH_ready (rs := [11]) (by kernel_rfl) (by simp) ?_
              refine AllReadyH.cons (get_of_drop rfl) (fun K hK => ?_) AllReadyH.nil
              have hs8 := HQ9.out.box1 hkept8
              have s1 : w8.cell? ⟨S, 1, none⟩ = some (.slice (some ⟨g1, 0, none⟩) us.length cg) := hs8.cell (by decide)
              have s2 := hs8.frozen 1
              have hd8 := HQ9.out.app1 (x := x) HROW.out HAQ.out.lt HRLO.out hkept8 (by simpa using hown8)
              have HD8 := Lib.hid hd8.1
              have HR8 := Lib.hid (hd8.2 _ R (by omega) HR9.out)
              clear hs8 hkept8 hown8 hown hb9 hd8
              go_simp
              refine hK.out _ _ trivial (fun hHeld => ?_)
              clear hK K
              try simp only [Act.put, List.setIfInBounds_toArray, List.set_cons_zero, List.set_cons_succ]
              refine wpAnyH_done (by kernel_rfl) ?_ _
              go_wp2_with fail
              go_meet
              case rel => exact ⟨rfl, _, _, _, HD8.out, HR8.out, by simp, by simp, lens_push HXX.out hxm⟩
            refine AllReadyH.cons (get_of_drop rfl) (fun K hK => ?_) AllReadyH.nil
            go_simp
            refine hK.out _ _ trivial (fun hHeld => ?_)
            clear hK K
            try simp only [Act.put, List.setIfInBounds_toArray, List.set_cons_zero, List.set_cons_succ]
            first | (refine wpAnyH_take (i := 5) (get_of_drop rfl) (by kernel_rfl) (by kernel_rfl) (by kernel_rfl) (fun _ _ _ h => h) (Or.inr ⟨?_, rfl⟩) hHeld ?_; (focus (simp [Region.wanted, yielded, undef]; done)); (try simp only [Act.put, List.setIfInBounds_toArray, List.set_cons_zero, List.set_cons_succ])) | (refine wpAnyH_take (i := 5) (v := ?_) (get_of_drop rfl) (by kernel_rfl) (by kernel_rfl) (by kernel_rfl) (fun _ _ _ h => h) (Or.inl ⟨?_, ?_⟩) hHeld ?_; rotate_left; (focus rfl); (focus (intro w hSw; (try dsimp only at hSw); go_simp; (try (with_reducible rfl)))); (try simp only [Act.put, List.setIfInBounds_toArray, List.set_cons_zero, List.set_cons_succ]))
            refine wpAnyH_ready (rs := [1, 6]) (by kernel_rfl) (by simp) ?_
            refine AllReadyH.cons (get_of_drop rfl) (fun K hK => ?_) ?_
            · go_simp
              refine hK.out _ _ trivial (fun hHeld => ?_)
              clear hK K
              try simp only [Act.put, List.setIfInBounds_toArray, List.set_cons_zero, List.set_cons_succ]
              refine wpAnyH_ready (rs := [6]) (by kernel_rfl) (by simp) ?_
              refine AllReadyH.cons (get_of_drop rfl) (fun K hK => ?_) AllReadyH.nil
              go_simp
              refine hK.out _ _ trivial (fun hHeld => ?_)
              clear hK K
              try simp only [Act.put, List.setIfInBounds_toArray, List.set_cons_zero, List.set_cons_succ]
              refine wpAnyH_ready (rs := [7]) (by kernel_rfl) (by simp) ?_
              refine AllReadyH.cons (get_of_drop rfl) (fun K hK => ?_) AllReadyH.nil
              rw [if_pos (by rfl)]
              refine wp_app_iv _ x wr.heap.size wr.heap.size _ _ rfl rfl HOE.out ar x.length cr rfl (IV.below HIV.out HBE.out) (by omega) HBE.out.size ?_
              intro ax cx w9 hown hkept
              have hb9 := hkept.1 wr HBE.out
              clear hkept
              refine hK.out _ _ trivial (fun hHeld => ?_)
              clear hK K
              try simp only [Act.put, List.setIfInBounds_toArray, List.set_cons_zero, List.set_cons_succ]
              have o19 := keep_cellA hb9 HO1.out
              have o1x := keep_cellA (below_newA w9 44 #[.slice ax x.length cx]) o19
              have o1y := keep_cellA ((below_newA w9 44 #[.slice ax x.length cx]).drew) o19
              refine wpAnyH_ready (rs := [8]) (by kernel_rfl) (by simp) ?_
              refine AllReadyH.cons (get_of_drop rfl) (fun K hK => ?_) AllReadyH.nil
              go_simp
              refine hK.out _ _ trivial (fun hHeld => ?_)
              clear hK K
              try simp only [Act.put, List.setIfInBounds_toArray, List.set_cons_zero, List.set_cons_succ]
              refine wpAnyH_ready (rs := [9]) (by kernel_rfl) (by simp) ?_
              refine AllReadyH.cons (get_of_drop rfl) (fun K hK => ?_) AllReadyH.nil
              rw [if_pos (by rfl)]
              have hq9 := HAQ.out.below hb9
              have hun : w9.ownsRow Z 44 1 (.slice (some ⟨g1, 0, none⟩) us.length cg) us.length (us.map id) := by rw [List.map_id]; exact hq9.1.1.1
              have HQ9 := Lib.hid hq9
              have HUN := Lib.hid hun; clear hun
              have HROW := Lib.hid (hown.base HAQ.out.low)
              have HRLO := Lib.hid (fun g hg => (World.ownsRow.lt hown g hg).1)
              have HR9 := Lib.hid (HR.out.below hb9)
              have hZ9 := HQ9.out.low
              clear hq9
              refine appK_rows w9 Z rfl _ _ rfl (.slice ax x.length cx) rfl (.slice (some ⟨g1, 0, none⟩) us.length cg) us rfl HUN.out rfl (by omega) hZ9 ?_
              intro ao1 m1 cap1 w8 hm1 hown8 hkept8
              subst hm1
              refine hK.out _ _ trivial (fun hHeld => ?_)
              clear hK K
              try simp only [Act.put, List.setIfInBounds_toArray, List.set_cons_zero, List.set_cons_succ]
              first | (refine wpAnyH_take (i := 10) (get_of_drop rfl) (by kernel_rfl) (by kernel_rfl) (by kernel_rfl) (fun _ _ _ h => h) (Or.inr ⟨?_, rfl⟩) hHeld ?_; (focus (simp [Region.wanted, yielded, undef]; done)); (try simp only [Act.put, List.setIfInBounds_toArray, List.set_cons_zero, List.set_cons_succ])) | (refine wpAnyH_take (i := 10) (v := ?_) (get_of_drop rfl) (by kernel_rfl) (by kernel_rfl) (by kernel_rfl) (fun _ _ _ h => h) (Or.inl ⟨?_, ?_⟩) hHeld ?_; rotate_left; (focus rfl); (focus (intro w hSw; (try dsimp only at hSw); go_simp; (try (with_reducible rfl)))); (try simp only [Act.put, List.setIfInBounds_toArray, List.set_cons_zero, List.set_cons_succ]))
              refine wpAnyH_ready (rs := [11]) (by kernel_rfl) (by simp) ?_
              refine AllReadyH.cons (get_of_drop rfl) (fun K hK => ?_) AllReadyH.nil
              have hs8 := HQ9.out.box1 hkept8
              have s1 : w8.cell? ⟨S, 1, none⟩ = some (.slice (some ⟨g1, 0, none⟩) us.length cg) := hs8.cell (by decide)
              have s2 := hs8.frozen 1
              have hd8 := HQ9.out.app1 (x := x) HROW.out HAQ.out.lt HRLO.out hkept8 (by simpa using hown8)
              have HD8 := Lib.hid hd8.1
              have HR8 := Lib.hid (hd8.2 _ R (by omega) HR9.out)
              clear hs8 hkept8 hown8 hown hb9 hd8
              go_simp
              refine hK.out _ _ trivial (fun hHeld => ?_)
              clear hK K
              try simp only [Act.put, List.setIfInBounds_toArray, List.set_cons_zero, List.set_cons_succ]
              refine wpAnyH_done (by kernel_rfl) ?_ _
              go_wp2_with fail
              go_meet
              case rel => exact ⟨rfl, _, _, _, HD8.out, HR8.out, by simp, by simp, lens_push HXX.out hxm⟩
            refine AllReadyH.cons (get_of_drop rfl) (fun K hK => ?_) AllReadyH.nil
            go_simp
            refine hK.out _ _ trivial (fun hHeld => ?_)
            clear hK K
            try simp only [Act.put, List.setIfInBounds_toArray, List.set_cons_zero, List.set_cons_succ]
            refine wpAnyH_ready (rs := [1, 7]) (by kernel_rfl) (by simp) ?_
            refine AllReadyH.cons (get_of_drop rfl) (fun K hK => ?_) ?_
            · go_simp
              refine hK.out _ _ trivial (fun hHeld => ?_)
              clear hK K
              try simp only [Act.put, List.setIfInBounds_toArray, List.set_cons_zero, List.set_cons_succ]
              refine wpAnyH_ready (rs := [7]) (by kernel_rfl) (by simp) ?_
              refine AllReadyH.cons (get_of_drop rfl) (fun K hK => ?_) AllReadyH.nil
              rw [if_pos (by rfl)]
              refine wp_app_iv _ x wr.heap.size wr.heap.size _ _ rfl rfl HOE.out ar x.length cr rfl (IV.below HIV.out HBE.out) (by omega) HBE.out.size ?_
              intro ax cx w9 hown hkept
              have hb9 := hkept.1 wr HBE.out
              clear hkept
              refine hK.out _ _ trivial (fun hHeld => ?_)
              clear hK K
              try simp only [Act.put, List.setIfInBounds_toArray, List.set_cons_zero, List.set_cons_succ]
              have o19 := keep_cellA hb9 HO1.out
              have o1x := keep_cellA (below_newA w9 44 #[.slice ax x.length cx]) o19
              have o1y := keep_cellA ((below_newA w9 44 #[.slice ax x.length cx]).drew) o19
              refine wpAnyH_ready (rs := [8]) (by kernel_rfl) (by simp) ?_
              refine AllReadyH.cons (get_of_drop rfl) (fun K hK => ?_) AllReadyH.nil
              go_simp
              refine hK.out _ _ trivial (fun hHeld => ?_)
              clear hK K
              try simp only [Act.put, List.setIfInBounds_toArray, List.set_cons_zero, List.set_cons_succ]
              refine wpAnyH_ready (rs := [9]) (by kernel_rfl) (by simp) ?_
              refine AllReadyH.cons (get_of_drop rfl) (fun K hK => ?_) AllReadyH.nil
              rw [if_pos (by rfl)]
              have hq9 := HAQ.out.below hb9
              have hun : w9.ownsRow Z 44 1 (.slice (some ⟨g1, 0, none⟩) us.length cg) us.length (us.map id) := by rw [List.map_id]; exact hq9.1.1.1
              have HQ9 := Lib.hid hq9
              have HUN := Lib.hid hun; clear hun
              have HROW := Lib.hid (hown.base HAQ.out.low)
              have HRLO := Lib.hid (fun g hg => (World.ownsRow.lt hown g hg).1)
              have HR9 := Lib.hid (HR.out.below hb9)
              have hZ9 := HQ9.out.low
              clear hq9
              refine appK_rows w9 Z rfl _ _ rfl (.slice ax x.length cx) rfl (.slice (some ⟨g1, 0, none⟩) us.length cg) us rfl HUN.out rfl (by omega) hZ9 ?_
              intro ao1 m1 cap1 w8 hm1 hown8 hkept8
              subst hm1
              refine hK.out _ _ trivial (fun hHeld => ?_)
              clear hK K
              try simp only [Act.put, List.setIfInBounds_toArray, List.set_cons_zero, List.set_cons_succ]
              first | (refine wpAnyH_take (i := 10) (get_of_drop rfl) (by kernel_rfl) (by kernel_rfl) (by kernel_rfl) (fun _ _ _ h => h) (Or.inr ⟨?_, rfl⟩) hHeld ?_; (focus (simp [Region.wanted, yielded, undef]; done)); (try simp only [Act.put, List.setIfInBounds_toArray, List.set_cons_zero, List.set_cons_succ])) | (refine wpAnyH_take (i := 10) (v := ?_) (get_of_drop rfl) (by kernel_rfl) (by kernel_rfl) (by kernel_rfl) (fun _ _ _ h => h) (Or.inl ⟨?_, ?_⟩) hHeld ?_; rotate_left; (focus rfl); (focus (intro w hSw; (try dsimp only at hSw); go_simp; (try (with_reducible rfl)))); (try simp only [Act.put, List.setIfInBounds_toArray, List.set_cons_zero, List.set_cons_succ]))
              refine wpAnyH_ready (rs := [11]) (by kernel_rfl) (by simp) ?_
              refine AllReadyH.cons (get_of_drop rfl) (fun K hK => ?_) AllReadyH.nil
              have hs8 := HQ9.out.box1 hkept8
              have s1 : w8.cell? ⟨S, 1, none⟩ = some (.slice (some ⟨g1, 0, none⟩) us.length cg) := hs8.cell (by decide)
              have s2 := hs8.frozen 1
              have hd8 := HQ9.out.app1 (x := x) HROW.out HAQ.out.lt HRLO.out hkept8 (by simpa using hown8)
              have HD8 := Lib.hid hd8.1
              have HR8 := Lib.hid (hd8.2 _ R (by omega) HR9.out)
              clear hs8 hkept8 hown8 hown hb9 hd8
              go_simp
              refine hK.out _ _ trivial (fun hHeld => ?_)
              clear hK K
              try simp only [Act.put, List.setIfInBounds_toArray, List.set_cons_zero, List.set_cons_succ]
              refine wpAnyH_done (by kernel_rfl) ?_ _
              go_wp2_with fail
              go_meet
              case rel => exact ⟨rfl, _, _, _, HD8.out, HR8.out, by simp, by simp, lens_push HXX.out hxm⟩
            refine AllReadyH.cons (get_of_drop rfl) (fun K hK => ?_) AllReadyH.nil
            rw [if_pos (by rfl)]
            refine wp_app_iv _ x wr.heap.size wr.heap.size _ _ rfl rfl HOE.out ar x.length cr rfl (IV.below HIV.out HBE.out) (by omega) HBE.out.size ?_
            intro ax cx w9 hown hkept
            have hb9 := hkept.1 wr HBE.out
            clear hkept
            refine hK.out _ _ trivial (fun hHeld => ?_)
            clear hK K
            try simp only [Act.put, List.setIfInBounds_toArray, List.set_cons_zero, List.set_cons_succ]
            have o19 := keep_cellA hb9 HO1.out
            have o1x := keep_cellA (below_newA w9 44 #[.slice ax x.length cx]) o19
            have o1y := keep_cellA ((below_newA w9 44 #[.slice ax x.length cx]).drew) o19
            refine wpAnyH_ready (rs := [1, 8]) (by kernel_rfl) (by simp) ?_
            refine AllReadyH.cons (get_of_drop rfl) (fun K hK => ?_) ?_
            · go_simp
              refine hK.out _ _ trivial (fun hHeld => ?_)
              clear hK K
              try simp only [Act.put, List.setIfInBounds_toArray, List.set_cons_zero, List.set_cons_succ]
              refine wpAnyH_ready (rs := [8]) (by kernel_rfl) (by simp) ?_
              refine AllReadyH.cons (get_of_drop rfl) (fun K hK => ?_) AllReadyH.nil
              go_simp
              refine hK.out _ _ trivial (fun hHeld => ?_)
              clear hK K
              try simp only [Act.put, List.setIfInBounds_toArray, List.set_cons_zero, List.set_cons_succ]
              refine wpAnyH_ready (rs := [9]) (by kernel_rfl) (by simp) ?_
              refine AllReadyH.cons (get_of_drop rfl) (fun K hK => ?_) AllReadyH.nil
              rw [if_pos (by rfl)]
              have hq9 := HAQ.out.below hb9
              have hun : w9.ownsRow Z 44 1 (.slice (some ⟨g1, 0, none⟩) us.length cg) us.length (us.map id) := by rw [List.map_id]; exact hq9.1.1.1
              have HQ9 := Lib.hid hq9
              have HUN := Lib.hid hun; clear hun
              have HROW := Lib.hid (hown.base HAQ.out.low)
              have HRLO := Lib.hid (fun g hg => (World.ownsRow.lt hown g hg).1)
              have HR9 := Lib.hid (HR.out.below hb9)
              have hZ9 := HQ9.out.low
              clear hq9
              refine appK_rows w9 Z rfl _ _ rfl (.slice ax x.length cx) rfl (.slice (some ⟨g1, 0, none⟩) us.length cg) us rfl HUN.out rfl (by omega) hZ9 ?_
              intro ao1 m1 cap1 w8 hm1 hown8 hkept8
              subst hm1
              refine hK.out _ _ trivial (fun hHeld => ?_)
              clear hK K
              try simp only [Act.put, List.setIfInBounds_toArray, List.set_cons_zero, List.set_cons_succ]
              first | (refine wpAnyH_take (i := 10) (get_of_drop rfl) (by kernel_rfl) (by kernel_rfl) (by kernel_rfl) (fun _ _ _ h => h) (Or.inr ⟨?_, rfl⟩) hHeld ?_; (focus (simp [Region.wanted, yielded, undef]; done)); (try simp only [Act.put, List.setIfInBounds_toArray, List.set_cons_zero, List.set_cons_succ])) | (refine wpAnyH_take (i := 10) (v := ?_) (get_of_drop rfl) (by kernel_rfl) (by kernel_rfl) (by kernel_rfl) (fun _ _ _ h => h) (Or.inl ⟨?_, ?_⟩) hHeld ?_; rotate_left; (focus rfl); (focus (intro w hSw; (try dsimp only at hSw); go_simp; (try (with_reducible rfl)))); (try simp only [Act.put, List.setIfInBounds_toArray, List.set_cons_zero, List.set_cons_succ]))
              refine wpAnyH_ready (rs := [11]) (by kernel_rfl) (by simp) ?_
              refine AllReadyH.cons (get_of_drop rfl) (fun K hK => ?_) AllReadyH.nil
              have hs8 := HQ9.out.box1 hkept8
              have s1 : w8.cell? ⟨S, 1, none⟩ = some (.slice (some ⟨g1, 0, none⟩) us.length cg) := hs8.cell (by decide)
              have s2 := hs8.frozen 1
              have hd8 := HQ9.out.app1 (x := x) HROW.out HAQ.out.lt HRLO.out hkept8 (by simpa using hown8)
              have HD8 := Lib.hid hd8.1
              have HR8 := Lib.hid (hd8.2 _ R (by omega) HR9.out)
              clear hs8 hkept8 hown8 hown hb9 hd8
              go_simp
              refine hK.out _ _ trivial (fun hHeld => ?_)
              clear hK K
              try simp only [Act.put, List.setIfInBounds_toArray, List.set_cons_zero, List.set_cons_succ]
              refine wpAnyH_done (by kernel_rfl) ?_ _
              go_wp2_with fail
              go_meet
              case rel => exact ⟨rfl, _, _, _, HD8.out, HR8.out, by simp, by simp, lens_push HXX.out hxm⟩
            refine AllReadyH.cons (get_of_drop rfl) (fun K hK => ?_) AllReadyH.nil
            go_simp
            refine hK.out _ _ trivial (fun hHeld => ?_)
            clear hK K
            try simp only [Act.put, List.setIfInBounds_toArray, List.set_cons_zero, List.set_cons_succ]
            refine wpAnyH_ready (rs := [1]) (by kernel_rfl) (by simp) ?_
            refine AllReadyH.cons (get_of_drop rfl) (fun K hK => ?_) AllReadyH.nil
            go_simp
            refine hK.out _ _ trivial (fun hHeld => ?_)
            clear hK K
            try simp only [Act.put, List.setIfInBounds_toArray, List.set_cons_zero, List.set_cons_succ]
            refine wpAnyH_ready (rs := [9]) (by kernel_rfl) (by simp) ?_
            refine AllReadyH.cons (get_of_drop rfl) (fun K hK => ?_) AllReadyH.nil
            rw [if_pos (by rfl)]
            have hq9 := HAQ.out.below hb9
            have hun : w9.ownsRow Z 44 1 (.slice (some ⟨g1, 0, none⟩) us.length cg) us.length (us.map id) := by rw [List.map_id]; exact hq9.1.1.1
            have HQ9 := Lib.hid hq9
            have HUN := Lib.hid hun; clear hun
            have HROW := Lib.hid (hown.base HAQ.out.low)
            have HRLO := Lib.hid (fun g hg => (World.ownsRow.lt hown g hg).1)
            have HR9 := Lib.hid (HR.out.below hb9)
            have hZ9 := HQ9.out.low
            clear hq9
            refine appK_rows w9 Z rfl _ _ rfl (.slice ax x.length cx) rfl (.slice (some ⟨g1, 0, none⟩) us.length cg) us rfl HUN.out rfl (by omega) hZ9 ?_
            intro ao1 m1 cap1 w8 hm1 hown8 hkept8
            subst hm1
            refine hK.out _ _ trivial (fun hHeld => ?_)
            clear hK K
            try simp only [Act.put, List.setIfInBounds_toArray, List.set_cons_zero, List.set_cons_succ]
            first | (refine wpAnyH_take (i := 10) (get_of_drop rfl) (by kernel_rfl) (by kernel_rfl) (by kernel_rfl) (fun _ _ _ h => h) (Or.inr ⟨?_, rfl⟩) hHeld ?_; (focus (simp [Region.wanted, yielded, undef]; done)); (try simp only [Act.put, List.setIfInBounds_toArray, List.set_cons_zero, List.set_cons_succ])) | (refine wpAnyH_take (i := 10) (v := ?_) (get_of_drop rfl) (by kernel_rfl) (by kernel_rfl) (by kernel_rfl) (fun _ _ _ h => h) (Or.inl ⟨?_, ?_⟩) hHeld ?_; rotate_left; (focus rfl); (focus (intro w hSw; (try dsimp only at hSw); go_simp; (try (with_reducible rfl)))); (try simp only [Act.put, List.setIfInBounds_toArray, List.set_cons_zero, List.set_cons_succ]))
            refine wpAnyH_ready (rs := [11]) (by kernel_rfl) (by simp) ?_
            refine AllReadyH.cons (get_of_drop rfl) (fun K hK => ?_) AllReadyH.nil
            have hs8 := HQ9.out.box1 hkept8
            have s1 : w8.cell? ⟨S, 1, none⟩ = some (.slice (some ⟨g1, 0, none⟩) us.length cg) := hs8.cell (by decide)
            have s2 := hs8.frozen 1
            have hd8 := HQ9.out.app1 (x := x) HROW.out HAQ.out.lt HRLO.out hkept8 (by simpa using hown8)
            have HD8 := Lib.hid hd8.1
            have HR8 := Lib.hid (hd8.2 _ R (by omega) HR9.out)
            clear hs8 hkept8 hown8 hown hb9 hd8
            go_simp
            refine hK.out _ _ trivial (fun hHeld => ?_)
            clear hK K
            try simp only [Act.put, List.setIfInBounds_toArray, List.set_cons_zero, List.set_cons_succ]
            refine wpAnyH_done (by kernel_rfl) ?_ _
            go_wp2_with fail
            go_meet
            case rel => exact ⟨rfl, _, _, _, HD8.out, HR8.out, by simp, by simp, lens_push HXX.out hxm⟩
          refine AllReadyH.cons (get_of_drop rfl) (fun K hK => ?_) AllReadyH.nil
          go_simp
          refine hK.out _ _ trivial (fun hHeld => ?_)
          clear hK K
          try simp only [Act.put, List.setIfInBounds_toArray, List.set_cons_zero, List.set_cons_succ]
          first | (refine wpAnyH_take (i := 5) (get_of_drop rfl) (by kernel_rfl) (by kernel_rfl) (by kernel_rfl) (fun _ _ _ h => h) (Or.inr ⟨?_, rfl⟩) hHeld ?_; (focus (simp [Region.wanted, yielded, undef]; done)); (try simp only [Act.put, List.setIfInBounds_toArray, List.set_cons_zero, List.set_cons_succ])) | (refine wpAnyH_take (i := 5) (v := ?_) (get_of_drop rfl) (by kernel_rfl) (by kernel_rfl) (by kernel_rfl) (fun _ _ _ h => h) (Or.inl ⟨?_, ?_⟩) hHeld ?_; rotate_left; (focus rfl); (focus (intro w hSw; (try dsimp only at hSw); go_simp; (try (with_reducible rfl)))); (try simp only [Act.put, List.setIfInBounds_toArray, List.set_cons_zero, List.set_cons_succ]))
          refine wpAnyH_ready (rs := [1, 2, 6]) (by kernel_rfl) (by simp) ?_
          refine AllReadyH.cons (get_of_drop rfl) (fun K hK => ?_) ?_
          · go_simp
            refine hK.out _ _ trivial (fun hHeld => ?_)
            clear hK K
            try simp only [Act.put, List.setIfInBounds_toArray, List.set_cons_zero, List.set_cons_succ]
            refine wpAnyH_ready (rs := [2, 6]) (by kernel_rfl) (by simp) ?_
            refine AllReadyH.cons (get_of_drop rfl) (fun K hK => ?_) ?_
            · go_simp
              refine hK.out _ _ trivial (fun hHeld => ?_)
              clear hK K
              try simp only [Act.put, List.setIfInBounds_toArray, List.set_cons_zero, List.set_cons_succ]
              refine wpAnyH_ready (rs := [6]) (by kernel_rfl) (by simp) ?_
              refine AllReadyH.cons (get_of_drop rfl) (fun K hK => ?_) AllReadyH.nil
              go_simp
              refine hK.out _ _ trivial (fun hHeld => ?_)
              clear hK K
              try simp only [Act.put, List.setIfInBounds_toArray, List.set_cons_zero, List.set_cons_succ]
              refine wpAnyH_ready (rs := [7]) (by kernel_rfl) (by simp) ?_
              refine AllReadyH.cons (get_of_drop rfl) (fun K hK => ?_) AllReadyH.nil
              rw [if_pos (by rfl)]
              refine wp_app_iv _ x wr.heap.size wr.heap.size _ _ rfl rfl HOE.out ar x.length cr rfl (IV.below HIV.out HBE.out) (by omega) HBE.out.size ?_
              intro ax cx w9 hown hkept
              have hb9 := hkept.1 wr HBE.out
              clear hkept
              refine hK.out _ _ trivial (fun hHeld => ?_)
              clear hK K
              try simp only [Act.put, List.setIfInBounds_toArray, List.set_cons_zero, List.set_cons_succ]
              have o19 := keep_cellA hb9 HO1.out
              have o1x := keep_cellA (below_newA w9 44 #[.slice ax x.length cx]) o19
              have o1y := keep_cellA ((below_newA w9 44 #[.slice ax x.length cx]).drew) o19
              refine wpAnyH_ready (rs := [8]) (by kernel_rfl) (by simp) ?_
              refine AllReadyH.cons (get_of_drop rfl) (fun K hK => ?_) AllReadyH.nil
              go_simp
              refine hK.out _ _ trivial (fun hHeld => ?_)
              clear hK K
              try simp only [Act.put, List.setIfInBounds_toArray, List.set_cons_zero, List.set_cons_succ]
              refine wpAnyH_ready (rs := [9]) (by kernel_rfl) (by simp) ?_
              refine AllReadyH.cons (get_of_drop rfl) (fun K hK => ?_) AllReadyH.nil
              rw [if_pos (by rfl)]
              have hq9 := HAQ.out.below hb9
              have hun : w9.ownsRow Z 44 1 (.slice (some ⟨g1, 0, none⟩) us.length cg) us.length (us.map id) := by rw [List.map_id]; exact hq9.1.1.1
              have HQ9 := Lib.hid hq9
              have HUN := Lib.hid hun; clear hun
              have HROW := Lib.hid (hown.base HAQ.out.low)
              have HRLO := Lib.hid (fun g hg => (World.ownsRow.lt hown g hg).1)
              have HR9 := Lib.hid (HR.out.below hb9)
              have hZ9 := HQ9.out.low
              clear hq9
              refine appK_rows w9 Z rfl _ _ rfl (.slice ax x.length cx) rfl (.slice (some ⟨g1, 0, none⟩) us.length cg) us rfl HUN.out rfl (by omega) hZ9 ?_
              intro ao1 m1 cap1 w8 hm1 hown8 hkept8
              subst hm1
              refine hK.out _ _ trivial (fun hHeld => ?_)
              clear hK K
              try simp only [Act.put, List.setIfInBounds_toArray, List.set_cons_zero, List.set_cons_succ]
              first | (refine wpAnyH_take (i := 10) (get_of_drop rfl) (by kernel_rfl) (by kernel_rfl) (by kernel_rfl) (fun _ _ _ h => h) (Or.inr ⟨?_, rfl⟩) hHeld ?_; (focus (simp [Region.wanted, yielded, undef]; done)); (try simp only [Act.put, List.setIfInBounds_toArray, List.set_cons_zero, List.set_cons_succ])) | (refine wpAnyH_take (i := 10) (v := ?_) (get_of_drop rfl) (by kernel_rfl) (by kernel_rfl) (by kernel_rfl) (fun _ _ _ h => h) (Or.inl ⟨?_, ?_⟩) hHeld ?_; rotate_left; (focus rfl); (focus (intro w hSw; (try dsimp only at hSw); go_simp; (try (with_reducible rfl)))); (try simp only [Act.put, List.setIfInBounds_toArray, List.set_cons_zero, List.set_cons_succ]))
              refine wpAnyH_ready (rs := [11]) (by kernel_rfl) (by simp) ?_
              refine AllReadyH.cons (get_of_drop rfl) (fun K hK => ?_) AllReadyH.nil
              have hs8 := HQ9.out.box1 hkept8
              have s1 : w8.cell? ⟨S, 1, none⟩ = some (.slice (some ⟨g1, 0, none⟩) us.length cg) := hs8.cell (by decide)
              have s2 := hs8.frozen 1
              have hd8 := HQ9.out.app1 (x := x) HROW.out HAQ.out.lt HRLO.out hkept8 (by simpa using hown8)
              have HD8 := Lib.hid hd8.1
              have HR8 := Lib.hid (hd8.2 _ R (by omega) HR9.out)
              clear hs8 hkept8 hown8 hown hb9 hd8
              go_simp
              refine hK.out _ _ trivial (fun hHeld => ?_)
              clear hK K
              try simp only [Act.put, List.setIfInBounds_toArray, List.set_cons_zero, List.set_cons_succ]
              refine wpAnyH_done (by kernel_rfl) ?_ _
              go_wp2_with fail
              go_meet
              case rel => exact ⟨rfl, _, _, _, HD8.out, HR8.out, by simp, by simp, lens_push HXX.out hxm⟩
            refine AllReadyH.cons (get_of_drop rfl) (fun K hK => ?_) AllReadyH.nil
            go_simp
            refine hK.out _ _ trivial (fun hHeld => ?_)
            clear hK K
            try simp only [Act.put, List.setIfInBounds_toArray, List.set_cons_zero, List.set_cons_succ]
            refine wpAnyH_ready (rs := [2]) (by kernel_rfl) (by simp) ?_
            refine AllReadyH.cons (get_of_drop rfl) (fun K hK => ?_) AllReadyH.nil
            go_simp
            refine hK.out _ _ trivial (fun hHeld => ?_)
            clear hK K
            try simp only [Act.put, List.setIfInBounds_toArray, List.set_cons_zero, List.set_cons_succ]
            refine wpAnyH_ready (rs := [7]) (by kernel_rfl) (by simp) ?_
            refine AllReadyH.cons (get_of_drop rfl) (fun K hK => ?_) AllReadyH.nil
            rw [if_pos (by rfl)]
            refine wp_app_iv _ x wr.heap.size wr.heap.size _ _ rfl rfl HOE.out ar x.length cr rfl (IV.below HIV.out HBE.out) (by omega) HBE.out.size ?_
            intro ax cx w9 hown hkept
            have hb9 := hkept.1 wr HBE.out
            clear hkept
            refine hK.out _ _ trivial (fun hHeld => ?_)
            clear hK K
            try simp only [Act.put, List.setIfInBounds_toArray, List.set_cons_zero, List.set_cons_succ]
            have o19 := keep_cellA hb9 HO1.out
            have o1x := keep_cellA (below_newA w9 44 #[.slice ax x.length cx]) o19
            have o1y := keep_cellA ((below_newA w9 44 #[.slice ax x.length cx]).drew) o19
            refine wpAnyH_ready (rs := [8]) (by kernel_rfl) (by simp) ?_
            refine AllReadyH.cons (get_of_drop rfl) (fun K hK => ?_) AllReadyH.nil
            go_simp
            refine hK.out _ _ trivial (fun hHeld => ?_)
            clear hK K
            try simp only [Act.put, List.setIfInBounds_toArray, List.set_cons_zero, List.set_cons_succ]
            refine wpAnyH_ready (rs := [9]) (by kernel_rfl) (by simp) ?_
            refine AllReadyH.cons (get_of_drop rfl) (fun K hK => ?_) AllReadyH.nil
            rw [if_pos (by rfl)]
            have hq9 := HAQ.out.below hb9
            have hun : w9.ownsRow Z 44 1 (.slice (some ⟨g1, 0, none⟩) us.length cg) us.length (us.map id) := by rw [List.map_id]; exact hq9.1.1.1
            have HQ9 := Lib.hid hq9
            have HUN := Lib.hid hun; clear hun
            have HROW := Lib.hid (hown.base HAQ.out.low)
            have HRLO := Lib.hid (fun g hg => (World.ownsRow.lt hown g hg).1)
            have HR9 := Lib.hid (HR.out.below hb9)
            have hZ9 := HQ9.out.low
            clear hq9
            refine appK_rows w9 Z rfl _ _ rfl (.slice ax x.length cx) rfl (.slice (some ⟨g1, 0, none⟩) us.length cg) us rfl HUN.out rfl (by omega) hZ9 ?_
            intro ao1 m1 cap1 w8 hm1 hown8 hkept8
            subst hm1
            refine hK.out _ _ trivial (fun hHeld => ?_)
            clear hK K
            try simp only [Act.put, List.setIfInBounds_toArray, List.set_cons_zero, List.set_cons_succ]
            first | (refine wpAnyH_take (i := 10) (get_of_drop rfl) (by kernel_rfl) (by kernel_rfl) (by kernel_rfl) (fun _ _ _ h => h) (Or.inr ⟨?_, rfl⟩) hHeld ?_; (focus (simp [Region.wanted, yielded, undef]; done)); (try simp only [Act.put, List.setIfInBounds_toArray, List.set_cons_zero, List.set_cons_succ])) | (refine wpAnyH_take (i := 10) (v := ?_) (get_of_drop rfl) (by kernel_rfl) (by kernel_rfl) (by kernel_rfl) (fun _ _ _ h => h) (Or.inl ⟨?_, ?_⟩) hHeld ?_; rotate_left; (focus rfl); (focus (intro w hSw; (try dsimp only at hSw); go_simp; (try (with_reducible rfl)))); (try simp only [Act.put, List.setIfInBounds_toArray, List.set_cons_zero, List.set_cons_succ]))
            refine wpAnyH_ready (rs := [11]) (by kernel_rfl) (by simp) ?_
            refine AllReadyH.cons (get_of_drop rfl) (fun K hK => ?_) AllReadyH.nil
            have hs8 := HQ9.out.box1 hkept8
            have s1 : w8.cell? ⟨S, 1, none⟩ = some (.slice (some ⟨g1, 0, none⟩) us.length cg) := hs8.cell (by decide)
            have s2 := hs8.frozen 1
            have hd8 := HQ9.out.app1 (x := x) HROW.out HAQ.out.lt HRLO.out hkept8 (by simpa using hown8)
            have HD8 := Lib.hid hd8.1
            have HR8 := Lib.hid (hd8.2 _ R (by omega) HR9.out)
            clear hs8 hkept8 hown8 hown hb9 hd8
            go_simp
            refine hK.out _ _ trivial (fun hHeld => ?_)
            clear hK K
            try simp only [Act.put, List.setIfInBounds_toArray, List.set_cons_zero, List.set_cons_succ]
            refine wpAnyH_done (by kernel_rfl) ?_ _
            go_wp2_with fail
            go_meet
            case rel => exact ⟨rfl, _, _, _, HD8.out, HR8.out, by simp, by simp, lens_push HXX.out hxm⟩
          refine AllReadyH.cons (get_of_drop rfl) (fun K hK => ?_) ?_
          · go_simp
            refine hK.out _ _ trivial (fun hHeld => ?_)
            clear hK K
            try simp only [Act.put, List.setIfInBounds_toArray, List.set_cons_zero, List.set_cons_succ]
            refine wpAnyH_ready (rs := [1, 6]) (by kernel_rfl) (by simp) ?_
            refine AllReadyH.cons (get_of_drop rfl) (fun K hK => ?_) ?_
            · go_simp
              refine hK.out _ _ trivial (fun hHeld => ?_)
              clear hK K
              try simp only [Act.put, List.setIfInBounds_toArray, List.set_cons_zero, List.set_cons_succ]
              refine wpAnyH_ready (rs := [6]) (by kernel_rfl) (by simp) ?_
              refine AllReadyH.cons (get_of_drop rfl) (fun K hK => ?_) AllReadyH.nil
              go_simp
              refine hK.out _ _ trivial (fun hHeld => ?_)
              clear hK K
              try simp only [Act.put, List.setIfInBounds_toArray, List.set_cons_zero, List.set_cons_succ]
              refine wpAnyH_ready (rs := [7]) (by kernel_rfl) (by simp) ?_
              refine AllReadyH.cons (get_of_drop rfl) (fun K hK => ?_) AllReadyH.nil
              rw [if_pos (by rfl)]
              refine wp_app_iv _ x wr.heap.size wr.heap.size _ _ rfl rfl HOE.out ar x.length cr rfl (IV.below HIV.out HBE.out) (by omega) HBE.out.size ?_
              intro ax cx w9 hown hkept
              have hb9 := hkept.1 wr HBE.out
              clear hkept
              refine hK.out _ _ trivial (fun hHeld => ?_)
              clear hK K
              try simp only [Act.put, List.setIfInBounds_toArray, List.set_cons_zero, List.set_cons_succ]
              have o19 := keep_cellA hb9 HO1.out
              have o1x := keep_cellA (below_newA w9 44 #[.slice ax x.length cx]) o19
              have o1y := keep_cellA ((below_newA w9 44 #[.slice ax x.length cx]).drew) o19
              refine wpAnyH_ready (rs := [8]) (by kernel_rfl) (by simp) ?_
              refine AllReadyH.cons (get_of_drop rfl) (fun K hK => ?_) AllReadyH.nil
              go_simp
              refine hK.out _ _ trivial (fun hHeld => ?_)
              clear hK K
              try simp only [Act.put, List.setIfInBounds_toArray, List.set_cons_zero, List.set_cons_succ]
              refine wpAnyH_ready (rs := [9]) (by kernel_rfl) (by simp) ?_
              refine AllReadyH.cons (get_of_drop rfl) (fun K hK => ?_) AllReadyH.nil
              rw [if_pos (by rfl)]
              have hq9 := HAQ.out.below hb9
              have hun : w9.ownsRow Z 44 1 (.slice (some ⟨g1, 0, none⟩) us.length cg) us.length (us.map id) := by rw [List.map_id]; exact hq9.1.1.1
              have HQ9 := Lib.hid hq9
              have HUN := Lib.hid hun; clear hun
              have HROW := Lib.hid (hown.base HAQ.out.low)
              have HRLO := Lib.hid (fun g hg => (World.ownsRow.lt hown g hg).1)
              have HR9 := Lib.hid (HR.out.below hb9)
              have hZ9 := HQ9.out.low
              clear hq9
              refine appK_rows w9 Z rfl _ _ rfl (.slice ax x.length cx) rfl (.slice (some ⟨g1, 0, none⟩) us.length cg) us rfl HUN.out rfl (by omega) hZ9 ?_
              intro ao1 m1 cap1 w8 hm1 hown8 hkept8
              subst hm1
              refine hK.out _ _ trivial (fun hHeld => ?_)
              clear hK K
              try simp only [Act.put, List.setIfInBounds_toArray, List.set_cons_zero, List.set_cons_succ]
              first | (refine wpAnyH_take (i := 10) (get_of_drop rfl) (by kernel_rfl) (by kernel_rfl) (by kernel_rfl) (fun _ _ _ h => h) (Or.inr ⟨?_, rfl⟩) hHeld ?_; (focus (simp [Region.wanted, yielded, undef]; done)); (try simp only [Act.put, List.setIfInBounds_toArray, List.set_cons_zero, List.set_cons_succ])) | (refine wpAnyH_take (i := 10) (v := ?_) (get_of_drop rfl) (by kernel_rfl) (by kernel_rfl) (by kernel_rfl) (fun _ _ _ h => h) (Or.inl ⟨?_, ?_⟩) hHeld ?_; rotate_left; (focus rfl); (focus (intro w hSw; (try dsimp only at hSw); go_simp; (try (with_reducible rfl)))); (try simp only [Act.put, List.setIfInBounds_toArray, List.set_cons_zero, List.set_cons_succ]))
              refine wpAnyH_ready (rs := [11]) (by kernel_rfl) (by simp) ?_
              refine AllReadyH.cons (get_of_drop rfl) (fun K hK => ?_) AllReadyH.nil
              have hs8 := HQ9.out.box1 hkept8
              have s1 : w8.cell? ⟨S, 1, none⟩ = some (.slice (some ⟨g1, 0, none⟩) us.length cg) := hs8.cell (by decide)
              have s2 := hs8.frozen 1
              have hd8 := HQ9.out.app1 (x := x) HROW.out HAQ.out.lt HRLO.out hkept8 (by simpa using hown8)
              have HD8 := Lib.hid hd8.1
              have HR8 := Lib.hid (hd8.2 _ R (by omega) HR9.out)
              clear hs8 hkept8 hown8 hown hb9 hd8
              go_simp
              refine hK.out _ _ trivial (fun hHeld => ?_)
              clear hK K
              try simp only [Act.put, List.setIfInBounds_toArray, List.set_cons_zero, List.set_cons_succ]
              refine wpAnyH_done (by kernel_rfl) ?_ _
              go_wp2_with fail
              go_meet
              case rel => exact ⟨rfl, _, _, _, HD8.out, HR8.out, by simp, by simp, lens_push HXX.out hxm⟩
            refine AllReadyH.cons (get_of_drop rfl) (fun K hK => ?_) AllReadyH.nil
            go_simp
            refine hK.out _ _ trivial (fun hHeld => ?_)
            clear hK K
            try simp only [Act.put, List.setIfInBounds_toArray, List.set_cons_zero, List.set_cons_succ]
            refine wpAnyH_ready (rs := [1, 7]) (by kernel_rfl) (by simp) ?_
            refine AllReadyH.cons (get_of_drop rfl) (fun K hK => ?_) ?_
            · go_simp
              refine hK.out _ _ trivial (fun hHeld => ?_)
              clear hK K
              try simp only [Act.put, List.setIfInBounds_toArray, List.set_cons_zero, List.set_cons_succ]
              refine wpAnyH_ready (rs := [7]) (by kernel_rfl) (by simp) ?_
              refine AllReadyH.cons (get_of_drop rfl) (fun K hK => ?_) AllReadyH.nil
              rw [if_pos (by rfl)]
              refine wp_app_iv _ x wr.heap.size wr.heap.size _ _ rfl rfl HOE.out ar x.length cr rfl (IV.below HIV.out HBE.out) (by omega) HBE.out.size ?_
              intro ax cx w9 hown hkept
              have hb9 := hkept.1 wr HBE.out
              clear hkept
              refine hK.out _ _ trivial (fun hHeld => ?_)
              clear hK K
              try simp only [Act.put, List.setIfInBounds_toArray, List.set_cons_zero, List.set_cons_succ]
              have o19 := keep_cellA hb9 HO1.out
              have o1x := keep_cellA (below_newA w9 44 #[.slice ax x.length cx]) o19
              have o1y := keep_cellA ((below_newA w9 44 #[.slice ax x.length cx]).drew) o19
              refine wpAnyH_ready (rs := [8]) (by kernel_rfl) (by simp) ?_
              refine AllReadyH.cons (get_of_drop rfl) (fun K hK => ?_) AllReadyH.nil
              go_simp
              refine hK.out _ _ trivial (fun hHeld => ?_)
              clear hK K
              try simp only [Act.put, List.setIfInBounds_toArray, List.set_cons_zero, List.set_cons_succ]
              refine wpAnyH_ready (rs := [9]) (by kernel_rfl) (by simp) ?_
              refine AllReadyH.cons (get_of_drop rfl) (fun K hK => ?_) AllReadyH.nil
              rw [if_pos (by rfl)]
              have hq9 := HAQ.out.below hb9
              have hun : w9.ownsRow Z 44 1 (.slice (some ⟨g1, 0, none⟩) us.length cg) us.length (us.map id) := by rw [List.map_id]; exact hq9.1.1.1
              have HQ9 := Lib.hid hq9
              have HUN := Lib.hid hun; clear hun
              have HROW := Lib.hid (hown.base HAQ.out.low)
              have HRLO := Lib.hid (fun g hg => (World.ownsRow.lt hown g hg).1)
              have HR9 := Lib.hid (HR.out.below hb9)
              have hZ9 := HQ9.out.low
              clear hq9
              refine appK_rows w9 Z rfl _ _ rfl (.slice ax x.length cx) rfl (.slice (some ⟨g1, 0, none⟩) us.length cg) us rfl HUN.out rfl (by omega) hZ9 ?_
              intro ao1 m1 cap1 w8 hm1 hown8 hkept8
              subst hm1
              refine hK.out _ _ trivial (fun hHeld => ?_)
              clear hK K
              try simp only [Act.put, List.setIfInBounds_toArray, List.set_cons_zero, List.set_cons_succ]
              first | (refine wpAnyH_take (i := 10) (get_of_drop rfl) (by kernel_rfl) (by kernel_rfl) (by kernel_rfl) (fun _ _ _ h => h) (Or.inr ⟨?_, rfl⟩) hHeld ?_; (focus (simp [Region.wanted, yielded, undef]; done)); (try simp only [Act.put, List.setIfInBounds_toArray, List.set_cons_zero, List.set_cons_succ])) | (refine wpAnyH_take (i := 10) (v := ?_) (get_of_drop rfl) (by kernel_rfl) (by kernel_rfl) (by kernel_rfl) (fun _ _ _ h => h) (Or.inl ⟨?_, ?_⟩) hHeld ?_; rotate_left; (focus rfl); (focus (intro w hSw; (try dsimp only at hSw); go_simp; (try (with_reducible rfl)))); (try simp only [Act.put, List.setIfInBounds_toArray, List.set_cons_zero, List.set_cons_succ]))
              refine wpAnyH_ready (rs := [11]) (by kernel_rfl) (by simp) ?_
              refine AllReadyH.cons (get_of_drop rfl) (fun K hK => ?_) AllReadyH.nil
              have hs8 := HQ9.out.box1 hkept8
              have s1 : w8.cell? ⟨S, 1, none⟩ = some (.slice (some ⟨g1, 0, none⟩) us.length cg) := hs8.cell (by decide)
              have s2 := hs8.frozen 1
              have hd8 := HQ9.out.app1 (x := x) HROW.out HAQ.out.lt HRLO.out hkept8 (by simpa using hown8)
              have HD8 := Lib.hid hd8.1
              have HR8 := Lib.hid (hd8.2 _ R (by omega) HR9.out)
              clear hs8 hkept8 hown8 hown hb9 hd8
              go_simp
              refine hK.out _ _ trivial (fun hHeld => ?_)
              clear hK K
              try simp only [Act.put, List.setIfInBounds_toArray, List.set_cons_zero, List.set_cons_succ]
              refine wpAnyH_done (by kernel_rfl) ?_ _
              go_wp2_with fail
              go_meet
              case rel => exact ⟨rfl, _, _, _, HD8.out, HR8.out, by simp, by simp, lens_push HXX.out hxm⟩
            refine AllReadyH.cons (get_of_drop rfl) (fun K hK => ?_) AllReadyH.nil
            rw [if_pos (by rfl)]
            refine wp_app_iv _ x wr.heap.size wr.heap.size _ _ rfl rfl HOE.out ar x.length cr rfl (IV.below HIV.out HBE.out) (by omega) HBE.out.size ?_
            intro ax cx w9 hown hkept
            have hb9 := hkept.1 wr HBE.out
            clear hkept
            refine hK.out _ _ trivial (fun hHeld => ?_)
            clear hK K
            try simp only [Act.put, List.setIfInBounds_toArray, List.set_cons_zero, List.set_cons_succ]
            have o19 := keep_cellA hb9 HO1.out
            have o1x := keep_cellA (below_newA w9 44 #[.slice ax x.length cx]) o19
            have o1y := keep_cellA ((below_newA w9 44 #[.slice ax x.length cx]).drew) o19
            refine wpAnyH_ready (rs := [1, 8]) (by kernel_rfl) (by simp) ?_
            refine AllReadyH.cons (get_of_drop rfl) (fun K hK => ?_) ?_
            · go_simp
              refine hK.out _ _ trivial (fun hHeld => ?_)
              clear hK K
              try simp only [Act.put, List.setIfInBounds_toArray, List.set_cons_zero, List.set_cons_succ]
              refine wpAnyH_ready (rs := [8]) (by kernel_rfl) (by simp) ?_
              refine AllReadyH.cons (get_of_drop rfl) (fun K hK => ?_) AllReadyH.nil
              go_simp
              refine hK.out _ _ trivial (fun hHeld => ?_)
              clear hK K
              try simp only [Act.put, List.setIfInBounds_toArray, List.set_cons_zero, List.set_cons_succ]
              refine wpAnyH_ready (rs := [9]) (by kernel_rfl) (by simp) ?_
              refine AllReadyH.cons (get_of_drop rfl) (fun K hK => ?_) AllReadyH.nil
              rw [if_pos (by rfl)]
              have hq9 := HAQ.out.below hb9
              have hun : w9.ownsRow Z 44 1 (.slice (some ⟨g1, 0, none⟩) us.length cg) us.length (us.map id) := by rw [List.map_id]; exact hq9.1.1.1
              have HQ9 := Lib.hid hq9
              have HUN := Lib.hid hun; clear hun
              have HROW := Lib.hid (hown.base HAQ.out.low)
              have HRLO := Lib.hid (fun g hg => (World.ownsRow.lt hown g hg).1)
              have HR9 := Lib.hid (HR.out.below hb9)
              have hZ9 := HQ9.out.low
              clear hq9
              refine appK_rows w9 Z rfl _ _ rfl (.slice ax x.length cx) rfl (.slice (some ⟨g1, 0, none⟩) us.length cg) us rfl HUN.out rfl (by omega) hZ9 ?_
              intro ao1 m1 cap1 w8 hm1 hown8 hkept8
              subst hm1
              refine hK.out _ _ trivial (fun hHeld => ?_)
              clear hK K
              try simp only [Act.put, List.setIfInBounds_toArray, List.set_cons_zero, List.set_cons_succ]
              first | (refine wpAnyH_take (i := 10) (get_of_drop rfl) (by kernel_rfl) (by kernel_rfl) (by kernel_rfl) (fun _ _ _ h => h) (Or.inr ⟨?_, rfl⟩) hHeld ?_; (focus (simp [Region.wanted, yielded, undef]; done)); (try simp only [Act.put, List.setIfInBounds_toArray, List.set_cons_zero, List.set_cons_succ])) | (refine wpAnyH_take (i := 10) (v := ?_) (get_of_drop rfl) (by kernel_rfl) (by kernel_rfl) (by kernel_rfl) (fun _ _ _ h => h) (Or.inl ⟨?_, ?_⟩) hHeld ?_; rotate_left; (focus rfl); (focus (intro w hSw; (try dsimp only at hSw); go_simp; (try (with_reducible rfl)))); (try simp only [Act.put, List.setIfInBounds_toArray, List.set_cons_zero, List.set_cons_succ]))
              refine wpAnyH_ready (rs := [11]) (by kernel_rfl) (by simp) ?_
              refine AllReadyH.cons (get_of_drop rfl) (fun K hK => ?_) AllReadyH.nil
              have hs8 := HQ9.out.box1 hkept8
              have s1 : w8.cell? ⟨S, 1, none⟩ = some (.slice (some ⟨g1, 0, none⟩) us.length cg) := hs8.cell (by decide)
              have s2 := hs8.frozen 1
              have hd8 := HQ9.out.app1 (x := x) HROW.out HAQ.out.lt HRLO.out hkept8 (by simpa using hown8)
              have HD8 := Lib.hid hd8.1
              have HR8 := Lib.hid (hd8.2 _ R (by omega) HR9.out)
              clear hs8 hkept8 hown8 hown hb9 hd8
              go_simp
              refine hK.out _ _ trivial (fun hHeld => ?_)
              clear hK K
              try simp only [Act.put, List.setIfInBounds_toArray, List.set_cons_zero, List.set_cons_succ]
              refine wpAnyH_done (by kernel_rfl) ?_ _
              go_wp2_with fail
              go_meet
              case rel => exact ⟨rfl, _, _, _, HD8.out, HR8.out, by simp, by simp, lens_push HXX.out hxm⟩
            refine AllReadyH.cons (get_of_drop rfl) (fun K hK => ?_) AllReadyH.nil
            go_simp
            refine hK.out _ _ trivial (fun hHeld => ?_)
            clear hK K
            try simp only [Act.put, List.setIfInBounds_toArray, List.set_cons_zero, List.set_cons_succ]
            refine wpAnyH_ready (rs := [1]) (by kernel_rfl) (by simp) ?_
            refine AllReadyH.cons (get_of_drop rfl) (fun K hK => ?_) AllReadyH.nil
            go_simp
            refine hK.out _ _ trivial (fun hHeld => ?_)
            clear hK K
            try simp only [Act.put, List.setIfInBounds_toArray, List.set_cons_zero, List.set_cons_succ]
            refine wpAnyH_ready (rs := [9]) (by kernel_rfl) (by simp) ?_
            refine AllReadyH.cons (get_of_drop rfl) (fun K hK => ?_) AllReadyH.nil
            rw [if_pos (by rfl)]
            have hq9 := HAQ.out.below hb9
            have hun : w9.ownsRow Z 44 1 (.slice (some ⟨g1, 0, none⟩) us.length cg) us.length (us.map id) := by rw [List.map_id]; exact hq9.1.1.1
            have HQ9 := Lib.hid hq9
            have HUN := Lib.hid hun; clear hun
            have HROW := Lib.hid (hown.base HAQ.out.low)
            have HRLO := Lib.hid (fun g hg => (World.ownsRow.lt hown g hg).1)
            have HR9 := Lib.hid (HR.out.below hb9)
            have hZ9 := HQ9.out.low
            clear hq9
            refine appK_rows w9 Z rfl _ _ rfl (.slice ax x.length cx) rfl (.slice (some ⟨g1, 0, none⟩) us.length cg) us rfl HUN.out rfl (by omega) hZ9 ?_
            intro ao1 m1 cap1 w8 hm1 hown8 hkept8
            subst hm1
            refine hK.out _ _ trivial (fun hHeld => ?_)
            clear hK K
            try simp only [Act.put, List.setIfInBounds_toArray, List.set_cons_zero, List.set_cons_succ]
            first | (refine wpAnyH_take (i := 10) (get_of_drop rfl) (by kernel_rfl) (by kernel_rfl) (by kernel_rfl) (fun _ _ _ h => h) (Or.inr ⟨?_, rfl⟩) hHeld ?_; (focus (simp [Region.wanted, yielded, undef]; done)); (try simp only [Act.put, List.setIfInBounds_toArray, List.set_cons_zero, List.set_cons_succ])) | (refine wpAnyH_take (i := 10) (v := ?_) (get_of_drop rfl) (by kernel_rfl) (by kernel_rfl) (by kernel_rfl) (fun _ _ _ h => h) (Or.inl ⟨?_, ?_⟩) hHeld ?_; rotate_left; (focus rfl); (focus (intro w hSw; (try dsimp only at hSw); go_simp; (try (with_reducible rfl)))); (try simp only [Act.put, List.setIfInBounds_toArray, List.set_cons_zero, List.set_cons_succ]))
            refine wpAnyH_ready (rs := [11]) (by kernel_rfl) (by simp) ?_
            refine AllReadyH.cons (get_of_drop rfl) (fun K hK => ?_) AllReadyH.nil
            have hs8 := HQ9.out.box1 hkept8
            have s1 : w8.cell? ⟨S, 1, none⟩ = some (.slice (some ⟨g1, 0, none⟩) us.length cg) := hs8.cell (by decide)
            have s2 := hs8.frozen 1
            have hd8 := HQ9.out.app1 (x := x) HROW.out HAQ.out.lt HRLO.out hkept8 (by simpa using hown8)
            have HD8 := Lib.hid hd8.1
            have HR8 := Lib.hid (hd8.2 _ R (by omega) HR9.out)
            clear hs8 hkept8 hown8 hown hb9 hd8
            go_simp
            refine hK.out _ _ trivial (fun hHeld => ?_)
            clear hK K
            try simp only [Act.put, List.setIfInBounds_toArray, List.set_cons_zero, List.set_cons_succ]
            refine wpAnyH_done (by kernel_rfl) ?_ _
            go_wp2_with fail
            go_meet
            case rel => exact ⟨rfl, _, _, _, HD8.out, HR8.out, by simp, by simp, lens_push HXX.out hxm⟩
          refine AllReadyH.cons (get_of_drop rfl) (fun K hK => ?_) AllReadyH.nil
          go_simp
          refine hK.out _ _ trivial (fun hHeld => ?_)
          clear hK K
          try simp only [Act.put, List.setIfInBounds_toArray, List.set_cons_zero, List.set_cons_succ]
          refine wpAnyH_ready (rs := [1, 2]) (by kernel_rfl) (by simp) ?_
          refine AllReadyH.cons (get_of_drop rfl) (fun K hK => ?_) ?_
          · go_simp
            refine hK.out _ _ trivial (fun hHeld => ?_)
            clear hK K
            try simp only [Act.put, List.setIfInBounds_toArray, List.set_cons_zero, List.set_cons_succ]
            refine wpAnyH_ready (rs := [2]) (by kernel_rfl) (by simp) ?_
            refine AllReadyH.cons (get_of_drop rfl) (fun K hK => ?_) AllReadyH.nil
            go_simp
            refine hK.out _ _ trivial (fun hHeld => ?_)
            clear hK K
            try simp only [Act.put, List.setIfInBounds_toArray, List.set_cons_zero, List.set_cons_succ]
            refine wpAnyH_ready (rs := [7]) (by kernel_rfl) (by simp) ?_
            refine AllReadyH.cons (get_of_drop rfl) (fun K hK => ?_) AllReadyH.nil
            rw [if_pos (by rfl)]
            refine wp_app_iv _ x wr.heap.size wr.heap.size _ _ rfl rfl HOE.out ar x.length cr rfl (IV.below HIV.out HBE.out) (by omega) HBE.out.size ?_
            intro ax cx w9 hown hkept
            have hb9 := hkept.1 wr HBE.out
            clear hkept
            refine hK.out _ _ trivial (fun hHeld => ?_)
            clear hK K
            try simp only [Act.put, List.setIfInBounds_toArray, List.set_cons_zero, List.set_cons_succ]
            have o19 := keep_cellA hb9 HO1.out
            have o1x := keep_cellA (below_newA w9 44 #[.slice ax x.length cx]) o19
            have o1y := keep_cellA ((below_newA w9 44 #[.slice ax x.length cx]).drew) o19
            refine wpAnyH_ready (rs := [8]) (by kernel_rfl) (by simp) ?_
            refine AllReadyH.cons (get_of_drop rfl) (fun K hK => ?_) AllReadyH.nil
            go_simp
            refine hK.out _ _ trivial (fun hHeld => ?_)
            clear hK K
            try simp only [Act.put, List.setIfInBounds_toArray, List.set_cons_zero, List.set_cons_succ]
            refine wpAnyH_ready (rs := [9]) (by kernel_rfl) (by simp) ?_
            refine AllReadyH.cons (get_of_drop rfl) (fun K hK => ?_) AllReadyH.nil
            rw [if_pos (by rfl)]
            have hq9 := HAQ.out.below hb9
            have hun : w9.ownsRow Z 44 1 (.slice (some ⟨g1, 0, none⟩) us.length cg) us.length (us.map id) := by rw [List.map_id]; exact hq9.1.1.1
            have HQ9 := Lib.hid hq9
            have HUN := Lib.hid hun; clear hun
            have HROW := Lib.hid (hown.base HAQ.out.low)
            have HRLO := Lib.hid (fun g hg => (World.ownsRow.lt hown g hg).1)
            have HR9 := Lib.hid (HR.out.below hb9)
            have hZ9 := HQ9.out.low
            clear hq9
            refine appK_rows w9 Z rfl _ _ rfl (.slice ax x.length cx) rfl (.slice (some ⟨g1, 0, none⟩) us.length cg) us rfl HUN.out rfl (by omega) hZ9 ?_
            intro ao1 m1 cap1 w8 hm1 hown8 hkept8
            subst hm1
            refine hK.out _ _ trivial (fun hHeld => ?_)
            clear hK K
            try simp only [Act.put, List.setIfInBounds_toArray, List.set_cons_zero, List.set_cons_succ]
            first | (refine wpAnyH_take (i := 10) (get_of_drop rfl) (by kernel_rfl) (by kernel_rfl) (by kernel_rfl) (fun _ _ _ h => h) (Or.inr ⟨?_, rfl⟩) hHeld ?_; (focus (simp [Region.wanted, yielded, undef]; done)); (try simp only [Act.put, List.setIfInBounds_toArray, List.set_cons_zero, List.set_cons_succ])) | (refine wpAnyH_take (i := 10) (v := ?_) (get_of_drop rfl) (by kernel_rfl) (by kernel_rfl) (by kernel_rfl) (fun _ _ _ h => h) (Or.inl ⟨?_, ?_⟩) hHeld ?_; rotate_left; (focus rfl); (focus (intro w hSw; (try dsimp only at hSw); go_simp; (try (with_reducible rfl)))); (try simp only [Act.put, List.setIfInBounds_toArray, List.set_cons_zero, List.set_cons_succ]))
            refine wpAnyH_ready (rs := [11]) (by kernel_rfl) (by simp) ?_
            refine AllReadyH.cons (get_of_drop rfl) (fun K hK => ?_) AllReadyH.nil
            have hs8 := HQ9.out.box1 hkept8
            have s1 : w8.cell? ⟨S, 1, none⟩ = some (.slice (some ⟨g1, 0, none⟩) us.length cg) := hs8.cell (by decide)
            have s2 := hs8.frozen 1
            have hd8 := HQ9.out.app1 (x := x) HROW.out HAQ.out.lt HRLO.out hkept8 (by simpa using hown8)
            have HD8 := Lib.hid hd8.1
            have HR8 := Lib.hid (hd8.2 _ R (by omega) HR9.out)
            clear hs8 hkept8 hown8 hown hb9 hd8
            go_simp
            refine hK.out _ _ trivial (fun hHeld => ?_)
            clear hK K
            try simp only [Act.put, List.setIfInBounds_toArray, List.set_cons_zero, List.set_cons_succ]
            refine wpAnyH_done (by kernel_rfl) ?_ _
            go_wp2_with fail
            go_meet
            case rel => exact ⟨rfl, _, _, _, HD8.out, HR8.out, by simp, by simp, lens_push HXX.out hxm⟩
          refine AllReadyH.cons (get_of_drop rfl) (fun K hK => ?_) AllReadyH.nil
          go_simp
          refine hK.out _ _ trivial (fun hHeld => ?_)
          clear hK K
          try simp only [Act.put, List.setIfInBounds_toArray, List.set_cons_zero, List.set_cons_succ]
          refine wpAnyH_ready (rs := [1, 7]) (by kernel_rfl) (by simp) ?_
          refine AllReadyH.cons (get_of_drop rfl) (fun K hK => ?_) ?_
          · go_simp
            refine hK.out _ _ trivial (fun hHeld => ?_)
            clear hK K
            try simp only [Act.put, List.setIfInBounds_toArray, List.set_cons_zero, List.set_cons_succ]
            refine wpAnyH_ready (rs := [7]) (by kernel_rfl) (by simp) ?_
            refine AllReadyH.cons (get_of_drop rfl) (fun K hK => ?_) AllReadyH.nil
            rw [if_pos (by rfl)]
            refine wp_app_iv _ x wr.heap.size wr.heap.size _ _ rfl rfl HOE.out ar x.length cr rfl (IV.below HIV.out HBE.out) (by omega) HBE.out.size ?_
            intro ax cx w9 hown hkept
            have hb9 := hkept.1 wr HBE.out
            clear hkept
            refine hK.out _ _ trivial (fun hHeld => ?_)
            clear hK K
            try simp only [Act.put, List.setIfInBounds_toArray, List.set_cons_zero, List.set_cons_succ]
            have o19 := keep_cellA hb9 HO1.out
            have o1x := keep_cellA (below_newA w9 44 #[.slice ax x.length cx]) o19
            have o1y := keep_cellA ((below_newA w9 44 #[.slice ax x.length cx]).drew) o19
            refine wpAnyH_ready (rs := [8]) (by kernel_rfl) (by simp) ?_
            refine AllReadyH.cons (get_of_drop rfl) (fun K hK => ?_) AllReadyH.nil
            go_simp
            refine hK.out _ _ trivial (fun hHeld => ?_)
            clear hK K
            try simp only [Act.put, List.setIfInBounds_toArray, List.set_cons_zero, List.set_cons_succ]
            refine wpAnyH_ready (rs := [9]) (by kernel_rfl) (by simp) ?_
            refine AllReadyH.cons (get_of_drop rfl) (fun K hK => ?_) AllReadyH.nil
            rw [if_pos (by rfl)]
            have hq9 := HAQ.out.below hb9
            have hun : w9.ownsRow Z 44 1 (.slice (some ⟨g1, 0, none⟩) us.length cg) us.length (us.map id) := by rw [List.map_id]; exact hq9.1.1.1
            have HQ9 := Lib.hid hq9
            have HUN := Lib.hid hun; clear hun
            have HROW := Lib.hid (hown.base HAQ.out.low)
            have HRLO := Lib.hid (fun g hg => (World.ownsRow.lt hown g hg).1)
            have HR9 := Lib.hid (HR.out.below hb9)
            have hZ9 := HQ9.out.low
            clear hq9
            refine appK_rows w9 Z rfl _ _ rfl (.slice ax x.length cx) rfl (.slice (some ⟨g1, 0, none⟩) us.length cg) us rfl HUN.out rfl (by omega) hZ9 ?_
            intro ao1 m1 cap1 w8 hm1 hown8 hkept8
            subst hm1
            refine hK.out _ _ trivial (fun hHeld => ?_)
            clear hK K
            try simp only [Act.put, List.setIfInBounds_toArray, List.set_cons_zero, List.set_cons_succ]
            first | (refine wpAnyH_take (i := 10) (get_of_drop rfl) (by kernel_rfl) (by kernel_rfl) (by kernel_rfl) (fun _ _ _ h => h) (Or.inr ⟨?_, rfl⟩) hHeld ?_; (focus (simp [Region.wanted, yielded, undef]; done)); (try simp only [Act.put, List.setIfInBounds_toArray, List.set_cons_zero, List.set_cons_succ])) | (refine wpAnyH_take (i := 10) (v := ?_) (get_of_drop rfl) (by kernel_rfl) (by kernel_rfl) (by kernel_rfl) (fun _ _ _ h => h) (Or.inl ⟨?_, ?_⟩) hHeld ?_; rotate_left; (focus rfl); (focus (intro w hSw; (try dsimp only at hSw); go_simp; (try (with_reducible rfl)))); (try simp only [Act.put, List.setIfInBounds_toArray, List.set_cons_zero, List.set_cons_succ]))
            refine wpAnyH_ready (rs := [11]) (by kernel_rfl) (by simp) ?_
            refine AllReadyH.cons (get_of_drop rfl) (fun K hK => ?_) AllReadyH.nil
            have hs8 := HQ9.out.box1 hkept8
            have s1 : w8.cell? ⟨S, 1, none⟩ = some (.slice (some ⟨g1, 0, none⟩) us.length cg) := hs8.cell (by decide)
            have s2 := hs8.frozen 1
            have hd8 := HQ9.out.app1 (x := x) HROW.out HAQ.out.lt HRLO.out hkept8 (by simpa using hown8)
            have HD8 := Lib.hid hd8.1
            have HR8 := Lib.hid (hd8.2 _ R (by omega) HR9.out)
            clear hs8 hkept8 hown8 hown hb9 hd8
            go_simp
            refine hK.out _ _ trivial (fun hHeld => ?_)
            clear hK K
            try simp only [Act.put, List.setIfInBounds_toArray, List.set_cons_zero, List.set_cons_succ]
            refine wpAnyH_done (by kernel_rfl) ?_ _
            go_wp2_with fail
            go_meet
            case rel => exact ⟨rfl, _, _, _, HD8.out, HR8.out, by simp, by simp, lens_push HXX.out hxm⟩
          refine AllReadyH.cons (get_of_drop rfl) (fun K hK => ?_) AllReadyH.nil
          rw [if_pos (by rfl)]
          refine wp_app_iv _ x wr.heap.size wr.heap.size _ _ rfl rfl HOE.out ar x.length cr rfl (IV.below HIV.out HBE.out) (by omega) HBE.out.size ?_
          intro ax cx w9 hown hkept
          have hb9 := hkept.1 wr HBE.out
          clear hkept
          refine hK.out _ _ trivial (fun hHeld => ?_)
          clear hK K
          try simp only [Act.put, List.setIfInBounds_toArray, List.set_cons_zero, List.set_cons_succ]
          have o19 := keep_cellA hb9 HO1.out
          have o1x := keep_cellA (below_newA w9 44 #[.slice ax x.length cx]) o19
          have o1y := keep_cellA ((below_newA w9 44 #[.slice ax x.length cx]).drew) o19
          refine wpAnyH_ready (rs := [1, 8]) (by kernel_rfl) (by simp) ?_
          refine AllReadyH.cons (get_of_drop rfl) (fun K hK => ?_) ?_
          · go_simp
            refine hK.out _ _ trivial (fun hHeld => ?_)
            clear hK K
            try simp only [Act.put, List.setIfInBounds_toArray, List.set_cons_zero, List.set_cons_succ]
            refine wpAnyH_ready (rs := [8]) (by kernel_rfl) (by simp) ?_
            refine AllReadyH.cons (get_of_drop rfl) (fun K hK => ?_) AllReadyH.nil
            go_simp
            refine hK.out _ _ trivial (fun hHeld => ?_)
            clear hK K
            try simp only [Act.put, List.setIfInBounds_toArray, List.set_cons_zero, List.set_cons_succ]
            refine wpAnyH_ready (rs := [9]) (by kernel_rfl) (by simp) ?_
            refine AllReadyH.cons (get_of_drop rfl) (fun K hK => ?_) AllReadyH.nil
            rw [if_pos (by rfl)]
            have hq9 := HAQ.out.below hb9
            have hun : w9.ownsRow Z 44 1 (.slice (some ⟨g1, 0, none⟩) us.length cg) us.length (us.map id) := by rw [List.map_id]; exact hq9.1.1.1
            have HQ9 := Lib.hid hq9
            have HUN := Lib.hid hun; clear hun
            have HROW := Lib.hid (hown.base HAQ.out.low)
            have HRLO := Lib.hid (fun g hg => (World.ownsRow.lt hown g hg).1)
            have HR9 := Lib.hid (HR.out.below hb9)
            have hZ9 := HQ9.out.low
            clear hq9
            refine appK_rows w9 Z rfl _ _ rfl (.slice ax x.length cx) rfl (.slice (some ⟨g1, 0, none⟩) us.length cg) us rfl HUN.out rfl (by omega) hZ9 ?_
            intro ao1 m1 cap1 w8 hm1 hown8 hkept8
            subst hm1
            refine hK.out _ _ trivial (fun hHeld => ?_)
            clear hK K
            try simp only [Act.put, List.setIfInBounds_toArray, List.set_cons_zero, List.set_cons_succ]
            first | (refine wpAnyH_take (i := 10) (get_of_drop rfl) (by kernel_rfl) (by kernel_rfl) (by kernel_rfl) (fun _ _ _ h => h) (Or.inr ⟨?_, rfl⟩) hHeld ?_; (focus (simp [Region.wanted, yielded, undef]; done)); (try simp only [Act.put, List.setIfInBounds_toArray, List.set_cons_zero, List.set_cons_succ])) | (refine wpAnyH_take (i := 10) (v := ?_) (get_of_drop rfl) (by kernel_rfl) (by kernel_rfl) (by kernel_rfl) (fun _ _ _ h => h) (Or.inl ⟨?_, ?_⟩) hHeld ?_; rotate_left; (focus rfl); (focus (intro w hSw; (try dsimp only at hSw); go_simp; (try (with_reducible rfl)))); (try simp only [Act.put, List.setIfInBounds_toArray, List.set_cons_zero, List.set_cons_succ]))
            refine wpAnyH_ready (rs := [11]) (by kernel_rfl) (by simp) ?_
            refine AllReadyH.cons (get_of_drop rfl) (fun K hK => ?_) AllReadyH.nil
            have hs8 := HQ9.out.box1 hkept8
            have s1 : w8.cell? ⟨S, 1, none⟩ = some (.slice (some ⟨g1, 0, none⟩) us.length cg) := hs8.cell (by decide)
            have s2 := hs8.frozen 1
            have hd8 := HQ9.out.app1 (x := x) HROW.out HAQ.out.lt HRLO.out hkept8 (by simpa using hown8)
            have HD8 := Lib.hid hd8.1
            have HR8 := Lib.hid (hd8.2 _ R (by omega) HR9.out)
            clear hs8 hkept8 hown8 hown hb9 hd8
            go_simp
            refine hK.out _ _ trivial (fun hHeld => ?_)
            clear hK K
            try simp only [Act.put, List.setIfInBounds_toArray, List.set_cons_zero, List.set_cons_succ]
            refine wpAnyH_done (by kernel_rfl) ?_ _
            go_wp2_with fail
            go_meet
            case rel => exact ⟨rfl, _, _, _, HD8.out, HR8.out, by simp, by simp, lens_push HXX.out hxm⟩
          refine AllReadyH.cons (get_of_drop rfl) (fun K hK => ?_) AllReadyH.nil
          go_simp
          refine hK.out _ _ trivial (fun hHeld => ?_)
          clear hK K
          try simp only [Act.put, List.setIfInBounds_toArray, List.set_cons_zero, List.set_cons_succ]
          refine wpAnyH_ready (rs := [1]) (by kernel_rfl) (by simp) ?_
          refine AllReadyH.cons (get_of_drop rfl) (fun K hK => ?_) AllReadyH.nil
          go_simp
          refine hK.out _ _ trivial (fun hHeld => ?_)
          clear hK K
          try simp only [Act.put, List.setIfInBounds_toArray, List.set_cons_zero, List.set_cons_succ]
          refine wpAnyH_ready (rs := [9]) (by kernel_rfl) (by simp) ?_
          refine AllReadyH.cons (get_of_drop rfl) (fun K hK => ?_) AllReadyH.nil
          rw [if_pos (by rfl)]
          have hq9 := HAQ.out.below hb9
          have hun : w9.ownsRow Z 44 1 (.slice (some ⟨g1, 0, none⟩) us.length cg) us.length (us.map id) := by rw [List.map_id]; exact hq9.1.1.1
          have HQ9 := Lib.hid hq9
          have HUN := Lib.hid hun; clear hun
          have HROW := Lib.hid (hown.base HAQ.out.low)
          have HRLO := Lib.hid (fun g hg => (World.ownsRow.lt hown g hg).1)
          have HR9 := Lib.hid (HR.out.below hb9)
          have hZ9 := HQ9.out.low
          clear hq9
          refine appK_rows w9 Z rfl _ _ rfl (.slice ax x.length cx) rfl (.slice (some ⟨g1, 0, none⟩) us.length cg) us rfl HUN.out rfl (by omega) hZ9 ?_
          intro ao1 m1 cap1 w8 hm1 hown8 hkept8
          subst hm1
          refine hK.out _ _ trivial (fun hHeld => ?_)
          clear hK K
          try simp only [Act.put, List.setIfInBounds_toArray, List.set_cons_zero, List.set_cons_succ]
          first | (refine wpAnyH_take (i := 10) (get_of_drop rfl) (by kernel_rfl) (by kernel_rfl) (by kernel_rfl) (fun _ _ _ h => h) (Or.inr ⟨?_, rfl⟩) hHeld ?_; (focus (simp [Region.wanted, yielded, undef]; done)); (try simp only [Act.put, List.setIfInBounds_toArray, List.set_cons_zero, List.set_cons_succ])) | (refine wpAnyH_take (i := 10) (v := ?_) (get_of_drop rfl) (by kernel_rfl) (by kernel_rfl) (by kernel_rfl) (fun _ _ _ h => h) (Or.inl ⟨?_, ?_⟩) hHeld ?_; rotate_left; (focus rfl); (focus (intro w hSw; (try dsimp only at hSw); go_simp; (try (with_reducible rfl)))); (try simp only [Act.put, List.setIfInBounds_toArray, List.set_cons_zero, List.set_cons_succ]))
          refine wpAnyH_ready (rs := [11]) (by kernel_rfl) (by simp) ?_
          refine AllReadyH.cons (get_of_drop rfl) (fun K hK => ?_) AllReadyH.nil
          have hs8 := HQ9.out.box1 hkept8
          have s1 : w8.cell? ⟨S, 1, none⟩ = some (.slice (some ⟨g1, 0, none⟩) us.length cg) := hs8.cell (by decide)
          have s2 := hs8.frozen 1
          have hd8 := HQ9.out.app1 (x := x) HROW.out HAQ.out.lt HRLO.out hkept8 (by simpa using hown8)
          have HD8 := Lib.hid hd8.1
          have HR8 := Lib.hid (hd8.2 _ R (by omega) HR9.out)
          clear hs8 hkept8 hown8 hown hb9 hd8
          go_simp
          refine hK.out _ _ trivial (fun hHeld => ?_)
          clear hK K
          try simp only [Act.put, List.setIfInBounds_toArray, List.set_cons_zero, List.set_cons_succ]
          refine wpAnyH_done (by kernel_rfl) ?_ _
          go_wp2_with fail
          go_meet
          case rel => exact ⟨rfl, _, _, _, HD8.out, HR8.out, by simp, by simp, lens_push HXX.out hxm⟩
        case rest =>
          clear q0 q1 q2 hck HIV HO1 HU HX HAQ HR HXX
          obtain ⟨rfl, v1', us', xss', haq, hrd, hul', hxl', hxx'⟩ := hcut
          obtain ⟨a5, c5, hv5⟩ := own_shape haq.1.1.1
          subst hv5
          obtain ⟨q0, q1, q2⟩ := haq.cells
          have hb6 : bs.length ≤ 1000000 := by omega
          have hZ5 := haq.low
          have HAQ := Lib.hid haq
          have HR := Lib.hid hrd; clear hrd
          have HXX := Lib.hid hxx'; clear hxx'
          have HUL' := Lib.hid hul'; clear hul'
          have HXL' := Lib.hid hxl'; clear hxl'
          clear haq
          go_wp2_with (at_builtin; refine appL_bool wc Z rfl _ _ rfl false v2 bs rfl HAQ.out.1.2 rfl hb6 hZ5 ?_)
          intro ao m cap w6 hm hown hkept
          subst hm
          have hs6 := HAQ.out.box2 hkept
          have s2 : w6.cell? ⟨S, 2, none⟩ = some v2 := hs6.cell (by decide)
          have sf := hs6.frozen 2
          have hn := HAQ.out.app2 hkept (show TRow Z w6 (.slice ao (bs.length + 1) cap) (bs ++ [false]) by unfold TRow; simpa using hown)
          obtain ⟨w7, hw7⟩ : ∃ w7, w6.setCell ⟨S, 2, none⟩ (.slice ao (bs.length + 1) cap) = w7 := ⟨_, rfl⟩
          rw [hw7] at hn
          have HR7 := Lib.hid (hn.2 _ R (by omega) HR.out)
          have HAQ7 := Lib.hid hn.1
          have hlen7 : boxLen S w7 = us'.length := by unfold boxLen; rw [hn.1.cells.2.1]
          have hlen0 : boxLen S wr = us.length := by unfold boxLen; rw [HLEN.out]
          have HLEN7 := Lib.hid hlen7; clear hlen7
          have HLEN0 := Lib.hid hlen0; clear hlen0
          clear hn hs6 hown hkept q0 q1 q2
          go_wp2
          go_roundw
          case rel => exact ⟨_, _, us', xss', bs ++ [false], HAQ7.out, HR7.out, (fun _ => by have := HXL'.out; omega), by have := HXL'.out; omega, by simp; omega, by have := HXL'.out; simp; omega, HXX.out⟩
          case measure => (rw [HLEN7.out, HLEN0.out]; have := HUL'.out; omega)
      · have hgo' : ((0 : Int) < (n3 : Int)) ∧ ¬ ((us.length : Int) ≤ 12) ∨ ¬ ((0 : Int) < (n3 : Int)) := by
          have := HUX.out
          by_cases h0 : 0 < n3
          · left; exact ⟨by omega, fun h => hgo ⟨h0, by omega⟩⟩
          · right; omega
        obtain ⟨a5, c5, hv5⟩ := own_shape haq.1.1.1
        obtain ⟨a6, c6, hv6⟩ := own_shape haq.1.2
        subst hv5 hv6
        have HXX0 := HXX
        clear HXX haq q0 q1 q2 hgo
        have HXL := Lib.hid (show xss.length ≤ 120 by omega)
        have HBL := Lib.hid (show bs.length ≤ 120 by omega)
        have HXX := Lib.hid (show ∀ l ∈ xss, l.length ≤ 120 from fun l hl => Nat.le_trans (HXX0.out l hl) (by decide))
        rcases hgo' with ⟨hg1, hg2⟩ | hg1
        · have hz := HAQ.out.2.2.1
          have z0 : wr.cell? ⟨Z, 0, none⟩ = some (.int .i64 0) := hz.cell (by decide)
          have z1 : wr.cell? ⟨Z, 1, none⟩ = some (.slice none 0 0) := hz.cell (by decide)
          have z2 : wr.cell? ⟨Z, 2, none⟩ = some (.slice none 0 0) := hz.cell (by decide)
          have zf0 := hz.frozen 0
          have zf1 := hz.frozen 1
          have zf2 := hz.frozen 2
          obtain ⟨q0, q1, q2⟩ := HAQ.out.cells
          clear hz
          go_wp2
          have hfin := HAQ.out.fin
          obtain ⟨wf, hwf⟩ : ∃ wf, (((wr.setCell ⟨Z, 0, none⟩ (.int .i64 al)).setCell ⟨Z, 1, none⟩ (.slice a5 us.length c5)).setCell ⟨Z, 2, none⟩ (.slice a6 bs.length c6)) = wf := ⟨_, rfl⟩
          rw [hwf] at hfin ⊢
          clear hwf
          obtain ⟨d1, d2, d3, d4⟩ := hfin
          have f0 : wf.cell? ⟨Z, 0, none⟩ = some (.int .i64 al) := d3.cell (by decide)
          have f1 : wf.cell? ⟨Z, 1, none⟩ = some (.slice a5 us.length c5) := d3.cell (by decide)
          have f2 : wf.cell? ⟨Z, 2, none⟩ = some (.slice a6 bs.length c6) := d3.cell (by decide)
          refine bodyPost_ret (v := .agg #[.int .i64 al, .slice a5 us.length c5, .slice a6 bs.length c6]) ?_ rfl ?_
          · simp [results, Try.results72, go_sem, f0, f1, f2]
          · exact ⟨_, _, _, _, _, _, _, _, _, _, rfl, d1.1.base (by omega), d1.2.base (by omega), HXL.out, HBL.out, HXX.out, ⟨p + 1 + 1, by omega, d4 R (p + 1 + 1) (by omega) HR.out, grown_trans HG0.out d2⟩⟩
        · have hz := HAQ.out.2.2.1
          have z0 : wr.cell? ⟨Z, 0, none⟩ = some (.int .i64 0) := hz.cell (by decide)
          have z1 : wr.cell? ⟨Z, 1, none⟩ = some (.slice none 0 0) := hz.cell (by decide)
          have z2 : wr.cell? ⟨Z, 2, none⟩ = some (.slice none 0 0) := hz.cell (by decide)
          have zf0 := hz.frozen 0
          have zf1 := hz.frozen 1
          have zf2 := hz.frozen 2
          obtain ⟨q0, q1, q2⟩ := HAQ.out.cells
          clear hz
          go_wp2
          have hfin := HAQ.out.fin
          obtain ⟨wf, hwf⟩ : ∃ wf, (((wr.setCell ⟨Z, 0, none⟩ (.int .i64 al)).setCell ⟨Z, 1, none⟩ (.slice a5 us.length c5)).setCell ⟨Z, 2, none⟩ (.slice a6 bs.length c6)) = wf := ⟨_, rfl⟩
          rw [hwf] at hfin ⊢
          clear hwf
          obtain ⟨d1, d2, d3, d4⟩ := hfin
          have f0 : wf.cell? ⟨Z, 0, none⟩ = some (.int .i64 al) := d3.cell (by decide)
          have f1 : wf.cell? ⟨Z, 1, none⟩ = some (.slice a5 us.length c5) := d3.cell (by decide)
          have f2 : wf.cell? ⟨Z, 2, none⟩ = some (.slice a6 bs.length c6) := d3.cell (by decide)
          refine bodyPost_ret (v := .agg #[.int .i64 al, .slice a5 us.length c5, .slice a6 bs.length c6]) ?_ rfl ?_
          · simp [results, Try.results72, go_sem, f0, f1, f2]
          · exact ⟨_, _, _, _, _, _, _, _, _, _, rfl, d1.1.base (by omega), d1.2.base (by omega), HXL.out, HBL.out, HXX.out, ⟨p + 1 + 1, by omega, d4 R (p + 1 + 1) (by omega) HR.out, grown_trans HG0.out d2⟩⟩
  have hz := HAQ.out.2.2.1
  have z0 : w5.cell? ⟨Z, 0, none⟩ = some (.int .i64 0) := hz.cell (by decide)
  have z1 : w5.cell? ⟨Z, 1, none⟩ = some (.slice none 0 0) := hz.cell (by decide)
  have z2 : w5.cell? ⟨Z, 2, none⟩ = some (.slice none 0 0) := hz.cell (by decide)
  have zf0 := hz.frozen 0
  have zf1 := hz.frozen 1
  have zf2 := hz.frozen 2
  obtain ⟨q0, q1, q2⟩ := HAQ.out.cells
  clear hz
  go_wp2
  have hfin := HAQ.out.fin
  obtain ⟨wf, hwf⟩ : ∃ wf, (((w5.setCell ⟨Z, 0, none⟩ (.int .i64 al)).setCell ⟨Z, 1, none⟩ (.slice a3 n3 c3)).setCell ⟨Z, 2, none⟩ (.slice a4 n4 c4)) = wf := ⟨_, rfl⟩
  rw [hwf] at hfin ⊢
  clear hwf
  obtain ⟨d1, d2, d3, d4⟩ := hfin
  have f0 : wf.cell? ⟨Z, 0, none⟩ = some (.int .i64 al) := d3.cell (by decide)
  have f1 : wf.cell? ⟨Z, 1, none⟩ = some (.slice a3 n3 c3) := d3.cell (by decide)
  have f2 : wf.cell? ⟨Z, 2, none⟩ = some (.slice a4 n4 c4) := d3.cell (by decide)
  refine bodyPost_ret (v := .agg #[.int .i64 al, .slice a3 n3 c3, .slice a4 n4 c4]) ?_ rfl ?_
  · simp [results, Try.results72, go_sem, f0, f1, f2]
  · exact ⟨_, _, _, _, _, _, _, _, _, _, rfl, d1.1.base (by omega), d1.2.base (by omega), HXL.out, HBL.out, HXX.out, ⟨p + 1 + 1, by omega, d4 R (p + 1 + 1) (by omega) HR.out, grown_trans HG0.out d2⟩⟩
end Go.Proofs.Ytagegbhchljggaa
