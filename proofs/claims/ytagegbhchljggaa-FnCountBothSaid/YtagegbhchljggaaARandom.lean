/- l3Random: what it draws. -/
import Derived.Test.YtagegbhchljggaaAO
import Derived.Test.YtagegbhchljggaaOwn

namespace Go.Proofs.Ytagegbhchljggaa
open Go.RowKit
set_option linter.unusedVariables false
set_option linter.unusedSimpArgs false
set_option maxRecDepth 100000

theorem get_of_drop' {ops : Array Oper} {i : Nat} {o : Oper} {rest : List Oper} (h : ops.toList.drop i = o :: rest) : ops[i]? = some o := by
  have h2 : (ops.toList.drop i)[0]? = some o := by rw [h]; rfl
  rw [List.getElem?_drop] at h2
  simpa using h2
theorem below_newA (w : World) (t : TypeId) (c : Array Value) : Below w.heap.size w (w.alloc (.cells c t)) := (Below.refl _ _).alloc (Nat.le_refl _) _
theorem keep_cellA {w w' : World} (hb : Below w.heap.size w w') {b j : Nat} {v : Value} (h : w.cell? ⟨b, j, none⟩ = some v) : w'.cell? ⟨b, j, none⟩ = some v := by
  rw [cell_below hb (World.block_lt_of_cell? w _ h)]; exact h
theorem rowIs_set3A {w : World} {b : Nat} {ty : TypeId} {f : Nat → Value} (h : w.rowIs b ty 3 f) (x y z : Value) :
    (((w.setCell ⟨b, 0, none⟩ x).setCell ⟨b, 1, none⟩ y).setCell ⟨b, 2, none⟩ z).rowIs b ty 3 (fun i => #[x, y, z][i]?.getD undef) := by
  refine (((h.set 0 x).set 1 y).set 2 z).congr fun j hj => ?_
  obtain rfl | rfl | rfl : j = 0 ∨ j = 1 ∨ j = 2 := by omega
  all_goals rfl
/-- A drawn automaton of T states. -/
def DAT (al : Int) (R p K T : Nat) (w : World) (e : Ending) (w' : World) : Prop := ∃ (a1 : Option Addr) (n1 c1 : Nat) (a2 : Option Addr) (n2 c2 : Nat) (us : List Value) (xss : List (List Int)) (bs : List Bool),
  e = .returned (.agg #[.int .i64 al, .slice a1 n1 c1, .slice a2 n2 c2]) ∧ RO w.heap.size w' (.slice a1 n1 c1) us xss ∧ TRow w.heap.size w' (.slice a2 n2 c2) bs ∧ xss.length = T ∧ bs.length = T ∧ (∀ l ∈ xss, l.length ≤ 6) ∧ Adv R p K w w'
set_option maxHeartbeats 4000000 in
theorem l3Random_any (R p : Nat) (al : Int) (T : Nat) (w : World) (hr : RdOk R p w) (hp : p ≤ 900000) (hal : isA al = true) (hT : T ≤ 5) :
    Calls Try.prog 85 #[.pointer (some ⟨R, 0, none⟩), .int .i64 al, .int .i64 T] w (DAT al R p 100 T w) := by
  obtain ⟨ha0, ha1⟩ := (isA_iff al).1 hal
  have hRlt := hr.lt
  have hlx := lets_len al
  go_enter Try.func85, Try.ntmps85
  go_wp2_with fail
  obtain ⟨w2, hw2⟩ : ∃ w2, ((w.alloc (.cells #[.int .i64 0, .slice none 0 0, .slice none 0 0] 28)).alloc (.cells #[.int .i64 al, .slice none 0 0, .slice none 0 0] 28)) = w2 := ⟨_, rfl⟩
  have hb2 : Below w.heap.size w w2 := by rw [← hw2]; exact (below_newA _ _ _).alloc (by simp) _
  have hz2 : w2.rowIs w.heap.size 28 3 (fun i => #[.int .i64 0, .slice none 0 0, .slice none 0 0][i]?.getD undef) := by rw [← hw2]; exact (own_cells w _ _ 3 rfl).alloc _
  have hs2 : w2.rowIs (w.heap.size + 1) 28 3 (fun i => #[.int .i64 al, .slice none 0 0, .slice none 0 0][i]?.getD undef) := by
    rw [← hw2]
    have := own_cells (w.alloc (.cells #[.int .i64 0, .slice none 0 0, .slice none 0 0] 28)) #[.int .i64 al, .slice none 0 0, .slice none 0 0] 28 3 rfl
    simpa using this
  rw [hw2]
  clear hw2
  refine (l1Letters_any al ha0 (by omega) w2).mono ?_
  rintro e wL ⟨ao, cap, rfl, hown, hbL⟩
  obtain ⟨m, hm⟩ : ∃ m, (lets al).length = m := ⟨_, rfl⟩
  rw [hm] at hlx ⊢
  have hLs := hbL.size
  have HZ := Lib.hid (rowIs_below hz2 hbL)
  have HS := Lib.hid (rowIs_below hs2 hbL)
  have HR := Lib.hid ((hr.below hb2).below hbL)
  have HG := Lib.hid (grown_below (some R) (hb2.trans (hbL.mono hb2.size)))
  have hS0 : w.heap.size + 1 < wL.heap.size := World.rowIs.lt HS.out
  obtain ⟨S, hS⟩ : ∃ S, w.heap.size + 1 = S := ⟨_, rfl⟩
  obtain ⟨Z, hZ⟩ : ∃ Z, w.heap.size = Z := ⟨_, rfl⟩
  rw [hS] at HS hS0
  rw [hZ] at HZ
  have hRS : R < S := by omega
  have hZR : R < Z := by omega
  have hZS : Z < S := by omega
  clear hown hm hr hz2 hs2 hb2 hbL hal
  rw [hS, hZ]
  go_wp2
  go_loopw [9] (fun i wr => ∃ (f p' : Nat) (a1 : Option Addr) (n1 c1 : Nat) (a2 : Option Addr) (n2 c2 : Nat) (us : List Value) (xss : List (List Int)) (bs : List Bool), i = .int .i64 f ∧ f ≤ T ∧ AD R p' S al wL wr (.slice a1 n1 c1) (.slice a2 n2 c2) us xss bs ∧ xss.length = f ∧ bs.length = f ∧ (∀ l ∈ xss, l.length ≤ 6) ∧ p' ≤ p + f * 7) (fun i _ => T - (intOf i).toNat)
  case atStart => exact ⟨0, p, none, 0, 0, none, 0, 0, [], [], [], rfl, Nat.zero_le _, ⟨HR.out, HS.out, RO.nil _ _, TRow.nil _ _, hRS, hS0, rfl, rfl, rfl, Nat.le_refl _, fun _ _ _ _ => rfl⟩, rfl, rfl, (fun l hl => by cases hl), by omega⟩
  case round =>
    obtain ⟨f, p1, a1, n1, c1, a2, n2, c2, us, xss, bs, rfl, hf, hd, hxl, hbl, hxs, hp1⟩ := hrel
    have HXL := Lib.hid hxl; clear hxl
    have HBL := Lib.hid hbl; clear hbl
    have HXS := Lib.hid hxs; clear hxs
    by_cases hlt : f < T
    · have hrow := IRow.empty wr.heap.size wr (Nat.le_refl _)
      have hlt0 := hd.lt
      have hd0 := hd.below (below_newA wr 3 #[])
      have hlo := hd.2.2.2.2.2.2.2.2.2.1
      obtain ⟨w3, hw3⟩ : ∃ w3, wr.alloc (.cells #[] 3) = w3 := ⟨_, rfl⟩
      have hsz3 : w3.heap.size = wr.heap.size + 1 := by rw [← hw3]; simp
      rw [hw3] at hrow hd0
      obtain ⟨lo, hlo0⟩ : ∃ lo, wr.heap.size = lo := ⟨_, rfl⟩
      rw [hlo0] at hrow hlt0 hlo hsz3
      have HROW := Lib.hid hrow
      have HD0 := Lib.hid hd0
      have HLT := Lib.hid hlt0; clear hlt0
      clear hrow hd0 hd
      go_wp2
      clear hw3 hlo0
      go_loopw [10, 11] (fun v i wq => ∃ (k p' : Nat) (ar : Option Addr) (nr cr : Nat) (row : List Int), i = .int .i64 k ∧ v = .slice ar nr cr ∧ k ≤ m ∧ AD R p' S al wL wq (.slice a1 n1 c1) (.slice a2 n2 c2) us xss bs ∧ IRow lo wq (.slice ar nr cr) row ∧ nr = row.length ∧ row.length = k ∧ lo ≤ wq.heap.size ∧ p' ≤ p + f * 7 + k) (fun _ i _ => m - (intOf i).toNat)
      case atStart => exact ⟨0, p1, _, 0, 0, [], rfl, rfl, Nat.zero_le _, HD0.out, HROW.out, rfl, rfl, by omega, by omega⟩
      case round =>
        clear HD0 HROW hp1
        obtain ⟨k, p2, ar, nr, cr, row, rfl, rfl, hk, hd, hrow, hnr, hrl, hlw, hp2⟩ := hrel
        have HNR := Lib.hid hnr; clear hnr
        have HRL := Lib.hid hrl; clear hrl
        by_cases hlk : k < m
        · have HD := Lib.hid hd
          have HROW := Lib.hid hrow
          have hrd := hd.1
          clear hd hrow
          go_wp2_with fail
          refine (pick_any R p2 T _ hrd (by omega)).mono ?_
          rintro e w4 ⟨z, rfl, -, -, hr4, hg4⟩
          have HD4 := Lib.hid (HD.out.pick hr4 hg4)
          have HROW4 := Lib.hid (show IRow lo w4 (.slice ar nr cr) row from World.ownsRow.kept HROW.out hg4 (own_low HROW.out (by omega)))
          have hlw4 : lo ≤ w4.heap.size := Nat.le_trans hlw hg4.size
          clear hr4 hg4 hrd HD HROW
          go_wp2_with (at_builtin; refine app_int w4 z lo rfl rfl _ _ rfl (.slice ar nr cr) row rfl HROW4.out rfl ?_ hlw4 ?_)
          · have := HRL.out; omega
          intro ar' nr' cr' w5 hnr' hrow' hkept
          have hne : ∀ i, i < us.length → (uAt us i).ownBlock = none ∨ (uAt us i).ownBlock ≠ (Value.slice ar nr cr).ownBlock := fun i hi => by
            cases hu : (uAt us i).ownBlock with
            | none => exact .inl rfl
            | some g =>
              right
              intro q
              have h1 := HLT.out i hi g hu
              have h2 := (World.ownsRow.lt HROW4.out g q.symm).1
              omega
          have HD5 := Lib.hid (HD4.out.keptInt HROW4.out hkept hlo hne)
          have HROW5 := Lib.hid hrow'
          have hlw5 : lo ≤ w5.heap.size := Nat.le_trans hlw4 hkept.2.size
          have HNR2 := Lib.hid hnr'; clear hnr'
          clear hkept hrow' hne
          go_wp2
          go_roundw
          case rel => exact ⟨k + 1, p2 + 1, ar', nr', cr', row ++ [z], by go_num, rfl, by omega, HD5.out, HROW5.out, by rw [HNR2.out]; simp, by simp [HRL.out], hlw5, by omega⟩
          case measure => simp [intOf] <;> omega
        · obtain rfl : k = m := by omega
          have c1' : wr.cell? ⟨S, 1, none⟩ = some (.slice a1 n1 c1) := hd.cells.2.1
          have hro := hd.2.2.1
          have hown1 : wr.ownsRow wL.heap.size 44 1 (.slice a1 n1 c1) us.length (us.map id) := by rw [List.map_id]; exact hro.1
          have hus6 : us.length ≤ 1000000 := by have h1 := hro.2.1; have h2 := HXL.out; omega
          have hLw : wL.heap.size ≤ wr.heap.size := hd.2.2.2.2.2.2.2.2.2.1
          have HD := Lib.hid hd
          have HROW := Lib.hid hrow
          have HOWN1 := Lib.hid hown1
          clear hd hrow hro hown1
          go_wp2_with (at_builtin; go_loud (refine appL_rows wr wL.heap.size rfl _ _ rfl (.slice ar nr cr) rfl (.slice a1 n1 c1) us rfl HOWN1.out rfl hus6 hLw ?_))
          intro ao1 m1 cap1 w5 hm1 hown5 hkept
          have hs5 := (HD.out.grown hkept HD.out.2.2.1.1 (by decide)).2.1
          have s1 : w5.cell? ⟨S, 1, none⟩ = some (.slice a1 n1 c1) := hs5.cell (by decide)
          have s2 := hs5.frozen 1
          have hsep : ∀ i, i < us.length → ((Value.slice ar nr cr).ownBlock = none ∨ (Value.slice ar nr cr).ownBlock ≠ (uAt us i).ownBlock) ∧ ((uAt us i).ownBlock = none ∨ (uAt us i).ownBlock ≠ (Value.slice ar nr cr).ownBlock) := fun i hi => by
            have key : ∀ g, (uAt us i).ownBlock = some g → (Value.slice ar nr cr).ownBlock ≠ some g := fun g hu q => by
              have h1 := HLT.out i hi g hu
              have h2 := (World.ownsRow.lt HROW.out g q).1
              omega
            constructor
            · cases hv : (Value.slice ar nr cr).ownBlock with
              | none => exact .inl rfl
              | some g => right; intro q; exact key g q.symm hv
            · cases hu : (uAt us i).ownBlock with
              | none => exact .inl rfl
              | some g => right; intro q; exact key g hu q.symm
          have hd6 := HD.out.app1 (v1' := .slice ao1 m1 cap1) (x := row) (HROW.out.base hlo) hsep hkept (by simpa using hown5)
          have HD6 := Lib.hid hd6
          obtain ⟨w6, hw6⟩ : ∃ w6, w5.setCell ⟨S, 1, none⟩ (.slice ao1 m1 cap1) = w6 := ⟨_, rfl⟩
          rw [hw6] at HD6
          clear hd6 hown5 hkept hs5 hsep
          go_wp2_with fail
          subst hm1
          rw [hw6]
          have hrd6 := HD6.out.1
          have q6 : w6.drew.cell? ⟨S, 2, none⟩ = some (.slice a2 n2 c2) := HD6.out.cells.2.2
          clear hw6
          refine wp_region_held_drew (S := fun _ => True) (by kernel_rfl) trivial (fun hHeld => ?_)
          first | (refine wpAnyH_take (i := 0) (get_of_drop' rfl) (by kernel_rfl) (by kernel_rfl) (by kernel_rfl) (fun _ _ _ h => h) (Or.inr ⟨?_, rfl⟩) hHeld ?_; (focus (simp [Region.wanted, yielded, undef]; done)); (try simp only [Act.put, List.setIfInBounds_toArray, List.set_cons_zero, List.set_cons_succ])) | (refine wpAnyH_take (i := 0) (v := ?_) (get_of_drop' rfl) (by kernel_rfl) (by kernel_rfl) (by kernel_rfl) (fun _ _ _ h => h) (Or.inl ⟨?_, ?_⟩) hHeld ?_; rotate_left; (focus rfl); (focus (intro w hSw; (try dsimp only at hSw); go_simp; (try (with_reducible rfl)))); (try simp only [Act.put, List.setIfInBounds_toArray, List.set_cons_zero, List.set_cons_succ]))
          first | (refine wpAnyH_take (i := 2) (get_of_drop' rfl) (by kernel_rfl) (by kernel_rfl) (by kernel_rfl) (fun _ _ _ h => h) (Or.inr ⟨?_, rfl⟩) hHeld ?_; (focus (simp [Region.wanted, yielded, undef]; done)); (try simp only [Act.put, List.setIfInBounds_toArray, List.set_cons_zero, List.set_cons_succ])) | (refine wpAnyH_take (i := 2) (v := ?_) (get_of_drop' rfl) (by kernel_rfl) (by kernel_rfl) (by kernel_rfl) (fun _ _ _ h => h) (Or.inl ⟨?_, ?_⟩) hHeld ?_; rotate_left; (focus rfl); (focus (intro w hSw; (try dsimp only at hSw); go_simp; (try (with_reducible rfl)))); (try simp only [Act.put, List.setIfInBounds_toArray, List.set_cons_zero, List.set_cons_succ]))
          refine wpAnyH_ready (rs := [1, 3]) (by kernel_rfl) (by simp) ?_
          refine AllReadyH.cons (get_of_drop' rfl) (fun K hK => ?_) ?_
          · go_simp
            refine hK.out _ _ trivial (fun hHeld => ?_)
            clear hK K
            try simp only [Act.put, List.setIfInBounds_toArray, List.set_cons_zero, List.set_cons_succ]
            refine wpAnyH_ready (rs := [3]) (by kernel_rfl) (by simp) ?_
            refine AllReadyH.cons (get_of_drop' rfl) (fun K hK => ?_) AllReadyH.nil
            go_simp
            go_at_call 70
            refine (pick_any R p2 3 w6.drew (hrd6.drewN 1) (by omega)).mono ?_
            rintro e w7 ⟨z, rfl, -, -, hr7, hg7⟩
            have hd7 := HD6.out.drew.pick hr7 hg7
            have r7 : w7.cell? ⟨S, 2, none⟩ = some (.slice a2 n2 c2) := hd7.cells.2.2
            have hLw7 : wL.heap.size ≤ w7.heap.size := hd7.2.2.2.2.2.2.2.2.2.1
            have HD7 := Lib.hid hd7
            clear hd7 hg7 hr7
            go_wp2_with fail
            refine hK.out _ _ trivial (fun hHeld => ?_)
            clear hK K
            try simp only [Act.put, List.setIfInBounds_toArray, List.set_cons_zero, List.set_cons_succ]
            first | (refine wpAnyH_take (i := 4) (get_of_drop' rfl) (by kernel_rfl) (by kernel_rfl) (by kernel_rfl) (fun _ _ _ h => h) (Or.inr ⟨?_, rfl⟩) hHeld ?_; (focus (simp [Region.wanted, yielded, undef]; done)); (try simp only [Act.put, List.setIfInBounds_toArray, List.set_cons_zero, List.set_cons_succ])) | (refine wpAnyH_take (i := 4) (v := ?_) (get_of_drop' rfl) (by kernel_rfl) (by kernel_rfl) (by kernel_rfl) (fun _ _ _ h => h) (Or.inl ⟨?_, ?_⟩) hHeld ?_; rotate_left; (focus rfl); (focus (intro w hSw; (try dsimp only at hSw); go_simp; (try (with_reducible rfl)))); (try simp only [Act.put, List.setIfInBounds_toArray, List.set_cons_zero, List.set_cons_succ]))
            refine wpAnyH_ready (rs := [5]) (by kernel_rfl) (by simp) ?_
            refine AllReadyH.cons (get_of_drop' rfl) (fun K hK => ?_) AllReadyH.nil
            go_simp
            refine hK.out _ _ trivial (fun hHeld => ?_)
            clear hK K
            try simp only [Act.put, List.setIfInBounds_toArray, List.set_cons_zero, List.set_cons_succ]
            refine wpAnyH_ready (rs := [6]) (by kernel_rfl) (by simp) ?_
            refine AllReadyH.cons (get_of_drop' rfl) (fun K hK => ?_) AllReadyH.nil
            rw [if_pos (by rfl)]
            refine appK_bool w7 wL.heap.size rfl _ _ rfl _ (.slice a2 n2 c2) bs rfl HD7.out.2.2.2.1 rfl (by have := HBL.out; omega) hLw7 ?_
            intro ao2 m2 cap2 w8 hm2 hown8 hkept8
            subst hm2
            refine hK.out _ _ trivial (fun hHeld => ?_)
            clear hK K
            try simp only [Act.put, List.setIfInBounds_toArray, List.set_cons_zero, List.set_cons_succ]
            first | (refine wpAnyH_take (i := 7) (get_of_drop' rfl) (by kernel_rfl) (by kernel_rfl) (by kernel_rfl) (fun _ _ _ h => h) (Or.inr ⟨?_, rfl⟩) hHeld ?_; (focus (simp [Region.wanted, yielded, undef]; done)); (try simp only [Act.put, List.setIfInBounds_toArray, List.set_cons_zero, List.set_cons_succ])) | (refine wpAnyH_take (i := 7) (v := ?_) (get_of_drop' rfl) (by kernel_rfl) (by kernel_rfl) (by kernel_rfl) (fun _ _ _ h => h) (Or.inl ⟨?_, ?_⟩) hHeld ?_; rotate_left; (focus rfl); (focus (intro w hSw; (try dsimp only at hSw); go_simp; (try (with_reducible rfl)))); (try simp only [Act.put, List.setIfInBounds_toArray, List.set_cons_zero, List.set_cons_succ]))
            refine wpAnyH_ready (rs := [8]) (by kernel_rfl) (by simp) ?_
            refine AllReadyH.cons (get_of_drop' rfl) (fun K hK => ?_) AllReadyH.nil
            have hs8 := (HD7.out.grown hkept8 HD7.out.2.2.2.1 (by decide)).2.1
            have s2 : w8.cell? ⟨S, 2, none⟩ = some (.slice a2 n2 c2) := hs8.cell (by decide)
            have s3 := hs8.frozen 2
            have HD8 := Lib.hid (HD7.out.app2 hkept8 hown8)
            clear hs8 hkept8 hown8
            go_simp
            refine hK.out _ _ trivial (fun hHeld => ?_)
            clear hK K
            try simp only [Act.put, List.setIfInBounds_toArray, List.set_cons_zero, List.set_cons_succ]
            refine wpAnyH_done (by kernel_rfl) ?_ _
            go_wp2
            go_roundw
            case rel => exact ⟨f + 1, p2 + 1, ao1, _, cap1, ao2, _, cap2, us ++ [.slice ar nr cr], xss ++ [row], _, by go_num, by omega, HD8.out, by rw [List.length_append, HXL.out]; rfl, by rw [List.length_append, HBL.out]; rfl, (fun l hl => by rcases List.mem_append.1 hl with hl | hl; exact HXS.out l hl; rw [List.mem_singleton.1 hl, HRL.out]; exact hlx), by omega⟩
            case measure => simp [intOf] <;> omega
          · refine AllReadyH.cons (get_of_drop' rfl) (fun K hK => ?_) AllReadyH.nil
            go_simp
            go_at_call 70
            refine (pick_any R p2 3 w6.drew (hrd6.drewN 1) (by omega)).mono ?_
            rintro e w7 ⟨z, rfl, -, -, hr7, hg7⟩
            have hd7 := HD6.out.drew.pick hr7 hg7
            have r7 : w7.cell? ⟨S, 2, none⟩ = some (.slice a2 n2 c2) := hd7.cells.2.2
            have hLw7 : wL.heap.size ≤ w7.heap.size := hd7.2.2.2.2.2.2.2.2.2.1
            have HD7 := Lib.hid hd7
            clear hd7 hg7 hr7
            go_wp2_with fail
            refine hK.out _ _ trivial (fun hHeld => ?_)
            clear hK K
            try simp only [Act.put, List.setIfInBounds_toArray, List.set_cons_zero, List.set_cons_succ]
            first | (refine wpAnyH_take (i := 4) (get_of_drop' rfl) (by kernel_rfl) (by kernel_rfl) (by kernel_rfl) (fun _ _ _ h => h) (Or.inr ⟨?_, rfl⟩) hHeld ?_; (focus (simp [Region.wanted, yielded, undef]; done)); (try simp only [Act.put, List.setIfInBounds_toArray, List.set_cons_zero, List.set_cons_succ])) | (refine wpAnyH_take (i := 4) (v := ?_) (get_of_drop' rfl) (by kernel_rfl) (by kernel_rfl) (by kernel_rfl) (fun _ _ _ h => h) (Or.inl ⟨?_, ?_⟩) hHeld ?_; rotate_left; (focus rfl); (focus (intro w hSw; (try dsimp only at hSw); go_simp; (try (with_reducible rfl)))); (try simp only [Act.put, List.setIfInBounds_toArray, List.set_cons_zero, List.set_cons_succ]))
            refine wpAnyH_ready (rs := [1, 5]) (by kernel_rfl) (by simp) ?_
            refine AllReadyH.cons (get_of_drop' rfl) (fun K hK => ?_) ?_
            · go_simp
              refine hK.out _ _ trivial (fun hHeld => ?_)
              clear hK K
              try simp only [Act.put, List.setIfInBounds_toArray, List.set_cons_zero, List.set_cons_succ]
              refine wpAnyH_ready (rs := [5]) (by kernel_rfl) (by simp) ?_
              refine AllReadyH.cons (get_of_drop' rfl) (fun K hK => ?_) AllReadyH.nil
              go_simp
              refine hK.out _ _ trivial (fun hHeld => ?_)
              clear hK K
              try simp only [Act.put, List.setIfInBounds_toArray, List.set_cons_zero, List.set_cons_succ]
              refine wpAnyH_ready (rs := [6]) (by kernel_rfl) (by simp) ?_
              refine AllReadyH.cons (get_of_drop' rfl) (fun K hK => ?_) AllReadyH.nil
              rw [if_pos (by rfl)]
              refine appK_bool w7 wL.heap.size rfl _ _ rfl _ (.slice a2 n2 c2) bs rfl HD7.out.2.2.2.1 rfl (by have := HBL.out; omega) hLw7 ?_
              intro ao2 m2 cap2 w8 hm2 hown8 hkept8
              subst hm2
              refine hK.out _ _ trivial (fun hHeld => ?_)
              clear hK K
              try simp only [Act.put, List.setIfInBounds_toArray, List.set_cons_zero, List.set_cons_succ]
              first | (refine wpAnyH_take (i := 7) (get_of_drop' rfl) (by kernel_rfl) (by kernel_rfl) (by kernel_rfl) (fun _ _ _ h => h) (Or.inr ⟨?_, rfl⟩) hHeld ?_; (focus (simp [Region.wanted, yielded, undef]; done)); (try simp only [Act.put, List.setIfInBounds_toArray, List.set_cons_zero, List.set_cons_succ])) | (refine wpAnyH_take (i := 7) (v := ?_) (get_of_drop' rfl) (by kernel_rfl) (by kernel_rfl) (by kernel_rfl) (fun _ _ _ h => h) (Or.inl ⟨?_, ?_⟩) hHeld ?_; rotate_left; (focus rfl); (focus (intro w hSw; (try dsimp only at hSw); go_simp; (try (with_reducible rfl)))); (try simp only [Act.put, List.setIfInBounds_toArray, List.set_cons_zero, List.set_cons_succ]))
              refine wpAnyH_ready (rs := [8]) (by kernel_rfl) (by simp) ?_
              refine AllReadyH.cons (get_of_drop' rfl) (fun K hK => ?_) AllReadyH.nil
              have hs8 := (HD7.out.grown hkept8 HD7.out.2.2.2.1 (by decide)).2.1
              have s2 : w8.cell? ⟨S, 2, none⟩ = some (.slice a2 n2 c2) := hs8.cell (by decide)
              have s3 := hs8.frozen 2
              have HD8 := Lib.hid (HD7.out.app2 hkept8 hown8)
              clear hs8 hkept8 hown8
              go_simp
              refine hK.out _ _ trivial (fun hHeld => ?_)
              clear hK K
              try simp only [Act.put, List.setIfInBounds_toArray, List.set_cons_zero, List.set_cons_succ]
              refine wpAnyH_done (by kernel_rfl) ?_ _
              go_wp2
              go_roundw
              case rel => exact ⟨f + 1, p2 + 1, ao1, _, cap1, ao2, _, cap2, us ++ [.slice ar nr cr], xss ++ [row], _, by go_num, by omega, HD8.out, by rw [List.length_append, HXL.out]; rfl, by rw [List.length_append, HBL.out]; rfl, (fun l hl => by rcases List.mem_append.1 hl with hl | hl; exact HXS.out l hl; rw [List.mem_singleton.1 hl, HRL.out]; exact hlx), by omega⟩
              case measure => simp [intOf] <;> omega
            · refine AllReadyH.cons (get_of_drop' rfl) (fun K hK => ?_) AllReadyH.nil
              have r8 := keep_cellA (below_newA w7 4 #[.bool (decide (z > 0))]) r7
              go_simp
              refine hK.out _ _ trivial (fun hHeld => ?_)
              clear hK K
              try simp only [Act.put, List.setIfInBounds_toArray, List.set_cons_zero, List.set_cons_succ]
              refine wpAnyH_ready (rs := [1]) (by kernel_rfl) (by simp) ?_
              refine AllReadyH.cons (get_of_drop' rfl) (fun K hK => ?_) AllReadyH.nil
              go_simp
              refine hK.out _ _ trivial (fun hHeld => ?_)
              clear hK K
              try simp only [Act.put, List.setIfInBounds_toArray, List.set_cons_zero, List.set_cons_succ]
              refine wpAnyH_ready (rs := [6]) (by kernel_rfl) (by simp) ?_
              refine AllReadyH.cons (get_of_drop' rfl) (fun K hK => ?_) AllReadyH.nil
              rw [if_pos (by rfl)]
              refine appK_bool w7 wL.heap.size rfl _ _ rfl _ (.slice a2 n2 c2) bs rfl HD7.out.2.2.2.1 rfl (by have := HBL.out; omega) hLw7 ?_
              intro ao2 m2 cap2 w8 hm2 hown8 hkept8
              subst hm2
              refine hK.out _ _ trivial (fun hHeld => ?_)
              clear hK K
              try simp only [Act.put, List.setIfInBounds_toArray, List.set_cons_zero, List.set_cons_succ]
              first | (refine wpAnyH_take (i := 7) (get_of_drop' rfl) (by kernel_rfl) (by kernel_rfl) (by kernel_rfl) (fun _ _ _ h => h) (Or.inr ⟨?_, rfl⟩) hHeld ?_; (focus (simp [Region.wanted, yielded, undef]; done)); (try simp only [Act.put, List.setIfInBounds_toArray, List.set_cons_zero, List.set_cons_succ])) | (refine wpAnyH_take (i := 7) (v := ?_) (get_of_drop' rfl) (by kernel_rfl) (by kernel_rfl) (by kernel_rfl) (fun _ _ _ h => h) (Or.inl ⟨?_, ?_⟩) hHeld ?_; rotate_left; (focus rfl); (focus (intro w hSw; (try dsimp only at hSw); go_simp; (try (with_reducible rfl)))); (try simp only [Act.put, List.setIfInBounds_toArray, List.set_cons_zero, List.set_cons_succ]))
              refine wpAnyH_ready (rs := [8]) (by kernel_rfl) (by simp) ?_
              refine AllReadyH.cons (get_of_drop' rfl) (fun K hK => ?_) AllReadyH.nil
              have hs8 := (HD7.out.grown hkept8 HD7.out.2.2.2.1 (by decide)).2.1
              have s2 : w8.cell? ⟨S, 2, none⟩ = some (.slice a2 n2 c2) := hs8.cell (by decide)
              have s3 := hs8.frozen 2
              have HD8 := Lib.hid (HD7.out.app2 hkept8 hown8)
              clear hs8 hkept8 hown8
              go_simp
              refine hK.out _ _ trivial (fun hHeld => ?_)
              clear hK K
              try simp only [Act.put, List.setIfInBounds_toArray, List.set_cons_zero, List.set_cons_succ]
              refine wpAnyH_done (by kernel_rfl) ?_ _
              go_wp2
              go_roundw
              case rel => exact ⟨f + 1, p2 + 1, ao1, _, cap1, ao2, _, cap2, us ++ [.slice ar nr cr], xss ++ [row], _, by go_num, by omega, HD8.out, by rw [List.length_append, HXL.out]; rfl, by rw [List.length_append, HBL.out]; rfl, (fun l hl => by rcases List.mem_append.1 hl with hl | hl; exact HXS.out l hl; rw [List.mem_singleton.1 hl, HRL.out]; exact hlx), by omega⟩
              case measure => simp [intOf] <;> omega
    · obtain rfl : f = T := by omega
      have hZk : wr.heap[Z]? = wL.heap[Z]? := hd.2.2.2.2.2.2.2.2.2.2 Z (by have := World.rowIs.lt HZ.out; omega) (by omega) (by omega)
      have hqz : wr.rowIs Z 28 3 (fun i => #[.int .i64 0, .slice none 0 0, .slice none 0 0][i]?.getD undef) := HZ.out.of_block hZk
      obtain ⟨q0, q1, q2⟩ := hd.cells
      have z0 : wr.cell? ⟨Z, 0, none⟩ = some (.int .i64 0) := hqz.cell (by decide)
      have z1 : wr.cell? ⟨Z, 1, none⟩ = some (.slice none 0 0) := hqz.cell (by decide)
      have z2 : wr.cell? ⟨Z, 2, none⟩ = some (.slice none 0 0) := hqz.cell (by decide)
      have zf0 := hqz.frozen 0
      have zf1 := hqz.frozen 1
      have zf2 := hqz.frozen 2
      have HD := Lib.hid hd
      have HQZ := Lib.hid hqz
      clear hd hqz hZk
      go_wp2
      have hdone := AD.done (u0 := .int .i64 al) (u1 := .slice a1 n1 c1) (u2 := .slice a2 n2 c2) HD.out HG.out (Nat.le_of_eq hZ) hRlt (by omega) (by have := World.rowIs.lt HZ.out; omega)
      have hfin := rowIs_set3A HQZ.out (.int .i64 al) (.slice a1 n1 c1) (.slice a2 n2 c2)
      obtain ⟨wf, hwf⟩ : ∃ wf, (((wr.setCell ⟨Z, 0, none⟩ (.int .i64 al)).setCell ⟨Z, 1, none⟩ (.slice a1 n1 c1)).setCell ⟨Z, 2, none⟩ (.slice a2 n2 c2)) = wf := ⟨_, rfl⟩
      rw [hwf] at hfin hdone ⊢
      clear hwf
      have f0 : wf.cell? ⟨Z, 0, none⟩ = some (.int .i64 al) := hfin.cell (by decide)
      have f1 : wf.cell? ⟨Z, 1, none⟩ = some (.slice a1 n1 c1) := hfin.cell (by decide)
      have f2 : wf.cell? ⟨Z, 2, none⟩ = some (.slice a2 n2 c2) := hfin.cell (by decide)
      refine bodyPost_ret (v := .agg #[.int .i64 al, .slice a1 n1 c1, .slice a2 n2 c2]) ?_ rfl ?_
      · simp [results, Try.results85, go_sem, f0, f1, f2]
      · have h1 := HXL.out
        have h2 := HBL.out
        have hlz : w.heap.size ≤ wL.heap.size := by omega
        exact ⟨a1, n1, c1, a2, n2, c2, us, xss, bs, rfl, hdone.1.base hlz, hdone.2.1.base hlz, h1, h2, HXS.out, ⟨p1, by omega, hdone.2.2.1, hdone.2.2.2⟩⟩
end Go.Proofs.Ytagegbhchljggaa
