/- l3Big: what it draws. -/
import Derived.Test.YtagegbhchljggaaAQ
import Derived.Deep.CutRange


namespace Go.Proofs.Ytagegbhchljggaa
open Go.RowKit
set_option linter.unusedVariables false
set_option linter.unusedSimpArgs false
set_option maxRecDepth 100000

theorem lit_own (w6 : World) {n c : Nat} : ∀ g, (Value.slice (some ⟨w6.heap.size, 0, none⟩) n c).ownBlock = some g → w6.heap.size ≤ g := fun g hg => by
  have : w6.heap.size = g := by simpa [Value.ownBlock] using hg
  omega
set_option maxHeartbeats 8000000 in
theorem l3Big_any (R p : Nat) (w : World) (hr : RdOk R p w) (hp : p ≤ 800000) : Calls Try.prog 71 #[.pointer (some ⟨R, 0, none⟩)] w (DA R p 110 100 w) := by
  have hRlt := hr.lt
  have hq0 := own_cells w #[.int .i64 0, .slice none 0 0, .slice none 0 0] 28 3 rfl
  have hb0 := below_newA w 28 #[.int .i64 0, .slice none 0 0, .slice none 0 0]
  obtain ⟨Z, hZ⟩ : ∃ Z, w.heap.size = Z := ⟨_, rfl⟩
  obtain ⟨w0, hw0⟩ : ∃ w0, (w.alloc (.cells #[.int .i64 0, .slice none 0 0, .slice none 0 0] 28)) = w0 := ⟨_, rfl⟩
  have hs0 : w0.heap.size = Z + 1 := by rw [← hw0, ← hZ]; simp
  rw [hZ] at hq0
  rw [hw0] at hq0 hb0
  have hr0 := hr.below hb0
  have hg0 := grown_below (some R) hb0
  have hRZ : Z ≠ R := by omega
  go_enter Try.func71, Try.ntmps71
  go_wp2_with fail
  (try rw [hw0]); (try rw [hs0])
  obtain ⟨S, hS⟩ : ∃ S, Z + 1 = S := ⟨_, rfl⟩
  have hs1 := own_cells w0 #[.int .i64 3, .slice none 0 0, .slice none 0 0] 28 3 rfl
  have hb1 := below_newA w0 28 #[.int .i64 3, .slice none 0 0, .slice none 0 0]
  obtain ⟨w1, hw1⟩ : ∃ w1, (w0.alloc (.cells #[.int .i64 3, .slice none 0 0, .slice none 0 0] 28)) = w1 := ⟨_, rfl⟩
  rw [hw1] at hs1 hb1 ⊢
  rw [hs0, hS] at hs1
  rw [hS]
  have haq : AQ (some R) Z S 3 w w1 (.slice none 0 0) (.slice none 0 0) [] [] [] := ⟨AX.nil _ _, hg0.trans (grown_below (some R) hb1), rowIs_below hq0 hb1, hs1, hZ, by omega, fun r hr => by injection hr with hr; omega⟩
  have HAQ := Lib.hid haq
  have HR := Lib.hid (hr0.below hb1)
  clear hr0 hb1 hs1 hq0 hb0 hg0 hw1 hw0 haq
  go_wp2
  go_loopw [4] (fun i wr => ∃ (k p' : Nat) (v1 v2 : Value) (us : List Value) (xss : List (List Int)) (bs : List Bool), i = .int .i64 k ∧ k ≤ 12 ∧ AQ (some R) Z S 3 w wr v1 v2 us xss bs ∧ RdOk R p' wr ∧ xss.length = k ∧ bs.length = k ∧ (∀ l ∈ xss, l.length ≤ 2) ∧ p' ≤ p + k * 2) (fun i _ => 12 - (intOf i).toNat)
  case atStart => exact ⟨0, p, _, _, _, _, _, rfl, Nat.zero_le _, HAQ.out, HR.out, rfl, rfl, (fun l hl => by cases hl), by omega⟩
  case round =>
    clear HAQ HR
    obtain ⟨k, p1, v1, v2, us, xss, bs, rfl, hk, haq, hrd, hxl, hbl, hxx, hp1⟩ := hrel
    have HAQ := Lib.hid haq
    have HR := Lib.hid hrd; clear hrd
    have HXL := Lib.hid hxl; clear hxl
    have HBL := Lib.hid hbl; clear hbl
    have HXX := Lib.hid hxx; clear hxx
    have hsw : S < wr.heap.size := World.rowIs.lt haq.2.2.2.1
    by_cases hlt : k < 12
    · have q1 : wr.cell? ⟨S, 1, none⟩ = some v1 := haq.cells.2.1
      have hlt' : (k : Int) < 12 := by omega
      have q3 : (wr.alloc (.cells #[.int .i64 (k : Int), .int .i64 0, .int .i64 11] 3)).cell? ⟨S, 1, none⟩ = some v1 := keep_cellA (below_newA _ _ _) q1
      clear haq
      go_wp2_with fail
      go_cut [4] from 10 to 22 (fun s4 wc => s4 = .int .i64 k ∧ ∃ (p' : Nat) (v1 : Value) (us : List Value) (xss : List (List Int)), AQ (some R) Z S 3 w wc v1 v2 us xss bs ∧ RdOk R p' wc ∧ xss.length = k + 1 ∧ (∀ l ∈ xss, l.length ≤ 2) ∧ p' ≤ p + k * 2 + 1)
      case first =>
        refine wp_region_held_drew (S := fun _ => True) (by kernel_rfl) trivial (fun hHeld => ?_)
        first | (refine wpAnyH_take (i := 0) (get_of_drop' rfl) (by kernel_rfl) (by kernel_rfl) (by kernel_rfl) (fun _ _ _ h => h) (Or.inr ⟨?_, rfl⟩) hHeld ?_; (focus (simp [Region.wanted, yielded, undef]; done)); (try simp only [Act.put, List.setIfInBounds_toArray, List.set_cons_zero, List.set_cons_succ])) | (refine wpAnyH_take (i := 0) (v := ?_) (get_of_drop' rfl) (by kernel_rfl) (by kernel_rfl) (by kernel_rfl) (fun _ _ _ h => h) (Or.inl ⟨?_, ?_⟩) hHeld ?_; rotate_left; (focus rfl); (focus (intro w hSw; (try dsimp only at hSw); go_simp; (try (with_reducible rfl)))); (try simp only [Act.put, List.setIfInBounds_toArray, List.set_cons_zero, List.set_cons_succ]))
        first | (refine wpAnyH_take (i := 2) (get_of_drop' rfl) (by kernel_rfl) (by kernel_rfl) (by kernel_rfl) (fun _ _ _ h => h) (Or.inr ⟨?_, rfl⟩) hHeld ?_; (focus (simp [Region.wanted, yielded, undef]; done)); (try simp only [Act.put, List.setIfInBounds_toArray, List.set_cons_zero, List.set_cons_succ])) | (refine wpAnyH_take (i := 2) (v := ?_) (get_of_drop' rfl) (by kernel_rfl) (by kernel_rfl) (by kernel_rfl) (fun _ _ _ h => h) (Or.inl ⟨?_, ?_⟩) hHeld ?_; rotate_left; (focus rfl); (focus (intro w hSw; (try dsimp only at hSw); go_simp; (try (with_reducible rfl)))); (try simp only [Act.put, List.setIfInBounds_toArray, List.set_cons_zero, List.set_cons_succ]))
        first | (refine wpAnyH_take (i := 3) (get_of_drop' rfl) (by kernel_rfl) (by kernel_rfl) (by kernel_rfl) (fun _ _ _ h => h) (Or.inr ⟨?_, rfl⟩) hHeld ?_; (focus (simp [Region.wanted, yielded, undef]; done)); (try simp only [Act.put, List.setIfInBounds_toArray, List.set_cons_zero, List.set_cons_succ])) | (refine wpAnyH_take (i := 3) (v := ?_) (get_of_drop' rfl) (by kernel_rfl) (by kernel_rfl) (by kernel_rfl) (fun _ _ _ h => h) (Or.inl ⟨?_, ?_⟩) hHeld ?_; rotate_left; (focus rfl); (focus (intro w hSw; (try dsimp only at hSw); go_simp; (try (with_reducible rfl)))); (try simp only [Act.put, List.setIfInBounds_toArray, List.set_cons_zero, List.set_cons_succ]))
        first | (refine wpAnyH_take (i := 4) (get_of_drop' rfl) (by kernel_rfl) (by kernel_rfl) (by kernel_rfl) (fun _ _ _ h => h) (Or.inr ⟨?_, rfl⟩) hHeld ?_; (focus (simp [Region.wanted, yielded, undef]; done)); (try simp only [Act.put, List.setIfInBounds_toArray, List.set_cons_zero, List.set_cons_succ])) | (refine wpAnyH_take (i := 4) (v := ?_) (get_of_drop' rfl) (by kernel_rfl) (by kernel_rfl) (by kernel_rfl) (fun _ _ _ h => h) (Or.inl ⟨?_, ?_⟩) hHeld ?_; rotate_left; (focus rfl); (focus (intro w hSw; (try dsimp only at hSw); go_simp; (try (with_reducible rfl)))); (try simp only [Act.put, List.setIfInBounds_toArray, List.set_cons_zero, List.set_cons_succ]))
        first | (refine wpAnyH_take (i := 5) (get_of_drop' rfl) (by kernel_rfl) (by kernel_rfl) (by kernel_rfl) (fun _ _ _ h => h) (Or.inr ⟨?_, rfl⟩) hHeld ?_; (focus (simp [Region.wanted, yielded, undef]; done)); (try simp only [Act.put, List.setIfInBounds_toArray, List.set_cons_zero, List.set_cons_succ])) | (refine wpAnyH_take (i := 5) (v := ?_) (get_of_drop' rfl) (by kernel_rfl) (by kernel_rfl) (by kernel_rfl) (fun _ _ _ h => h) (Or.inl ⟨?_, ?_⟩) hHeld ?_; rotate_left; (focus rfl); (focus (intro w hSw; (try dsimp only at hSw); go_simp; (try (with_reducible rfl)))); (try simp only [Act.put, List.setIfInBounds_toArray, List.set_cons_zero, List.set_cons_succ]))
        first | (refine wpAnyH_take (i := 6) (get_of_drop' rfl) (by kernel_rfl) (by kernel_rfl) (by kernel_rfl) (fun _ _ _ h => h) (Or.inr ⟨?_, rfl⟩) hHeld ?_; (focus (simp [Region.wanted, yielded, undef]; done)); (try simp only [Act.put, List.setIfInBounds_toArray, List.set_cons_zero, List.set_cons_succ])) | (refine wpAnyH_take (i := 6) (v := ?_) (get_of_drop' rfl) (by kernel_rfl) (by kernel_rfl) (by kernel_rfl) (fun _ _ _ h => h) (Or.inl ⟨?_, ?_⟩) hHeld ?_; rotate_left; (focus rfl); (focus (intro w hSw; (try dsimp only at hSw); go_simp; (try (with_reducible rfl)))); (try simp only [Act.put, List.setIfInBounds_toArray, List.set_cons_zero, List.set_cons_succ]))
        refine wpAnyH_ready (rs := [1, 7]) (by kernel_rfl) (by simp) ?_
        refine AllReadyH.cons (get_of_drop' rfl) (fun K hK => ?_) ?_
        · go_simp
          refine hK.out _ _ trivial (fun hHeld => ?_)
          clear hK K
          try simp only [Act.put, List.setIfInBounds_toArray, List.set_cons_zero, List.set_cons_succ]
          refine wpAnyH_ready (rs := [7]) (by kernel_rfl) (by simp) ?_
          refine AllReadyH.cons (get_of_drop' rfl) (fun K hK => ?_) AllReadyH.nil
          go_simp
          refine hK.out _ _ trivial (fun hHeld => ?_)
          clear hK K
          try simp only [Act.put, List.setIfInBounds_toArray, List.set_cons_zero, List.set_cons_succ]
          refine wpAnyH_ready (rs := [8]) (by kernel_rfl) (by simp) ?_
          refine AllReadyH.cons (get_of_drop' rfl) (fun K hK => ?_) AllReadyH.nil
          go_simp
          go_at_call 58
          refine (num_lit R p1 [(k : Int), 0, 11] _ _ wr.drew rfl (HR.out.drewN 1) (by omega) 3 rfl (by omega) (by omega)).mono ?_
          rintro e w6 ⟨j6, y, -, -, rfl, p6, hp6, hr6, hg6⟩
          have hq6 := HAQ.out.drew.pick hg6
          have hsz6 := hg6.size
          have r6 : w6.cell? ⟨S, 1, none⟩ = some v1 := hq6.cells.2.1
          have HR6C := Lib.hid r6
          have HQ6 := Lib.hid hq6
          have HR6 := Lib.hid hr6; clear hr6
          clear hq6 hg6
          go_wp2_with fail
          refine hK.out _ _ trivial (fun hHeld => ?_)
          clear hK K
          try simp only [Act.put, List.setIfInBounds_toArray, List.set_cons_zero, List.set_cons_succ]
          refine wpAnyH_ready (rs := [9]) (by kernel_rfl) (by simp) ?_
          refine AllReadyH.cons (get_of_drop' rfl) (fun K hK => ?_) AllReadyH.nil
          go_simp
          refine hK.out _ _ trivial (fun hHeld => ?_)
          clear hK K
          try simp only [Act.put, List.setIfInBounds_toArray, List.set_cons_zero, List.set_cons_succ]
          refine wpAnyH_ready (rs := [10]) (by kernel_rfl) (by simp) ?_
          refine AllReadyH.cons (get_of_drop' rfl) (fun K hK => ?_) AllReadyH.nil
          go_simp
          refine hK.out _ _ trivial (fun hHeld => ?_)
          clear hK K
          try simp only [Act.put, List.setIfInBounds_toArray, List.set_cons_zero, List.set_cons_succ]
          refine wpAnyH_ready (rs := [11]) (by kernel_rfl) (by simp) ?_
          refine AllReadyH.cons (get_of_drop' rfl) (fun K hK => ?_) AllReadyH.nil
          rw [if_pos (by rfl)]
          have hb7 := below_newA w6 3 #[.int .i64 ((IntKind.i64.wrap ((k : Int) + 1)).tmod 12), .int .i64 y]
          have hrow7 := lit_row w6 [((IntKind.i64.wrap ((k : Int) + 1)).tmod 12), y] _ rfl 2 rfl (by simp [maxLen]) w6.heap.size (Nat.le_refl _)
          have hq7 := HQ6.out.below hb7
          have hsz7 : (w6.alloc (.cells #[.int .i64 ((IntKind.i64.wrap ((k : Int) + 1)).tmod 12), .int .i64 y] 3)).heap.size = w6.heap.size + 1 := by simp
          have hun : (w6.alloc (.cells #[.int .i64 ((IntKind.i64.wrap ((k : Int) + 1)).tmod 12), .int .i64 y] 3)).ownsRow Z 44 1 v1 us.length (us.map id) := by rw [List.map_id]; exact hq7.1.1.1
          have hul : us.length ≤ 1000000 := by have h1 := hq7.1.1.2.1; have h2 := HXL.out; omega
          have hZ7 := hq7.low
          have HQ7 := Lib.hid hq7
          have HROW7 := Lib.hid hrow7; clear hrow7
          have HUN := Lib.hid hun; clear hun
          clear hq7 hb7
          refine appK_rows (w6.alloc (.cells #[.int .i64 ((IntKind.i64.wrap ((k : Int) + 1)).tmod 12), .int .i64 y] 3)) Z rfl _ _ rfl (.slice (some ⟨w6.heap.size, 0, none⟩) 2 2) rfl v1 us rfl HUN.out (by rw [hsz7]; rfl) hul hZ7 ?_
          intro ao1 m1 cap1 w8 hm1 hown8 hkept8
          subst hm1
          refine hK.out _ _ trivial (fun hHeld => ?_)
          clear hK K
          try simp only [Act.put, List.setIfInBounds_toArray, List.set_cons_zero, List.set_cons_succ]
          first | (refine wpAnyH_take (i := 12) (get_of_drop' rfl) (by kernel_rfl) (by kernel_rfl) (by kernel_rfl) (fun _ _ _ h => h) (Or.inr ⟨?_, rfl⟩) hHeld ?_; (focus (simp [Region.wanted, yielded, undef]; done)); (try simp only [Act.put, List.setIfInBounds_toArray, List.set_cons_zero, List.set_cons_succ])) | (refine wpAnyH_take (i := 12) (v := ?_) (get_of_drop' rfl) (by kernel_rfl) (by kernel_rfl) (by kernel_rfl) (fun _ _ _ h => h) (Or.inl ⟨?_, ?_⟩) hHeld ?_; rotate_left; (focus rfl); (focus (intro w hSw; (try dsimp only at hSw); go_simp; (try (with_reducible rfl)))); (try simp only [Act.put, List.setIfInBounds_toArray, List.set_cons_zero, List.set_cons_succ]))
          refine wpAnyH_ready (rs := [13]) (by kernel_rfl) (by simp) ?_
          refine AllReadyH.cons (get_of_drop' rfl) (fun K hK => ?_) AllReadyH.nil
          have hs8 := HQ7.out.box1 hkept8
          have s1 : w8.cell? ⟨S, 1, none⟩ = some v1 := hs8.cell (by decide)
          have s2 := hs8.frozen 1
          have hd8 := HQ7.out.app1 (x := [((IntKind.i64.wrap ((k : Int) + 1)).tmod 12), y]) (HROW7.out.base (Nat.le_trans HQ6.out.low (Nat.le_refl _))) HQ6.out.lt (lit_own w6) hkept8 (by simpa using hown8)
          have HD8 := Lib.hid hd8.1
          have HR8 := Lib.hid (hd8.2 p6 R (by omega) (HR6.out.below (below_newA _ _ _)))
          clear hd8 hs8 hkept8 hown8 HUN HROW7 HQ7
          go_simp
          refine hK.out _ _ trivial (fun hHeld => ?_)
          clear hK K
          try simp only [Act.put, List.setIfInBounds_toArray, List.set_cons_zero, List.set_cons_succ]
          refine wpAnyH_done (by kernel_rfl) ?_ _
          go_wp2_with fail
          go_meet
          case rel => exact ⟨rfl, p6, _, _, _, HD8.out, HR8.out, by rw [List.length_append, HXL.out]; rfl, (fun l hl => by rcases List.mem_append.1 hl with hl | hl; exact HXX.out l hl; rw [List.mem_singleton.1 hl]; exact Nat.le_refl _), by omega⟩
        · refine AllReadyH.cons (get_of_drop' rfl) (fun K hK => ?_) AllReadyH.nil
          go_simp
          refine hK.out _ _ trivial (fun hHeld => ?_)
          clear hK K
          try simp only [Act.put, List.setIfInBounds_toArray, List.set_cons_zero, List.set_cons_succ]
          refine wpAnyH_ready (rs := [1, 8]) (by kernel_rfl) (by simp) ?_
          refine AllReadyH.cons (get_of_drop' rfl) (fun K hK => ?_) ?_
          · go_simp
            refine hK.out _ _ trivial (fun hHeld => ?_)
            clear hK K
            try simp only [Act.put, List.setIfInBounds_toArray, List.set_cons_zero, List.set_cons_succ]
            refine wpAnyH_ready (rs := [8]) (by kernel_rfl) (by simp) ?_
            refine AllReadyH.cons (get_of_drop' rfl) (fun K hK => ?_) AllReadyH.nil
            go_simp
            go_at_call 58
            refine (num_lit R p1 [(k : Int), 0, 11] _ _ wr.drew rfl (HR.out.drewN 1) (by omega) 3 rfl (by omega) (by omega)).mono ?_
            rintro e w6 ⟨j6, y, -, -, rfl, p6, hp6, hr6, hg6⟩
            have hq6 := HAQ.out.drew.pick hg6
            have hsz6 := hg6.size
            have r6 : w6.cell? ⟨S, 1, none⟩ = some v1 := hq6.cells.2.1
            have HR6C := Lib.hid r6
            have HQ6 := Lib.hid hq6
            have HR6 := Lib.hid hr6; clear hr6
            clear hq6 hg6
            go_wp2_with fail
            refine hK.out _ _ trivial (fun hHeld => ?_)
            clear hK K
            try simp only [Act.put, List.setIfInBounds_toArray, List.set_cons_zero, List.set_cons_succ]
            refine wpAnyH_ready (rs := [9]) (by kernel_rfl) (by simp) ?_
            refine AllReadyH.cons (get_of_drop' rfl) (fun K hK => ?_) AllReadyH.nil
            go_simp
            refine hK.out _ _ trivial (fun hHeld => ?_)
            clear hK K
            try simp only [Act.put, List.setIfInBounds_toArray, List.set_cons_zero, List.set_cons_succ]
            refine wpAnyH_ready (rs := [10]) (by kernel_rfl) (by simp) ?_
            refine AllReadyH.cons (get_of_drop' rfl) (fun K hK => ?_) AllReadyH.nil
            go_simp
            refine hK.out _ _ trivial (fun hHeld => ?_)
            clear hK K
            try simp only [Act.put, List.setIfInBounds_toArray, List.set_cons_zero, List.set_cons_succ]
            refine wpAnyH_ready (rs := [11]) (by kernel_rfl) (by simp) ?_
            refine AllReadyH.cons (get_of_drop' rfl) (fun K hK => ?_) AllReadyH.nil
            rw [if_pos (by rfl)]
            have hb7 := below_newA w6 3 #[.int .i64 ((IntKind.i64.wrap ((k : Int) + 1)).tmod 12), .int .i64 y]
            have hrow7 := lit_row w6 [((IntKind.i64.wrap ((k : Int) + 1)).tmod 12), y] _ rfl 2 rfl (by simp [maxLen]) w6.heap.size (Nat.le_refl _)
            have hq7 := HQ6.out.below hb7
            have hsz7 : (w6.alloc (.cells #[.int .i64 ((IntKind.i64.wrap ((k : Int) + 1)).tmod 12), .int .i64 y] 3)).heap.size = w6.heap.size + 1 := by simp
            have hun : (w6.alloc (.cells #[.int .i64 ((IntKind.i64.wrap ((k : Int) + 1)).tmod 12), .int .i64 y] 3)).ownsRow Z 44 1 v1 us.length (us.map id) := by rw [List.map_id]; exact hq7.1.1.1
            have hul : us.length ≤ 1000000 := by have h1 := hq7.1.1.2.1; have h2 := HXL.out; omega
            have hZ7 := hq7.low
            have HQ7 := Lib.hid hq7
            have HROW7 := Lib.hid hrow7; clear hrow7
            have HUN := Lib.hid hun; clear hun
            clear hq7 hb7
            refine appK_rows (w6.alloc (.cells #[.int .i64 ((IntKind.i64.wrap ((k : Int) + 1)).tmod 12), .int .i64 y] 3)) Z rfl _ _ rfl (.slice (some ⟨w6.heap.size, 0, none⟩) 2 2) rfl v1 us rfl HUN.out (by rw [hsz7]; rfl) hul hZ7 ?_
            intro ao1 m1 cap1 w8 hm1 hown8 hkept8
            subst hm1
            refine hK.out _ _ trivial (fun hHeld => ?_)
            clear hK K
            try simp only [Act.put, List.setIfInBounds_toArray, List.set_cons_zero, List.set_cons_succ]
            first | (refine wpAnyH_take (i := 12) (get_of_drop' rfl) (by kernel_rfl) (by kernel_rfl) (by kernel_rfl) (fun _ _ _ h => h) (Or.inr ⟨?_, rfl⟩) hHeld ?_; (focus (simp [Region.wanted, yielded, undef]; done)); (try simp only [Act.put, List.setIfInBounds_toArray, List.set_cons_zero, List.set_cons_succ])) | (refine wpAnyH_take (i := 12) (v := ?_) (get_of_drop' rfl) (by kernel_rfl) (by kernel_rfl) (by kernel_rfl) (fun _ _ _ h => h) (Or.inl ⟨?_, ?_⟩) hHeld ?_; rotate_left; (focus rfl); (focus (intro w hSw; (try dsimp only at hSw); go_simp; (try (with_reducible rfl)))); (try simp only [Act.put, List.setIfInBounds_toArray, List.set_cons_zero, List.set_cons_succ]))
            refine wpAnyH_ready (rs := [13]) (by kernel_rfl) (by simp) ?_
            refine AllReadyH.cons (get_of_drop' rfl) (fun K hK => ?_) AllReadyH.nil
            have hs8 := HQ7.out.box1 hkept8
            have s1 : w8.cell? ⟨S, 1, none⟩ = some v1 := hs8.cell (by decide)
            have s2 := hs8.frozen 1
            have hd8 := HQ7.out.app1 (x := [((IntKind.i64.wrap ((k : Int) + 1)).tmod 12), y]) (HROW7.out.base (Nat.le_trans HQ6.out.low (Nat.le_refl _))) HQ6.out.lt (lit_own w6) hkept8 (by simpa using hown8)
            have HD8 := Lib.hid hd8.1
            have HR8 := Lib.hid (hd8.2 p6 R (by omega) (HR6.out.below (below_newA _ _ _)))
            clear hd8 hs8 hkept8 hown8 HUN HROW7 HQ7
            go_simp
            refine hK.out _ _ trivial (fun hHeld => ?_)
            clear hK K
            try simp only [Act.put, List.setIfInBounds_toArray, List.set_cons_zero, List.set_cons_succ]
            refine wpAnyH_done (by kernel_rfl) ?_ _
            go_wp2_with fail
            go_meet
            case rel => exact ⟨rfl, p6, _, _, _, HD8.out, HR8.out, by rw [List.length_append, HXL.out]; rfl, (fun l hl => by rcases List.mem_append.1 hl with hl | hl; exact HXX.out l hl; rw [List.mem_singleton.1 hl]; exact Nat.le_refl _), by omega⟩
          · refine AllReadyH.cons (get_of_drop' rfl) (fun K hK => ?_) AllReadyH.nil
            go_simp
            go_at_call 58
            refine (num_lit R p1 [(k : Int), 0, 11] _ _ wr.drew rfl (HR.out.drewN 1) (by omega) 3 rfl (by omega) (by omega)).mono ?_
            rintro e w6 ⟨j6, y, -, -, rfl, p6, hp6, hr6, hg6⟩
            have hq6 := HAQ.out.drew.pick hg6
            have hsz6 := hg6.size
            have r6 : w6.cell? ⟨S, 1, none⟩ = some v1 := hq6.cells.2.1
            have HR6C := Lib.hid r6
            have HQ6 := Lib.hid hq6
            have HR6 := Lib.hid hr6; clear hr6
            clear hq6 hg6
            go_wp2_with fail
            refine hK.out _ _ trivial (fun hHeld => ?_)
            clear hK K
            try simp only [Act.put, List.setIfInBounds_toArray, List.set_cons_zero, List.set_cons_succ]
            refine wpAnyH_ready (rs := [1, 9]) (by kernel_rfl) (by simp) ?_
            refine AllReadyH.cons (get_of_drop' rfl) (fun K hK => ?_) ?_
            · go_simp
              refine hK.out _ _ trivial (fun hHeld => ?_)
              clear hK K
              try simp only [Act.put, List.setIfInBounds_toArray, List.set_cons_zero, List.set_cons_succ]
              refine wpAnyH_ready (rs := [9]) (by kernel_rfl) (by simp) ?_
              refine AllReadyH.cons (get_of_drop' rfl) (fun K hK => ?_) AllReadyH.nil
              go_simp
              refine hK.out _ _ trivial (fun hHeld => ?_)
              clear hK K
              try simp only [Act.put, List.setIfInBounds_toArray, List.set_cons_zero, List.set_cons_succ]
              refine wpAnyH_ready (rs := [10]) (by kernel_rfl) (by simp) ?_
              refine AllReadyH.cons (get_of_drop' rfl) (fun K hK => ?_) AllReadyH.nil
              go_simp
              refine hK.out _ _ trivial (fun hHeld => ?_)
              clear hK K
              try simp only [Act.put, List.setIfInBounds_toArray, List.set_cons_zero, List.set_cons_succ]
              refine wpAnyH_ready (rs := [11]) (by kernel_rfl) (by simp) ?_
              refine AllReadyH.cons (get_of_drop' rfl) (fun K hK => ?_) AllReadyH.nil
              rw [if_pos (by rfl)]
              have hb7 := below_newA w6 3 #[.int .i64 ((IntKind.i64.wrap ((k : Int) + 1)).tmod 12), .int .i64 y]
              have hrow7 := lit_row w6 [((IntKind.i64.wrap ((k : Int) + 1)).tmod 12), y] _ rfl 2 rfl (by simp [maxLen]) w6.heap.size (Nat.le_refl _)
              have hq7 := HQ6.out.below hb7
              have hsz7 : (w6.alloc (.cells #[.int .i64 ((IntKind.i64.wrap ((k : Int) + 1)).tmod 12), .int .i64 y] 3)).heap.size = w6.heap.size + 1 := by simp
              have hun : (w6.alloc (.cells #[.int .i64 ((IntKind.i64.wrap ((k : Int) + 1)).tmod 12), .int .i64 y] 3)).ownsRow Z 44 1 v1 us.length (us.map id) := by rw [List.map_id]; exact hq7.1.1.1
              have hul : us.length ≤ 1000000 := by have h1 := hq7.1.1.2.1; have h2 := HXL.out; omega
              have hZ7 := hq7.low
              have HQ7 := Lib.hid hq7
              have HROW7 := Lib.hid hrow7; clear hrow7
              have HUN := Lib.hid hun; clear hun
              clear hq7 hb7
              refine appK_rows (w6.alloc (.cells #[.int .i64 ((IntKind.i64.wrap ((k : Int) + 1)).tmod 12), .int .i64 y] 3)) Z rfl _ _ rfl (.slice (some ⟨w6.heap.size, 0, none⟩) 2 2) rfl v1 us rfl HUN.out (by rw [hsz7]; rfl) hul hZ7 ?_
              intro ao1 m1 cap1 w8 hm1 hown8 hkept8
              subst hm1
              refine hK.out _ _ trivial (fun hHeld => ?_)
              clear hK K
              try simp only [Act.put, List.setIfInBounds_toArray, List.set_cons_zero, List.set_cons_succ]
              first | (refine wpAnyH_take (i := 12) (get_of_drop' rfl) (by kernel_rfl) (by kernel_rfl) (by kernel_rfl) (fun _ _ _ h => h) (Or.inr ⟨?_, rfl⟩) hHeld ?_; (focus (simp [Region.wanted, yielded, undef]; done)); (try simp only [Act.put, List.setIfInBounds_toArray, List.set_cons_zero, List.set_cons_succ])) | (refine wpAnyH_take (i := 12) (v := ?_) (get_of_drop' rfl) (by kernel_rfl) (by kernel_rfl) (by kernel_rfl) (fun _ _ _ h => h) (Or.inl ⟨?_, ?_⟩) hHeld ?_; rotate_left; (focus rfl); (focus (intro w hSw; (try dsimp only at hSw); go_simp; (try (with_reducible rfl)))); (try simp only [Act.put, List.setIfInBounds_toArray, List.set_cons_zero, List.set_cons_succ]))
              refine wpAnyH_ready (rs := [13]) (by kernel_rfl) (by simp) ?_
              refine AllReadyH.cons (get_of_drop' rfl) (fun K hK => ?_) AllReadyH.nil
              have hs8 := HQ7.out.box1 hkept8
              have s1 : w8.cell? ⟨S, 1, none⟩ = some v1 := hs8.cell (by decide)
              have s2 := hs8.frozen 1
              have hd8 := HQ7.out.app1 (x := [((IntKind.i64.wrap ((k : Int) + 1)).tmod 12), y]) (HROW7.out.base (Nat.le_trans HQ6.out.low (Nat.le_refl _))) HQ6.out.lt (lit_own w6) hkept8 (by simpa using hown8)
              have HD8 := Lib.hid hd8.1
              have HR8 := Lib.hid (hd8.2 p6 R (by omega) (HR6.out.below (below_newA _ _ _)))
              clear hd8 hs8 hkept8 hown8 HUN HROW7 HQ7
              go_simp
              refine hK.out _ _ trivial (fun hHeld => ?_)
              clear hK K
              try simp only [Act.put, List.setIfInBounds_toArray, List.set_cons_zero, List.set_cons_succ]
              refine wpAnyH_done (by kernel_rfl) ?_ _
              go_wp2_with fail
              go_meet
              case rel => exact ⟨rfl, p6, _, _, _, HD8.out, HR8.out, by rw [List.length_append, HXL.out]; rfl, (fun l hl => by rcases List.mem_append.1 hl with hl | hl; exact HXX.out l hl; rw [List.mem_singleton.1 hl]; exact Nat.le_refl _), by omega⟩
            · refine AllReadyH.cons (get_of_drop' rfl) (fun K hK => ?_) AllReadyH.nil
              go_simp
              refine hK.out _ _ trivial (fun hHeld => ?_)
              clear hK K
              try simp only [Act.put, List.setIfInBounds_toArray, List.set_cons_zero, List.set_cons_succ]
              have r7 := keep_cellA (below_newA w6 3 #[.int .i64 ((IntKind.i64.wrap ((k : Int) + 1)).tmod 12), .int .i64 y]) r6
              refine wpAnyH_ready (rs := [1, 10]) (by kernel_rfl) (by simp) ?_
              refine AllReadyH.cons (get_of_drop' rfl) (fun K hK => ?_) ?_
              · go_simp
                refine hK.out _ _ trivial (fun hHeld => ?_)
                clear hK K
                try simp only [Act.put, List.setIfInBounds_toArray, List.set_cons_zero, List.set_cons_succ]
                refine wpAnyH_ready (rs := [10]) (by kernel_rfl) (by simp) ?_
                refine AllReadyH.cons (get_of_drop' rfl) (fun K hK => ?_) AllReadyH.nil
                go_simp
                refine hK.out _ _ trivial (fun hHeld => ?_)
                clear hK K
                try simp only [Act.put, List.setIfInBounds_toArray, List.set_cons_zero, List.set_cons_succ]
                refine wpAnyH_ready (rs := [11]) (by kernel_rfl) (by simp) ?_
                refine AllReadyH.cons (get_of_drop' rfl) (fun K hK => ?_) AllReadyH.nil
                rw [if_pos (by rfl)]
                have hb7 := below_newA w6 3 #[.int .i64 ((IntKind.i64.wrap ((k : Int) + 1)).tmod 12), .int .i64 y]
                have hrow7 := lit_row w6 [((IntKind.i64.wrap ((k : Int) + 1)).tmod 12), y] _ rfl 2 rfl (by simp [maxLen]) w6.heap.size (Nat.le_refl _)
                have hq7 := HQ6.out.below hb7
                have hsz7 : (w6.alloc (.cells #[.int .i64 ((IntKind.i64.wrap ((k : Int) + 1)).tmod 12), .int .i64 y] 3)).heap.size = w6.heap.size + 1 := by simp
                have hun : (w6.alloc (.cells #[.int .i64 ((IntKind.i64.wrap ((k : Int) + 1)).tmod 12), .int .i64 y] 3)).ownsRow Z 44 1 v1 us.length (us.map id) := by rw [List.map_id]; exact hq7.1.1.1
                have hul : us.length ≤ 1000000 := by have h1 := hq7.1.1.2.1; have h2 := HXL.out; omega
                have hZ7 := hq7.low
                have HQ7 := Lib.hid hq7
                have HROW7 := Lib.hid hrow7; clear hrow7
                have HUN := Lib.hid hun; clear hun
                clear hq7 hb7
                refine appK_rows (w6.alloc (.cells #[.int .i64 ((IntKind.i64.wrap ((k : Int) + 1)).tmod 12), .int .i64 y] 3)) Z rfl _ _ rfl (.slice (some ⟨w6.heap.size, 0, none⟩) 2 2) rfl v1 us rfl HUN.out (by rw [hsz7]; rfl) hul hZ7 ?_
                intro ao1 m1 cap1 w8 hm1 hown8 hkept8
                subst hm1
                refine hK.out _ _ trivial (fun hHeld => ?_)
                clear hK K
                try simp only [Act.put, List.setIfInBounds_toArray, List.set_cons_zero, List.set_cons_succ]
                first | (refine wpAnyH_take (i := 12) (get_of_drop' rfl) (by kernel_rfl) (by kernel_rfl) (by kernel_rfl) (fun _ _ _ h => h) (Or.inr ⟨?_, rfl⟩) hHeld ?_; (focus (simp [Region.wanted, yielded, undef]; done)); (try simp only [Act.put, List.setIfInBounds_toArray, List.set_cons_zero, List.set_cons_succ])) | (refine wpAnyH_take (i := 12) (v := ?_) (get_of_drop' rfl) (by kernel_rfl) (by kernel_rfl) (by kernel_rfl) (fun _ _ _ h => h) (Or.inl ⟨?_, ?_⟩) hHeld ?_; rotate_left; (focus rfl); (focus (intro w hSw; (try dsimp only at hSw); go_simp; (try (with_reducible rfl)))); (try simp only [Act.put, List.setIfInBounds_toArray, List.set_cons_zero, List.set_cons_succ]))
                refine wpAnyH_ready (rs := [13]) (by kernel_rfl) (by simp) ?_
                refine AllReadyH.cons (get_of_drop' rfl) (fun K hK => ?_) AllReadyH.nil
                have hs8 := HQ7.out.box1 hkept8
                have s1 : w8.cell? ⟨S, 1, none⟩ = some v1 := hs8.cell (by decide)
                have s2 := hs8.frozen 1
                have hd8 := HQ7.out.app1 (x := [((IntKind.i64.wrap ((k : Int) + 1)).tmod 12), y]) (HROW7.out.base (Nat.le_trans HQ6.out.low (Nat.le_refl _))) HQ6.out.lt (lit_own w6) hkept8 (by simpa using hown8)
                have HD8 := Lib.hid hd8.1
                have HR8 := Lib.hid (hd8.2 p6 R (by omega) (HR6.out.below (below_newA _ _ _)))
                clear hd8 hs8 hkept8 hown8 HUN HROW7 HQ7
                go_simp
                refine hK.out _ _ trivial (fun hHeld => ?_)
                clear hK K
                try simp only [Act.put, List.setIfInBounds_toArray, List.set_cons_zero, List.set_cons_succ]
                refine wpAnyH_done (by kernel_rfl) ?_ _
                go_wp2_with fail
                go_meet
                case rel => exact ⟨rfl, p6, _, _, _, HD8.out, HR8.out, by rw [List.length_append, HXL.out]; rfl, (fun l hl => by rcases List.mem_append.1 hl with hl | hl; exact HXX.out l hl; rw [List.mem_singleton.1 hl]; exact Nat.le_refl _), by omega⟩
              · refine AllReadyH.cons (get_of_drop' rfl) (fun K hK => ?_) AllReadyH.nil
                go_simp
                refine hK.out _ _ trivial (fun hHeld => ?_)
                clear hK K
                try simp only [Act.put, List.setIfInBounds_toArray, List.set_cons_zero, List.set_cons_succ]
                have r8 := keep_cellA (below_newA _ 44 #[.slice (some ⟨w6.heap.size, 0, none⟩) 2 2]) r7
                refine wpAnyH_ready (rs := [1]) (by kernel_rfl) (by simp) ?_
                refine AllReadyH.cons (get_of_drop' rfl) (fun K hK => ?_) AllReadyH.nil
                go_simp
                refine hK.out _ _ trivial (fun hHeld => ?_)
                clear hK K
                try simp only [Act.put, List.setIfInBounds_toArray, List.set_cons_zero, List.set_cons_succ]
                refine wpAnyH_ready (rs := [11]) (by kernel_rfl) (by simp) ?_
                refine AllReadyH.cons (get_of_drop' rfl) (fun K hK => ?_) AllReadyH.nil
                rw [if_pos (by rfl)]
                have hb7 := below_newA w6 3 #[.int .i64 ((IntKind.i64.wrap ((k : Int) + 1)).tmod 12), .int .i64 y]
                have hrow7 := lit_row w6 [((IntKind.i64.wrap ((k : Int) + 1)).tmod 12), y] _ rfl 2 rfl (by simp [maxLen]) w6.heap.size (Nat.le_refl _)
                have hq7 := HQ6.out.below hb7
                have hsz7 : (w6.alloc (.cells #[.int .i64 ((IntKind.i64.wrap ((k : Int) + 1)).tmod 12), .int .i64 y] 3)).heap.size = w6.heap.size + 1 := by simp
                have hun : (w6.alloc (.cells #[.int .i64 ((IntKind.i64.wrap ((k : Int) + 1)).tmod 12), .int .i64 y] 3)).ownsRow Z 44 1 v1 us.length (us.map id) := by rw [List.map_id]; exact hq7.1.1.1
                have hul : us.length ≤ 1000000 := by have h1 := hq7.1.1.2.1; have h2 := HXL.out; omega
                have hZ7 := hq7.low
                have HQ7 := Lib.hid hq7
                have HROW7 := Lib.hid hrow7; clear hrow7
                have HUN := Lib.hid hun; clear hun
                clear hq7 hb7
                refine appK_rows (w6.alloc (.cells #[.int .i64 ((IntKind.i64.wrap ((k : Int) + 1)).tmod 12), .int .i64 y] 3)) Z rfl _ _ rfl (.slice (some ⟨w6.heap.size, 0, none⟩) 2 2) rfl v1 us rfl HUN.out (by rw [hsz7]; rfl) hul hZ7 ?_
                intro ao1 m1 cap1 w8 hm1 hown8 hkept8
                subst hm1
                refine hK.out _ _ trivial (fun hHeld => ?_)
                clear hK K
                try simp only [Act.put, List.setIfInBounds_toArray, List.set_cons_zero, List.set_cons_succ]
                first | (refine wpAnyH_take (i := 12) (get_of_drop' rfl) (by kernel_rfl) (by kernel_rfl) (by kernel_rfl) (fun _ _ _ h => h) (Or.inr ⟨?_, rfl⟩) hHeld ?_; (focus (simp [Region.wanted, yielded, undef]; done)); (try simp only [Act.put, List.setIfInBounds_toArray, List.set_cons_zero, List.set_cons_succ])) | (refine wpAnyH_take (i := 12) (v := ?_) (get_of_drop' rfl) (by kernel_rfl) (by kernel_rfl) (by kernel_rfl) (fun _ _ _ h => h) (Or.inl ⟨?_, ?_⟩) hHeld ?_; rotate_left; (focus rfl); (focus (intro w hSw; (try dsimp only at hSw); go_simp; (try (with_reducible rfl)))); (try simp only [Act.put, List.setIfInBounds_toArray, List.set_cons_zero, List.set_cons_succ]))
                refine wpAnyH_ready (rs := [13]) (by kernel_rfl) (by simp) ?_
                refine AllReadyH.cons (get_of_drop' rfl) (fun K hK => ?_) AllReadyH.nil
                have hs8 := HQ7.out.box1 hkept8
                have s1 : w8.cell? ⟨S, 1, none⟩ = some v1 := hs8.cell (by decide)
                have s2 := hs8.frozen 1
                have hd8 := HQ7.out.app1 (x := [((IntKind.i64.wrap ((k : Int) + 1)).tmod 12), y]) (HROW7.out.base (Nat.le_trans HQ6.out.low (Nat.le_refl _))) HQ6.out.lt (lit_own w6) hkept8 (by simpa using hown8)
                have HD8 := Lib.hid hd8.1
                have HR8 := Lib.hid (hd8.2 p6 R (by omega) (HR6.out.below (below_newA _ _ _)))
                clear hd8 hs8 hkept8 hown8 HUN HROW7 HQ7
                go_simp
                refine hK.out _ _ trivial (fun hHeld => ?_)
                clear hK K
                try simp only [Act.put, List.setIfInBounds_toArray, List.set_cons_zero, List.set_cons_succ]
                refine wpAnyH_done (by kernel_rfl) ?_ _
                go_wp2_with fail
                go_meet
                case rel => exact ⟨rfl, p6, _, _, _, HD8.out, HR8.out, by rw [List.length_append, HXL.out]; rfl, (fun l hl => by rcases List.mem_append.1 hl with hl | hl; exact HXX.out l hl; rw [List.mem_singleton.1 hl]; exact Nat.le_refl _), by omega⟩
      case rest =>
        clear HAQ q1 q3 HR HXL HXX
        obtain ⟨rfl, p2, v1, us, xss, haq, hrd, hxl, hxx, hp2⟩ := hcut
        have q2 : wc.drew.cell? ⟨S, 2, none⟩ = some v2 := haq.cells.2.2
        have HQ2 := Lib.hid haq
        have HR2 := Lib.hid hrd; clear hrd
        have HXL2 := Lib.hid hxl; clear hxl
        have HXX2 := Lib.hid hxx; clear hxx
        clear haq
        by_cases hk0 : k = 0
        · have hk0' : (k : Int) = 0 := by omega
          have hk0d : decide ((k : Int) = 0) = true := by simpa using hk0'
          have q2' : wc.cell? ⟨S, 2, none⟩ = some v2 := q2
          have q3 := keep_cellA (below_newA wc 4 #[.bool true]) q2'
          go_wp2_with fail
          refine wp_region_held_drew (S := fun _ => True) (by kernel_rfl) trivial (fun hHeld => ?_)
          first | (refine wpAnyH_take (i := 0) (get_of_drop' rfl) (by kernel_rfl) (by kernel_rfl) (by kernel_rfl) (fun _ _ _ h => h) (Or.inr ⟨?_, rfl⟩) hHeld ?_; (focus (simp [Region.wanted, yielded, undef]; done)); (try simp only [Act.put, List.setIfInBounds_toArray, List.set_cons_zero, List.set_cons_succ])) | (refine wpAnyH_take (i := 0) (v := ?_) (get_of_drop' rfl) (by kernel_rfl) (by kernel_rfl) (by kernel_rfl) (fun _ _ _ h => h) (Or.inl ⟨?_, ?_⟩) hHeld ?_; rotate_left; (focus rfl); (focus (intro w hSw; (try dsimp only at hSw); go_simp; (try (with_reducible rfl)))); (try simp only [Act.put, List.setIfInBounds_toArray, List.set_cons_zero, List.set_cons_succ]))
          first | (refine wpAnyH_take (i := 2) (get_of_drop' rfl) (by kernel_rfl) (by kernel_rfl) (by kernel_rfl) (fun _ _ _ h => h) (Or.inr ⟨?_, rfl⟩) hHeld ?_; (focus (simp [Region.wanted, yielded, undef]; done)); (try simp only [Act.put, List.setIfInBounds_toArray, List.set_cons_zero, List.set_cons_succ])) | (refine wpAnyH_take (i := 2) (v := ?_) (get_of_drop' rfl) (by kernel_rfl) (by kernel_rfl) (by kernel_rfl) (fun _ _ _ h => h) (Or.inl ⟨?_, ?_⟩) hHeld ?_; rotate_left; (focus rfl); (focus (intro w hSw; (try dsimp only at hSw); go_simp; (try (with_reducible rfl)))); (try simp only [Act.put, List.setIfInBounds_toArray, List.set_cons_zero, List.set_cons_succ]))
          first | (refine wpAnyH_take (i := 3) (get_of_drop' rfl) (by kernel_rfl) (by kernel_rfl) (by kernel_rfl) (fun _ _ _ h => h) (Or.inr ⟨?_, rfl⟩) hHeld ?_; (focus (simp [Region.wanted, yielded, undef]; done)); (try simp only [Act.put, List.setIfInBounds_toArray, List.set_cons_zero, List.set_cons_succ])) | (refine wpAnyH_take (i := 3) (v := ?_) (get_of_drop' rfl) (by kernel_rfl) (by kernel_rfl) (by kernel_rfl) (fun _ _ _ h => h) (Or.inl ⟨?_, ?_⟩) hHeld ?_; rotate_left; (focus rfl); (focus (intro w hSw; (try dsimp only at hSw); go_simp; (try (with_reducible rfl)))); (try simp only [Act.put, List.setIfInBounds_toArray, List.set_cons_zero, List.set_cons_succ]))
          first | (refine wpAnyH_take (i := 4) (get_of_drop' rfl) (by kernel_rfl) (by kernel_rfl) (by kernel_rfl) (fun _ _ _ h => h) (Or.inr ⟨?_, rfl⟩) hHeld ?_; (focus (simp [Region.wanted, yielded, undef]; done)); (try simp only [Act.put, List.setIfInBounds_toArray, List.set_cons_zero, List.set_cons_succ])) | (refine wpAnyH_take (i := 4) (v := ?_) (get_of_drop' rfl) (by kernel_rfl) (by kernel_rfl) (by kernel_rfl) (fun _ _ _ h => h) (Or.inl ⟨?_, ?_⟩) hHeld ?_; rotate_left; (focus rfl); (focus (intro w hSw; (try dsimp only at hSw); go_simp; (try (with_reducible rfl)))); (try simp only [Act.put, List.setIfInBounds_toArray, List.set_cons_zero, List.set_cons_succ]))
          first | (refine wpAnyH_take (i := 5) (get_of_drop' rfl) (by kernel_rfl) (by kernel_rfl) (by kernel_rfl) (fun _ _ _ h => h) (Or.inr ⟨?_, rfl⟩) hHeld ?_; (focus (simp [Region.wanted, yielded, undef]; done)); (try simp only [Act.put, List.setIfInBounds_toArray, List.set_cons_zero, List.set_cons_succ])) | (refine wpAnyH_take (i := 5) (v := ?_) (get_of_drop' rfl) (by kernel_rfl) (by kernel_rfl) (by kernel_rfl) (fun _ _ _ h => h) (Or.inl ⟨?_, ?_⟩) hHeld ?_; rotate_left; (focus rfl); (focus (intro w hSw; (try dsimp only at hSw); go_simp; (try (with_reducible rfl)))); (try simp only [Act.put, List.setIfInBounds_toArray, List.set_cons_zero, List.set_cons_succ]))
          first | (refine wpAnyH_take (i := 6) (get_of_drop' rfl) (by kernel_rfl) (by kernel_rfl) (by kernel_rfl) (fun _ _ _ h => h) (Or.inr ⟨?_, rfl⟩) hHeld ?_; (focus (simp [Region.wanted, yielded, undef]; done)); (try simp only [Act.put, List.setIfInBounds_toArray, List.set_cons_zero, List.set_cons_succ])) | (refine wpAnyH_take (i := 6) (v := ?_) (get_of_drop' rfl) (by kernel_rfl) (by kernel_rfl) (by kernel_rfl) (fun _ _ _ h => h) (Or.inl ⟨?_, ?_⟩) hHeld ?_; rotate_left; (focus rfl); (focus (intro w hSw; (try dsimp only at hSw); go_simp; (try (with_reducible rfl)))); (try simp only [Act.put, List.setIfInBounds_toArray, List.set_cons_zero, List.set_cons_succ]))
          first | (refine wpAnyH_take (i := 7) (get_of_drop' rfl) (by kernel_rfl) (by kernel_rfl) (by kernel_rfl) (fun _ _ _ h => h) (Or.inr ⟨?_, rfl⟩) hHeld ?_; (focus (simp [Region.wanted, yielded, undef]; done)); (try simp only [Act.put, List.setIfInBounds_toArray, List.set_cons_zero, List.set_cons_succ])) | (refine wpAnyH_take (i := 7) (v := ?_) (get_of_drop' rfl) (by kernel_rfl) (by kernel_rfl) (by kernel_rfl) (fun _ _ _ h => h) (Or.inl ⟨?_, ?_⟩) hHeld ?_; rotate_left; (focus rfl); (focus (intro w hSw; (try dsimp only at hSw); go_simp; (try (with_reducible rfl)))); (try simp only [Act.put, List.setIfInBounds_toArray, List.set_cons_zero, List.set_cons_succ]))
          first | (refine wpAnyH_take (i := 8) (get_of_drop' rfl) (by kernel_rfl) (by kernel_rfl) (by kernel_rfl) (fun _ _ _ h => h) (Or.inr ⟨?_, rfl⟩) hHeld ?_; (focus (simp [Region.wanted, yielded, undef]; done)); (try simp only [Act.put, List.setIfInBounds_toArray, List.set_cons_zero, List.set_cons_succ])) | (refine wpAnyH_take (i := 8) (v := ?_) (get_of_drop' rfl) (by kernel_rfl) (by kernel_rfl) (by kernel_rfl) (fun _ _ _ h => h) (Or.inl ⟨?_, ?_⟩) hHeld ?_; rotate_left; (focus rfl); (focus (intro w hSw; (try dsimp only at hSw); go_simp; (try (with_reducible rfl)))); (try simp only [Act.put, List.setIfInBounds_toArray, List.set_cons_zero, List.set_cons_succ]))
          refine wpAnyH_ready (rs := [1, 9]) (by kernel_rfl) (by simp) ?_
          refine AllReadyH.cons (get_of_drop' rfl) (fun K hK => ?_) ?_
          · go_simp
            refine hK.out _ _ trivial (fun hHeld => ?_)
            clear hK K
            try simp only [Act.put, List.setIfInBounds_toArray, List.set_cons_zero, List.set_cons_succ]
            refine wpAnyH_ready (rs := [9]) (by kernel_rfl) (by simp) ?_
            refine AllReadyH.cons (get_of_drop' rfl) (fun K hK => ?_) AllReadyH.nil
            go_simp
            refine hK.out _ _ trivial (fun hHeld => ?_)
            clear hK K
            try simp only [Act.put, List.setIfInBounds_toArray, List.set_cons_zero, List.set_cons_succ]
            refine wpAnyH_ready (rs := [10]) (by kernel_rfl) (by simp) ?_
            refine AllReadyH.cons (get_of_drop' rfl) (fun K hK => ?_) AllReadyH.nil
            rw [if_pos (by rfl)]
            refine appK_bool (wc.drew) Z rfl _ _ rfl _ v2 bs rfl (HQ2.out.drew).1.2 rfl (by have := HBL.out; omega) (HQ2.out.drew).low ?_
            intro ao2 m2 cap2 w8 hm2 hown8 hkept8
            subst hm2
            refine hK.out _ _ trivial (fun hHeld => ?_)
            clear hK K
            try simp only [Act.put, List.setIfInBounds_toArray, List.set_cons_zero, List.set_cons_succ]
            first | (refine wpAnyH_take (i := 11) (get_of_drop' rfl) (by kernel_rfl) (by kernel_rfl) (by kernel_rfl) (fun _ _ _ h => h) (Or.inr ⟨?_, rfl⟩) hHeld ?_; (focus (simp [Region.wanted, yielded, undef]; done)); (try simp only [Act.put, List.setIfInBounds_toArray, List.set_cons_zero, List.set_cons_succ])) | (refine wpAnyH_take (i := 11) (v := ?_) (get_of_drop' rfl) (by kernel_rfl) (by kernel_rfl) (by kernel_rfl) (fun _ _ _ h => h) (Or.inl ⟨?_, ?_⟩) hHeld ?_; rotate_left; (focus rfl); (focus (intro w hSw; (try dsimp only at hSw); go_simp; (try (with_reducible rfl)))); (try simp only [Act.put, List.setIfInBounds_toArray, List.set_cons_zero, List.set_cons_succ]))
            refine wpAnyH_ready (rs := [12]) (by kernel_rfl) (by simp) ?_
            refine AllReadyH.cons (get_of_drop' rfl) (fun K hK => ?_) AllReadyH.nil
            have hs8 := (HQ2.out.drew).box2 hkept8
            have s1 : w8.cell? ⟨S, 2, none⟩ = some v2 := hs8.cell (by decide)
            have s2 := hs8.frozen 2
            have hd8 := (HQ2.out.drew).app2 hkept8 hown8
            have HD8 := Lib.hid hd8.1
            have HR8 := Lib.hid (hd8.2 (p2) R (by omega) (HR2.out.drewN 1))
            clear hd8 hs8 hkept8 hown8
            go_simp
            refine hK.out _ _ trivial (fun hHeld => ?_)
            clear hK K
            try simp only [Act.put, List.setIfInBounds_toArray, List.set_cons_zero, List.set_cons_succ]
            refine wpAnyH_done (by kernel_rfl) ?_ _
            go_wp2
            go_roundw
            case rel => exact ⟨k + 1, p2, v1, _, us, xss, _, by go_num, by omega, HD8.out, HR8.out, HXL2.out, by rw [List.length_append, HBL.out]; rfl, HXX2.out, by omega⟩
            case measure => simp [intOf] <;> omega
          · refine AllReadyH.cons (get_of_drop' rfl) (fun K hK => ?_) AllReadyH.nil
            go_simp
            refine hK.out _ _ trivial (fun hHeld => ?_)
            clear hK K
            try simp only [Act.put, List.setIfInBounds_toArray, List.set_cons_zero, List.set_cons_succ]
            refine wpAnyH_ready (rs := [1]) (by kernel_rfl) (by simp) ?_
            refine AllReadyH.cons (get_of_drop' rfl) (fun K hK => ?_) AllReadyH.nil
            go_simp
            refine hK.out _ _ trivial (fun hHeld => ?_)
            clear hK K
            try simp only [Act.put, List.setIfInBounds_toArray, List.set_cons_zero, List.set_cons_succ]
            refine wpAnyH_ready (rs := [10]) (by kernel_rfl) (by simp) ?_
            refine AllReadyH.cons (get_of_drop' rfl) (fun K hK => ?_) AllReadyH.nil
            rw [if_pos (by rfl)]
            refine appK_bool (wc.drew) Z rfl _ _ rfl _ v2 bs rfl (HQ2.out.drew).1.2 rfl (by have := HBL.out; omega) (HQ2.out.drew).low ?_
            intro ao2 m2 cap2 w8 hm2 hown8 hkept8
            subst hm2
            refine hK.out _ _ trivial (fun hHeld => ?_)
            clear hK K
            try simp only [Act.put, List.setIfInBounds_toArray, List.set_cons_zero, List.set_cons_succ]
            first | (refine wpAnyH_take (i := 11) (get_of_drop' rfl) (by kernel_rfl) (by kernel_rfl) (by kernel_rfl) (fun _ _ _ h => h) (Or.inr ⟨?_, rfl⟩) hHeld ?_; (focus (simp [Region.wanted, yielded, undef]; done)); (try simp only [Act.put, List.setIfInBounds_toArray, List.set_cons_zero, List.set_cons_succ])) | (refine wpAnyH_take (i := 11) (v := ?_) (get_of_drop' rfl) (by kernel_rfl) (by kernel_rfl) (by kernel_rfl) (fun _ _ _ h => h) (Or.inl ⟨?_, ?_⟩) hHeld ?_; rotate_left; (focus rfl); (focus (intro w hSw; (try dsimp only at hSw); go_simp; (try (with_reducible rfl)))); (try simp only [Act.put, List.setIfInBounds_toArray, List.set_cons_zero, List.set_cons_succ]))
            refine wpAnyH_ready (rs := [12]) (by kernel_rfl) (by simp) ?_
            refine AllReadyH.cons (get_of_drop' rfl) (fun K hK => ?_) AllReadyH.nil
            have hs8 := (HQ2.out.drew).box2 hkept8
            have s1 : w8.cell? ⟨S, 2, none⟩ = some v2 := hs8.cell (by decide)
            have s2 := hs8.frozen 2
            have hd8 := (HQ2.out.drew).app2 hkept8 hown8
            have HD8 := Lib.hid hd8.1
            have HR8 := Lib.hid (hd8.2 (p2) R (by omega) (HR2.out.drewN 1))
            clear hd8 hs8 hkept8 hown8
            go_simp
            refine hK.out _ _ trivial (fun hHeld => ?_)
            clear hK K
            try simp only [Act.put, List.setIfInBounds_toArray, List.set_cons_zero, List.set_cons_succ]
            refine wpAnyH_done (by kernel_rfl) ?_ _
            go_wp2
            go_roundw
            case rel => exact ⟨k + 1, p2, v1, _, us, xss, _, by go_num, by omega, HD8.out, HR8.out, HXL2.out, by rw [List.length_append, HBL.out]; rfl, HXX2.out, by omega⟩
            case measure => simp [intOf] <;> omega
        · have hk0' : ¬ (k : Int) = 0 := by omega
          have hkb : ((k : Int) == 0) = false := by rw [beq_eq_false_iff_ne]; exact hk0'
          go_wp2_with fail
          refine wp_region_held_drew (S := fun _ => True) (by kernel_rfl) trivial (fun hHeld => ?_)
          first | (refine wpAnyH_take (i := 0) (get_of_drop' rfl) (by kernel_rfl) (by kernel_rfl) (by kernel_rfl) (fun _ _ _ h => h) (Or.inr ⟨?_, rfl⟩) hHeld ?_; (focus (simp [Region.wanted, yielded, undef]; done)); (try simp only [Act.put, List.setIfInBounds_toArray, List.set_cons_zero, List.set_cons_succ])) | (refine wpAnyH_take (i := 0) (v := ?_) (get_of_drop' rfl) (by kernel_rfl) (by kernel_rfl) (by kernel_rfl) (fun _ _ _ h => h) (Or.inl ⟨?_, ?_⟩) hHeld ?_; rotate_left; (focus rfl); (focus (intro w hSw; (try dsimp only at hSw); go_simp; (try (with_reducible rfl)))); (try simp only [Act.put, List.setIfInBounds_toArray, List.set_cons_zero, List.set_cons_succ]))
          first | (refine wpAnyH_take (i := 2) (get_of_drop' rfl) (by kernel_rfl) (by kernel_rfl) (by kernel_rfl) (fun _ _ _ h => h) (Or.inr ⟨?_, rfl⟩) hHeld ?_; (focus (simp [Region.wanted, yielded, undef]; done)); (try simp only [Act.put, List.setIfInBounds_toArray, List.set_cons_zero, List.set_cons_succ])) | (refine wpAnyH_take (i := 2) (v := ?_) (get_of_drop' rfl) (by kernel_rfl) (by kernel_rfl) (by kernel_rfl) (fun _ _ _ h => h) (Or.inl ⟨?_, ?_⟩) hHeld ?_; rotate_left; (focus rfl); (focus (intro w hSw; (try dsimp only at hSw); go_simp; (try (with_reducible rfl)))); (try simp only [Act.put, List.setIfInBounds_toArray, List.set_cons_zero, List.set_cons_succ]))
          first | (refine wpAnyH_take (i := 3) (get_of_drop' rfl) (by kernel_rfl) (by kernel_rfl) (by kernel_rfl) (fun _ _ _ h => h) (Or.inr ⟨?_, rfl⟩) hHeld ?_; (focus (simp [Region.wanted, yielded, undef]; done)); (try simp only [Act.put, List.setIfInBounds_toArray, List.set_cons_zero, List.set_cons_succ])) | (refine wpAnyH_take (i := 3) (v := ?_) (get_of_drop' rfl) (by kernel_rfl) (by kernel_rfl) (by kernel_rfl) (fun _ _ _ h => h) (Or.inl ⟨?_, ?_⟩) hHeld ?_; rotate_left; (focus rfl); (focus (intro w hSw; (try dsimp only at hSw); go_simp; (try (with_reducible rfl)))); (try simp only [Act.put, List.setIfInBounds_toArray, List.set_cons_zero, List.set_cons_succ]))
          first | (refine wpAnyH_take (i := 4) (get_of_drop' rfl) (by kernel_rfl) (by kernel_rfl) (by kernel_rfl) (fun _ _ _ h => h) (Or.inr ⟨?_, rfl⟩) hHeld ?_; (focus (simp [Region.wanted, yielded, undef]; done)); (try simp only [Act.put, List.setIfInBounds_toArray, List.set_cons_zero, List.set_cons_succ])) | (refine wpAnyH_take (i := 4) (v := ?_) (get_of_drop' rfl) (by kernel_rfl) (by kernel_rfl) (by kernel_rfl) (fun _ _ _ h => h) (Or.inl ⟨?_, ?_⟩) hHeld ?_; rotate_left; (focus rfl); (focus (intro w hSw; (try dsimp only at hSw); go_simp; (try (with_reducible rfl)))); (try simp only [Act.put, List.setIfInBounds_toArray, List.set_cons_zero, List.set_cons_succ]))
          (try simp only [hkb])
          first | (refine wpAnyH_take (i := 5) (get_of_drop' rfl) (by kernel_rfl) (by kernel_rfl) (by kernel_rfl) (fun _ _ _ h => h) (Or.inr ⟨?_, rfl⟩) hHeld ?_; (focus (simp [Region.wanted, yielded, undef]; done)); (try simp only [Act.put, List.setIfInBounds_toArray, List.set_cons_zero, List.set_cons_succ])) | (refine wpAnyH_take (i := 5) (v := ?_) (get_of_drop' rfl) (by kernel_rfl) (by kernel_rfl) (by kernel_rfl) (fun _ _ _ h => h) (Or.inl ⟨?_, ?_⟩) hHeld ?_; rotate_left; (focus rfl); (focus (intro w hSw; (try dsimp only at hSw); go_simp; (try (with_reducible rfl)))); (try simp only [Act.put, List.setIfInBounds_toArray, List.set_cons_zero, List.set_cons_succ]))
          refine wpAnyH_ready (rs := [1, 6]) (by kernel_rfl) (by simp) ?_
          refine AllReadyH.cons (get_of_drop' rfl) (fun K hK => ?_) ?_
          · go_simp
            refine hK.out _ _ trivial (fun hHeld => ?_)
            clear hK K
            try simp only [Act.put, List.setIfInBounds_toArray, List.set_cons_zero, List.set_cons_succ]
            refine wpAnyH_ready (rs := [6]) (by kernel_rfl) (by simp) ?_
            refine AllReadyH.cons (get_of_drop' rfl) (fun K hK => ?_) AllReadyH.nil
            go_simp
            go_at_call 70
            refine (pick_any R p2 5 wc.drew (HR2.out.drewN 1) (by omega)).mono ?_
            rintro e w6 ⟨z, rfl, -, -, hr6, hg6⟩
            have hq6 := HQ2.out.drew.pick hg6
            have r6 : w6.cell? ⟨S, 2, none⟩ = some v2 := hq6.cells.2.2
            have HQ6 := Lib.hid hq6
            have HRC := Lib.hid r6
            have HR6 := Lib.hid hr6; clear hr6
            clear hq6 hg6
            go_wp2_with fail
            refine hK.out _ _ trivial (fun hHeld => ?_)
            clear hK K
            try simp only [Act.put, List.setIfInBounds_toArray, List.set_cons_zero, List.set_cons_succ]
            first | (refine wpAnyH_take (i := 7) (get_of_drop' rfl) (by kernel_rfl) (by kernel_rfl) (by kernel_rfl) (fun _ _ _ h => h) (Or.inr ⟨?_, rfl⟩) hHeld ?_; (focus (simp [Region.wanted, yielded, undef]; done)); (try simp only [Act.put, List.setIfInBounds_toArray, List.set_cons_zero, List.set_cons_succ])) | (refine wpAnyH_take (i := 7) (v := ?_) (get_of_drop' rfl) (by kernel_rfl) (by kernel_rfl) (by kernel_rfl) (fun _ _ _ h => h) (Or.inl ⟨?_, ?_⟩) hHeld ?_; rotate_left; (focus rfl); (focus (intro w hSw; (try dsimp only at hSw); go_simp; (try (with_reducible rfl)))); (try simp only [Act.put, List.setIfInBounds_toArray, List.set_cons_zero, List.set_cons_succ]))
            first | (refine wpAnyH_take (i := 8) (get_of_drop' rfl) (by kernel_rfl) (by kernel_rfl) (by kernel_rfl) (fun _ _ _ h => h) (Or.inr ⟨?_, rfl⟩) hHeld ?_; (focus (simp [Region.wanted, yielded, undef]; done)); (try simp only [Act.put, List.setIfInBounds_toArray, List.set_cons_zero, List.set_cons_succ])) | (refine wpAnyH_take (i := 8) (v := ?_) (get_of_drop' rfl) (by kernel_rfl) (by kernel_rfl) (by kernel_rfl) (fun _ _ _ h => h) (Or.inl ⟨?_, ?_⟩) hHeld ?_; rotate_left; (focus rfl); (focus (intro w hSw; (try dsimp only at hSw); go_simp; (try (with_reducible rfl)))); (try simp only [Act.put, List.setIfInBounds_toArray, List.set_cons_zero, List.set_cons_succ]))
            refine wpAnyH_ready (rs := [9]) (by kernel_rfl) (by simp) ?_
            refine AllReadyH.cons (get_of_drop' rfl) (fun K hK => ?_) AllReadyH.nil
            go_simp
            refine hK.out _ _ trivial (fun hHeld => ?_)
            clear hK K
            try simp only [Act.put, List.setIfInBounds_toArray, List.set_cons_zero, List.set_cons_succ]
            refine wpAnyH_ready (rs := [10]) (by kernel_rfl) (by simp) ?_
            refine AllReadyH.cons (get_of_drop' rfl) (fun K hK => ?_) AllReadyH.nil
            rw [if_pos (by rfl)]
            refine appK_bool (w6) Z rfl _ _ rfl _ v2 bs rfl (HQ6.out).1.2 rfl (by have := HBL.out; omega) (HQ6.out).low ?_
            intro ao2 m2 cap2 w8 hm2 hown8 hkept8
            subst hm2
            refine hK.out _ _ trivial (fun hHeld => ?_)
            clear hK K
            try simp only [Act.put, List.setIfInBounds_toArray, List.set_cons_zero, List.set_cons_succ]
            first | (refine wpAnyH_take (i := 11) (get_of_drop' rfl) (by kernel_rfl) (by kernel_rfl) (by kernel_rfl) (fun _ _ _ h => h) (Or.inr ⟨?_, rfl⟩) hHeld ?_; (focus (simp [Region.wanted, yielded, undef]; done)); (try simp only [Act.put, List.setIfInBounds_toArray, List.set_cons_zero, List.set_cons_succ])) | (refine wpAnyH_take (i := 11) (v := ?_) (get_of_drop' rfl) (by kernel_rfl) (by kernel_rfl) (by kernel_rfl) (fun _ _ _ h => h) (Or.inl ⟨?_, ?_⟩) hHeld ?_; rotate_left; (focus rfl); (focus (intro w hSw; (try dsimp only at hSw); go_simp; (try (with_reducible rfl)))); (try simp only [Act.put, List.setIfInBounds_toArray, List.set_cons_zero, List.set_cons_succ]))
            refine wpAnyH_ready (rs := [12]) (by kernel_rfl) (by simp) ?_
            refine AllReadyH.cons (get_of_drop' rfl) (fun K hK => ?_) AllReadyH.nil
            have hs8 := (HQ6.out).box2 hkept8
            have s1 : w8.cell? ⟨S, 2, none⟩ = some v2 := hs8.cell (by decide)
            have s2 := hs8.frozen 2
            have hd8 := (HQ6.out).app2 hkept8 hown8
            have HD8 := Lib.hid hd8.1
            have HR8 := Lib.hid (hd8.2 (p2 + 1) R (by omega) HR6.out)
            clear hd8 hs8 hkept8 hown8
            go_simp
            refine hK.out _ _ trivial (fun hHeld => ?_)
            clear hK K
            try simp only [Act.put, List.setIfInBounds_toArray, List.set_cons_zero, List.set_cons_succ]
            refine wpAnyH_done (by kernel_rfl) ?_ _
            go_wp2
            go_roundw
            case rel => exact ⟨k + 1, p2 + 1, v1, _, us, xss, _, by go_num, by omega, HD8.out, HR8.out, HXL2.out, by rw [List.length_append, HBL.out]; rfl, HXX2.out, by omega⟩
            case measure => simp [intOf] <;> omega
          · refine AllReadyH.cons (get_of_drop' rfl) (fun K hK => ?_) AllReadyH.nil
            go_simp
            go_at_call 70
            refine (pick_any R p2 5 wc.drew (HR2.out.drewN 1) (by omega)).mono ?_
            rintro e w6 ⟨z, rfl, -, -, hr6, hg6⟩
            have hq6 := HQ2.out.drew.pick hg6
            have r6 : w6.cell? ⟨S, 2, none⟩ = some v2 := hq6.cells.2.2
            have HQ6 := Lib.hid hq6
            have HRC := Lib.hid r6
            have HR6 := Lib.hid hr6; clear hr6
            clear hq6 hg6
            go_wp2_with fail
            refine hK.out _ _ trivial (fun hHeld => ?_)
            clear hK K
            try simp only [Act.put, List.setIfInBounds_toArray, List.set_cons_zero, List.set_cons_succ]
            first | (refine wpAnyH_take (i := 7) (get_of_drop' rfl) (by kernel_rfl) (by kernel_rfl) (by kernel_rfl) (fun _ _ _ h => h) (Or.inr ⟨?_, rfl⟩) hHeld ?_; (focus (simp [Region.wanted, yielded, undef]; done)); (try simp only [Act.put, List.setIfInBounds_toArray, List.set_cons_zero, List.set_cons_succ])) | (refine wpAnyH_take (i := 7) (v := ?_) (get_of_drop' rfl) (by kernel_rfl) (by kernel_rfl) (by kernel_rfl) (fun _ _ _ h => h) (Or.inl ⟨?_, ?_⟩) hHeld ?_; rotate_left; (focus rfl); (focus (intro w hSw; (try dsimp only at hSw); go_simp; (try (with_reducible rfl)))); (try simp only [Act.put, List.setIfInBounds_toArray, List.set_cons_zero, List.set_cons_succ]))
            first | (refine wpAnyH_take (i := 8) (get_of_drop' rfl) (by kernel_rfl) (by kernel_rfl) (by kernel_rfl) (fun _ _ _ h => h) (Or.inr ⟨?_, rfl⟩) hHeld ?_; (focus (simp [Region.wanted, yielded, undef]; done)); (try simp only [Act.put, List.setIfInBounds_toArray, List.set_cons_zero, List.set_cons_succ])) | (refine wpAnyH_take (i := 8) (v := ?_) (get_of_drop' rfl) (by kernel_rfl) (by kernel_rfl) (by kernel_rfl) (fun _ _ _ h => h) (Or.inl ⟨?_, ?_⟩) hHeld ?_; rotate_left; (focus rfl); (focus (intro w hSw; (try dsimp only at hSw); go_simp; (try (with_reducible rfl)))); (try simp only [Act.put, List.setIfInBounds_toArray, List.set_cons_zero, List.set_cons_succ]))
            refine wpAnyH_ready (rs := [1, 9]) (by kernel_rfl) (by simp) ?_
            refine AllReadyH.cons (get_of_drop' rfl) (fun K hK => ?_) ?_
            · go_simp
              refine hK.out _ _ trivial (fun hHeld => ?_)
              clear hK K
              try simp only [Act.put, List.setIfInBounds_toArray, List.set_cons_zero, List.set_cons_succ]
              refine wpAnyH_ready (rs := [9]) (by kernel_rfl) (by simp) ?_
              refine AllReadyH.cons (get_of_drop' rfl) (fun K hK => ?_) AllReadyH.nil
              go_simp
              refine hK.out _ _ trivial (fun hHeld => ?_)
              clear hK K
              try simp only [Act.put, List.setIfInBounds_toArray, List.set_cons_zero, List.set_cons_succ]
              refine wpAnyH_ready (rs := [10]) (by kernel_rfl) (by simp) ?_
              refine AllReadyH.cons (get_of_drop' rfl) (fun K hK => ?_) AllReadyH.nil
              rw [if_pos (by rfl)]
              refine appK_bool (w6) Z rfl _ _ rfl _ v2 bs rfl (HQ6.out).1.2 rfl (by have := HBL.out; omega) (HQ6.out).low ?_
              intro ao2 m2 cap2 w8 hm2 hown8 hkept8
              subst hm2
              refine hK.out _ _ trivial (fun hHeld => ?_)
              clear hK K
              try simp only [Act.put, List.setIfInBounds_toArray, List.set_cons_zero, List.set_cons_succ]
              first | (refine wpAnyH_take (i := 11) (get_of_drop' rfl) (by kernel_rfl) (by kernel_rfl) (by kernel_rfl) (fun _ _ _ h => h) (Or.inr ⟨?_, rfl⟩) hHeld ?_; (focus (simp [Region.wanted, yielded, undef]; done)); (try simp only [Act.put, List.setIfInBounds_toArray, List.set_cons_zero, List.set_cons_succ])) | (refine wpAnyH_take (i := 11) (v := ?_) (get_of_drop' rfl) (by kernel_rfl) (by kernel_rfl) (by kernel_rfl) (fun _ _ _ h => h) (Or.inl ⟨?_, ?_⟩) hHeld ?_; rotate_left; (focus rfl); (focus (intro w hSw; (try dsimp only at hSw); go_simp; (try (with_reducible rfl)))); (try simp only [Act.put, List.setIfInBounds_toArray, List.set_cons_zero, List.set_cons_succ]))
              refine wpAnyH_ready (rs := [12]) (by kernel_rfl) (by simp) ?_
              refine AllReadyH.cons (get_of_drop' rfl) (fun K hK => ?_) AllReadyH.nil
              have hs8 := (HQ6.out).box2 hkept8
              have s1 : w8.cell? ⟨S, 2, none⟩ = some v2 := hs8.cell (by decide)
              have s2 := hs8.frozen 2
              have hd8 := (HQ6.out).app2 hkept8 hown8
              have HD8 := Lib.hid hd8.1
              have HR8 := Lib.hid (hd8.2 (p2 + 1) R (by omega) HR6.out)
              clear hd8 hs8 hkept8 hown8
              go_simp
              refine hK.out _ _ trivial (fun hHeld => ?_)
              clear hK K
              try simp only [Act.put, List.setIfInBounds_toArray, List.set_cons_zero, List.set_cons_succ]
              refine wpAnyH_done (by kernel_rfl) ?_ _
              go_wp2
              go_roundw
              case rel => exact ⟨k + 1, p2 + 1, v1, _, us, xss, _, by go_num, by omega, HD8.out, HR8.out, HXL2.out, by rw [List.length_append, HBL.out]; rfl, HXX2.out, by omega⟩
              case measure => simp [intOf] <;> omega
            · refine AllReadyH.cons (get_of_drop' rfl) (fun K hK => ?_) AllReadyH.nil
              have r9 := keep_cellA (below_newA w6 4 #[.bool (z == 0)]) HRC.out
              go_simp
              refine hK.out _ _ trivial (fun hHeld => ?_)
              clear hK K
              try simp only [Act.put, List.setIfInBounds_toArray, List.set_cons_zero, List.set_cons_succ]
              refine wpAnyH_ready (rs := [1]) (by kernel_rfl) (by simp) ?_
              refine AllReadyH.cons (get_of_drop' rfl) (fun K hK => ?_) AllReadyH.nil
              go_simp
              refine hK.out _ _ trivial (fun hHeld => ?_)
              clear hK K
              try simp only [Act.put, List.setIfInBounds_toArray, List.set_cons_zero, List.set_cons_succ]
              refine wpAnyH_ready (rs := [10]) (by kernel_rfl) (by simp) ?_
              refine AllReadyH.cons (get_of_drop' rfl) (fun K hK => ?_) AllReadyH.nil
              rw [if_pos (by rfl)]
              refine appK_bool (w6) Z rfl _ _ rfl _ v2 bs rfl (HQ6.out).1.2 rfl (by have := HBL.out; omega) (HQ6.out).low ?_
              intro ao2 m2 cap2 w8 hm2 hown8 hkept8
              subst hm2
              refine hK.out _ _ trivial (fun hHeld => ?_)
              clear hK K
              try simp only [Act.put, List.setIfInBounds_toArray, List.set_cons_zero, List.set_cons_succ]
              first | (refine wpAnyH_take (i := 11) (get_of_drop' rfl) (by kernel_rfl) (by kernel_rfl) (by kernel_rfl) (fun _ _ _ h => h) (Or.inr ⟨?_, rfl⟩) hHeld ?_; (focus (simp [Region.wanted, yielded, undef]; done)); (try simp only [Act.put, List.setIfInBounds_toArray, List.set_cons_zero, List.set_cons_succ])) | (refine wpAnyH_take (i := 11) (v := ?_) (get_of_drop' rfl) (by kernel_rfl) (by kernel_rfl) (by kernel_rfl) (fun _ _ _ h => h) (Or.inl ⟨?_, ?_⟩) hHeld ?_; rotate_left; (focus rfl); (focus (intro w hSw; (try dsimp only at hSw); go_simp; (try (with_reducible rfl)))); (try simp only [Act.put, List.setIfInBounds_toArray, List.set_cons_zero, List.set_cons_succ]))
              refine wpAnyH_ready (rs := [12]) (by kernel_rfl) (by simp) ?_
              refine AllReadyH.cons (get_of_drop' rfl) (fun K hK => ?_) AllReadyH.nil
              have hs8 := (HQ6.out).box2 hkept8
              have s1 : w8.cell? ⟨S, 2, none⟩ = some v2 := hs8.cell (by decide)
              have s2 := hs8.frozen 2
              have hd8 := (HQ6.out).app2 hkept8 hown8
              have HD8 := Lib.hid hd8.1
              have HR8 := Lib.hid (hd8.2 (p2 + 1) R (by omega) HR6.out)
              clear hd8 hs8 hkept8 hown8
              go_simp
              refine hK.out _ _ trivial (fun hHeld => ?_)
              clear hK K
              try simp only [Act.put, List.setIfInBounds_toArray, List.set_cons_zero, List.set_cons_succ]
              refine wpAnyH_done (by kernel_rfl) ?_ _
              go_wp2
              go_roundw
              case rel => exact ⟨k + 1, p2 + 1, v1, _, us, xss, _, by go_num, by omega, HD8.out, HR8.out, HXL2.out, by rw [List.length_append, HBL.out]; rfl, HXX2.out, by omega⟩
              case measure => simp [intOf] <;> omega
    · obtain rfl : k = 12 := by omega
      obtain ⟨a1, n1, hv1⟩ := own_shape haq.1.1.1
      obtain ⟨a2, n2, hv2⟩ := own_shape haq.1.2
      subst hv1 hv2
      obtain ⟨q0, q1, q2⟩ := haq.cells
      have HQ := Lib.hid haq.2.2.1
      have HG := Lib.hid haq.2.1
      have HAX := Lib.hid haq.1
      have z0 : wr.cell? ⟨Z, 0, none⟩ = some (.int .i64 0) := HQ.out.cell (by decide)
      have z1 : wr.cell? ⟨Z, 1, none⟩ = some (.slice none 0 0) := HQ.out.cell (by decide)
      have z2 : wr.cell? ⟨Z, 2, none⟩ = some (.slice none 0 0) := HQ.out.cell (by decide)
      have zf0 := HQ.out.frozen 0
      have zf1 := HQ.out.frozen 1
      have zf2 := HQ.out.frozen 2
      clear haq HAQ
      have hxl := HXL.out
      have hbl := HBL.out
      have hxx := HXX.out
      clear HXL HBL HXX
      have HXL := Lib.hid (show xss.length ≤ 100 by omega)
      have HBL := Lib.hid (show bs.length ≤ 100 by omega)
      have HXX := Lib.hid (show ∀ l ∈ xss, l.length ≤ 100 from fun l hl => Nat.le_trans (hxx l hl) (by decide))
      clear hxl hbl hxx
      go_wp2
      have hret := AX.ret HAX.out HR.out HG.out HQ.out (Nat.le_of_eq hZ) hRlt (u0 := .int .i64 3) (u1 := .slice a1 us.length n1) (u2 := .slice a2 bs.length n2)
      have hfin := rowIs_set3A HQ.out (.int .i64 3) (.slice a1 us.length n1) (.slice a2 bs.length n2)
      obtain ⟨wf, hwf⟩ : ∃ wf, (((wr.setCell ⟨Z, 0, none⟩ (.int .i64 3)).setCell ⟨Z, 1, none⟩ (.slice a1 us.length n1)).setCell ⟨Z, 2, none⟩ (.slice a2 bs.length n2)) = wf := ⟨_, rfl⟩
      rw [hwf] at hfin hret ⊢
      clear hwf
      have f0 : wf.cell? ⟨Z, 0, none⟩ = some (.int .i64 3) := hfin.cell (by decide)
      have f1 : wf.cell? ⟨Z, 1, none⟩ = some (.slice a1 us.length n1) := hfin.cell (by decide)
      have f2 : wf.cell? ⟨Z, 2, none⟩ = some (.slice a2 bs.length n2) := hfin.cell (by decide)
      refine bodyPost_ret (v := .agg #[.int .i64 3, .slice a1 us.length n1, .slice a2 bs.length n2]) ?_ rfl ?_
      · simp [results, Try.results71, go_sem, f0, f1, f2]
      · exact ⟨_, _, _, _, _, _, _, _, _, _, rfl, hret.1.1.base (by omega), hret.1.2.base (by omega), HXL.out, HBL.out, HXX.out, ⟨p1, by omega, hret.2.1, hret.2.2⟩⟩
end Go.Proofs.Ytagegbhchljggaa
