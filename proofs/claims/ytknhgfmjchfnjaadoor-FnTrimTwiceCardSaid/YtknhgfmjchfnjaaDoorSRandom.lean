/- l2Random: what it draws. -/
import Derived.Test.YtknhgfmjchfnjaaDoorDState
import Derived.Test.YtknhgfmjchfnjaaDoorSText2
import Derived.Deep.RegionHeld3
import Derived.Deep.CutRange

namespace Go.Proofs.YtknhgfmjchfnjaaDoor
open Go.RowKit
set_option linter.unusedVariables false
set_option linter.unusedSimpArgs false
set_option maxRecDepth 100000

set_option maxHeartbeats 4000000 in
theorem l2Random_any (R p : Nat) (al : Int) (T : Nat) (few : Int) (w : World) (hr : RdOk R p w) (hp : p ≤ 900000) (hal : isA al = true) (hT : T ≤ 5) (hfew : 1 ≤ few) :
    Calls Tryd.prog 82 #[.pointer (some ⟨R, 0, none⟩), .int .i64 al, .int .i64 T, .int .i64 few] w (SysR R p 200 1000 w) := by
  obtain ⟨ha0, ha1⟩ := (isA_iff al).1 hal
  have hRlt := hr.lt
  have hlx := lets_len al
  go_enter Tryd.func82, Tryd.ntmps82
  go_wp2_with fail
  obtain ⟨w2, hw2⟩ : ∃ w2, ((w.alloc (.cells #[.int .i64 0, .int .i64 0, .slice none 0 0] 25)).alloc (.cells #[.int .i64 al, .int .i64 T, .slice none 0 0] 25)) = w2 := ⟨_, rfl⟩
  have hb2 : Below w.heap.size w w2 := by rw [← hw2]; exact (below_new' _ _ _).alloc (by simp) _
  have hz2 : w2.rowIs w.heap.size 25 3 (fun i => #[.int .i64 0, .int .i64 0, .slice none 0 0][i]?.getD undef) := by rw [← hw2]; exact (sys_cells w 0 0 (.slice none 0 0) 25).alloc _
  have hs2 : w2.rowIs (w.heap.size + 1) 25 3 (fun i => #[.int .i64 al, .int .i64 T, .slice none 0 0][i]?.getD undef) := by
    rw [← hw2]
    have := sys_cells (w.alloc (.cells #[.int .i64 0, .int .i64 0, .slice none 0 0] 25)) al T (.slice none 0 0) 25
    simpa using this
  have hz : w2.heap.size = w.heap.size + 2 := by rw [← hw2]; simp
  rw [hw2]
  clear hw2
  refine (l1Letters_any al ha0 (by omega) w2).mono ?_
  rintro e wL ⟨ao, cap, rfl, hown, hbL⟩
  obtain ⟨m, hm⟩ : ∃ m, (lets al).length = m := ⟨_, rfl⟩
  have hshape := hown.shape
  rw [hm] at hlx hshape ⊢
  have HSH := Lib.hid hshape
  have HM := Lib.hid hm
  have hLs := hbL.size
  have HZ := Lib.hid (rowIs_below' hz2 hbL)
  have HS := Lib.hid (rowIs_below' hs2 hbL)
  have HR := Lib.hid ((hr.below hb2).below hbL)
  have HG := Lib.hid (grown_below (some R) (hb2.trans (hbL.mono hb2.size)))
  have hS0 : w.heap.size + 1 < wL.heap.size := World.rowIs.lt HS.out
  obtain ⟨S, hS⟩ : ∃ S, w.heap.size + 1 = S := ⟨_, rfl⟩
  obtain ⟨Z, hZ⟩ : ∃ Z, w.heap.size = Z := ⟨_, rfl⟩
  rw [hS] at HS hS0
  rw [hZ] at HZ
  have hRS : R < S := by omega
  have hZR : R < Z := by omega
  have hZS : Z < S := by omega
  have hZne : ¬ (Z = R ∨ Z = S) := by omega
  clear hown hm hr hz2 hs2 hb2 hbL hshape hal
  rw [hS, hZ]
  go_wp2
  go_loopw [11] (fun i wr => ∃ (f p' n c : Nat) (a : Option Addr) (es : List Edg), i = .int .i64 f ∧ f ≤ T ∧ DSt R p' S al T wL wr (.slice a n c) es ∧ n = es.length ∧ es.length ≤ f * 30 ∧ p' ≤ p + f * 30) (fun i _ => T - (intOf i).toNat)
  case atStart => exact ⟨0, p, 0, 0, none, [], rfl, Nat.zero_le _, ⟨HR.out, HS.out, EOwn.nil _ _, hRS, hS0, Onl.refl _ _⟩, rfl, by simp, by omega⟩
  case round =>
    obtain ⟨f, p1, n1, c1, a1, es, rfl, hf, hd, hn, hes, hp1⟩ := hrel
    by_cases hlt : f < T
    · have HD := Lib.hid hd
      have HN := Lib.hid hn; clear hn
      clear hd
      go_wp2
      go_loopw [12] (fun i wr => ∃ (k p' n c : Nat) (a : Option Addr) (es : List Edg), i = .int .i64 k ∧ k ≤ m ∧ DSt R p' S al T wL wr (.slice a n c) es ∧ n = es.length ∧ es.length ≤ f * 30 + k * 5 ∧ p' ≤ p + f * 30 + k * 5) (fun i _ => m - (intOf i).toNat)
      case atStart => exact ⟨0, p1, n1, c1, a1, es, rfl, Nat.zero_le _, HD.out, HN.out, by omega, by omega⟩
      case round =>
        clear HD HN hes hp1
        obtain ⟨k, p2, n2, c2, a2, es, rfl, hk, hd, hn, hes, hp2⟩ := hrel
        by_cases hlk : k < m
        · have HD := Lib.hid hd
          have HN := Lib.hid hn; clear hn
          clear hd
          go_wp2
          go_loopw [13] (fun i wr => ∃ (t p' n c : Nat) (a : Option Addr) (es : List Edg), i = .int .i64 t ∧ t ≤ T ∧ DSt R p' S al T wL wr (.slice a n c) es ∧ n = es.length ∧ es.length ≤ f * 30 + k * 5 + t ∧ p' ≤ p + f * 30 + k * 5 + t) (fun i _ => T - (intOf i).toNat)
          case atStart => exact ⟨0, p2, n2, c2, a2, es, rfl, Nat.zero_le _, HD.out, HN.out, by omega, by omega⟩
          case round =>
            clear HD HN hes hp2
            obtain ⟨t, p3, n3, c3, a3, es, rfl, ht, hd, hn, hes, hp3⟩ := hrel
            by_cases hlt2 : t < T
            · rcases HSH.out with ⟨-, h0⟩ | ⟨g, capg, hvg, hg1, hg2, hgc, hgm, hgcell, -⟩
              · exfalso
                have := HM.out
                rw [h0] at this
                simp at this
                omega
              · have hgk := hgcell k hlk
                obtain ⟨x, hx⟩ : ∃ x, (lets al)[k]?.getD 0 = x := ⟨_, rfl⟩
                rw [hx] at hgk
                injection hvg with hv1 hv2 hv3
                subst hv1; subst hv3
                have hcapm : m ≤ cap := hgc
                unfold maxLen at hgm
                have HD := Lib.hid hd
                have HN := Lib.hid hn; clear hn
                have hrd := hd.rd
                clear hd hgcell hx hv2
                go_wp2_with fail
                refine (pick_any R p3 few wr hrd (by omega)).mono ?_
                rintro e w4 ⟨z, rfl, -, -, hr4, hg4⟩
                have HD4 := Lib.hid (HD.out.pick hr4 hg4)
                clear hr4 hg4 hrd HD
                by_cases hz0 : z = 0
                · subst hz0
                  go_wp2_with fail
                  have q2 : w4.drew.cell? ⟨S, 2, none⟩ = some (.slice a3 n3 c3) := HD4.out.2.1.cell (by decide)
                  have qg : w4.drew.cell? ⟨g, k, none⟩ = some (.int .i64 x) := HD4.out.2.2.2.2.2.cell hgk (by omega)
                  have hLw : wL.heap.size ≤ w4.drew.heap.size := HD4.out.2.2.2.2.2.2.2.2.1
                  have q3 : (w4.alloc (.cells #[.int .i64 (f : Int), .int .i64 x, .int .i64 (t : Int)] 58)).cell? ⟨S, 2, none⟩ = some (.slice a3 n3 c3) := keep_cell (below_new' _ _ _) q2
                  refine wp_region_held_drew (S := fun _ => True) (by kernel_rfl) trivial (fun hHeld => ?_)
                  first | (refine wpAnyH_take (i := 0) (get_of_drop' rfl) (by kernel_rfl) (by kernel_rfl) (by kernel_rfl) (fun _ _ _ h => h) (Or.inr ⟨?_, rfl⟩) hHeld ?_; (focus (simp [Region.wanted, yielded, undef]; done)); (try simp only [Act.put, List.setIfInBounds_toArray, List.set_cons_zero, List.set_cons_succ])) | (refine wpAnyH_take (i := 0) (v := ?_) (get_of_drop' rfl) (by kernel_rfl) (by kernel_rfl) (by kernel_rfl) (fun _ _ _ h => h) (Or.inl ⟨?_, ?_⟩) hHeld ?_; rotate_left; (focus rfl); (focus (intro w hSw; (try dsimp only at hSw); go_simp; (try (with_reducible rfl)))); (try simp only [Act.put, List.setIfInBounds_toArray, List.set_cons_zero, List.set_cons_succ]))
                  first | (refine wpAnyH_take (i := 2) (get_of_drop' rfl) (by kernel_rfl) (by kernel_rfl) (by kernel_rfl) (fun _ _ _ h => h) (Or.inr ⟨?_, rfl⟩) hHeld ?_; (focus (simp [Region.wanted, yielded, undef]; done)); (try simp only [Act.put, List.setIfInBounds_toArray, List.set_cons_zero, List.set_cons_succ])) | (refine wpAnyH_take (i := 2) (v := ?_) (get_of_drop' rfl) (by kernel_rfl) (by kernel_rfl) (by kernel_rfl) (fun _ _ _ h => h) (Or.inl ⟨?_, ?_⟩) hHeld ?_; rotate_left; (focus rfl); (focus (intro w hSw; (try dsimp only at hSw); go_simp; (try (with_reducible rfl)))); (try simp only [Act.put, List.setIfInBounds_toArray, List.set_cons_zero, List.set_cons_succ]))
                  first | (refine wpAnyH_take (i := 3) (get_of_drop' rfl) (by kernel_rfl) (by kernel_rfl) (by kernel_rfl) (fun _ _ _ h => h) (Or.inr ⟨?_, rfl⟩) hHeld ?_; (focus (simp [Region.wanted, yielded, undef]; done)); (try simp only [Act.put, List.setIfInBounds_toArray, List.set_cons_zero, List.set_cons_succ])) | (refine wpAnyH_take (i := 3) (v := ?_) (get_of_drop' rfl) (by kernel_rfl) (by kernel_rfl) (by kernel_rfl) (fun _ _ _ h => h) (Or.inl ⟨?_, ?_⟩) hHeld ?_; rotate_left; (focus rfl); (focus (intro w hSw; (try dsimp only at hSw); go_simp; (try (with_reducible rfl)))); (try simp only [Act.put, List.setIfInBounds_toArray, List.set_cons_zero, List.set_cons_succ]))
                  first | (refine wpAnyH_take (i := 4) (get_of_drop' rfl) (by kernel_rfl) (by kernel_rfl) (by kernel_rfl) (fun _ _ _ h => h) (Or.inr ⟨?_, rfl⟩) hHeld ?_; (focus (simp [Region.wanted, yielded, undef]; done)); (try simp only [Act.put, List.setIfInBounds_toArray, List.set_cons_zero, List.set_cons_succ])) | (refine wpAnyH_take (i := 4) (v := ?_) (get_of_drop' rfl) (by kernel_rfl) (by kernel_rfl) (by kernel_rfl) (fun _ _ _ h => h) (Or.inl ⟨?_, ?_⟩) hHeld ?_; rotate_left; (focus rfl); (focus (intro w hSw; (try dsimp only at hSw); go_simp; (try (with_reducible rfl)))); (try simp only [Act.put, List.setIfInBounds_toArray, List.set_cons_zero, List.set_cons_succ]))
                  first | (refine wpAnyH_take (i := 5) (get_of_drop' rfl) (by kernel_rfl) (by kernel_rfl) (by kernel_rfl) (fun _ _ _ h => h) (Or.inr ⟨?_, rfl⟩) hHeld ?_; (focus (simp [Region.wanted, yielded, undef]; done)); (try simp only [Act.put, List.setIfInBounds_toArray, List.set_cons_zero, List.set_cons_succ])) | (refine wpAnyH_take (i := 5) (v := ?_) (get_of_drop' rfl) (by kernel_rfl) (by kernel_rfl) (by kernel_rfl) (fun _ _ _ h => h) (Or.inl ⟨?_, ?_⟩) hHeld ?_; rotate_left; (focus rfl); (focus (intro w hSw; (try dsimp only at hSw); go_simp; (try (with_reducible rfl)))); (try simp only [Act.put, List.setIfInBounds_toArray, List.set_cons_zero, List.set_cons_succ]))
                  first | (refine wpAnyH_take (i := 7) (get_of_drop' rfl) (by kernel_rfl) (by kernel_rfl) (by kernel_rfl) (fun _ _ _ h => h) (Or.inr ⟨?_, rfl⟩) hHeld ?_; (focus (simp [Region.wanted, yielded, undef]; done)); (try simp only [Act.put, List.setIfInBounds_toArray, List.set_cons_zero, List.set_cons_succ])) | (refine wpAnyH_take (i := 7) (v := ?_) (get_of_drop' rfl) (by kernel_rfl) (by kernel_rfl) (by kernel_rfl) (fun _ _ _ h => h) (Or.inl ⟨?_, ?_⟩) hHeld ?_; rotate_left; (focus rfl); (focus (intro w hSw; (try dsimp only at hSw); go_simp; (try (with_reducible rfl)))); (try simp only [Act.put, List.setIfInBounds_toArray, List.set_cons_zero, List.set_cons_succ]))
                  refine wpAnyH_ready (rs := [1, 6]) (by kernel_rfl) (by simp) ?_
                  refine AllReadyH.cons (get_of_drop' rfl) (fun K hK => ?_) ?_
                  · go_simp
                    refine hK.out _ _ trivial (fun hHeld => ?_)
                    clear hK K
                    try simp only [Act.put, List.setIfInBounds_toArray, List.set_cons_zero, List.set_cons_succ]
                    refine wpAnyH_ready (rs := [6]) (by kernel_rfl) (by simp) ?_
                    refine AllReadyH.cons (get_of_drop' rfl) (fun K hK => ?_) AllReadyH.nil
                    go_simp
                    refine hK.out _ _ trivial (fun hHeld => ?_)
                    clear hK K
                    try simp only [Act.put, List.setIfInBounds_toArray, List.set_cons_zero, List.set_cons_succ]
                    first | (refine wpAnyH_take (i := 8) (get_of_drop' rfl) (by kernel_rfl) (by kernel_rfl) (by kernel_rfl) (fun _ _ _ h => h) (Or.inr ⟨?_, rfl⟩) hHeld ?_; (focus (simp [Region.wanted, yielded, undef]; done)); (try simp only [Act.put, List.setIfInBounds_toArray, List.set_cons_zero, List.set_cons_succ])) | (refine wpAnyH_take (i := 8) (v := ?_) (get_of_drop' rfl) (by kernel_rfl) (by kernel_rfl) (by kernel_rfl) (fun _ _ _ h => h) (Or.inl ⟨?_, ?_⟩) hHeld ?_; rotate_left; (focus rfl); (focus (intro w hSw; (try dsimp only at hSw); go_simp; (try (with_reducible rfl)))); (try simp only [Act.put, List.setIfInBounds_toArray, List.set_cons_zero, List.set_cons_succ]))
                    refine wpAnyH_ready (rs := [9]) (by kernel_rfl) (by simp) ?_
                    refine AllReadyH.cons (get_of_drop' rfl) (fun K hK => ?_) AllReadyH.nil
                    go_simp
                    refine hK.out _ _ trivial (fun hHeld => ?_)
                    clear hK K
                    try simp only [Act.put, List.setIfInBounds_toArray, List.set_cons_zero, List.set_cons_succ]
                    refine wpAnyH_ready (rs := [10]) (by kernel_rfl) (by simp) ?_
                    refine AllReadyH.cons (get_of_drop' rfl) (fun K hK => ?_) AllReadyH.nil
                    rw [if_pos (by rfl)]
                    refine wp_app_edge w4.drew ((f : Int), x, (t : Int)) wL.heap.size _ _ rfl _ es rfl HD4.out.2.2.1 rfl (by omega) (by omega) ?_
                    intro ao' n' cap' w5 hn' hown' hkept
                    refine hK.out _ _ trivial (fun hHeld => ?_)
                    clear hK K
                    try simp only [Act.put, List.setIfInBounds_toArray, List.set_cons_zero, List.set_cons_succ]
                    first | (refine wpAnyH_take (i := 11) (get_of_drop' rfl) (by kernel_rfl) (by kernel_rfl) (by kernel_rfl) (fun _ _ _ h => h) (Or.inr ⟨?_, rfl⟩) hHeld ?_; (focus (simp [Region.wanted, yielded, undef]; done)); (try simp only [Act.put, List.setIfInBounds_toArray, List.set_cons_zero, List.set_cons_succ])) | (refine wpAnyH_take (i := 11) (v := ?_) (get_of_drop' rfl) (by kernel_rfl) (by kernel_rfl) (by kernel_rfl) (fun _ _ _ h => h) (Or.inl ⟨?_, ?_⟩) hHeld ?_; rotate_left; (focus rfl); (focus (intro w hSw; (try dsimp only at hSw); go_simp; (try (with_reducible rfl)))); (try simp only [Act.put, List.setIfInBounds_toArray, List.set_cons_zero, List.set_cons_succ]))
                    refine wpAnyH_ready (rs := [12]) (by kernel_rfl) (by simp) ?_
                    refine AllReadyH.cons (get_of_drop' rfl) (fun K hK => ?_) AllReadyH.nil
                    have hd5 := HD4.out.drew.app hkept hown'
                    have s2 : w5.cell? ⟨S, 2, none⟩ = some (.slice a3 n3 c3) := (HD4.out.2.1.of_block ((hkept.1 w4.drew (Below.refl _ _)).block S hS0)).cell (by decide)
                    have s3 := (HD4.out.2.1.of_block ((hkept.1 w4.drew (Below.refl _ _)).block S hS0)).frozen 2
                    have HD5 := Lib.hid hd5
                    have HN5 := Lib.hid hn'; clear hn'
                    clear hd5 hkept hown'
                    go_simp
                    refine hK.out _ _ trivial (fun hHeld => ?_)
                    clear hK K
                    try simp only [Act.put, List.setIfInBounds_toArray, List.set_cons_zero, List.set_cons_succ]
                    refine wpAnyH_done (by kernel_rfl) ?_ _
                    go_wp2
                    go_roundw
                    case rel => exact ⟨t + 1, p3 + 1, n', cap', ao', es ++ [((f : Int), x, (t : Int))], by go_num, by omega, HD5.out, by rw [HN5.out]; simp, by simp; omega, by omega⟩
                    case measure => simp [intOf] <;> omega
                  · refine AllReadyH.cons (get_of_drop' rfl) (fun K hK => ?_) AllReadyH.nil
                    go_simp
                    refine hK.out _ _ trivial (fun hHeld => ?_)
                    clear hK K
                    try simp only [Act.put, List.setIfInBounds_toArray, List.set_cons_zero, List.set_cons_succ]
                    first | (refine wpAnyH_take (i := 8) (get_of_drop' rfl) (by kernel_rfl) (by kernel_rfl) (by kernel_rfl) (fun _ _ _ h => h) (Or.inr ⟨?_, rfl⟩) hHeld ?_; (focus (simp [Region.wanted, yielded, undef]; done)); (try simp only [Act.put, List.setIfInBounds_toArray, List.set_cons_zero, List.set_cons_succ])) | (refine wpAnyH_take (i := 8) (v := ?_) (get_of_drop' rfl) (by kernel_rfl) (by kernel_rfl) (by kernel_rfl) (fun _ _ _ h => h) (Or.inl ⟨?_, ?_⟩) hHeld ?_; rotate_left; (focus rfl); (focus (intro w hSw; (try dsimp only at hSw); go_simp; (try (with_reducible rfl)))); (try simp only [Act.put, List.setIfInBounds_toArray, List.set_cons_zero, List.set_cons_succ]))
                    refine wpAnyH_ready (rs := [1, 9]) (by kernel_rfl) (by simp) ?_
                    refine AllReadyH.cons (get_of_drop' rfl) (fun K hK => ?_) ?_
                    · go_simp
                      refine hK.out _ _ trivial (fun hHeld => ?_)
                      clear hK K
                      try simp only [Act.put, List.setIfInBounds_toArray, List.set_cons_zero, List.set_cons_succ]
                      refine wpAnyH_ready (rs := [9]) (by kernel_rfl) (by simp) ?_
                      refine AllReadyH.cons (get_of_drop' rfl) (fun K hK => ?_) AllReadyH.nil
                      go_simp
                      refine hK.out _ _ trivial (fun hHeld => ?_)
                      clear hK K
                      try simp only [Act.put, List.setIfInBounds_toArray, List.set_cons_zero, List.set_cons_succ]
                      refine wpAnyH_ready (rs := [10]) (by kernel_rfl) (by simp) ?_
                      refine AllReadyH.cons (get_of_drop' rfl) (fun K hK => ?_) AllReadyH.nil
                      rw [if_pos (by rfl)]
                      refine wp_app_edge w4.drew ((f : Int), x, (t : Int)) wL.heap.size _ _ rfl _ es rfl HD4.out.2.2.1 rfl (by omega) (by omega) ?_
                      intro ao' n' cap' w5 hn' hown' hkept
                      refine hK.out _ _ trivial (fun hHeld => ?_)
                      clear hK K
                      try simp only [Act.put, List.setIfInBounds_toArray, List.set_cons_zero, List.set_cons_succ]
                      first | (refine wpAnyH_take (i := 11) (get_of_drop' rfl) (by kernel_rfl) (by kernel_rfl) (by kernel_rfl) (fun _ _ _ h => h) (Or.inr ⟨?_, rfl⟩) hHeld ?_; (focus (simp [Region.wanted, yielded, undef]; done)); (try simp only [Act.put, List.setIfInBounds_toArray, List.set_cons_zero, List.set_cons_succ])) | (refine wpAnyH_take (i := 11) (v := ?_) (get_of_drop' rfl) (by kernel_rfl) (by kernel_rfl) (by kernel_rfl) (fun _ _ _ h => h) (Or.inl ⟨?_, ?_⟩) hHeld ?_; rotate_left; (focus rfl); (focus (intro w hSw; (try dsimp only at hSw); go_simp; (try (with_reducible rfl)))); (try simp only [Act.put, List.setIfInBounds_toArray, List.set_cons_zero, List.set_cons_succ]))
                      refine wpAnyH_ready (rs := [12]) (by kernel_rfl) (by simp) ?_
                      refine AllReadyH.cons (get_of_drop' rfl) (fun K hK => ?_) AllReadyH.nil
                      have hd5 := HD4.out.drew.app hkept hown'
                      have s2 : w5.cell? ⟨S, 2, none⟩ = some (.slice a3 n3 c3) := (HD4.out.2.1.of_block ((hkept.1 w4.drew (Below.refl _ _)).block S hS0)).cell (by decide)
                      have s3 := (HD4.out.2.1.of_block ((hkept.1 w4.drew (Below.refl _ _)).block S hS0)).frozen 2
                      have HD5 := Lib.hid hd5
                      have HN5 := Lib.hid hn'; clear hn'
                      clear hd5 hkept hown'
                      go_simp
                      refine hK.out _ _ trivial (fun hHeld => ?_)
                      clear hK K
                      try simp only [Act.put, List.setIfInBounds_toArray, List.set_cons_zero, List.set_cons_succ]
                      refine wpAnyH_done (by kernel_rfl) ?_ _
                      go_wp2
                      go_roundw
                      case rel => exact ⟨t + 1, p3 + 1, n', cap', ao', es ++ [((f : Int), x, (t : Int))], by go_num, by omega, HD5.out, by rw [HN5.out]; simp, by simp; omega, by omega⟩
                      case measure => simp [intOf] <;> omega
                    · refine AllReadyH.cons (get_of_drop' rfl) (fun K hK => ?_) AllReadyH.nil
                      go_simp
                      refine hK.out _ _ trivial (fun hHeld => ?_)
                      clear hK K
                      try simp only [Act.put, List.setIfInBounds_toArray, List.set_cons_zero, List.set_cons_succ]
                      refine wpAnyH_ready (rs := [1]) (by kernel_rfl) (by simp) ?_
                      refine AllReadyH.cons (get_of_drop' rfl) (fun K hK => ?_) AllReadyH.nil
                      go_simp
                      refine hK.out _ _ trivial (fun hHeld => ?_)
                      clear hK K
                      try simp only [Act.put, List.setIfInBounds_toArray, List.set_cons_zero, List.set_cons_succ]
                      refine wpAnyH_ready (rs := [10]) (by kernel_rfl) (by simp) ?_
                      refine AllReadyH.cons (get_of_drop' rfl) (fun K hK => ?_) AllReadyH.nil
                      rw [if_pos (by rfl)]
                      refine wp_app_edge w4.drew ((f : Int), x, (t : Int)) wL.heap.size _ _ rfl _ es rfl HD4.out.2.2.1 rfl (by omega) (by omega) ?_
                      intro ao' n' cap' w5 hn' hown' hkept
                      refine hK.out _ _ trivial (fun hHeld => ?_)
                      clear hK K
                      try simp only [Act.put, List.setIfInBounds_toArray, List.set_cons_zero, List.set_cons_succ]
                      first | (refine wpAnyH_take (i := 11) (get_of_drop' rfl) (by kernel_rfl) (by kernel_rfl) (by kernel_rfl) (fun _ _ _ h => h) (Or.inr ⟨?_, rfl⟩) hHeld ?_; (focus (simp [Region.wanted, yielded, undef]; done)); (try simp only [Act.put, List.setIfInBounds_toArray, List.set_cons_zero, List.set_cons_succ])) | (refine wpAnyH_take (i := 11) (v := ?_) (get_of_drop' rfl) (by kernel_rfl) (by kernel_rfl) (by kernel_rfl) (fun _ _ _ h => h) (Or.inl ⟨?_, ?_⟩) hHeld ?_; rotate_left; (focus rfl); (focus (intro w hSw; (try dsimp only at hSw); go_simp; (try (with_reducible rfl)))); (try simp only [Act.put, List.setIfInBounds_toArray, List.set_cons_zero, List.set_cons_succ]))
                      refine wpAnyH_ready (rs := [12]) (by kernel_rfl) (by simp) ?_
                      refine AllReadyH.cons (get_of_drop' rfl) (fun K hK => ?_) AllReadyH.nil
                      have hd5 := HD4.out.drew.app hkept hown'
                      have s2 : w5.cell? ⟨S, 2, none⟩ = some (.slice a3 n3 c3) := (HD4.out.2.1.of_block ((hkept.1 w4.drew (Below.refl _ _)).block S hS0)).cell (by decide)
                      have s3 := (HD4.out.2.1.of_block ((hkept.1 w4.drew (Below.refl _ _)).block S hS0)).frozen 2
                      have HD5 := Lib.hid hd5
                      have HN5 := Lib.hid hn'; clear hn'
                      clear hd5 hkept hown'
                      go_simp
                      refine hK.out _ _ trivial (fun hHeld => ?_)
                      clear hK K
                      try simp only [Act.put, List.setIfInBounds_toArray, List.set_cons_zero, List.set_cons_succ]
                      refine wpAnyH_done (by kernel_rfl) ?_ _
                      go_wp2
                      go_roundw
                      case rel => exact ⟨t + 1, p3 + 1, n', cap', ao', es ++ [((f : Int), x, (t : Int))], by go_num, by omega, HD5.out, by rw [HN5.out]; simp, by simp; omega, by omega⟩
                      case measure => simp [intOf] <;> omega
                · have hz0' : ¬ (z : Int) = 0 := hz0
                  go_wp2
                  go_roundw
                  case rel => exact ⟨t + 1, p3 + 1, n3, c3, a3, es, by go_num, by omega, HD4.out, HN.out, by omega, by omega⟩
                  case measure => simp [intOf] <;> omega
            · obtain rfl : t = T := by omega
              have HD := Lib.hid hd
              have HN := Lib.hid hn; clear hn
              clear hd
              go_wp2
              go_roundw
              case rel => exact ⟨k + 1, p3, n3, c3, a3, es, by go_num, by omega, HD.out, HN.out, by omega, by omega⟩
              case measure => simp [intOf] <;> omega
        · obtain rfl : k = m := by omega
          have HD := Lib.hid hd
          have HN := Lib.hid hn; clear hn
          clear hd
          go_wp2
          go_roundw
          case rel => exact ⟨f + 1, p2, n2, c2, a2, es, by go_num, by omega, HD.out, HN.out, by omega, by omega⟩
          case measure => simp [intOf] <;> omega
    · obtain rfl : f = T := by omega
      have hqz : wr.rowIs Z 25 3 (fun i => #[.int .i64 0, .int .i64 0, .slice none 0 0][i]?.getD undef) := hd.2.2.2.2.2.row HZ.out hZne
      have q0 : wr.cell? ⟨S, 0, none⟩ = some (.int .i64 al) := hd.2.1.cell (by decide)
      have q1 : wr.cell? ⟨S, 1, none⟩ = some (.int .i64 f) := hd.2.1.cell (by decide)
      have q2 : wr.cell? ⟨S, 2, none⟩ = some (.slice a1 n1 c1) := hd.2.1.cell (by decide)
      have z0 : wr.cell? ⟨Z, 0, none⟩ = some (.int .i64 0) := hqz.cell (by decide)
      have z1 : wr.cell? ⟨Z, 1, none⟩ = some (.int .i64 0) := hqz.cell (by decide)
      have z2 : wr.cell? ⟨Z, 2, none⟩ = some (.slice none 0 0) := hqz.cell (by decide)
      have zf0 := hqz.frozen 0
      have zf1 := hqz.frozen 1
      have zf2 := hqz.frozen 2
      have HD := Lib.hid hd
      have HQZ := Lib.hid hqz
      have HN := Lib.hid hn; clear hn
      clear hd hqz
      go_wp2
      have hdone := DSt.done (u0 := .int .i64 al) (u1 := .int .i64 f) (u2 := .slice a1 n1 c1) HD.out HG.out (Nat.le_of_eq hZ) hRlt (by omega) (by have := World.rowIs.lt HZ.out; omega)
      have hfin := rowIs_set3 HQZ.out (.int .i64 al) (.int .i64 f) (.slice a1 n1 c1)
      obtain ⟨wf, hwf⟩ : ∃ wf, (((wr.setCell ⟨Z, 0, none⟩ (.int .i64 al)).setCell ⟨Z, 1, none⟩ (.int .i64 f)).setCell ⟨Z, 2, none⟩ (.slice a1 n1 c1)) = wf := ⟨_, rfl⟩
      rw [hwf] at hfin hdone ⊢
      clear hwf
      have f0 : wf.cell? ⟨Z, 0, none⟩ = some (.int .i64 al) := hfin.cell (by decide)
      have f1 : wf.cell? ⟨Z, 1, none⟩ = some (.int .i64 f) := hfin.cell (by decide)
      have f2 : wf.cell? ⟨Z, 2, none⟩ = some (.slice a1 n1 c1) := hfin.cell (by decide)
      refine bodyPost_ret (v := .agg #[.int .i64 al, .int .i64 f, .slice a1 n1 c1]) ?_ rfl ?_
      · simp [results, Tryd.results82, go_sem, f0, f1, f2]
      · exact ⟨al, f, a1, n1, c1, es, rfl, by omega, hdone.1, p1, by omega, hdone.2.1, hdone.2.2⟩
end Go.Proofs.YtknhgfmjchfnjaaDoor
