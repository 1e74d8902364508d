/- l2Big: what it draws. -/
import Derived.Test.YtnjakhojdhkihaaGreatDoorDState
import Derived.Test.YtnjakhojdhkihaaGreatDoorSText2
import Derived.Deep.RegionHeld3
import Derived.Deep.CutRange

namespace Go.Proofs.YtnjakhojdhkihaaGreatDoor
open Go.RowKit
set_option linter.unusedVariables false
set_option linter.unusedSimpArgs false
set_option maxRecDepth 100000

set_option maxHeartbeats 8000000 in
theorem l2Big_any (R p : Nat) (w : World) (hr : RdOk R p w) (hp : p ≤ 900000) : Calls Tryz.prog 84 #[.pointer (some ⟨R, 0, none⟩)] w (SysR R p 50 1000 w) := by
  have hRlt := hr.lt
  go_enter Tryz.func84, Tryz.ntmps84
  go_wp2_with fail
  obtain ⟨wL, hw2⟩ : ∃ w2, ((w.alloc (.cells #[.int .i64 0, .int .i64 0, .slice none 0 0] 24)).alloc (.cells #[.int .i64 3, .int .i64 16, .slice none 0 0] 24)) = w2 := ⟨_, rfl⟩
  have hb2 : Below w.heap.size w wL := by rw [← hw2]; exact (below_new' _ _ _).alloc (by simp) _
  have hz2 : wL.rowIs w.heap.size 24 3 (fun i => #[.int .i64 0, .int .i64 0, .slice none 0 0][i]?.getD undef) := by rw [← hw2]; exact (sys_cells w 0 0 (.slice none 0 0) 24).alloc _
  have hs2 : wL.rowIs (w.heap.size + 1) 24 3 (fun i => #[.int .i64 3, .int .i64 16, .slice none 0 0][i]?.getD undef) := by
    rw [← hw2]
    have := sys_cells (w.alloc (.cells #[.int .i64 0, .int .i64 0, .slice none 0 0] 24)) 3 16 (.slice none 0 0) 24
    simpa using this
  rw [hw2]
  clear hw2
  have HZ := Lib.hid hz2
  have HS := Lib.hid hs2
  have HR := Lib.hid (hr.below hb2)
  have HG := Lib.hid (grown_below (some R) hb2)
  have hS0 : w.heap.size + 1 < wL.heap.size := World.rowIs.lt hs2
  obtain ⟨S, hS⟩ : ∃ S, w.heap.size + 1 = S := ⟨_, rfl⟩
  obtain ⟨Z, hZ⟩ : ∃ Z, w.heap.size = Z := ⟨_, rfl⟩
  rw [hS] at HS hS0
  rw [hZ] at HZ
  have hRS : R < S := by omega
  have hZR : R < Z := by omega
  have hZS : Z < S := by omega
  have hZne : ¬ (Z = R ∨ Z = S) := by omega
  clear hr hz2 hs2 hb2
  rw [hS, hZ]
  go_loopw [4] (fun i wr => ∃ (k p' n c : Nat) (a : Option Addr) (es : List Edg), i = .int .i64 k ∧ k ≤ 16 ∧ DSt R p' S 3 16 wL wr (.slice a n c) es ∧ n = es.length ∧ es.length ≤ k * 2 ∧ p' ≤ p + k * 2) (fun i _ => 16 - (intOf i).toNat)
  case atStart => exact ⟨0, p, 0, 0, none, [], rfl, Nat.zero_le _, ⟨HR.out, HS.out, EOwn.nil _ _, hRS, hS0, Onl.refl _ _⟩, rfl, by simp, by omega⟩
  case round =>
    obtain ⟨k, p1, n1, c1, a1, es, rfl, hk, hd, hn, hes, hp1⟩ := hrel
    have q0 : wr.cell? ⟨S, 0, none⟩ = some (.int .i64 3) := hd.2.1.cell (by decide)
    have q1 : wr.cell? ⟨S, 1, none⟩ = some (.int .i64 16) := hd.2.1.cell (by decide)
    have q2 : wr.cell? ⟨S, 2, none⟩ = some (.slice a1 n1 c1) := hd.2.1.cell (by decide)
    have HD := Lib.hid hd
    have HN := Lib.hid hn; clear hn
    by_cases hlt : k < 16
    · have hLw : wL.heap.size ≤ wr.drew.heap.size := hd.2.2.2.2.2.2.2.2.1
      have q3 : (wr.alloc (.cells #[.int .i64 (k : Int), .int .i64 0, .int .i64 ((IntKind.i64.wrap ((k : Int) + 1)).tmod 16)] 41)).cell? ⟨S, 2, none⟩ = some (.slice a1 n1 c1) := keep_cell (below_new' _ _ _) q2
      clear hd
      have HDR := Lib.hid HD.out.drew
      have hlt' : (k : Int) < 16 := by omega
      go_wp2_with fail
      go_cut [4] from 12 to 24 (fun s4 wc => s4 = .int .i64 k ∧ ∃ (n c : Nat) (a : Option Addr) (es' : List Edg), DSt R p1 S 3 16 wL wc (.slice a n c) es' ∧ n = es'.length ∧ es'.length ≤ k * 2 + 1)
      case first =>
        refine wp_region_held_drew (S := fun _ => True) (by kernel_rfl) trivial (fun hHeld => ?_)
        first | (refine wpAnyH_take (i := 0) (get_of_drop' rfl) (by kernel_rfl) (by kernel_rfl) (by kernel_rfl) (fun _ _ _ h => h) (Or.inr ⟨?_, rfl⟩) hHeld ?_; (focus (simp [Region.wanted, yielded, undef]; done)); (try simp only [Act.put, List.setIfInBounds_toArray, List.set_cons_zero, List.set_cons_succ])) | (refine wpAnyH_take (i := 0) (v := ?_) (get_of_drop' rfl) (by kernel_rfl) (by kernel_rfl) (by kernel_rfl) (fun _ _ _ h => h) (Or.inl ⟨?_, ?_⟩) hHeld ?_; rotate_left; (focus rfl); (focus (intro w hSw; (try dsimp only at hSw); go_simp; (try (with_reducible rfl)))); (try simp only [Act.put, List.setIfInBounds_toArray, List.set_cons_zero, List.set_cons_succ]))
        first | (refine wpAnyH_take (i := 2) (get_of_drop' rfl) (by kernel_rfl) (by kernel_rfl) (by kernel_rfl) (fun _ _ _ h => h) (Or.inr ⟨?_, rfl⟩) hHeld ?_; (focus (simp [Region.wanted, yielded, undef]; done)); (try simp only [Act.put, List.setIfInBounds_toArray, List.set_cons_zero, List.set_cons_succ])) | (refine wpAnyH_take (i := 2) (v := ?_) (get_of_drop' rfl) (by kernel_rfl) (by kernel_rfl) (by kernel_rfl) (fun _ _ _ h => h) (Or.inl ⟨?_, ?_⟩) hHeld ?_; rotate_left; (focus rfl); (focus (intro w hSw; (try dsimp only at hSw); go_simp; (try (with_reducible rfl)))); (try simp only [Act.put, List.setIfInBounds_toArray, List.set_cons_zero, List.set_cons_succ]))
        first | (refine wpAnyH_take (i := 3) (get_of_drop' rfl) (by kernel_rfl) (by kernel_rfl) (by kernel_rfl) (fun _ _ _ h => h) (Or.inr ⟨?_, rfl⟩) hHeld ?_; (focus (simp [Region.wanted, yielded, undef]; done)); (try simp only [Act.put, List.setIfInBounds_toArray, List.set_cons_zero, List.set_cons_succ])) | (refine wpAnyH_take (i := 3) (v := ?_) (get_of_drop' rfl) (by kernel_rfl) (by kernel_rfl) (by kernel_rfl) (fun _ _ _ h => h) (Or.inl ⟨?_, ?_⟩) hHeld ?_; rotate_left; (focus rfl); (focus (intro w hSw; (try dsimp only at hSw); go_simp; (try (with_reducible rfl)))); (try simp only [Act.put, List.setIfInBounds_toArray, List.set_cons_zero, List.set_cons_succ]))
        first | (refine wpAnyH_take (i := 4) (get_of_drop' rfl) (by kernel_rfl) (by kernel_rfl) (by kernel_rfl) (fun _ _ _ h => h) (Or.inr ⟨?_, rfl⟩) hHeld ?_; (focus (simp [Region.wanted, yielded, undef]; done)); (try simp only [Act.put, List.setIfInBounds_toArray, List.set_cons_zero, List.set_cons_succ])) | (refine wpAnyH_take (i := 4) (v := ?_) (get_of_drop' rfl) (by kernel_rfl) (by kernel_rfl) (by kernel_rfl) (fun _ _ _ h => h) (Or.inl ⟨?_, ?_⟩) hHeld ?_; rotate_left; (focus rfl); (focus (intro w hSw; (try dsimp only at hSw); go_simp; (try (with_reducible rfl)))); (try simp only [Act.put, List.setIfInBounds_toArray, List.set_cons_zero, List.set_cons_succ]))
        first | (refine wpAnyH_take (i := 5) (get_of_drop' rfl) (by kernel_rfl) (by kernel_rfl) (by kernel_rfl) (fun _ _ _ h => h) (Or.inr ⟨?_, rfl⟩) hHeld ?_; (focus (simp [Region.wanted, yielded, undef]; done)); (try simp only [Act.put, List.setIfInBounds_toArray, List.set_cons_zero, List.set_cons_succ])) | (refine wpAnyH_take (i := 5) (v := ?_) (get_of_drop' rfl) (by kernel_rfl) (by kernel_rfl) (by kernel_rfl) (fun _ _ _ h => h) (Or.inl ⟨?_, ?_⟩) hHeld ?_; rotate_left; (focus rfl); (focus (intro w hSw; (try dsimp only at hSw); go_simp; (try (with_reducible rfl)))); (try simp only [Act.put, List.setIfInBounds_toArray, List.set_cons_zero, List.set_cons_succ]))
        refine wpAnyH_ready (rs := [1, 6]) (by kernel_rfl) (by simp) ?_
        refine AllReadyH.cons (get_of_drop' rfl) (fun K hK => ?_) ?_
        · go_simp
          refine hK.out _ _ trivial (fun hHeld => ?_)
          clear hK K
          try simp only [Act.put, List.setIfInBounds_toArray, List.set_cons_zero, List.set_cons_succ]
          refine wpAnyH_ready (rs := [6]) (by kernel_rfl) (by simp) ?_
          refine AllReadyH.cons (get_of_drop' rfl) (fun K hK => ?_) AllReadyH.nil
          go_simp
          refine hK.out _ _ trivial (fun hHeld => ?_)
          clear hK K
          try simp only [Act.put, List.setIfInBounds_toArray, List.set_cons_zero, List.set_cons_succ]
          first | (refine wpAnyH_take (i := 7) (get_of_drop' rfl) (by kernel_rfl) (by kernel_rfl) (by kernel_rfl) (fun _ _ _ h => h) (Or.inr ⟨?_, rfl⟩) hHeld ?_; (focus (simp [Region.wanted, yielded, undef]; done)); (try simp only [Act.put, List.setIfInBounds_toArray, List.set_cons_zero, List.set_cons_succ])) | (refine wpAnyH_take (i := 7) (v := ?_) (get_of_drop' rfl) (by kernel_rfl) (by kernel_rfl) (by kernel_rfl) (fun _ _ _ h => h) (Or.inl ⟨?_, ?_⟩) hHeld ?_; rotate_left; (focus rfl); (focus (intro w hSw; (try dsimp only at hSw); go_simp; (try (with_reducible rfl)))); (try simp only [Act.put, List.setIfInBounds_toArray, List.set_cons_zero, List.set_cons_succ]))
          first | (refine wpAnyH_take (i := 8) (get_of_drop' rfl) (by kernel_rfl) (by kernel_rfl) (by kernel_rfl) (fun _ _ _ h => h) (Or.inr ⟨?_, rfl⟩) hHeld ?_; (focus (simp [Region.wanted, yielded, undef]; done)); (try simp only [Act.put, List.setIfInBounds_toArray, List.set_cons_zero, List.set_cons_succ])) | (refine wpAnyH_take (i := 8) (v := ?_) (get_of_drop' rfl) (by kernel_rfl) (by kernel_rfl) (by kernel_rfl) (fun _ _ _ h => h) (Or.inl ⟨?_, ?_⟩) hHeld ?_; rotate_left; (focus rfl); (focus (intro w hSw; (try dsimp only at hSw); go_simp; (try (with_reducible rfl)))); (try simp only [Act.put, List.setIfInBounds_toArray, List.set_cons_zero, List.set_cons_succ]))
          refine wpAnyH_ready (rs := [9]) (by kernel_rfl) (by simp) ?_
          refine AllReadyH.cons (get_of_drop' rfl) (fun K hK => ?_) AllReadyH.nil
          go_simp
          refine hK.out _ _ trivial (fun hHeld => ?_)
          clear hK K
          try simp only [Act.put, List.setIfInBounds_toArray, List.set_cons_zero, List.set_cons_succ]
          refine wpAnyH_ready (rs := [10]) (by kernel_rfl) (by simp) ?_
          refine AllReadyH.cons (get_of_drop' rfl) (fun K hK => ?_) AllReadyH.nil
          rw [if_pos (by rfl)]
          refine wp_app_edge wr.drew ((k : Int), 0, (IntKind.i64.wrap ((k : Int) + 1)).tmod 16) wL.heap.size _ _ rfl _ es rfl HDR.out.2.2.1 rfl (by omega) (by omega) ?_
          intro ao' n' cap' w5 hn' hown' hkept
          refine hK.out _ _ trivial (fun hHeld => ?_)
          clear hK K
          try simp only [Act.put, List.setIfInBounds_toArray, List.set_cons_zero, List.set_cons_succ]
          first | (refine wpAnyH_take (i := 11) (get_of_drop' rfl) (by kernel_rfl) (by kernel_rfl) (by kernel_rfl) (fun _ _ _ h => h) (Or.inr ⟨?_, rfl⟩) hHeld ?_; (focus (simp [Region.wanted, yielded, undef]; done)); (try simp only [Act.put, List.setIfInBounds_toArray, List.set_cons_zero, List.set_cons_succ])) | (refine wpAnyH_take (i := 11) (v := ?_) (get_of_drop' rfl) (by kernel_rfl) (by kernel_rfl) (by kernel_rfl) (fun _ _ _ h => h) (Or.inl ⟨?_, ?_⟩) hHeld ?_; rotate_left; (focus rfl); (focus (intro w hSw; (try dsimp only at hSw); go_simp; (try (with_reducible rfl)))); (try simp only [Act.put, List.setIfInBounds_toArray, List.set_cons_zero, List.set_cons_succ]))
          refine wpAnyH_ready (rs := [12]) (by kernel_rfl) (by simp) ?_
          refine AllReadyH.cons (get_of_drop' rfl) (fun K hK => ?_) AllReadyH.nil
          have hd5 := (HDR.out).app hkept hown'
          have s1 : w5.cell? ⟨S, 1, none⟩ = some (.int .i64 16) := ((HDR.out).2.1.of_block ((hkept.1 _ (Below.refl _ _)).block S hS0)).cell (by decide)
          have s2 : w5.cell? ⟨S, 2, none⟩ = some (.slice a1 n1 c1) := ((HDR.out).2.1.of_block ((hkept.1 _ (Below.refl _ _)).block S hS0)).cell (by decide)
          have s3 := ((HDR.out).2.1.of_block ((hkept.1 _ (Below.refl _ _)).block S hS0)).frozen 2
          have HD5 := Lib.hid hd5
          have HN5 := Lib.hid hn'; clear hn'
          clear hd5 hkept hown'
          go_simp
          refine hK.out _ _ trivial (fun hHeld => ?_)
          clear hK K
          try simp only [Act.put, List.setIfInBounds_toArray, List.set_cons_zero, List.set_cons_succ]
          refine wpAnyH_done (by kernel_rfl) ?_ _
          go_wp2_with fail
          go_meet
          case rel => exact ⟨rfl, n', cap', ao', _, HD5.out, by rw [HN5.out]; simp, by simp; omega⟩
        · refine AllReadyH.cons (get_of_drop' rfl) (fun K hK => ?_) AllReadyH.nil
          go_simp
          refine hK.out _ _ trivial (fun hHeld => ?_)
          clear hK K
          try simp only [Act.put, List.setIfInBounds_toArray, List.set_cons_zero, List.set_cons_succ]
          first | (refine wpAnyH_take (i := 7) (get_of_drop' rfl) (by kernel_rfl) (by kernel_rfl) (by kernel_rfl) (fun _ _ _ h => h) (Or.inr ⟨?_, rfl⟩) hHeld ?_; (focus (simp [Region.wanted, yielded, undef]; done)); (try simp only [Act.put, List.setIfInBounds_toArray, List.set_cons_zero, List.set_cons_succ])) | (refine wpAnyH_take (i := 7) (v := ?_) (get_of_drop' rfl) (by kernel_rfl) (by kernel_rfl) (by kernel_rfl) (fun _ _ _ h => h) (Or.inl ⟨?_, ?_⟩) hHeld ?_; rotate_left; (focus rfl); (focus (intro w hSw; (try dsimp only at hSw); go_simp; (try (with_reducible rfl)))); (try simp only [Act.put, List.setIfInBounds_toArray, List.set_cons_zero, List.set_cons_succ]))
          first | (refine wpAnyH_take (i := 8) (get_of_drop' rfl) (by kernel_rfl) (by kernel_rfl) (by kernel_rfl) (fun _ _ _ h => h) (Or.inr ⟨?_, rfl⟩) hHeld ?_; (focus (simp [Region.wanted, yielded, undef]; done)); (try simp only [Act.put, List.setIfInBounds_toArray, List.set_cons_zero, List.set_cons_succ])) | (refine wpAnyH_take (i := 8) (v := ?_) (get_of_drop' rfl) (by kernel_rfl) (by kernel_rfl) (by kernel_rfl) (fun _ _ _ h => h) (Or.inl ⟨?_, ?_⟩) hHeld ?_; rotate_left; (focus rfl); (focus (intro w hSw; (try dsimp only at hSw); go_simp; (try (with_reducible rfl)))); (try simp only [Act.put, List.setIfInBounds_toArray, List.set_cons_zero, List.set_cons_succ]))
          refine wpAnyH_ready (rs := [1, 9]) (by kernel_rfl) (by simp) ?_
          refine AllReadyH.cons (get_of_drop' rfl) (fun K hK => ?_) ?_
          · go_simp
            refine hK.out _ _ trivial (fun hHeld => ?_)
            clear hK K
            try simp only [Act.put, List.setIfInBounds_toArray, List.set_cons_zero, List.set_cons_succ]
            refine wpAnyH_ready (rs := [9]) (by kernel_rfl) (by simp) ?_
            refine AllReadyH.cons (get_of_drop' rfl) (fun K hK => ?_) AllReadyH.nil
            go_simp
            refine hK.out _ _ trivial (fun hHeld => ?_)
            clear hK K
            try simp only [Act.put, List.setIfInBounds_toArray, List.set_cons_zero, List.set_cons_succ]
            refine wpAnyH_ready (rs := [10]) (by kernel_rfl) (by simp) ?_
            refine AllReadyH.cons (get_of_drop' rfl) (fun K hK => ?_) AllReadyH.nil
            rw [if_pos (by rfl)]
            refine wp_app_edge wr.drew ((k : Int), 0, (IntKind.i64.wrap ((k : Int) + 1)).tmod 16) wL.heap.size _ _ rfl _ es rfl HDR.out.2.2.1 rfl (by omega) (by omega) ?_
            intro ao' n' cap' w5 hn' hown' hkept
            refine hK.out _ _ trivial (fun hHeld => ?_)
            clear hK K
            try simp only [Act.put, List.setIfInBounds_toArray, List.set_cons_zero, List.set_cons_succ]
            first | (refine wpAnyH_take (i := 11) (get_of_drop' rfl) (by kernel_rfl) (by kernel_rfl) (by kernel_rfl) (fun _ _ _ h => h) (Or.inr ⟨?_, rfl⟩) hHeld ?_; (focus (simp [Region.wanted, yielded, undef]; done)); (try simp only [Act.put, List.setIfInBounds_toArray, List.set_cons_zero, List.set_cons_succ])) | (refine wpAnyH_take (i := 11) (v := ?_) (get_of_drop' rfl) (by kernel_rfl) (by kernel_rfl) (by kernel_rfl) (fun _ _ _ h => h) (Or.inl ⟨?_, ?_⟩) hHeld ?_; rotate_left; (focus rfl); (focus (intro w hSw; (try dsimp only at hSw); go_simp; (try (with_reducible rfl)))); (try simp only [Act.put, List.setIfInBounds_toArray, List.set_cons_zero, List.set_cons_succ]))
            refine wpAnyH_ready (rs := [12]) (by kernel_rfl) (by simp) ?_
            refine AllReadyH.cons (get_of_drop' rfl) (fun K hK => ?_) AllReadyH.nil
            have hd5 := (HDR.out).app hkept hown'
            have s1 : w5.cell? ⟨S, 1, none⟩ = some (.int .i64 16) := ((HDR.out).2.1.of_block ((hkept.1 _ (Below.refl _ _)).block S hS0)).cell (by decide)
            have s2 : w5.cell? ⟨S, 2, none⟩ = some (.slice a1 n1 c1) := ((HDR.out).2.1.of_block ((hkept.1 _ (Below.refl _ _)).block S hS0)).cell (by decide)
            have s3 := ((HDR.out).2.1.of_block ((hkept.1 _ (Below.refl _ _)).block S hS0)).frozen 2
            have HD5 := Lib.hid hd5
            have HN5 := Lib.hid hn'; clear hn'
            clear hd5 hkept hown'
            go_simp
            refine hK.out _ _ trivial (fun hHeld => ?_)
            clear hK K
            try simp only [Act.put, List.setIfInBounds_toArray, List.set_cons_zero, List.set_cons_succ]
            refine wpAnyH_done (by kernel_rfl) ?_ _
            go_wp2_with fail
            go_meet
            case rel => exact ⟨rfl, n', cap', ao', _, HD5.out, by rw [HN5.out]; simp, by simp; omega⟩
          · refine AllReadyH.cons (get_of_drop' rfl) (fun K hK => ?_) AllReadyH.nil
            go_simp
            refine hK.out _ _ trivial (fun hHeld => ?_)
            clear hK K
            try simp only [Act.put, List.setIfInBounds_toArray, List.set_cons_zero, List.set_cons_succ]
            refine wpAnyH_ready (rs := [1]) (by kernel_rfl) (by simp) ?_
            refine AllReadyH.cons (get_of_drop' rfl) (fun K hK => ?_) AllReadyH.nil
            go_simp
            refine hK.out _ _ trivial (fun hHeld => ?_)
            clear hK K
            try simp only [Act.put, List.setIfInBounds_toArray, List.set_cons_zero, List.set_cons_succ]
            refine wpAnyH_ready (rs := [10]) (by kernel_rfl) (by simp) ?_
            refine AllReadyH.cons (get_of_drop' rfl) (fun K hK => ?_) AllReadyH.nil
            rw [if_pos (by rfl)]
            refine wp_app_edge wr.drew ((k : Int), 0, (IntKind.i64.wrap ((k : Int) + 1)).tmod 16) wL.heap.size _ _ rfl _ es rfl HDR.out.2.2.1 rfl (by omega) (by omega) ?_
            intro ao' n' cap' w5 hn' hown' hkept
            refine hK.out _ _ trivial (fun hHeld => ?_)
            clear hK K
            try simp only [Act.put, List.setIfInBounds_toArray, List.set_cons_zero, List.set_cons_succ]
            first | (refine wpAnyH_take (i := 11) (get_of_drop' rfl) (by kernel_rfl) (by kernel_rfl) (by kernel_rfl) (fun _ _ _ h => h) (Or.inr ⟨?_, rfl⟩) hHeld ?_; (focus (simp [Region.wanted, yielded, undef]; done)); (try simp only [Act.put, List.setIfInBounds_toArray, List.set_cons_zero, List.set_cons_succ])) | (refine wpAnyH_take (i := 11) (v := ?_) (get_of_drop' rfl) (by kernel_rfl) (by kernel_rfl) (by kernel_rfl) (fun _ _ _ h => h) (Or.inl ⟨?_, ?_⟩) hHeld ?_; rotate_left; (focus rfl); (focus (intro w hSw; (try dsimp only at hSw); go_simp; (try (with_reducible rfl)))); (try simp only [Act.put, List.setIfInBounds_toArray, List.set_cons_zero, List.set_cons_succ]))
            refine wpAnyH_ready (rs := [12]) (by kernel_rfl) (by simp) ?_
            refine AllReadyH.cons (get_of_drop' rfl) (fun K hK => ?_) AllReadyH.nil
            have hd5 := (HDR.out).app hkept hown'
            have s1 : w5.cell? ⟨S, 1, none⟩ = some (.int .i64 16) := ((HDR.out).2.1.of_block ((hkept.1 _ (Below.refl _ _)).block S hS0)).cell (by decide)
            have s2 : w5.cell? ⟨S, 2, none⟩ = some (.slice a1 n1 c1) := ((HDR.out).2.1.of_block ((hkept.1 _ (Below.refl _ _)).block S hS0)).cell (by decide)
            have s3 := ((HDR.out).2.1.of_block ((hkept.1 _ (Below.refl _ _)).block S hS0)).frozen 2
            have HD5 := Lib.hid hd5
            have HN5 := Lib.hid hn'; clear hn'
            clear hd5 hkept hown'
            go_simp
            refine hK.out _ _ trivial (fun hHeld => ?_)
            clear hK K
            try simp only [Act.put, List.setIfInBounds_toArray, List.set_cons_zero, List.set_cons_succ]
            refine wpAnyH_done (by kernel_rfl) ?_ _
            go_wp2_with fail
            go_meet
            case rel => exact ⟨rfl, n', cap', ao', _, HD5.out, by rw [HN5.out]; simp, by simp; omega⟩
      case rest =>
        clear HD HDR q0 q1 q2 q3 HN
        obtain ⟨rfl, n2, c2, a2, es2, hd, hn2, hes2⟩ := hcut
        have HD := Lib.hid hd
        have HN := Lib.hid hn2; clear hn2
        have hrd := hd.rd
        clear hd
        go_wp2_with fail
        refine (pick_any R p1 3 wc hrd (by omega)).mono ?_
        rintro e w4 ⟨z, rfl, -, -, hr4, hg4⟩
        have hd4 := HD.out.pick hr4 hg4
        have HD4 := Lib.hid hd4
        clear hr4 hg4 hrd
        by_cases hz0 : z = 0
        · subst hz0
          have q1 : w4.cell? ⟨S, 1, none⟩ = some (.int .i64 16) := hd4.2.1.cell (by decide)
          have q2 : w4.cell? ⟨S, 2, none⟩ = some (.slice a2 n2 c2) := hd4.2.1.cell (by decide)
          have hrd4 := hd4.rd
          clear hd4
          go_wp2_with fail
          refine wp_region_held_drew (S := fun _ => True) (by kernel_rfl) trivial (fun hHeld => ?_)
          first | (refine wpAnyH_take (i := 0) (get_of_drop' rfl) (by kernel_rfl) (by kernel_rfl) (by kernel_rfl) (fun _ _ _ h => h) (Or.inr ⟨?_, rfl⟩) hHeld ?_; (focus (simp [Region.wanted, yielded, undef]; done)); (try simp only [Act.put, List.setIfInBounds_toArray, List.set_cons_zero, List.set_cons_succ])) | (refine wpAnyH_take (i := 0) (v := ?_) (get_of_drop' rfl) (by kernel_rfl) (by kernel_rfl) (by kernel_rfl) (fun _ _ _ h => h) (Or.inl ⟨?_, ?_⟩) hHeld ?_; rotate_left; (focus rfl); (focus (intro w hSw; (try dsimp only at hSw); go_simp; (try (with_reducible rfl)))); (try simp only [Act.put, List.setIfInBounds_toArray, List.set_cons_zero, List.set_cons_succ]))
          first | (refine wpAnyH_take (i := 2) (get_of_drop' rfl) (by kernel_rfl) (by kernel_rfl) (by kernel_rfl) (fun _ _ _ h => h) (Or.inr ⟨?_, rfl⟩) hHeld ?_; (focus (simp [Region.wanted, yielded, undef]; done)); (try simp only [Act.put, List.setIfInBounds_toArray, List.set_cons_zero, List.set_cons_succ])) | (refine wpAnyH_take (i := 2) (v := ?_) (get_of_drop' rfl) (by kernel_rfl) (by kernel_rfl) (by kernel_rfl) (fun _ _ _ h => h) (Or.inl ⟨?_, ?_⟩) hHeld ?_; rotate_left; (focus rfl); (focus (intro w hSw; (try dsimp only at hSw); go_simp; (try (with_reducible rfl)))); (try simp only [Act.put, List.setIfInBounds_toArray, List.set_cons_zero, List.set_cons_succ]))
          first | (refine wpAnyH_take (i := 3) (get_of_drop' rfl) (by kernel_rfl) (by kernel_rfl) (by kernel_rfl) (fun _ _ _ h => h) (Or.inr ⟨?_, rfl⟩) hHeld ?_; (focus (simp [Region.wanted, yielded, undef]; done)); (try simp only [Act.put, List.setIfInBounds_toArray, List.set_cons_zero, List.set_cons_succ])) | (refine wpAnyH_take (i := 3) (v := ?_) (get_of_drop' rfl) (by kernel_rfl) (by kernel_rfl) (by kernel_rfl) (fun _ _ _ h => h) (Or.inl ⟨?_, ?_⟩) hHeld ?_; rotate_left; (focus rfl); (focus (intro w hSw; (try dsimp only at hSw); go_simp; (try (with_reducible rfl)))); (try simp only [Act.put, List.setIfInBounds_toArray, List.set_cons_zero, List.set_cons_succ]))
          first | (refine wpAnyH_take (i := 4) (get_of_drop' rfl) (by kernel_rfl) (by kernel_rfl) (by kernel_rfl) (fun _ _ _ h => h) (Or.inr ⟨?_, rfl⟩) hHeld ?_; (focus (simp [Region.wanted, yielded, undef]; done)); (try simp only [Act.put, List.setIfInBounds_toArray, List.set_cons_zero, List.set_cons_succ])) | (refine wpAnyH_take (i := 4) (v := ?_) (get_of_drop' rfl) (by kernel_rfl) (by kernel_rfl) (by kernel_rfl) (fun _ _ _ h => h) (Or.inl ⟨?_, ?_⟩) hHeld ?_; rotate_left; (focus rfl); (focus (intro w hSw; (try dsimp only at hSw); go_simp; (try (with_reducible rfl)))); (try simp only [Act.put, List.setIfInBounds_toArray, List.set_cons_zero, List.set_cons_succ]))
          refine wpAnyH_ready (rs := [1, 5]) (by kernel_rfl) (by simp) ?_
          refine AllReadyH.cons (get_of_drop' rfl) (fun K hK => ?_) ?_
          · go_simp
            refine hK.out _ _ trivial (fun hHeld => ?_)
            clear hK K
            try simp only [Act.put, List.setIfInBounds_toArray, List.set_cons_zero, List.set_cons_succ]
            refine wpAnyH_ready (rs := [5]) (by kernel_rfl) (by simp) ?_
            refine AllReadyH.cons (get_of_drop' rfl) (fun K hK => ?_) AllReadyH.nil
            go_simp
            refine hK.out _ _ trivial (fun hHeld => ?_)
            clear hK K
            try simp only [Act.put, List.setIfInBounds_toArray, List.set_cons_zero, List.set_cons_succ]
            refine wpAnyH_ready (rs := [6]) (by kernel_rfl) (by simp) ?_
            refine AllReadyH.cons (get_of_drop' rfl) (fun K hK => ?_) AllReadyH.nil
            go_simp
            go_at_call 46
            refine (pick_any R (p1 + 1) 16 w4.drew (hrd4.drewN 1) (by omega)).mono ?_
            rintro e w6 ⟨y, rfl, -, -, hr6, hg6⟩
            have hd6 := DSt.pick HD4.out.drew hr6 hg6
            have q16 : w6.cell? ⟨S, 1, none⟩ = some (.int .i64 16) := hd6.2.1.cell (by decide)
            have q26 : w6.cell? ⟨S, 2, none⟩ = some (.slice a2 n2 c2) := hd6.2.1.cell (by decide)
            have q36 : (w6.alloc (.cells #[.int .i64 (k : Int), .int .i64 1, .int .i64 y] 41)).cell? ⟨S, 2, none⟩ = some (.slice a2 n2 c2) := keep_cell (below_new' _ _ _) q26
            have hLw6 : wL.heap.size ≤ w6.heap.size := hd6.2.2.2.2.2.2.2.2.1
            have HD6 := Lib.hid hd6
            clear hr6 hg6 hd6
            go_wp2_with fail
            refine hK.out _ _ trivial (fun hHeld => ?_)
            clear hK K
            try simp only [Act.put, List.setIfInBounds_toArray, List.set_cons_zero, List.set_cons_succ]
            first | (refine wpAnyH_take (i := 7) (get_of_drop' rfl) (by kernel_rfl) (by kernel_rfl) (by kernel_rfl) (fun _ _ _ h => h) (Or.inr ⟨?_, rfl⟩) hHeld ?_; (focus (simp [Region.wanted, yielded, undef]; done)); (try simp only [Act.put, List.setIfInBounds_toArray, List.set_cons_zero, List.set_cons_succ])) | (refine wpAnyH_take (i := 7) (v := ?_) (get_of_drop' rfl) (by kernel_rfl) (by kernel_rfl) (by kernel_rfl) (fun _ _ _ h => h) (Or.inl ⟨?_, ?_⟩) hHeld ?_; rotate_left; (focus rfl); (focus (intro w hSw; (try dsimp only at hSw); go_simp; (try (with_reducible rfl)))); (try simp only [Act.put, List.setIfInBounds_toArray, List.set_cons_zero, List.set_cons_succ]))
            refine wpAnyH_ready (rs := [8]) (by kernel_rfl) (by simp) ?_
            refine AllReadyH.cons (get_of_drop' rfl) (fun K hK => ?_) AllReadyH.nil
            go_simp
            refine hK.out _ _ trivial (fun hHeld => ?_)
            clear hK K
            try simp only [Act.put, List.setIfInBounds_toArray, List.set_cons_zero, List.set_cons_succ]
            refine wpAnyH_ready (rs := [9]) (by kernel_rfl) (by simp) ?_
            refine AllReadyH.cons (get_of_drop' rfl) (fun K hK => ?_) AllReadyH.nil
            rw [if_pos (by rfl)]
            refine wp_app_edge w6 ((k : Int), 1, y) wL.heap.size _ _ rfl _ es2 rfl HD6.out.2.2.1 rfl (by omega) (by omega) ?_
            intro ao' n' cap' w5 hn' hown' hkept
            refine hK.out _ _ trivial (fun hHeld => ?_)
            clear hK K
            try simp only [Act.put, List.setIfInBounds_toArray, List.set_cons_zero, List.set_cons_succ]
            first | (refine wpAnyH_take (i := 10) (get_of_drop' rfl) (by kernel_rfl) (by kernel_rfl) (by kernel_rfl) (fun _ _ _ h => h) (Or.inr ⟨?_, rfl⟩) hHeld ?_; (focus (simp [Region.wanted, yielded, undef]; done)); (try simp only [Act.put, List.setIfInBounds_toArray, List.set_cons_zero, List.set_cons_succ])) | (refine wpAnyH_take (i := 10) (v := ?_) (get_of_drop' rfl) (by kernel_rfl) (by kernel_rfl) (by kernel_rfl) (fun _ _ _ h => h) (Or.inl ⟨?_, ?_⟩) hHeld ?_; rotate_left; (focus rfl); (focus (intro w hSw; (try dsimp only at hSw); go_simp; (try (with_reducible rfl)))); (try simp only [Act.put, List.setIfInBounds_toArray, List.set_cons_zero, List.set_cons_succ]))
            refine wpAnyH_ready (rs := [11]) (by kernel_rfl) (by simp) ?_
            refine AllReadyH.cons (get_of_drop' rfl) (fun K hK => ?_) AllReadyH.nil
            have hd5 := (HD6.out).app hkept hown'
            have s1 : w5.cell? ⟨S, 1, none⟩ = some (.int .i64 16) := ((HD6.out).2.1.of_block ((hkept.1 _ (Below.refl _ _)).block S hS0)).cell (by decide)
            have s2 : w5.cell? ⟨S, 2, none⟩ = some (.slice a2 n2 c2) := ((HD6.out).2.1.of_block ((hkept.1 _ (Below.refl _ _)).block S hS0)).cell (by decide)
            have s3 := ((HD6.out).2.1.of_block ((hkept.1 _ (Below.refl _ _)).block S hS0)).frozen 2
            have HD5 := Lib.hid hd5
            have HN5 := Lib.hid hn'; clear hn'
            clear hd5 hkept hown'
            go_simp
            refine hK.out _ _ trivial (fun hHeld => ?_)
            clear hK K
            try simp only [Act.put, List.setIfInBounds_toArray, List.set_cons_zero, List.set_cons_succ]
            refine wpAnyH_done (by kernel_rfl) ?_ _
            go_wp2
            go_roundw
            case rel => exact ⟨k + 1, p1 + 2, n', cap', ao', _, by go_num, by omega, HD5.out, by rw [HN5.out]; simp, by simp; omega, by omega⟩
            case measure => simp [intOf] <;> omega
          · refine AllReadyH.cons (get_of_drop' rfl) (fun K hK => ?_) AllReadyH.nil
            go_simp
            refine hK.out _ _ trivial (fun hHeld => ?_)
            clear hK K
            try simp only [Act.put, List.setIfInBounds_toArray, List.set_cons_zero, List.set_cons_succ]
            refine wpAnyH_ready (rs := [1, 6]) (by kernel_rfl) (by simp) ?_
            refine AllReadyH.cons (get_of_drop' rfl) (fun K hK => ?_) ?_
            · go_simp
              refine hK.out _ _ trivial (fun hHeld => ?_)
              clear hK K
              try simp only [Act.put, List.setIfInBounds_toArray, List.set_cons_zero, List.set_cons_succ]
              refine wpAnyH_ready (rs := [6]) (by kernel_rfl) (by simp) ?_
              refine AllReadyH.cons (get_of_drop' rfl) (fun K hK => ?_) AllReadyH.nil
              go_simp
              go_at_call 46
              refine (pick_any R (p1 + 1) 16 w4.drew (hrd4.drewN 1) (by omega)).mono ?_
              rintro e w6 ⟨y, rfl, -, -, hr6, hg6⟩
              have hd6 := DSt.pick HD4.out.drew hr6 hg6
              have q16 : w6.cell? ⟨S, 1, none⟩ = some (.int .i64 16) := hd6.2.1.cell (by decide)
              have q26 : w6.cell? ⟨S, 2, none⟩ = some (.slice a2 n2 c2) := hd6.2.1.cell (by decide)
              have q36 : (w6.alloc (.cells #[.int .i64 (k : Int), .int .i64 1, .int .i64 y] 41)).cell? ⟨S, 2, none⟩ = some (.slice a2 n2 c2) := keep_cell (below_new' _ _ _) q26
              have hLw6 : wL.heap.size ≤ w6.heap.size := hd6.2.2.2.2.2.2.2.2.1
              have HD6 := Lib.hid hd6
              clear hr6 hg6 hd6
              go_wp2_with fail
              refine hK.out _ _ trivial (fun hHeld => ?_)
              clear hK K
              try simp only [Act.put, List.setIfInBounds_toArray, List.set_cons_zero, List.set_cons_succ]
              first | (refine wpAnyH_take (i := 7) (get_of_drop' rfl) (by kernel_rfl) (by kernel_rfl) (by kernel_rfl) (fun _ _ _ h => h) (Or.inr ⟨?_, rfl⟩) hHeld ?_; (focus (simp [Region.wanted, yielded, undef]; done)); (try simp only [Act.put, List.setIfInBounds_toArray, List.set_cons_zero, List.set_cons_succ])) | (refine wpAnyH_take (i := 7) (v := ?_) (get_of_drop' rfl) (by kernel_rfl) (by kernel_rfl) (by kernel_rfl) (fun _ _ _ h => h) (Or.inl ⟨?_, ?_⟩) hHeld ?_; rotate_left; (focus rfl); (focus (intro w hSw; (try dsimp only at hSw); go_simp; (try (with_reducible rfl)))); (try simp only [Act.put, List.setIfInBounds_toArray, List.set_cons_zero, List.set_cons_succ]))
              refine wpAnyH_ready (rs := [8]) (by kernel_rfl) (by simp) ?_
              refine AllReadyH.cons (get_of_drop' rfl) (fun K hK => ?_) AllReadyH.nil
              go_simp
              refine hK.out _ _ trivial (fun hHeld => ?_)
              clear hK K
              try simp only [Act.put, List.setIfInBounds_toArray, List.set_cons_zero, List.set_cons_succ]
              refine wpAnyH_ready (rs := [9]) (by kernel_rfl) (by simp) ?_
              refine AllReadyH.cons (get_of_drop' rfl) (fun K hK => ?_) AllReadyH.nil
              rw [if_pos (by rfl)]
              refine wp_app_edge w6 ((k : Int), 1, y) wL.heap.size _ _ rfl _ es2 rfl HD6.out.2.2.1 rfl (by omega) (by omega) ?_
              intro ao' n' cap' w5 hn' hown' hkept
              refine hK.out _ _ trivial (fun hHeld => ?_)
              clear hK K
              try simp only [Act.put, List.setIfInBounds_toArray, List.set_cons_zero, List.set_cons_succ]
              first | (refine wpAnyH_take (i := 10) (get_of_drop' rfl) (by kernel_rfl) (by kernel_rfl) (by kernel_rfl) (fun _ _ _ h => h) (Or.inr ⟨?_, rfl⟩) hHeld ?_; (focus (simp [Region.wanted, yielded, undef]; done)); (try simp only [Act.put, List.setIfInBounds_toArray, List.set_cons_zero, List.set_cons_succ])) | (refine wpAnyH_take (i := 10) (v := ?_) (get_of_drop' rfl) (by kernel_rfl) (by kernel_rfl) (by kernel_rfl) (fun _ _ _ h => h) (Or.inl ⟨?_, ?_⟩) hHeld ?_; rotate_left; (focus rfl); (focus (intro w hSw; (try dsimp only at hSw); go_simp; (try (with_reducible rfl)))); (try simp only [Act.put, List.setIfInBounds_toArray, List.set_cons_zero, List.set_cons_succ]))
              refine wpAnyH_ready (rs := [11]) (by kernel_rfl) (by simp) ?_
              refine AllReadyH.cons (get_of_drop' rfl) (fun K hK => ?_) AllReadyH.nil
              have hd5 := (HD6.out).app hkept hown'
              have s1 : w5.cell? ⟨S, 1, none⟩ = some (.int .i64 16) := ((HD6.out).2.1.of_block ((hkept.1 _ (Below.refl _ _)).block S hS0)).cell (by decide)
              have s2 : w5.cell? ⟨S, 2, none⟩ = some (.slice a2 n2 c2) := ((HD6.out).2.1.of_block ((hkept.1 _ (Below.refl _ _)).block S hS0)).cell (by decide)
              have s3 := ((HD6.out).2.1.of_block ((hkept.1 _ (Below.refl _ _)).block S hS0)).frozen 2
              have HD5 := Lib.hid hd5
              have HN5 := Lib.hid hn'; clear hn'
              clear hd5 hkept hown'
              go_simp
              refine hK.out _ _ trivial (fun hHeld => ?_)
              clear hK K
              try simp only [Act.put, List.setIfInBounds_toArray, List.set_cons_zero, List.set_cons_succ]
              refine wpAnyH_done (by kernel_rfl) ?_ _
              go_wp2
              go_roundw
              case rel => exact ⟨k + 1, p1 + 2, n', cap', ao', _, by go_num, by omega, HD5.out, by rw [HN5.out]; simp, by simp; omega, by omega⟩
              case measure => simp [intOf] <;> omega
            · refine AllReadyH.cons (get_of_drop' rfl) (fun K hK => ?_) AllReadyH.nil
              go_simp
              go_at_call 46
              refine (pick_any R (p1 + 1) 16 w4.drew (hrd4.drewN 1) (by omega)).mono ?_
              rintro e w6 ⟨y, rfl, -, -, hr6, hg6⟩
              have hd6 := DSt.pick HD4.out.drew hr6 hg6
              have q16 : w6.cell? ⟨S, 1, none⟩ = some (.int .i64 16) := hd6.2.1.cell (by decide)
              have q26 : w6.cell? ⟨S, 2, none⟩ = some (.slice a2 n2 c2) := hd6.2.1.cell (by decide)
              have q36 : (w6.alloc (.cells #[.int .i64 (k : Int), .int .i64 1, .int .i64 y] 41)).cell? ⟨S, 2, none⟩ = some (.slice a2 n2 c2) := keep_cell (below_new' _ _ _) q26
              have hLw6 : wL.heap.size ≤ w6.heap.size := hd6.2.2.2.2.2.2.2.2.1
              have HD6 := Lib.hid hd6
              clear hr6 hg6 hd6
              go_wp2_with fail
              refine hK.out _ _ trivial (fun hHeld => ?_)
              clear hK K
              try simp only [Act.put, List.setIfInBounds_toArray, List.set_cons_zero, List.set_cons_succ]
              first | (refine wpAnyH_take (i := 7) (get_of_drop' rfl) (by kernel_rfl) (by kernel_rfl) (by kernel_rfl) (fun _ _ _ h => h) (Or.inr ⟨?_, rfl⟩) hHeld ?_; (focus (simp [Region.wanted, yielded, undef]; done)); (try simp only [Act.put, List.setIfInBounds_toArray, List.set_cons_zero, List.set_cons_succ])) | (refine wpAnyH_take (i := 7) (v := ?_) (get_of_drop' rfl) (by kernel_rfl) (by kernel_rfl) (by kernel_rfl) (fun _ _ _ h => h) (Or.inl ⟨?_, ?_⟩) hHeld ?_; rotate_left; (focus rfl); (focus (intro w hSw; (try dsimp only at hSw); go_simp; (try (with_reducible rfl)))); (try simp only [Act.put, List.setIfInBounds_toArray, List.set_cons_zero, List.set_cons_succ]))
              refine wpAnyH_ready (rs := [1, 8]) (by kernel_rfl) (by simp) ?_
              refine AllReadyH.cons (get_of_drop' rfl) (fun K hK => ?_) ?_
              · go_simp
                refine hK.out _ _ trivial (fun hHeld => ?_)
                clear hK K
                try simp only [Act.put, List.setIfInBounds_toArray, List.set_cons_zero, List.set_cons_succ]
                refine wpAnyH_ready (rs := [8]) (by kernel_rfl) (by simp) ?_
                refine AllReadyH.cons (get_of_drop' rfl) (fun K hK => ?_) AllReadyH.nil
                go_simp
                refine hK.out _ _ trivial (fun hHeld => ?_)
                clear hK K
                try simp only [Act.put, List.setIfInBounds_toArray, List.set_cons_zero, List.set_cons_succ]
                refine wpAnyH_ready (rs := [9]) (by kernel_rfl) (by simp) ?_
                refine AllReadyH.cons (get_of_drop' rfl) (fun K hK => ?_) AllReadyH.nil
                rw [if_pos (by rfl)]
                refine wp_app_edge w6 ((k : Int), 1, y) wL.heap.size _ _ rfl _ es2 rfl HD6.out.2.2.1 rfl (by omega) (by omega) ?_
                intro ao' n' cap' w5 hn' hown' hkept
                refine hK.out _ _ trivial (fun hHeld => ?_)
                clear hK K
                try simp only [Act.put, List.setIfInBounds_toArray, List.set_cons_zero, List.set_cons_succ]
                first | (refine wpAnyH_take (i := 10) (get_of_drop' rfl) (by kernel_rfl) (by kernel_rfl) (by kernel_rfl) (fun _ _ _ h => h) (Or.inr ⟨?_, rfl⟩) hHeld ?_; (focus (simp [Region.wanted, yielded, undef]; done)); (try simp only [Act.put, List.setIfInBounds_toArray, List.set_cons_zero, List.set_cons_succ])) | (refine wpAnyH_take (i := 10) (v := ?_) (get_of_drop' rfl) (by kernel_rfl) (by kernel_rfl) (by kernel_rfl) (fun _ _ _ h => h) (Or.inl ⟨?_, ?_⟩) hHeld ?_; rotate_left; (focus rfl); (focus (intro w hSw; (try dsimp only at hSw); go_simp; (try (with_reducible rfl)))); (try simp only [Act.put, List.setIfInBounds_toArray, List.set_cons_zero, List.set_cons_succ]))
                refine wpAnyH_ready (rs := [11]) (by kernel_rfl) (by simp) ?_
                refine AllReadyH.cons (get_of_drop' rfl) (fun K hK => ?_) AllReadyH.nil
                have hd5 := (HD6.out).app hkept hown'
                have s1 : w5.cell? ⟨S, 1, none⟩ = some (.int .i64 16) := ((HD6.out).2.1.of_block ((hkept.1 _ (Below.refl _ _)).block S hS0)).cell (by decide)
                have s2 : w5.cell? ⟨S, 2, none⟩ = some (.slice a2 n2 c2) := ((HD6.out).2.1.of_block ((hkept.1 _ (Below.refl _ _)).block S hS0)).cell (by decide)
                have s3 := ((HD6.out).2.1.of_block ((hkept.1 _ (Below.refl _ _)).block S hS0)).frozen 2
                have HD5 := Lib.hid hd5
                have HN5 := Lib.hid hn'; clear hn'
                clear hd5 hkept hown'
                go_simp
                refine hK.out _ _ trivial (fun hHeld => ?_)
                clear hK K
                try simp only [Act.put, List.setIfInBounds_toArray, List.set_cons_zero, List.set_cons_succ]
                refine wpAnyH_done (by kernel_rfl) ?_ _
                go_wp2
                go_roundw
                case rel => exact ⟨k + 1, p1 + 2, n', cap', ao', _, by go_num, by omega, HD5.out, by rw [HN5.out]; simp, by simp; omega, by omega⟩
                case measure => simp [intOf] <;> omega
              · refine AllReadyH.cons (get_of_drop' rfl) (fun K hK => ?_) AllReadyH.nil
                go_simp
                refine hK.out _ _ trivial (fun hHeld => ?_)
                clear hK K
                try simp only [Act.put, List.setIfInBounds_toArray, List.set_cons_zero, List.set_cons_succ]
                refine wpAnyH_ready (rs := [1]) (by kernel_rfl) (by simp) ?_
                refine AllReadyH.cons (get_of_drop' rfl) (fun K hK => ?_) AllReadyH.nil
                go_simp
                refine hK.out _ _ trivial (fun hHeld => ?_)
                clear hK K
                try simp only [Act.put, List.setIfInBounds_toArray, List.set_cons_zero, List.set_cons_succ]
                refine wpAnyH_ready (rs := [9]) (by kernel_rfl) (by simp) ?_
                refine AllReadyH.cons (get_of_drop' rfl) (fun K hK => ?_) AllReadyH.nil
                rw [if_pos (by rfl)]
                refine wp_app_edge w6 ((k : Int), 1, y) wL.heap.size _ _ rfl _ es2 rfl HD6.out.2.2.1 rfl (by omega) (by omega) ?_
                intro ao' n' cap' w5 hn' hown' hkept
                refine hK.out _ _ trivial (fun hHeld => ?_)
                clear hK K
                try simp only [Act.put, List.setIfInBounds_toArray, List.set_cons_zero, List.set_cons_succ]
                first | (refine wpAnyH_take (i := 10) (get_of_drop' rfl) (by kernel_rfl) (by kernel_rfl) (by kernel_rfl) (fun _ _ _ h => h) (Or.inr ⟨?_, rfl⟩) hHeld ?_; (focus (simp [Region.wanted, yielded, undef]; done)); (try simp only [Act.put, List.setIfInBounds_toArray, List.set_cons_zero, List.set_cons_succ])) | (refine wpAnyH_take (i := 10) (v := ?_) (get_of_drop' rfl) (by kernel_rfl) (by kernel_rfl) (by kernel_rfl) (fun _ _ _ h => h) (Or.inl ⟨?_, ?_⟩) hHeld ?_; rotate_left; (focus rfl); (focus (intro w hSw; (try dsimp only at hSw); go_simp; (try (with_reducible rfl)))); (try simp only [Act.put, List.setIfInBounds_toArray, List.set_cons_zero, List.set_cons_succ]))
                refine wpAnyH_ready (rs := [11]) (by kernel_rfl) (by simp) ?_
                refine AllReadyH.cons (get_of_drop' rfl) (fun K hK => ?_) AllReadyH.nil
                have hd5 := (HD6.out).app hkept hown'
                have s1 : w5.cell? ⟨S, 1, none⟩ = some (.int .i64 16) := ((HD6.out).2.1.of_block ((hkept.1 _ (Below.refl _ _)).block S hS0)).cell (by decide)
                have s2 : w5.cell? ⟨S, 2, none⟩ = some (.slice a2 n2 c2) := ((HD6.out).2.1.of_block ((hkept.1 _ (Below.refl _ _)).block S hS0)).cell (by decide)
                have s3 := ((HD6.out).2.1.of_block ((hkept.1 _ (Below.refl _ _)).block S hS0)).frozen 2
                have HD5 := Lib.hid hd5
                have HN5 := Lib.hid hn'; clear hn'
                clear hd5 hkept hown'
                go_simp
                refine hK.out _ _ trivial (fun hHeld => ?_)
                clear hK K
                try simp only [Act.put, List.setIfInBounds_toArray, List.set_cons_zero, List.set_cons_succ]
                refine wpAnyH_done (by kernel_rfl) ?_ _
                go_wp2
                go_roundw
                case rel => exact ⟨k + 1, p1 + 2, n', cap', ao', _, by go_num, by omega, HD5.out, by rw [HN5.out]; simp, by simp; omega, by omega⟩
                case measure => simp [intOf] <;> omega
        · have hz0' : ¬ (z : Int) = 0 := hz0
          clear hd4
          go_wp2
          go_roundw
          case rel => exact ⟨k + 1, p1 + 1, n2, c2, a2, es2, by go_num, by omega, HD4.out, HN.out, by omega, by omega⟩
          case measure => simp [intOf] <;> omega
    · obtain rfl : k = 16 := by omega
      have hqz : wr.rowIs Z 24 3 (fun i => #[.int .i64 0, .int .i64 0, .slice none 0 0][i]?.getD undef) := hd.2.2.2.2.2.row HZ.out hZne
      have z0 : wr.cell? ⟨Z, 0, none⟩ = some (.int .i64 0) := hqz.cell (by decide)
      have z1 : wr.cell? ⟨Z, 1, none⟩ = some (.int .i64 0) := hqz.cell (by decide)
      have z2 : wr.cell? ⟨Z, 2, none⟩ = some (.slice none 0 0) := hqz.cell (by decide)
      have zf0 := hqz.frozen 0
      have zf1 := hqz.frozen 1
      have zf2 := hqz.frozen 2
      have HQZ := Lib.hid hqz
      clear hd hqz
      go_wp2
      have hdone := DSt.done (u0 := .int .i64 3) (u1 := .int .i64 16) (u2 := .slice a1 n1 c1) HD.out HG.out (Nat.le_of_eq hZ) hRlt (by omega) (by have := World.rowIs.lt HZ.out; omega)
      have hfin := rowIs_set3 HQZ.out (.int .i64 3) (.int .i64 16) (.slice a1 n1 c1)
      obtain ⟨wf, hwf⟩ : ∃ wf, (((wr.setCell ⟨Z, 0, none⟩ (.int .i64 3)).setCell ⟨Z, 1, none⟩ (.int .i64 16)).setCell ⟨Z, 2, none⟩ (.slice a1 n1 c1)) = wf := ⟨_, rfl⟩
      rw [hwf] at hfin hdone ⊢
      clear hwf
      have f0 : wf.cell? ⟨Z, 0, none⟩ = some (.int .i64 3) := hfin.cell (by decide)
      have f1 : wf.cell? ⟨Z, 1, none⟩ = some (.int .i64 16) := hfin.cell (by decide)
      have f2 : wf.cell? ⟨Z, 2, none⟩ = some (.slice a1 n1 c1) := hfin.cell (by decide)
      refine bodyPost_ret (v := .agg #[.int .i64 3, .int .i64 16, .slice a1 n1 c1]) ?_ rfl ?_
      · simp [results, Tryz.results84, go_sem, f0, f1, f2]
      · exact ⟨3, 16, a1, n1, c1, es, rfl, by omega, hdone.1, p1, by omega, hdone.2.1, hdone.2.2⟩
end Go.Proofs.YtnjakhojdhkihaaGreatDoor
