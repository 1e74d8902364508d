/- The walk of the law StatesAfter: words lead along edges. -/
import Derived.Test.YtbmhokbgkgfibaaDoorL2


namespace Go.Proofs.YtbmhokbgkgfibaaDoor
open Go.RowKit
set_option linter.unusedVariables false
set_option linter.unusedSimpArgs false
set_option maxRecDepth 100000

set_option maxHeartbeats 4000000 in
theorem fnStatesAfter_walk (a : Option Addr) (len cap : Nat) (zs : List Int) (w : World) (hT : Tab w) (hrow : IsRow w a len cap zs) : Calls Tryd.prog 7 #[.slice a len cap] w fun e w' => e = .returned (.bool true) ∧ Below w.heap.size w w' := by
  by_cases hl : 1048576 < len
  · have hl' : (1048576 : Int) < (len : Int) := by omega
    go_enter Tryd.func7, Tryd.ntmps7
    go_wp2
    go_ret
    exact ⟨rfl, Below.refl _ _⟩
  have hl' : (len : Int) ≤ 1048576 := by omega
  clear hl
  go_enter Tryd.func7, Tryd.ntmps7
  go_wp2_with fail
  refine (drawStates_any a len cap zs w hrow).mono ?_
  rintro e w1 ⟨al, st, ad, n, c, es, s, rfl, hs, hev, hes, hb1⟩
  have hev1 := (hev 0 (Nat.zero_le _)).ev
  have hsz : s.size ≤ 9223372036854775807 := by omega
  clear hev hrow
  obtain ⟨x0, hx0⟩ : ∃ x0, w1.heap.size = x0 := ⟨_, rfl⟩
  obtain ⟨w2, hw2⟩ : ∃ w2, (w1.alloc (.cells #[.int .i64 al, .int .i64 st, .slice ad n c] 25)) = w2 := ⟨_, rfl⟩
  have hb2 := below_new' w1 25 #[.int .i64 al, .int .i64 st, .slice ad n c]
  have hx2 := sys_cells w1 al st (.slice ad n c) 25
  rw [hx0] at hx2
  rw [hw2] at hb2 hx2
  have B2 := Lib.hid (hb1.trans (hb2.mono hb1.size))
  have X2 := Lib.hid hx2
  have E2 := Lib.hid (hev1.below hb2)
  have T2 := Lib.hid ((hT.below hb1).below hb2)
  clear hb1 hb2 hx2 hev1 hT
  have c20 : w2.cell? ⟨x0, 0, none⟩ = some (.int .i64 al) := X2.out.cell (by decide)
  have c21 : w2.cell? ⟨x0, 1, none⟩ = some (.int .i64 st) := X2.out.cell (by decide)
  have c22 : w2.cell? ⟨x0, 2, none⟩ = some (.slice ad n c) := X2.out.cell (by decide)
  have hqlt := aftN_lt al st es s.data.toList
  obtain ⟨q, hq⟩ : ∃ q, aftN al st es s.data.toList = q := ⟨_, rfl⟩
  have hit := implStates_any al st ad n c es s hsz
  have hst := specStates_any al st ad n c es s hsz
  rw [hq] at hit hst hqlt
  have HIT := Lib.hid hit
  have HST := Lib.hid hst
  have HQ := Lib.hid hq; clear hq
  clear hit hst
  go_wp2_with fail
  refine (HIT.out w2 T2.out E2.out).mono ?_
  rintro e w3 ⟨rfl, hb3⟩
  have B3 := Lib.hid (B2.out.trans (hb3.mono B2.out.size))
  have X3 := Lib.hid (rowIs_below' X2.out hb3)
  have E3 := Lib.hid (E2.out.below hb3)
  have T3 := Lib.hid (T2.out.below hb3)
  clear c20 c21 c22 hb3
  have c30 : w3.cell? ⟨x0, 0, none⟩ = some (.int .i64 al) := X3.out.cell (by decide)
  have c31 : w3.cell? ⟨x0, 1, none⟩ = some (.int .i64 st) := X3.out.cell (by decide)
  have c32 : w3.cell? ⟨x0, 2, none⟩ = some (.slice ad n c) := X3.out.cell (by decide)
  go_wp2_with fail
  refine (HST.out w3 E3.out).mono ?_
  rintro e w4 ⟨rfl, hb4⟩
  have B4 := Lib.hid (B3.out.trans (hb4.mono B3.out.size))
  have X4 := Lib.hid (rowIs_below' X3.out hb4)
  have E4 := Lib.hid (E3.out.below hb4)
  have T4 := Lib.hid (T3.out.below hb4)
  clear c30 c31 c32 hb4
  have c40 : w4.cell? ⟨x0, 0, none⟩ = some (.int .i64 al) := X4.out.cell (by decide)
  have c41 : w4.cell? ⟨x0, 1, none⟩ = some (.int .i64 st) := X4.out.cell (by decide)
  have c42 : w4.cell? ⟨x0, 2, none⟩ = some (.slice ad n c) := X4.out.cell (by decide)
  cases hv : sysV al st es with
  | false =>
    have HV := Lib.hid hv; clear hv
    go_wp2_with fail
    refine (implSysValid_any al st ad n c es w4 E4.out).mono ?_
    rintro e w5 ⟨rfl, hb5⟩
    rw [HV.out]
    have B5 := Lib.hid (B4.out.trans (hb5.mono B4.out.size))
    have X5 := Lib.hid (rowIs_below' X4.out hb5)
    have E5 := Lib.hid (E4.out.below hb5)
    have T5 := Lib.hid (T4.out.below hb5)
    clear c40 c41 c42 hb5
    have c50 : w5.cell? ⟨x0, 0, none⟩ = some (.int .i64 al) := X5.out.cell (by decide)
    have c51 : w5.cell? ⟨x0, 1, none⟩ = some (.int .i64 st) := X5.out.cell (by decide)
    have c52 : w5.cell? ⟨x0, 2, none⟩ = some (.slice ad n c) := X5.out.cell (by decide)
    go_wp2_with fail
    refine (HST.out w5 E5.out).mono ?_
    rintro e w6 ⟨rfl, hb6⟩
    have B6 := Lib.hid (B5.out.trans (hb6.mono B5.out.size))
    have X6 := Lib.hid (rowIs_below' X5.out hb6)
    have E6 := Lib.hid (E5.out.below hb6)
    have T6 := Lib.hid (T5.out.below hb6)
    clear c50 c51 c52 hb6
    have c60 : w6.cell? ⟨x0, 0, none⟩ = some (.int .i64 al) := X6.out.cell (by decide)
    have c61 : w6.cell? ⟨x0, 1, none⟩ = some (.int .i64 st) := X6.out.cell (by decide)
    have c62 : w6.cell? ⟨x0, 2, none⟩ = some (.slice ad n c) := X6.out.cell (by decide)
    go_wp2
    go_ret
    exact ⟨rfl, B6.out⟩
  | true =>
    have hok := sysV_ok hv
    have HOK := Lib.hid hok; clear hok
    have HV := Lib.hid hv; clear hv
    go_wp2_with fail
    refine (implSysValid_any al st ad n c es w4 E4.out).mono ?_
    rintro e w5 ⟨rfl, hb5⟩
    rw [HV.out]
    have B5 := Lib.hid (B4.out.trans (hb5.mono B4.out.size))
    have X5 := Lib.hid (rowIs_below' X4.out hb5)
    have E5 := Lib.hid (E4.out.below hb5)
    have T5 := Lib.hid (T4.out.below hb5)
    clear c40 c41 c42 hb5
    have c50 : w5.cell? ⟨x0, 0, none⟩ = some (.int .i64 al) := X5.out.cell (by decide)
    have c51 : w5.cell? ⟨x0, 1, none⟩ = some (.int .i64 st) := X5.out.cell (by decide)
    have c52 : w5.cell? ⟨x0, 2, none⟩ = some (.slice ad n c) := X5.out.cell (by decide)
    by_cases h50 : 50000 ≤ s.size
    · have h50' : decide ((50000 : Int) ≤ (s.size : Int)) = true := by simp; omega
      have H50 := Lib.hid h50; clear h50
      go_wp2_with fail
      refine (HST.out w5 E5.out).mono ?_
      rintro e w6 ⟨rfl, hb6⟩
      have B6 := Lib.hid (B5.out.trans (hb6.mono B5.out.size))
      have X6 := Lib.hid (rowIs_below' X5.out hb6)
      have E6 := Lib.hid (E5.out.below hb6)
      have T6 := Lib.hid (T5.out.below hb6)
      clear c50 c51 c52 hb6
      have c60 : w6.cell? ⟨x0, 0, none⟩ = some (.int .i64 al) := X6.out.cell (by decide)
      have c61 : w6.cell? ⟨x0, 1, none⟩ = some (.int .i64 st) := X6.out.cell (by decide)
      have c62 : w6.cell? ⟨x0, 2, none⟩ = some (.slice ad n c) := X6.out.cell (by decide)
      go_wp2
      go_ret
      exact ⟨rfl, B6.out⟩
    · have h50' : decide ((50000 : Int) ≤ (s.size : Int)) = false := by simp; omega
      have hsl : s.data.toList.length < 50000 := by rw [data_len]; omega
      have hss : s.size < 50000 := by omega
      have HSL := Lib.hid hsl; clear hsl
      have HSS := Lib.hid hss; clear hss
      clear h50
      go_wp2
      go_loopw [6] (fun i wr => ∃ k : Nat, i = .int .i64 k ∧ k ≤ 6 ∧ Below w.heap.size w wr ∧ wr.rowIs x0 25 3 (fun i => #[.int .i64 al, .int .i64 st, .slice ad n c][i]?.getD undef) ∧ EV wr (.slice ad n c) es ∧ Tab wr) (fun i _ => 6 - (intOf i).toNat)
      case atStart => exact ⟨0, rfl, Nat.zero_le _, B5.out, X5.out, E5.out, T5.out⟩
      case round =>
        obtain ⟨k, rfl, hk, hbel, hrowx, hee, htt⟩ := hrel
        have d0 : wr.cell? ⟨x0, 0, none⟩ = some (.int .i64 al) := hrowx.cell (by decide)
        have d1 : wr.cell? ⟨x0, 1, none⟩ = some (.int .i64 st) := hrowx.cell (by decide)
        have d2 : wr.cell? ⟨x0, 2, none⟩ = some (.slice ad n c) := hrowx.cell (by decide)
        have HB := Lib.hid hbel
        have HX := Lib.hid hrowx
        have HE := Lib.hid hee
        have HT := Lib.hid htt
        clear hbel hrowx hee htt c50 c51 c52
        by_cases hlt : k < 6
        · have hlt' : (k : Int) < 6 := by omega
          have hsn : aftN al st es (s.data.toList ++ [lb (k : Int)]) = stepN es q (k : Int) := by
            rw [aft_snoc _ _ _ _ _ HV.out HSL.out, ltr_lb _ (by omega) (by omega), HQ.out]
          obtain ⟨y, hy⟩ : ∃ y, stepN es q (k : Int) = y := ⟨_, rfl⟩
          rw [hy] at hsn
          have hag := fun wq h => agStep_any al st (k : Int) ad n c es q wq h hqlt HOK.out
          rw [hy] at hag
          have HSN := Lib.hid hsn
          have HAG := Lib.hid hag
          clear hsn hag hy
          go_wp2_with fail
          refine wp_region_held_drew (S := fun w' => Below wr.heap.size wr w' ∧ w'.cell? ⟨x0, 0, none⟩ = some (.int .i64 al) ∧ w'.cell? ⟨x0, 1, none⟩ = some (.int .i64 st) ∧ w'.cell? ⟨x0, 2, none⟩ = some (.slice ad n c)) (by kernel_rfl) ⟨(Below.refl _ _).drew, d0, d1, d2⟩ (fun hHeld => ?_)
          first | (refine wpAnyH_take (i := 0) (get_of_drop' rfl) (by kernel_rfl) (by kernel_rfl) (by kernel_rfl) (fun _ _ _ h => h) (Or.inr ⟨?_, rfl⟩) hHeld ?_; (focus (simp [Region.wanted, yielded, undef]; done)); (try simp only [Act.put, List.setIfInBounds_toArray, List.set_cons_zero, List.set_cons_succ])) | (refine wpAnyH_take (i := 0) (v := ?_) (get_of_drop' rfl) (by kernel_rfl) (by kernel_rfl) (by kernel_rfl) (fun _ _ _ h => h) (Or.inl ⟨?_, ?_⟩) hHeld ?_; rotate_left; (focus rfl); (focus (intro w hSw; (try dsimp only at hSw); go_simp; (try (with_reducible rfl)))); (try simp only [Act.put, List.setIfInBounds_toArray, List.set_cons_zero, List.set_cons_succ]))
          first | (refine wpAnyH_take (i := 1) (get_of_drop' rfl) (by kernel_rfl) (by kernel_rfl) (by kernel_rfl) (fun _ _ _ h => h) (Or.inr ⟨?_, rfl⟩) hHeld ?_; (focus (simp [Region.wanted, yielded, undef]; done)); (try simp only [Act.put, List.setIfInBounds_toArray, List.set_cons_zero, List.set_cons_succ])) | (refine wpAnyH_take (i := 1) (v := ?_) (get_of_drop' rfl) (by kernel_rfl) (by kernel_rfl) (by kernel_rfl) (fun _ _ _ h => h) (Or.inl ⟨?_, ?_⟩) hHeld ?_; rotate_left; (focus rfl); (focus (intro w hSw; (try dsimp only at hSw); go_simp; (try (with_reducible rfl)))); (try simp only [Act.put, List.setIfInBounds_toArray, List.set_cons_zero, List.set_cons_succ]))
          first | (refine wpAnyH_take (i := 2) (get_of_drop' rfl) (by kernel_rfl) (by kernel_rfl) (by kernel_rfl) (fun _ _ _ h => h) (Or.inr ⟨?_, rfl⟩) hHeld ?_; (focus (simp [Region.wanted, yielded, undef]; done)); (try simp only [Act.put, List.setIfInBounds_toArray, List.set_cons_zero, List.set_cons_succ])) | (refine wpAnyH_take (i := 2) (v := ?_) (get_of_drop' rfl) (by kernel_rfl) (by kernel_rfl) (by kernel_rfl) (fun _ _ _ h => h) (Or.inl ⟨?_, ?_⟩) hHeld ?_; rotate_left; (focus rfl); (focus (intro w hSw; (try dsimp only at hSw); go_simp; (try (with_reducible rfl)))); (try simp only [Act.put, List.setIfInBounds_toArray, List.set_cons_zero, List.set_cons_succ]))
          first | (refine wpAnyH_take (i := 6) (get_of_drop' rfl) (by kernel_rfl) (by kernel_rfl) (by kernel_rfl) (fun _ _ _ h => h) (Or.inr ⟨?_, rfl⟩) hHeld ?_; (focus (simp [Region.wanted, yielded, undef]; done)); (try simp only [Act.put, List.setIfInBounds_toArray, List.set_cons_zero, List.set_cons_succ])) | (refine wpAnyH_take (i := 6) (v := ?_) (get_of_drop' rfl) (by kernel_rfl) (by kernel_rfl) (by kernel_rfl) (fun _ _ _ h => h) (Or.inl ⟨?_, ?_⟩) hHeld ?_; rotate_left; (focus rfl); (focus (intro w hSw; (try dsimp only at hSw); go_simp; (try (with_reducible rfl)))); (try simp only [Act.put, List.setIfInBounds_toArray, List.set_cons_zero, List.set_cons_succ]))
          first | (refine wpAnyH_take (i := 7) (get_of_drop' rfl) (by kernel_rfl) (by kernel_rfl) (by kernel_rfl) (fun _ _ _ h => h) (Or.inr ⟨?_, rfl⟩) hHeld ?_; (focus (simp [Region.wanted, yielded, undef]; done)); (try simp only [Act.put, List.setIfInBounds_toArray, List.set_cons_zero, List.set_cons_succ])) | (refine wpAnyH_take (i := 7) (v := ?_) (get_of_drop' rfl) (by kernel_rfl) (by kernel_rfl) (by kernel_rfl) (fun _ _ _ h => h) (Or.inl ⟨?_, ?_⟩) hHeld ?_; rotate_left; (focus rfl); (focus (intro w hSw; (try dsimp only at hSw); go_simp; (try (with_reducible rfl)))); (try simp only [Act.put, List.setIfInBounds_toArray, List.set_cons_zero, List.set_cons_succ]))
          first | (refine wpAnyH_take (i := 8) (get_of_drop' rfl) (by kernel_rfl) (by kernel_rfl) (by kernel_rfl) (fun _ _ _ h => h) (Or.inr ⟨?_, rfl⟩) hHeld ?_; (focus (simp [Region.wanted, yielded, undef]; done)); (try simp only [Act.put, List.setIfInBounds_toArray, List.set_cons_zero, List.set_cons_succ])) | (refine wpAnyH_take (i := 8) (v := ?_) (get_of_drop' rfl) (by kernel_rfl) (by kernel_rfl) (by kernel_rfl) (fun _ _ _ h => h) (Or.inl ⟨?_, ?_⟩) hHeld ?_; rotate_left; (focus rfl); (focus (intro w hSw; (try dsimp only at hSw); go_simp; (try (with_reducible rfl)))); (try simp only [Act.put, List.setIfInBounds_toArray, List.set_cons_zero, List.set_cons_succ]))
          refine wpAnyH_ready (rs := [3]) (by kernel_rfl) (by simp) ?_
          refine AllReadyH.cons (get_of_drop' rfl) (fun K hK => ?_) AllReadyH.nil
          go_simp
          go_at_call 22
          refine (agLetter_any (k : Int) (by omega) (by omega) _).mono ?_
          rintro e w5' ⟨r, rfl, hrd, hb5⟩
          have hr1 := size_of hrd
          have hsz2 : ¬ 9223372036854775807 < s.size + r.size := by rw [hr1]; have := HSS.out; simp; omega
          have hsz3 : (s ++ r).size ≤ 9223372036854775807 := by rw [append_size]; have := HSS.out; rw [hr1]; simp; omega
          have hi2 := implStates_any al st ad n c es (s ++ r) hsz3
          rw [snoc_data s r _ hrd, HSN.out] at hi2
          have HI2 := Lib.hid hi2
          have hbw5 : Below wr.heap.size wr w5' := ((Below.refl wr.heap.size wr).drew).trans hb5
          have HE5 := Lib.hid (HE.out.below hbw5)
          have HT5 := Lib.hid (HT.out.below hbw5)
          clear hi2 hrd hr1 hsz3
          go_wp2_with fail
          refine hK.out _ _ ?_ (fun hHeld => ?_)
          · (go_split_ands; refine ⟨below_step ?_ hb5, keep_cell hb5 ?_, keep_cell hb5 ?_, keep_cell hb5 ?_⟩ <;> assumption)
          clear hK K
          try simp only [Act.put, List.setIfInBounds_toArray, List.set_cons_zero, List.set_cons_succ]
          first | (refine wpAnyH_take (i := 4) (get_of_drop' rfl) (by kernel_rfl) (by kernel_rfl) (by kernel_rfl) (fun _ _ _ h => h) (Or.inr ⟨?_, rfl⟩) hHeld ?_; (focus (simp [Region.wanted, yielded, undef]; done)); (try simp only [Act.put, List.setIfInBounds_toArray, List.set_cons_zero, List.set_cons_succ])) | (refine wpAnyH_take (i := 4) (v := ?_) (get_of_drop' rfl) (by kernel_rfl) (by kernel_rfl) (by kernel_rfl) (fun _ _ _ h => h) (Or.inl ⟨?_, ?_⟩) hHeld ?_; rotate_left; (focus rfl); (focus (intro w hSw; (try dsimp only at hSw); go_simp; (try (with_reducible rfl)))); (try simp only [Act.put, List.setIfInBounds_toArray, List.set_cons_zero, List.set_cons_succ]))
          refine wpAnyH_ready (rs := [5]) (by kernel_rfl) (by simp) ?_
          refine AllReadyH.cons (get_of_drop' rfl) (fun K hK => ?_) AllReadyH.nil
          go_simp
          go_at_call 16
          refine (HI2.out w5' HT5.out HE5.out).mono ?_
          rintro e w6 ⟨rfl, hb6⟩
          have HE6 := Lib.hid (HE5.out.below hb6)
          go_wp2_with fail
          refine hK.out _ _ ?_ (fun hHeld => ?_)
          · (go_split_ands; refine ⟨below_step ?_ hb6, keep_cell hb6 ?_, keep_cell hb6 ?_, keep_cell hb6 ?_⟩ <;> assumption)
          clear hK K
          try simp only [Act.put, List.setIfInBounds_toArray, List.set_cons_zero, List.set_cons_succ]
          refine wpAnyH_ready (rs := [9]) (by kernel_rfl) (by simp) ?_
          refine AllReadyH.cons (get_of_drop' rfl) (fun K hK => ?_) AllReadyH.nil
          go_simp
          go_at_call 14
          refine (HAG.out w6 HE6.out).mono ?_
          rintro e w7 ⟨rfl, hb7⟩
          have HBX := Lib.hid (below_step (hbw5.trans (hb6.mono hbw5.size)) hb7)
          go_wp2_with fail
          refine hK.out _ _ ?_ (fun hHeld => ?_)
          · (go_split_ands; refine ⟨below_step ?_ hb7, keep_cell hb7 ?_, keep_cell hb7 ?_, keep_cell hb7 ?_⟩ <;> assumption)
          clear hK K
          try simp only [Act.put, List.setIfInBounds_toArray, List.set_cons_zero, List.set_cons_succ]
          first | (refine wpAnyH_take (i := 10) (get_of_drop' rfl) (by kernel_rfl) (by kernel_rfl) (by kernel_rfl) (fun _ _ _ h => h) (Or.inr ⟨?_, rfl⟩) hHeld ?_; (focus (simp [Region.wanted, yielded, undef]; done)); (try simp only [Act.put, List.setIfInBounds_toArray, List.set_cons_zero, List.set_cons_succ])) | (refine wpAnyH_take (i := 10) (v := ?_) (get_of_drop' rfl) (by kernel_rfl) (by kernel_rfl) (by kernel_rfl) (fun _ _ _ h => h) (Or.inl ⟨?_, ?_⟩) hHeld ?_; rotate_left; (focus rfl); (focus (intro w hSw; (try dsimp only at hSw); go_simp; (try (with_reducible rfl)))); (try simp only [Act.put, List.setIfInBounds_toArray, List.set_cons_zero, List.set_cons_succ]))
          refine wpAnyH_done (by kernel_rfl) ?_ _
          clear hHeld hb5 hb6 hbw5 hb7
          go_wp2
          go_roundw
          case rel => exact ⟨k + 1, by go_num, by omega, HB.out.trans (HBX.out.mono HB.out.size), rowIs_below' HX.out HBX.out, HE.out.below HBX.out, HT.out.below HBX.out⟩
          case measure => simp [intOf] <;> omega
        · have hie := implStates_any al st ad n c es ByteArray.empty (by decide)
          rw [show ByteArray.empty.data.toList = [] from rfl, aft_nil al st es HV.out] at hie
          have HIE := Lib.hid hie
          clear hie
          go_wp2_with fail
          refine (HIE.out wr HT.out HE.out).mono ?_
          rintro e w8 ⟨rfl, hb8⟩
          have HB8 := Lib.hid (HB.out.trans (hb8.mono HB.out.size))
          clear hb8
          go_wp2
          go_ret
          exact ⟨rfl, HB8.out⟩
end Go.Proofs.YtbmhokbgkgfibaaDoor
