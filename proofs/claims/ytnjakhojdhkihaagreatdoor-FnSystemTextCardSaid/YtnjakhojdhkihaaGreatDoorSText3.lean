/- FormatSystem of the reference: that it ends with a string. -/
import Derived.Test.YtnjakhojdhkihaaGreatDoorSText2
import Derived.Test.YtnjakhojdhkihaaGreatDoorFormat
import Derived.Test.YtnjakhojdhkihaaGreatDoorSysVS
import Derived.Test.YtnjakhojdhkihaaGreatDoorSysPlain
import Derived.Test.YtnjakhojdhkihaaGreatDoorDState
import Derived.Deep.RegionHeld3

namespace Go.Proofs.YtnjakhojdhkihaaGreatDoor
open Go.RowKit
set_option linter.unusedVariables false
set_option linter.unusedSimpArgs false
set_option maxRecDepth 100000

theorem fmtA_le (a : Int) : (fmtA a).length ≤ 6 := by
  unfold fmtA
  split
  · simp
  · split
    · simp
    · rw [List.length_map]; exact lets_len a
def FmtRes (N : Nat) (w : World) (e : Ending) (w' : World) : Prop := ∃ r : ByteArray, e = .returned (.string r) ∧ r.size ≤ N ∧ Below w.heap.size w w'
theorem specFmt_sz (a : Int) (w : World) : Calls Tryz.prog 38 #[.int .i64 a] w (FmtRes 6 w) :=
  (specFmt_any a w).mono fun e w' ⟨r, h1, h2, h3⟩ => ⟨r, h1, by rw [size_of h2]; exact fmtA_le a, h3⟩
theorem l1Text_sz (n : Int) (h0 : 0 ≤ n) (h1 : n < 6) (w : World) : Calls Tryz.prog 40 #[.int .i64 n] w (FmtRes 1 w) :=
  (l1Text_any n h0 h1 w).mono fun e w' ⟨r, h1, h2, h3⟩ => ⟨r, h1, by rw [size_of h2]; simp, h3⟩
theorem size32 : (ByteArray.mk #[32]).size = 1 := rfl
set_option maxHeartbeats 4000000 in
theorem specFormat_any (al st : Int) (a1 : Option Addr) (n1 c1 : Nat) (es : List Edg) (w : World) (h : EV w (.slice a1 n1 c1) es) (hes : es.length ≤ 1000) :
    Calls Tryz.prog 13 #[.agg #[.int .i64 al, .int .i64 st, .slice a1 n1 c1]] w (FmtRes 10000000 w) := by
  obtain ⟨hn, hcap, hmax, hcell⟩ := h.at
  have B0 := Lib.hid (below_new' w 24 #[.int .i64 al, .int .i64 st, .slice a1 n1 c1])
  have R0 := Lib.hid (sys_cells w al st (.slice a1 n1 c1) 24)
  have HC := Lib.hid hcell; clear hcell
  have HN := Lib.hid hn; clear hn
  have H := Lib.hid h; clear h
  cases hv : sysV al st es with
  | false =>
    have HV := Lib.hid hv; clear hv
    go_enter Tryz.func13, Tryz.ntmps13
    go_wp2_with fail
    refine (specSysValid_any al st a1 n1 c1 es _ (EV.below H.out B0.out)).mono ?_
    rintro e w1 ⟨rfl, hb1⟩
    rw [HV.out]
    have B1 := Lib.hid (B0.out.trans (hb1.mono B0.out.size))
    clear hb1
    go_wp2
    go_ret
    exact ⟨_, rfl, by simp [ByteArray.size], B1.out⟩
  | true =>
    obtain ⟨-, hst1, hst16, -⟩ := sysV_facts hv
    have hok := sysV_ok hv
    obtain ⟨st, rfl⟩ := Int.eq_ofNat_of_zero_le (by omega : 0 ≤ st)
    have hstn : st < 1000 := by omega
    have HOK := Lib.hid hok; clear hok
    have HV := Lib.hid hv; clear hv
    go_enter Tryz.func13, Tryz.ntmps13
    go_wp2_with fail
    refine (specSysValid_any al st a1 n1 c1 es _ (EV.below H.out B0.out)).mono ?_
    rintro e w1 ⟨rfl, hb1⟩
    rw [HV.out]
    have B1 := Lib.hid (B0.out.trans (hb1.mono B0.out.size))
    have R1 := Lib.hid (rowIs_below' R0.out hb1)
    have c0 : w1.cell? ⟨w.heap.size, 0, none⟩ = some (.int .i64 al) := R1.out.cell (by decide)
    have c1' : w1.cell? ⟨w.heap.size, 1, none⟩ = some (.int .i64 st) := R1.out.cell (by decide)
    have c2' : w1.cell? ⟨w.heap.size, 2, none⟩ = some (.slice a1 n1 c1) := R1.out.cell (by decide)
    clear hb1 hst1 hst16
    go_wp2_with fail
    refine wp_region_held_drew (S := fun w' => Below w1.heap.size w1 w' ∧ w'.cell? ⟨w.heap.size, 0, none⟩ = some (.int .i64 al) ∧ w'.cell? ⟨w.heap.size, 1, none⟩ = some (.int .i64 st)) (by kernel_rfl) ⟨(Below.refl _ _).drew, c0, c1'⟩ (fun hHeld => ?_)
    first | (refine wpAnyH_take (i := 0) (get_of_drop' rfl) (by kernel_rfl) (by kernel_rfl) (by kernel_rfl) (fun _ _ _ h => h) (Or.inr ⟨?_, rfl⟩) hHeld ?_; (focus (simp [Region.wanted, yielded, undef]; done)); (try simp only [Act.put, List.setIfInBounds_toArray, List.set_cons_zero, List.set_cons_succ])) | (refine wpAnyH_take (i := 0) (v := ?_) (get_of_drop' rfl) (by kernel_rfl) (by kernel_rfl) (by kernel_rfl) (fun _ _ _ h => h) (Or.inl ⟨?_, ?_⟩) hHeld ?_; rotate_left; (focus rfl); (focus (intro w hSw; (try dsimp only at hSw); go_simp; (try (with_reducible rfl)))); (try simp only [Act.put, List.setIfInBounds_toArray, List.set_cons_zero, List.set_cons_succ]))
    first | (refine wpAnyH_take (i := 1) (get_of_drop' rfl) (by kernel_rfl) (by kernel_rfl) (by kernel_rfl) (fun _ _ _ h => h) (Or.inr ⟨?_, rfl⟩) hHeld ?_; (focus (simp [Region.wanted, yielded, undef]; done)); (try simp only [Act.put, List.setIfInBounds_toArray, List.set_cons_zero, List.set_cons_succ])) | (refine wpAnyH_take (i := 1) (v := ?_) (get_of_drop' rfl) (by kernel_rfl) (by kernel_rfl) (by kernel_rfl) (fun _ _ _ h => h) (Or.inl ⟨?_, ?_⟩) hHeld ?_; rotate_left; (focus rfl); (focus (intro w hSw; (try dsimp only at hSw); go_simp; (try (with_reducible rfl)))); (try simp only [Act.put, List.setIfInBounds_toArray, List.set_cons_zero, List.set_cons_succ]))
    first | (refine wpAnyH_take (i := 4) (get_of_drop' rfl) (by kernel_rfl) (by kernel_rfl) (by kernel_rfl) (fun _ _ _ h => h) (Or.inr ⟨?_, rfl⟩) hHeld ?_; (focus (simp [Region.wanted, yielded, undef]; done)); (try simp only [Act.put, List.setIfInBounds_toArray, List.set_cons_zero, List.set_cons_succ])) | (refine wpAnyH_take (i := 4) (v := ?_) (get_of_drop' rfl) (by kernel_rfl) (by kernel_rfl) (by kernel_rfl) (fun _ _ _ h => h) (Or.inl ⟨?_, ?_⟩) hHeld ?_; rotate_left; (focus rfl); (focus (intro w hSw; (try dsimp only at hSw); go_simp; (try (with_reducible rfl)))); (try simp only [Act.put, List.setIfInBounds_toArray, List.set_cons_zero, List.set_cons_succ]))
    first | (refine wpAnyH_take (i := 5) (get_of_drop' rfl) (by kernel_rfl) (by kernel_rfl) (by kernel_rfl) (fun _ _ _ h => h) (Or.inr ⟨?_, rfl⟩) hHeld ?_; (focus (simp [Region.wanted, yielded, undef]; done)); (try simp only [Act.put, List.setIfInBounds_toArray, List.set_cons_zero, List.set_cons_succ])) | (refine wpAnyH_take (i := 5) (v := ?_) (get_of_drop' rfl) (by kernel_rfl) (by kernel_rfl) (by kernel_rfl) (fun _ _ _ h => h) (Or.inl ⟨?_, ?_⟩) hHeld ?_; rotate_left; (focus rfl); (focus (intro w hSw; (try dsimp only at hSw); go_simp; (try (with_reducible rfl)))); (try simp only [Act.put, List.setIfInBounds_toArray, List.set_cons_zero, List.set_cons_succ]))
    refine wpAnyH_ready (rs := [2]) (by kernel_rfl) (by simp) ?_
    refine AllReadyH.cons (get_of_drop' rfl) (fun K hK => ?_) AllReadyH.nil
    go_simp
    go_at_call 38
    refine (specFmt_sz al _).mono ?_
    rintro e w5 ⟨r1, rfl, hr1, hb5⟩
    have hq1 : (r1.size : Int) + 1 ≤ 9223372036854775807 := by omega
    have hq1' : ¬ (9223372036854775807 < r1.size + 1) := by omega
    go_wp2_with fail
    refine hK.out _ _ ?_ (fun hHeld => ?_)
    · (go_split_ands; refine ⟨below_step ?_ hb5, keep_cell hb5 ?_, keep_cell hb5 ?_⟩ <;> assumption)
    clear hK K
    try simp only [Act.put, List.setIfInBounds_toArray, List.set_cons_zero, List.set_cons_succ]
    first | (refine wpAnyH_take (i := 3) (get_of_drop' rfl) (by kernel_rfl) (by kernel_rfl) (by kernel_rfl) (fun _ _ _ h => h) (Or.inr ⟨?_, rfl⟩) hHeld ?_; (focus (simp [Region.wanted, yielded, undef]; done)); (try simp only [Act.put, List.setIfInBounds_toArray, List.set_cons_zero, List.set_cons_succ])) | (refine wpAnyH_take (i := 3) (v := ?_) (get_of_drop' rfl) (by kernel_rfl) (by kernel_rfl) (by kernel_rfl) (fun _ _ _ h => h) (Or.inl ⟨?_, ?_⟩) hHeld ?_; rotate_left; (focus rfl); (focus (intro w hSw; (try dsimp only at hSw); go_simp; (try (with_reducible rfl)))); (try simp only [Act.put, List.setIfInBounds_toArray, List.set_cons_zero, List.set_cons_succ]))
    refine wpAnyH_ready (rs := [6]) (by kernel_rfl) (by simp) ?_
    refine AllReadyH.cons (get_of_drop' rfl) (fun K hK => ?_) AllReadyH.nil
    go_simp
    go_at_call 39
    refine (l19Dec_any st hstn _).mono ?_
    rintro e w6 ⟨r2, rfl, hr2, hb6⟩
    have hq2 : (r1.size : Int) + 1 + (r2.size : Int) ≤ 9223372036854775807 := by omega
    have hq2' : ¬ (9223372036854775807 < r1.size + 1 + r2.size) := by omega
    go_wp2_with fail
    refine hK.out _ _ ?_ (fun hHeld => ?_)
    · (go_split_ands; refine ⟨below_step ?_ hb6, keep_cell hb6 ?_, keep_cell hb6 ?_⟩ <;> assumption)
    clear hK K
    try simp only [Act.put, List.setIfInBounds_toArray, List.set_cons_zero, List.set_cons_succ]
    first | (refine wpAnyH_take (i := 7) (get_of_drop' rfl) (by kernel_rfl) (by kernel_rfl) (by kernel_rfl) (fun _ _ _ h => h) (Or.inr ⟨?_, rfl⟩) hHeld ?_; (focus (simp [Region.wanted, yielded, undef]; done)); (try simp only [Act.put, List.setIfInBounds_toArray, List.set_cons_zero, List.set_cons_succ])) | (refine wpAnyH_take (i := 7) (v := ?_) (get_of_drop' rfl) (by kernel_rfl) (by kernel_rfl) (by kernel_rfl) (fun _ _ _ h => h) (Or.inl ⟨?_, ?_⟩) hHeld ?_; rotate_left; (focus rfl); (focus (intro w hSw; (try dsimp only at hSw); go_simp; (try (with_reducible rfl)))); (try simp only [Act.put, List.setIfInBounds_toArray, List.set_cons_zero, List.set_cons_succ]))
    first | (refine wpAnyH_take (i := 8) (get_of_drop' rfl) (by kernel_rfl) (by kernel_rfl) (by kernel_rfl) (fun _ _ _ h => h) (Or.inr ⟨?_, rfl⟩) hHeld ?_; (focus (simp [Region.wanted, yielded, undef]; done)); (try simp only [Act.put, List.setIfInBounds_toArray, List.set_cons_zero, List.set_cons_succ])) | (refine wpAnyH_take (i := 8) (v := ?_) (get_of_drop' rfl) (by kernel_rfl) (by kernel_rfl) (by kernel_rfl) (fun _ _ _ h => h) (Or.inl ⟨?_, ?_⟩) hHeld ?_; rotate_left; (focus rfl); (focus (intro w hSw; (try dsimp only at hSw); go_simp; (try (with_reducible rfl)))); (try simp only [Act.put, List.setIfInBounds_toArray, List.set_cons_zero, List.set_cons_succ]))
    refine wpAnyH_done (by kernel_rfl) ?_ _
    have HB6 := Lib.hid (B1.out.trans ((below_step (((Below.refl w1.heap.size w1).drew).trans hb5) hb6).mono B1.out.size))
    have R6 := Lib.hid (rowIs_below' R1.out (below_step (((Below.refl w1.heap.size w1).drew).trans hb5) hb6))
    obtain ⟨r, hr⟩ : ∃ r, (r1 ++ ByteArray.mk #[32]) ++ r2 = r := ⟨_, rfl⟩
    have hrs : r.size ≤ 2000 := by rw [← hr, append_size, append_size, size32]; omega
    have HRR := Lib.hid hr; clear hr
    clear hHeld hb5 hb6 c0 c1' c2'
    go_wp2_with fail
    go_loopw [3, 4] (fun v i wr => ∃ (k : Nat) (s : ByteArray), i = .int .i64 k ∧ v = .string s ∧ k ≤ n1 ∧ s.size ≤ 2000 + k * 3000 ∧ Below w.heap.size w wr ∧ wr.rowIs w.heap.size 24 3 (fun i => #[.int .i64 al, .int .i64 st, .slice a1 n1 c1][i]?.getD undef)) (fun _ i _ => n1 - (intOf i).toNat)
    case atStart => exact ⟨0, r, rfl, congrArg Value.string HRR.out, Nat.zero_le _, by omega, HB6.out, R6.out⟩
    case round =>
      obtain ⟨k, s, rfl, rfl, hk, hs, hbel, hrow⟩ := hrel
      have p0 : wr.cell? ⟨w.heap.size, 0, none⟩ = some (.int .i64 al) := hrow.cell (by decide)
      have p1 : wr.cell? ⟨w.heap.size, 1, none⟩ = some (.int .i64 st) := hrow.cell (by decide)
      have p2 : wr.cell? ⟨w.heap.size, 2, none⟩ = some (.slice a1 n1 c1) := hrow.cell (by decide)
      by_cases hlt : k < n1
      · rcases HC.out with h0 | ⟨b, off, rfl, hb, hc⟩
        · omega
        · have hu := hc k hlt
          rw [← cell_below hbel hb, ← cell_below hbel hb, ← cell_below hbel hb] at hu
          have hlt' : k < es.length := by rw [← HN.out]; exact hlt
          have hek := HOK.out.at k hlt'
          obtain ⟨f, l, t, he⟩ : ∃ f l t, Edg.at es k = (f, l, t) := ⟨_, _, _, rfl⟩
          rw [he] at hu hek
          obtain ⟨e0, e1, e2⟩ := hu
          dsimp only at e0 e1 e2 hek
          obtain ⟨⟨hf0, hf1⟩, ⟨hl0, hl1⟩, ht0, ht1⟩ := hek
          obtain ⟨f, rfl⟩ := Int.eq_ofNat_of_zero_le hf0
          obtain ⟨t, rfl⟩ := Int.eq_ofNat_of_zero_le ht0
          have hkes : k ≤ 1000 := by omega
          have HBEL := Lib.hid hbel
          have HROW := Lib.hid hrow
          clear hc hbel hrow he
          go_wp2_with fail
          obtain ⟨x0, hx0⟩ : ∃ x0, wr.heap.size = x0 := ⟨_, rfl⟩
          obtain ⟨w5, hw5⟩ : ∃ w5, (wr.alloc (.cells #[.int .i64 (f : Int), .int .i64 l, .int .i64 (t : Int)] 41)) = w5 := ⟨_, rfl⟩
          have hr5 := own_cells' wr #[.int .i64 (f : Int), .int .i64 l, .int .i64 (t : Int)] 41 3 rfl
          have hb5 := below_new' wr 41 #[.int .i64 (f : Int), .int .i64 l, .int .i64 (t : Int)]
          rw [hx0] at hr5
          rw [hw5] at hr5 hb5 ⊢
          rw [hx0]
          have g0 : w5.cell? ⟨x0, 0, none⟩ = some (.int .i64 (f : Int)) := hr5.cell (by decide)
          have g1 : w5.cell? ⟨x0, 1, none⟩ = some (.int .i64 l) := hr5.cell (by decide)
          have g2 : w5.cell? ⟨x0, 2, none⟩ = some (.int .i64 (t : Int)) := hr5.cell (by decide)
          have HROW5 := Lib.hid (rowIs_below' HROW.out hb5)
          have HB5 := Lib.hid (HBEL.out.trans (hb5.mono HBEL.out.size))
          clear hw5 hr5 hb5 hx0 e0 e1 e2 p0 p1 p2
          have hq0 : (s.size : Int) + 1 ≤ 9223372036854775807 := by omega
          have hq0' : ¬ (9223372036854775807 < s.size + 1) := by omega
          refine wp_region_held_drew (S := fun w' => Below w5.heap.size w5 w' ∧ w'.cell? ⟨x0, 0, none⟩ = some (.int .i64 (f : Int)) ∧ w'.cell? ⟨x0, 1, none⟩ = some (.int .i64 l) ∧ w'.cell? ⟨x0, 2, none⟩ = some (.int .i64 (t : Int))) (by kernel_rfl) ⟨(Below.refl _ _).drew, g0, g1, g2⟩ (fun hHeld => ?_)
          first | (refine wpAnyH_take (i := 0) (get_of_drop' rfl) (by kernel_rfl) (by kernel_rfl) (by kernel_rfl) (fun _ _ _ h => h) (Or.inr ⟨?_, rfl⟩) hHeld ?_; (focus (simp [Region.wanted, yielded, undef]; done)); (try simp only [Act.put, List.setIfInBounds_toArray, List.set_cons_zero, List.set_cons_succ])) | (refine wpAnyH_take (i := 0) (v := ?_) (get_of_drop' rfl) (by kernel_rfl) (by kernel_rfl) (by kernel_rfl) (fun _ _ _ h => h) (Or.inl ⟨?_, ?_⟩) hHeld ?_; rotate_left; (focus rfl); (focus (intro w hSw; (try dsimp only at hSw); go_simp; (try (with_reducible rfl)))); (try simp only [Act.put, List.setIfInBounds_toArray, List.set_cons_zero, List.set_cons_succ]))
          first | (refine wpAnyH_take (i := 1) (get_of_drop' rfl) (by kernel_rfl) (by kernel_rfl) (by kernel_rfl) (fun _ _ _ h => h) (Or.inr ⟨?_, rfl⟩) hHeld ?_; (focus (simp [Region.wanted, yielded, undef]; done)); (try simp only [Act.put, List.setIfInBounds_toArray, List.set_cons_zero, List.set_cons_succ])) | (refine wpAnyH_take (i := 1) (v := ?_) (get_of_drop' rfl) (by kernel_rfl) (by kernel_rfl) (by kernel_rfl) (fun _ _ _ h => h) (Or.inl ⟨?_, ?_⟩) hHeld ?_; rotate_left; (focus rfl); (focus (intro w hSw; (try dsimp only at hSw); go_simp; (try (with_reducible rfl)))); (try simp only [Act.put, List.setIfInBounds_toArray, List.set_cons_zero, List.set_cons_succ]))
          first | (refine wpAnyH_take (i := 2) (get_of_drop' rfl) (by kernel_rfl) (by kernel_rfl) (by kernel_rfl) (fun _ _ _ h => h) (Or.inr ⟨?_, rfl⟩) hHeld ?_; (focus (simp [Region.wanted, yielded, undef]; done)); (try simp only [Act.put, List.setIfInBounds_toArray, List.set_cons_zero, List.set_cons_succ])) | (refine wpAnyH_take (i := 2) (v := ?_) (get_of_drop' rfl) (by kernel_rfl) (by kernel_rfl) (by kernel_rfl) (fun _ _ _ h => h) (Or.inl ⟨?_, ?_⟩) hHeld ?_; rotate_left; (focus rfl); (focus (intro w hSw; (try dsimp only at hSw); go_simp; (try (with_reducible rfl)))); (try simp only [Act.put, List.setIfInBounds_toArray, List.set_cons_zero, List.set_cons_succ]))
          first | (refine wpAnyH_take (i := 3) (get_of_drop' rfl) (by kernel_rfl) (by kernel_rfl) (by kernel_rfl) (fun _ _ _ h => h) (Or.inr ⟨?_, rfl⟩) hHeld ?_; (focus (simp [Region.wanted, yielded, undef]; done)); (try simp only [Act.put, List.setIfInBounds_toArray, List.set_cons_zero, List.set_cons_succ])) | (refine wpAnyH_take (i := 3) (v := ?_) (get_of_drop' rfl) (by kernel_rfl) (by kernel_rfl) (by kernel_rfl) (fun _ _ _ h => h) (Or.inl ⟨?_, ?_⟩) hHeld ?_; rotate_left; (focus rfl); (focus (intro w hSw; (try dsimp only at hSw); go_simp; (try (with_reducible rfl)))); (try simp only [Act.put, List.setIfInBounds_toArray, List.set_cons_zero, List.set_cons_succ]))
          first | (refine wpAnyH_take (i := 6) (get_of_drop' rfl) (by kernel_rfl) (by kernel_rfl) (by kernel_rfl) (fun _ _ _ h => h) (Or.inr ⟨?_, rfl⟩) hHeld ?_; (focus (simp [Region.wanted, yielded, undef]; done)); (try simp only [Act.put, List.setIfInBounds_toArray, List.set_cons_zero, List.set_cons_succ])) | (refine wpAnyH_take (i := 6) (v := ?_) (get_of_drop' rfl) (by kernel_rfl) (by kernel_rfl) (by kernel_rfl) (fun _ _ _ h => h) (Or.inl ⟨?_, ?_⟩) hHeld ?_; rotate_left; (focus rfl); (focus (intro w hSw; (try dsimp only at hSw); go_simp; (try (with_reducible rfl)))); (try simp only [Act.put, List.setIfInBounds_toArray, List.set_cons_zero, List.set_cons_succ]))
          first | (refine wpAnyH_take (i := 7) (get_of_drop' rfl) (by kernel_rfl) (by kernel_rfl) (by kernel_rfl) (fun _ _ _ h => h) (Or.inr ⟨?_, rfl⟩) hHeld ?_; (focus (simp [Region.wanted, yielded, undef]; done)); (try simp only [Act.put, List.setIfInBounds_toArray, List.set_cons_zero, List.set_cons_succ])) | (refine wpAnyH_take (i := 7) (v := ?_) (get_of_drop' rfl) (by kernel_rfl) (by kernel_rfl) (by kernel_rfl) (fun _ _ _ h => h) (Or.inl ⟨?_, ?_⟩) hHeld ?_; rotate_left; (focus rfl); (focus (intro w hSw; (try dsimp only at hSw); go_simp; (try (with_reducible rfl)))); (try simp only [Act.put, List.setIfInBounds_toArray, List.set_cons_zero, List.set_cons_succ]))
          first | (refine wpAnyH_take (i := 10) (get_of_drop' rfl) (by kernel_rfl) (by kernel_rfl) (by kernel_rfl) (fun _ _ _ h => h) (Or.inr ⟨?_, rfl⟩) hHeld ?_; (focus (simp [Region.wanted, yielded, undef]; done)); (try simp only [Act.put, List.setIfInBounds_toArray, List.set_cons_zero, List.set_cons_succ])) | (refine wpAnyH_take (i := 10) (v := ?_) (get_of_drop' rfl) (by kernel_rfl) (by kernel_rfl) (by kernel_rfl) (fun _ _ _ h => h) (Or.inl ⟨?_, ?_⟩) hHeld ?_; rotate_left; (focus rfl); (focus (intro w hSw; (try dsimp only at hSw); go_simp; (try (with_reducible rfl)))); (try simp only [Act.put, List.setIfInBounds_toArray, List.set_cons_zero, List.set_cons_succ]))
          first | (refine wpAnyH_take (i := 11) (get_of_drop' rfl) (by kernel_rfl) (by kernel_rfl) (by kernel_rfl) (fun _ _ _ h => h) (Or.inr ⟨?_, rfl⟩) hHeld ?_; (focus (simp [Region.wanted, yielded, undef]; done)); (try simp only [Act.put, List.setIfInBounds_toArray, List.set_cons_zero, List.set_cons_succ])) | (refine wpAnyH_take (i := 11) (v := ?_) (get_of_drop' rfl) (by kernel_rfl) (by kernel_rfl) (by kernel_rfl) (fun _ _ _ h => h) (Or.inl ⟨?_, ?_⟩) hHeld ?_; rotate_left; (focus rfl); (focus (intro w hSw; (try dsimp only at hSw); go_simp; (try (with_reducible rfl)))); (try simp only [Act.put, List.setIfInBounds_toArray, List.set_cons_zero, List.set_cons_succ]))
          refine wpAnyH_ready (rs := [4]) (by kernel_rfl) (by simp) ?_
          refine AllReadyH.cons (get_of_drop' rfl) (fun K hK => ?_) AllReadyH.nil
          go_simp
          go_at_call 39
          refine (l19Dec_any f (by omega) _).mono ?_
          rintro e w6 ⟨ra, rfl, hra, hb6⟩
          have hq1 : (s.size : Int) + 1 + (ra.size : Int) ≤ 9223372036854775807 := by omega
          have hq1' : ¬ (9223372036854775807 < s.size + 1 + ra.size) := by omega
          go_wp2_with fail
          refine hK.out _ _ ?_ (fun hHeld => ?_)
          · (go_split_ands; refine ⟨below_step ?_ hb6, keep_cell hb6 ?_, keep_cell hb6 ?_, keep_cell hb6 ?_⟩ <;> assumption)
          clear hK K
          try simp only [Act.put, List.setIfInBounds_toArray, List.set_cons_zero, List.set_cons_succ]
          first | (refine wpAnyH_take (i := 5) (get_of_drop' rfl) (by kernel_rfl) (by kernel_rfl) (by kernel_rfl) (fun _ _ _ h => h) (Or.inr ⟨?_, rfl⟩) hHeld ?_; (focus (simp [Region.wanted, yielded, undef]; done)); (try simp only [Act.put, List.setIfInBounds_toArray, List.set_cons_zero, List.set_cons_succ])) | (refine wpAnyH_take (i := 5) (v := ?_) (get_of_drop' rfl) (by kernel_rfl) (by kernel_rfl) (by kernel_rfl) (fun _ _ _ h => h) (Or.inl ⟨?_, ?_⟩) hHeld ?_; rotate_left; (focus rfl); (focus (intro w hSw; (try dsimp only at hSw); go_simp; (try (with_reducible rfl)))); (try simp only [Act.put, List.setIfInBounds_toArray, List.set_cons_zero, List.set_cons_succ]))
          refine wpAnyH_ready (rs := [8]) (by kernel_rfl) (by simp) ?_
          refine AllReadyH.cons (get_of_drop' rfl) (fun K hK => ?_) AllReadyH.nil
          go_simp
          go_at_call 40
          refine (l1Text_sz l hl0 hl1 _).mono ?_
          rintro e w7 ⟨rb, rfl, hrb, hb7⟩
          have hq2 : (s.size : Int) + 1 + (ra.size : Int) + (rb.size : Int) ≤ 9223372036854775807 := by omega
          have hq2' : ¬ (9223372036854775807 < s.size + 1 + ra.size + rb.size) := by omega
          go_wp2_with fail
          refine hK.out _ _ ?_ (fun hHeld => ?_)
          · (go_split_ands; refine ⟨below_step ?_ hb7, keep_cell hb7 ?_, keep_cell hb7 ?_, keep_cell hb7 ?_⟩ <;> assumption)
          clear hK K
          try simp only [Act.put, List.setIfInBounds_toArray, List.set_cons_zero, List.set_cons_succ]
          first | (refine wpAnyH_take (i := 9) (get_of_drop' rfl) (by kernel_rfl) (by kernel_rfl) (by kernel_rfl) (fun _ _ _ h => h) (Or.inr ⟨?_, rfl⟩) hHeld ?_; (focus (simp [Region.wanted, yielded, undef]; done)); (try simp only [Act.put, List.setIfInBounds_toArray, List.set_cons_zero, List.set_cons_succ])) | (refine wpAnyH_take (i := 9) (v := ?_) (get_of_drop' rfl) (by kernel_rfl) (by kernel_rfl) (by kernel_rfl) (fun _ _ _ h => h) (Or.inl ⟨?_, ?_⟩) hHeld ?_; rotate_left; (focus rfl); (focus (intro w hSw; (try dsimp only at hSw); go_simp; (try (with_reducible rfl)))); (try simp only [Act.put, List.setIfInBounds_toArray, List.set_cons_zero, List.set_cons_succ]))
          refine wpAnyH_ready (rs := [12]) (by kernel_rfl) (by simp) ?_
          refine AllReadyH.cons (get_of_drop' rfl) (fun K hK => ?_) AllReadyH.nil
          go_simp
          go_at_call 39
          refine (l19Dec_any t (by omega) _).mono ?_
          rintro e w8 ⟨rc, rfl, hrc, hb8⟩
          have hq3 : (s.size : Int) + 1 + (ra.size : Int) + (rb.size : Int) + (rc.size : Int) ≤ 9223372036854775807 := by omega
          have hq3' : ¬ (9223372036854775807 < s.size + 1 + ra.size + rb.size + rc.size) := by omega
          go_wp2_with fail
          refine hK.out _ _ ?_ (fun hHeld => ?_)
          · (go_split_ands; refine ⟨below_step ?_ hb8, keep_cell hb8 ?_, keep_cell hb8 ?_, keep_cell hb8 ?_⟩ <;> assumption)
          clear hK K
          try simp only [Act.put, List.setIfInBounds_toArray, List.set_cons_zero, List.set_cons_succ]
          first | (refine wpAnyH_take (i := 13) (get_of_drop' rfl) (by kernel_rfl) (by kernel_rfl) (by kernel_rfl) (fun _ _ _ h => h) (Or.inr ⟨?_, rfl⟩) hHeld ?_; (focus (simp [Region.wanted, yielded, undef]; done)); (try simp only [Act.put, List.setIfInBounds_toArray, List.set_cons_zero, List.set_cons_succ])) | (refine wpAnyH_take (i := 13) (v := ?_) (get_of_drop' rfl) (by kernel_rfl) (by kernel_rfl) (by kernel_rfl) (fun _ _ _ h => h) (Or.inl ⟨?_, ?_⟩) hHeld ?_; rotate_left; (focus rfl); (focus (intro w hSw; (try dsimp only at hSw); go_simp; (try (with_reducible rfl)))); (try simp only [Act.put, List.setIfInBounds_toArray, List.set_cons_zero, List.set_cons_succ]))
          first | (refine wpAnyH_take (i := 14) (get_of_drop' rfl) (by kernel_rfl) (by kernel_rfl) (by kernel_rfl) (fun _ _ _ h => h) (Or.inr ⟨?_, rfl⟩) hHeld ?_; (focus (simp [Region.wanted, yielded, undef]; done)); (try simp only [Act.put, List.setIfInBounds_toArray, List.set_cons_zero, List.set_cons_succ])) | (refine wpAnyH_take (i := 14) (v := ?_) (get_of_drop' rfl) (by kernel_rfl) (by kernel_rfl) (by kernel_rfl) (fun _ _ _ h => h) (Or.inl ⟨?_, ?_⟩) hHeld ?_; rotate_left; (focus rfl); (focus (intro w hSw; (try dsimp only at hSw); go_simp; (try (with_reducible rfl)))); (try simp only [Act.put, List.setIfInBounds_toArray, List.set_cons_zero, List.set_cons_succ]))
          refine wpAnyH_done (by kernel_rfl) ?_ _
          have hbx := below_step (below_step (((Below.refl w5.heap.size w5).drew).trans hb6) hb7) hb8
          have HBX := Lib.hid (HB5.out.trans (hbx.mono HB5.out.size))
          have HRX := Lib.hid (rowIs_below' HROW5.out hbx)
          obtain ⟨r', hr'⟩ : ∃ r', (((s ++ ByteArray.mk #[32]) ++ ra) ++ rb) ++ rc = r' := ⟨_, rfl⟩
          have hrs' : r'.size ≤ 2000 + (k + 1) * 3000 := by rw [← hr', append_size, append_size, append_size, append_size, size32]; omega
          have HRR2 := Lib.hid hr'; clear hr'
          clear hHeld hb6 hb7 hb8 hbx
          go_wp2
          go_roundw
          case rel => exact ⟨k + 1, r', by go_num, congrArg Value.string HRR2.out, by omega, hrs', HBX.out, HRX.out⟩
          case measure => simp [intOf] <;> omega
      · go_wp2
        go_ret
        exact ⟨s, rfl, by have := HN.out; omega, hbel⟩
end Go.Proofs.YtnjakhojdhkihaaGreatDoor
