/- FormatSystem of the reference: the text that it writes. -/
import Derived.Test.YtnjakhojdhkihaaGreatDoorFText
import Derived.Test.YtnjakhojdhkihaaGreatDoorSText2
import Derived.Test.YtnjakhojdhkihaaGreatDoorFormat
import Derived.Test.YtnjakhojdhkihaaGreatDoorSysVS
import Derived.Test.YtnjakhojdhkihaaGreatDoorDState
import Derived.Deep.RegionHeld3

namespace Go.Proofs.YtnjakhojdhkihaaGreatDoor
open Go.RowKit
set_option linter.unusedVariables false
set_option linter.unusedSimpArgs false
set_option maxRecDepth 100000

def TextRes (N : Nat) (l : List UInt8) (w : World) (e : Ending) (w' : World) : Prop := ∃ r : ByteArray, e = .returned (.string r) ∧ r.size ≤ N ∧ Below w.heap.size w w' ∧ r.data.toList = l
theorem specFmt_tx (a : Int) (w : World) : Calls Tryz.prog 38 #[.int .i64 a] w (TextRes 6 (fmtA a) w) :=
  (specFmt_any a w).mono fun e w' ⟨r, h1, h2, h3⟩ => ⟨r, h1, by rw [size_of h2]; exact fmtA_le6 a, h3, h2⟩
theorem l1Text_tx (n : Int) (h0 : 0 ≤ n) (h1 : n < 6) (w : World) : Calls Tryz.prog 40 #[.int .i64 n] w (TextRes 1 [lb n] w) :=
  (l1Text_any n h0 h1 w).mono fun e w' ⟨r, h1, h2, h3⟩ => ⟨r, h1, by rw [size_of h2]; simp, h3, h2⟩
theorem dg_step {m : Nat} (h : ¬ m < 10) : dg m = dg (m / 10) ++ [UInt8.ofNat (48 + m % 10)] := by
  show Lib.decDigits m = _
  rw [Lib.decDigits, dif_neg h]
theorem cons_data (c : UInt8) (r : ByteArray) : (ByteArray.mk #[c] ++ r).data.toList = c :: r.data.toList := by rw [data_append]; rfl
set_option maxHeartbeats 1000000 in
theorem l19Dec_tx (n : Nat) (hn : n < 100) (w : World) : Calls Tryz.prog 39 #[.int .i64 n] w (TextRes 2 (dg n) w) := by
  have hlen := dg_len hn
  go_enter Tryz.func39, Tryz.ntmps39
  go_wp2
  go_loopw [0, 3] (fun v0 v3 wr => ∃ (m : Nat) (r : ByteArray), v0 = .int .i64 m ∧ v3 = .string r ∧ m < 100 ∧ Hid (dg n = dg m ++ r.data.toList) ∧ Below w.heap.size w wr) (fun v0 _ _ => (intOf v0).toNat)
  case atStart => exact ⟨n, _, rfl, rfl, hn, Lib.hid (by simp), Below.refl _ _⟩
  case round =>
    obtain ⟨m, r, rfl, rfl, hm, HR, hbel⟩ := hrel
    have hr1 : r.size ≤ 2 := by
      have h := congrArg List.length HR.out
      rw [List.length_append, data_len] at h
      omega
    have hsum : (1 : Int) + (r.size : Int) ≤ 9223372036854775807 := by omega
    by_cases h9 : (9 : Int) < (m : Int)
    · have hcv := one_byte wr (48 + (m : Int) % 10) (by omega) (by omega)
      obtain ⟨c, hc⟩ : ∃ c, UInt8.ofNat (48 + (m : Int) % 10).toNat = c := ⟨_, rfl⟩
      rw [hc] at hcv
      have HB := Lib.hid ((hbel).alloc hbel.size (.cells #[.int .u8 (48 + (m : Int) % 10)] 5))
      have hst : dg m = dg (m / 10) ++ [c] := by
        rw [dg_step (by omega), ← hc]
        congr 3
      have HST := Lib.hid hst; clear hst
      clear hc
      go_wp2
      go_roundw
      case rel => exact ⟨m / 10, ByteArray.mk #[c] ++ r, by go_num, rfl, by omega, Lib.hid (by rw [HR.out, HST.out, cons_data]; simp), HB.out⟩
      case measure => simp [intOf] <;> omega
    · have hcv := one_byte wr (48 + (m : Int)) (by omega) (by omega)
      obtain ⟨c, hc⟩ : ∃ c, UInt8.ofNat (48 + (m : Int)).toNat = c := ⟨_, rfl⟩
      rw [hc] at hcv
      have HB := Lib.hid ((hbel).alloc hbel.size (.cells #[.int .u8 (48 + (m : Int))] 5))
      have hst : dg m = [c] := by
        rw [dg_one (by omega), ← hc]
        congr 2
      have HST := Lib.hid hst; clear hst
      have hsz : ∀ r : ByteArray, (ByteArray.mk #[c] ++ r).size = 1 + r.size := fun r => by rw [append_size]; rfl
      have HSZ := Lib.hid hsz; clear hsz
      clear hc
      go_wp2
      go_ret
      have hfin : (ByteArray.mk #[c] ++ r).data.toList = dg n := by rw [HR.out, HST.out, cons_data]; rfl
      exact ⟨_, rfl, by rw [size_of hfin]; omega, HB.out, hfin⟩
theorem size32 : (ByteArray.mk #[32]).size = 1 := rfl
set_option maxHeartbeats 4000000 in
theorem specFormat_tx (al st : Int) (a1 : Option Addr) (n1 c1 : Nat) (es : List Edg) (w : World) (h : EV w (.slice a1 n1 c1) es) (hes : es.length ≤ 1048576) :
    Calls Tryz.prog 13 #[.agg #[.int .i64 al, .int .i64 st, .slice a1 n1 c1]] w (RetStr (fmtS al st es) w) := by
  obtain ⟨hn, hcap, hmax, hcell⟩ := h.at
  have B0 := Lib.hid (below_new' w 24 #[.int .i64 al, .int .i64 st, .slice a1 n1 c1])
  have R0 := Lib.hid (sys_cells w al st (.slice a1 n1 c1) 24)
  have HC := Lib.hid hcell; clear hcell
  have HN := Lib.hid hn; clear hn
  have H := Lib.hid h; clear h
  cases hv : sysV al st es with
  | false =>
    have hfm : fmtS al st es = [] := by unfold fmtS; rw [hv]; simp
    have HFM := Lib.hid hfm; clear hfm
    have HV := Lib.hid hv; clear hv
    go_enter Tryz.func13, Tryz.ntmps13
    go_wp2_with fail
    refine (specSysValid_any al st a1 n1 c1 es _ (EV.below H.out B0.out)).mono ?_
    rintro e w1 ⟨rfl, hb1⟩
    rw [HV.out]
    have B1 := Lib.hid (B0.out.trans (hb1.mono B0.out.size))
    clear hb1
    go_wp2
    go_ret
    exact ⟨_, rfl, by rw [HFM.out], B1.out⟩
  | true =>
    obtain ⟨-, hst1, hst16, -⟩ := sysV_facts hv
    have hok := sysV_ok hv
    have hfm : fmtS al st es = sysT al st es := by unfold fmtS; rw [if_pos hv]
    have HFM := Lib.hid hfm; clear hfm
    obtain ⟨st, rfl⟩ := Int.eq_ofNat_of_zero_le (by omega : 0 ≤ st)
    have hstn : st < 100 := by omega
    have HOK := Lib.hid hok; clear hok
    have HV := Lib.hid hv; clear hv
    go_enter Tryz.func13, Tryz.ntmps13
    go_wp2_with fail
    refine (specSysValid_any al st a1 n1 c1 es _ (EV.below H.out B0.out)).mono ?_
    rintro e w1 ⟨rfl, hb1⟩
    rw [HV.out]
    have B1 := Lib.hid (B0.out.trans (hb1.mono B0.out.size))
    have R1 := Lib.hid (rowIs_below' R0.out hb1)
    have c0 : w1.cell? ⟨w.heap.size, 0, none⟩ = some (.int .i64 al) := R1.out.cell (by decide)
    have c1' : w1.cell? ⟨w.heap.size, 1, none⟩ = some (.int .i64 st) := R1.out.cell (by decide)
    have c2' : w1.cell? ⟨w.heap.size, 2, none⟩ = some (.slice a1 n1 c1) := R1.out.cell (by decide)
    clear hb1 hst1 hst16
    go_wp2_with fail
    refine wp_region_held_drew (S := fun w' => Below w1.heap.size w1 w' ∧ w'.cell? ⟨w.heap.size, 0, none⟩ = some (.int .i64 al) ∧ w'.cell? ⟨w.heap.size, 1, none⟩ = some (.int .i64 st)) (by kernel_rfl) ⟨(Below.refl _ _).drew, c0, c1'⟩ (fun hHeld => ?_)
    first | (refine wpAnyH_take (i := 0) (get_of_drop' rfl) (by kernel_rfl) (by kernel_rfl) (by kernel_rfl) (fun _ _ _ h => h) (Or.inr ⟨?_, rfl⟩) hHeld ?_; (focus (simp [Region.wanted, yielded, undef]; done)); (try simp only [Act.put, List.setIfInBounds_toArray, List.set_cons_zero, List.set_cons_succ])) | (refine wpAnyH_take (i := 0) (v := ?_) (get_of_drop' rfl) (by kernel_rfl) (by kernel_rfl) (by kernel_rfl) (fun _ _ _ h => h) (Or.inl ⟨?_, ?_⟩) hHeld ?_; rotate_left; (focus rfl); (focus (intro w hSw; (try dsimp only at hSw); go_simp; (try (with_reducible rfl)))); (try simp only [Act.put, List.setIfInBounds_toArray, List.set_cons_zero, List.set_cons_succ]))
    first | (refine wpAnyH_take (i := 1) (get_of_drop' rfl) (by kernel_rfl) (by kernel_rfl) (by kernel_rfl) (fun _ _ _ h => h) (Or.inr ⟨?_, rfl⟩) hHeld ?_; (focus (simp [Region.wanted, yielded, undef]; done)); (try simp only [Act.put, List.setIfInBounds_toArray, List.set_cons_zero, List.set_cons_succ])) | (refine wpAnyH_take (i := 1) (v := ?_) (get_of_drop' rfl) (by kernel_rfl) (by kernel_rfl) (by kernel_rfl) (fun _ _ _ h => h) (Or.inl ⟨?_, ?_⟩) hHeld ?_; rotate_left; (focus rfl); (focus (intro w hSw; (try dsimp only at hSw); go_simp; (try (with_reducible rfl)))); (try simp only [Act.put, List.setIfInBounds_toArray, List.set_cons_zero, List.set_cons_succ]))
    first | (refine wpAnyH_take (i := 4) (get_of_drop' rfl) (by kernel_rfl) (by kernel_rfl) (by kernel_rfl) (fun _ _ _ h => h) (Or.inr ⟨?_, rfl⟩) hHeld ?_; (focus (simp [Region.wanted, yielded, undef]; done)); (try simp only [Act.put, List.setIfInBounds_toArray, List.set_cons_zero, List.set_cons_succ])) | (refine wpAnyH_take (i := 4) (v := ?_) (get_of_drop' rfl) (by kernel_rfl) (by kernel_rfl) (by kernel_rfl) (fun _ _ _ h => h) (Or.inl ⟨?_, ?_⟩) hHeld ?_; rotate_left; (focus rfl); (focus (intro w hSw; (try dsimp only at hSw); go_simp; (try (with_reducible rfl)))); (try simp only [Act.put, List.setIfInBounds_toArray, List.set_cons_zero, List.set_cons_succ]))
    first | (refine wpAnyH_take (i := 5) (get_of_drop' rfl) (by kernel_rfl) (by kernel_rfl) (by kernel_rfl) (fun _ _ _ h => h) (Or.inr ⟨?_, rfl⟩) hHeld ?_; (focus (simp [Region.wanted, yielded, undef]; done)); (try simp only [Act.put, List.setIfInBounds_toArray, List.set_cons_zero, List.set_cons_succ])) | (refine wpAnyH_take (i := 5) (v := ?_) (get_of_drop' rfl) (by kernel_rfl) (by kernel_rfl) (by kernel_rfl) (fun _ _ _ h => h) (Or.inl ⟨?_, ?_⟩) hHeld ?_; rotate_left; (focus rfl); (focus (intro w hSw; (try dsimp only at hSw); go_simp; (try (with_reducible rfl)))); (try simp only [Act.put, List.setIfInBounds_toArray, List.set_cons_zero, List.set_cons_succ]))
    refine wpAnyH_ready (rs := [2]) (by kernel_rfl) (by simp) ?_
    refine AllReadyH.cons (get_of_drop' rfl) (fun K hK => ?_) AllReadyH.nil
    go_simp
    go_at_call 38
    refine (specFmt_tx al _).mono ?_
    rintro e w5 ⟨r1, rfl, hr1, hb5, hd1⟩
    have HD1 := Lib.hid hd1; clear hd1
    have hq1 : (r1.size : Int) + 1 ≤ 9223372036854775807 := by omega
    have hq1' : ¬ (9223372036854775807 < r1.size + 1) := by omega
    go_wp2_with fail
    refine hK.out _ _ ?_ (fun hHeld => ?_)
    · (go_split_ands; refine ⟨below_step ?_ hb5, keep_cell hb5 ?_, keep_cell hb5 ?_⟩ <;> assumption)
    clear hK K
    try simp only [Act.put, List.setIfInBounds_toArray, List.set_cons_zero, List.set_cons_succ]
    first | (refine wpAnyH_take (i := 3) (get_of_drop' rfl) (by kernel_rfl) (by kernel_rfl) (by kernel_rfl) (fun _ _ _ h => h) (Or.inr ⟨?_, rfl⟩) hHeld ?_; (focus (simp [Region.wanted, yielded, undef]; done)); (try simp only [Act.put, List.setIfInBounds_toArray, List.set_cons_zero, List.set_cons_succ])) | (refine wpAnyH_take (i := 3) (v := ?_) (get_of_drop' rfl) (by kernel_rfl) (by kernel_rfl) (by kernel_rfl) (fun _ _ _ h => h) (Or.inl ⟨?_, ?_⟩) hHeld ?_; rotate_left; (focus rfl); (focus (intro w hSw; (try dsimp only at hSw); go_simp; (try (with_reducible rfl)))); (try simp only [Act.put, List.setIfInBounds_toArray, List.set_cons_zero, List.set_cons_succ]))
    refine wpAnyH_ready (rs := [6]) (by kernel_rfl) (by simp) ?_
    refine AllReadyH.cons (get_of_drop' rfl) (fun K hK => ?_) AllReadyH.nil
    go_simp
    go_at_call 39
    refine (l19Dec_tx st hstn _).mono ?_
    rintro e w6 ⟨r2, rfl, hr2, hb6, hd2⟩
    have HD2 := Lib.hid hd2; clear hd2
    have hq2 : (r1.size : Int) + 1 + (r2.size : Int) ≤ 9223372036854775807 := by omega
    have hq2' : ¬ (9223372036854775807 < r1.size + 1 + r2.size) := by omega
    go_wp2_with fail
    refine hK.out _ _ ?_ (fun hHeld => ?_)
    · (go_split_ands; refine ⟨below_step ?_ hb6, keep_cell hb6 ?_, keep_cell hb6 ?_⟩ <;> assumption)
    clear hK K
    try simp only [Act.put, List.setIfInBounds_toArray, List.set_cons_zero, List.set_cons_succ]
    first | (refine wpAnyH_take (i := 7) (get_of_drop' rfl) (by kernel_rfl) (by kernel_rfl) (by kernel_rfl) (fun _ _ _ h => h) (Or.inr ⟨?_, rfl⟩) hHeld ?_; (focus (simp [Region.wanted, yielded, undef]; done)); (try simp only [Act.put, List.setIfInBounds_toArray, List.set_cons_zero, List.set_cons_succ])) | (refine wpAnyH_take (i := 7) (v := ?_) (get_of_drop' rfl) (by kernel_rfl) (by kernel_rfl) (by kernel_rfl) (fun _ _ _ h => h) (Or.inl ⟨?_, ?_⟩) hHeld ?_; rotate_left; (focus rfl); (focus (intro w hSw; (try dsimp only at hSw); go_simp; (try (with_reducible rfl)))); (try simp only [Act.put, List.setIfInBounds_toArray, List.set_cons_zero, List.set_cons_succ]))
    first | (refine wpAnyH_take (i := 8) (get_of_drop' rfl) (by kernel_rfl) (by kernel_rfl) (by kernel_rfl) (fun _ _ _ h => h) (Or.inr ⟨?_, rfl⟩) hHeld ?_; (focus (simp [Region.wanted, yielded, undef]; done)); (try simp only [Act.put, List.setIfInBounds_toArray, List.set_cons_zero, List.set_cons_succ])) | (refine wpAnyH_take (i := 8) (v := ?_) (get_of_drop' rfl) (by kernel_rfl) (by kernel_rfl) (by kernel_rfl) (fun _ _ _ h => h) (Or.inl ⟨?_, ?_⟩) hHeld ?_; rotate_left; (focus rfl); (focus (intro w hSw; (try dsimp only at hSw); go_simp; (try (with_reducible rfl)))); (try simp only [Act.put, List.setIfInBounds_toArray, List.set_cons_zero, List.set_cons_succ]))
    refine wpAnyH_done (by kernel_rfl) ?_ _
    have HB6 := Lib.hid (B1.out.trans ((below_step (((Below.refl w1.heap.size w1).drew).trans hb5) hb6).mono B1.out.size))
    have R6 := Lib.hid (rowIs_below' R1.out (below_step (((Below.refl w1.heap.size w1).drew).trans hb5) hb6))
    obtain ⟨r, hr⟩ : ∃ r, (r1 ++ ByteArray.mk #[32]) ++ r2 = r := ⟨_, rfl⟩
    have hrs : r.size ≤ 2000 := by rw [← hr, append_size, append_size, size32]; omega
    have hrd : r.data.toList = sysT al (st : Int) (es.take 0) := by rw [← hr, data_append, data_append, HD1.out, HD2.out, List.take_zero, sysT_nil]; rfl
    have HRD := Lib.hid hrd
    clear hrd
    have HRR := Lib.hid hr; clear hr
    clear hHeld hb5 hb6 c0 c1' c2'
    go_wp2_with fail
    go_loopw [3, 4] (fun v i wr => ∃ (k : Nat) (s : ByteArray), i = .int .i64 k ∧ v = .string s ∧ k ≤ n1 ∧ s.size ≤ 2000 + k * 3000 ∧ Hid (s.data.toList = sysT al (st : Int) (es.take k)) ∧ Below w.heap.size w wr ∧ wr.rowIs w.heap.size 24 3 (fun i => #[.int .i64 al, .int .i64 st, .slice a1 n1 c1][i]?.getD undef)) (fun _ i _ => n1 - (intOf i).toNat)
    case atStart => exact ⟨0, r, rfl, congrArg Value.string HRR.out, Nat.zero_le _, by omega, HRD, HB6.out, R6.out⟩
    case round =>
      obtain ⟨k, s, rfl, rfl, hk, hs, HSD, hbel, hrow⟩ := hrel
      have p0 : wr.cell? ⟨w.heap.size, 0, none⟩ = some (.int .i64 al) := hrow.cell (by decide)
      have p1 : wr.cell? ⟨w.heap.size, 1, none⟩ = some (.int .i64 st) := hrow.cell (by decide)
      have p2 : wr.cell? ⟨w.heap.size, 2, none⟩ = some (.slice a1 n1 c1) := hrow.cell (by decide)
      by_cases hlt : k < n1
      · rcases HC.out with h0 | ⟨b, off, rfl, hb, hc⟩
        · omega
        · have hu := hc k hlt
          rw [← cell_below hbel hb, ← cell_below hbel hb, ← cell_below hbel hb] at hu
          have hlt' : k < es.length := by rw [← HN.out]; exact hlt
          have hek := HOK.out.at k hlt'
          obtain ⟨f, l, t, he⟩ : ∃ f l t, Edg.at es k = (f, l, t) := ⟨_, _, _, rfl⟩
          rw [he] at hu hek
          obtain ⟨e0, e1, e2⟩ := hu
          dsimp only at e0 e1 e2 hek
          obtain ⟨⟨hf0, hf1⟩, ⟨hl0, hl1⟩, ht0, ht1⟩ := hek
          obtain ⟨f, rfl⟩ := Int.eq_ofNat_of_zero_le hf0
          obtain ⟨t, rfl⟩ := Int.eq_ofNat_of_zero_le ht0
          have hkes : k ≤ 1048576 := by omega
          have hst1 : sysT al (st : Int) (es.take (k + 1)) = sysT al (st : Int) (es.take k) ++ [32] ++ (dg f ++ [lb l] ++ dg t) := by
            rw [take_snoc_e es k hlt', sysT_snoc, he]
            simp [edgT]
          have HST := Lib.hid hst1; clear hst1
          have HBEL := Lib.hid hbel
          have HROW := Lib.hid hrow
          clear hc hbel hrow he
          go_wp2_with fail
          obtain ⟨x0, hx0⟩ : ∃ x0, wr.heap.size = x0 := ⟨_, rfl⟩
          obtain ⟨w5, hw5⟩ : ∃ w5, (wr.alloc (.cells #[.int .i64 (f : Int), .int .i64 l, .int .i64 (t : Int)] 41)) = w5 := ⟨_, rfl⟩
          have hr5 := own_cells' wr #[.int .i64 (f : Int), .int .i64 l, .int .i64 (t : Int)] 41 3 rfl
          have hb5 := below_new' wr 41 #[.int .i64 (f : Int), .int .i64 l, .int .i64 (t : Int)]
          rw [hx0] at hr5
          rw [hw5] at hr5 hb5 ⊢
          rw [hx0]
          have g0 : w5.cell? ⟨x0, 0, none⟩ = some (.int .i64 (f : Int)) := hr5.cell (by decide)
          have g1 : w5.cell? ⟨x0, 1, none⟩ = some (.int .i64 l) := hr5.cell (by decide)
          have g2 : w5.cell? ⟨x0, 2, none⟩ = some (.int .i64 (t : Int)) := hr5.cell (by decide)
          have HROW5 := Lib.hid (rowIs_below' HROW.out hb5)
          have HB5 := Lib.hid (HBEL.out.trans (hb5.mono HBEL.out.size))
          clear hw5 hr5 hb5 hx0 e0 e1 e2 p0 p1 p2
          have hq0 : (s.size : Int) + 1 ≤ 9223372036854775807 := by omega
          have hq0' : ¬ (9223372036854775807 < s.size + 1) := by omega
          refine wp_region_held_drew (S := fun w' => Below w5.heap.size w5 w' ∧ w'.cell? ⟨x0, 0, none⟩ = some (.int .i64 (f : Int)) ∧ w'.cell? ⟨x0, 1, none⟩ = some (.int .i64 l) ∧ w'.cell? ⟨x0, 2, none⟩ = some (.int .i64 (t : Int))) (by kernel_rfl) ⟨(Below.refl _ _).drew, g0, g1, g2⟩ (fun hHeld => ?_)
          first | (refine wpAnyH_take (i := 0) (get_of_drop' rfl) (by kernel_rfl) (by kernel_rfl) (by kernel_rfl) (fun _ _ _ h => h) (Or.inr ⟨?_, rfl⟩) hHeld ?_; (focus (simp [Region.wanted, yielded, undef]; done)); (try simp only [Act.put, List.setIfInBounds_toArray, List.set_cons_zero, List.set_cons_succ])) | (refine wpAnyH_take (i := 0) (v := ?_) (get_of_drop' rfl) (by kernel_rfl) (by kernel_rfl) (by kernel_rfl) (fun _ _ _ h => h) (Or.inl ⟨?_, ?_⟩) hHeld ?_; rotate_left; (focus rfl); (focus (intro w hSw; (try dsimp only at hSw); go_simp; (try (with_reducible rfl)))); (try simp only [Act.put, List.setIfInBounds_toArray, List.set_cons_zero, List.set_cons_succ]))
          first | (refine wpAnyH_take (i := 1) (get_of_drop' rfl) (by kernel_rfl) (by kernel_rfl) (by kernel_rfl) (fun _ _ _ h => h) (Or.inr ⟨?_, rfl⟩) hHeld ?_; (focus (simp [Region.wanted, yielded, undef]; done)); (try simp only [Act.put, List.setIfInBounds_toArray, List.set_cons_zero, List.set_cons_succ])) | (refine wpAnyH_take (i := 1) (v := ?_) (get_of_drop' rfl) (by kernel_rfl) (by kernel_rfl) (by kernel_rfl) (fun _ _ _ h => h) (Or.inl ⟨?_, ?_⟩) hHeld ?_; rotate_left; (focus rfl); (focus (intro w hSw; (try dsimp only at hSw); go_simp; (try (with_reducible rfl)))); (try simp only [Act.put, List.setIfInBounds_toArray, List.set_cons_zero, List.set_cons_succ]))
          first | (refine wpAnyH_take (i := 2) (get_of_drop' rfl) (by kernel_rfl) (by kernel_rfl) (by kernel_rfl) (fun _ _ _ h => h) (Or.inr ⟨?_, rfl⟩) hHeld ?_; (focus (simp [Region.wanted, yielded, undef]; done)); (try simp only [Act.put, List.setIfInBounds_toArray, List.set_cons_zero, List.set_cons_succ])) | (refine wpAnyH_take (i := 2) (v := ?_) (get_of_drop' rfl) (by kernel_rfl) (by kernel_rfl) (by kernel_rfl) (fun _ _ _ h => h) (Or.inl ⟨?_, ?_⟩) hHeld ?_; rotate_left; (focus rfl); (focus (intro w hSw; (try dsimp only at hSw); go_simp; (try (with_reducible rfl)))); (try simp only [Act.put, List.setIfInBounds_toArray, List.set_cons_zero, List.set_cons_succ]))
          first | (refine wpAnyH_take (i := 3) (get_of_drop' rfl) (by kernel_rfl) (by kernel_rfl) (by kernel_rfl) (fun _ _ _ h => h) (Or.inr ⟨?_, rfl⟩) hHeld ?_; (focus (simp [Region.wanted, yielded, undef]; done)); (try simp only [Act.put, List.setIfInBounds_toArray, List.set_cons_zero, List.set_cons_succ])) | (refine wpAnyH_take (i := 3) (v := ?_) (get_of_drop' rfl) (by kernel_rfl) (by kernel_rfl) (by kernel_rfl) (fun _ _ _ h => h) (Or.inl ⟨?_, ?_⟩) hHeld ?_; rotate_left; (focus rfl); (focus (intro w hSw; (try dsimp only at hSw); go_simp; (try (with_reducible rfl)))); (try simp only [Act.put, List.setIfInBounds_toArray, List.set_cons_zero, List.set_cons_succ]))
          first | (refine wpAnyH_take (i := 6) (get_of_drop' rfl) (by kernel_rfl) (by kernel_rfl) (by kernel_rfl) (fun _ _ _ h => h) (Or.inr ⟨?_, rfl⟩) hHeld ?_; (focus (simp [Region.wanted, yielded, undef]; done)); (try simp only [Act.put, List.setIfInBounds_toArray, List.set_cons_zero, List.set_cons_succ])) | (refine wpAnyH_take (i := 6) (v := ?_) (get_of_drop' rfl) (by kernel_rfl) (by kernel_rfl) (by kernel_rfl) (fun _ _ _ h => h) (Or.inl ⟨?_, ?_⟩) hHeld ?_; rotate_left; (focus rfl); (focus (intro w hSw; (try dsimp only at hSw); go_simp; (try (with_reducible rfl)))); (try simp only [Act.put, List.setIfInBounds_toArray, List.set_cons_zero, List.set_cons_succ]))
          first | (refine wpAnyH_take (i := 7) (get_of_drop' rfl) (by kernel_rfl) (by kernel_rfl) (by kernel_rfl) (fun _ _ _ h => h) (Or.inr ⟨?_, rfl⟩) hHeld ?_; (focus (simp [Region.wanted, yielded, undef]; done)); (try simp only [Act.put, List.setIfInBounds_toArray, List.set_cons_zero, List.set_cons_succ])) | (refine wpAnyH_take (i := 7) (v := ?_) (get_of_drop' rfl) (by kernel_rfl) (by kernel_rfl) (by kernel_rfl) (fun _ _ _ h => h) (Or.inl ⟨?_, ?_⟩) hHeld ?_; rotate_left; (focus rfl); (focus (intro w hSw; (try dsimp only at hSw); go_simp; (try (with_reducible rfl)))); (try simp only [Act.put, List.setIfInBounds_toArray, List.set_cons_zero, List.set_cons_succ]))
          first | (refine wpAnyH_take (i := 10) (get_of_drop' rfl) (by kernel_rfl) (by kernel_rfl) (by kernel_rfl) (fun _ _ _ h => h) (Or.inr ⟨?_, rfl⟩) hHeld ?_; (focus (simp [Region.wanted, yielded, undef]; done)); (try simp only [Act.put, List.setIfInBounds_toArray, List.set_cons_zero, List.set_cons_succ])) | (refine wpAnyH_take (i := 10) (v := ?_) (get_of_drop' rfl) (by kernel_rfl) (by kernel_rfl) (by kernel_rfl) (fun _ _ _ h => h) (Or.inl ⟨?_, ?_⟩) hHeld ?_; rotate_left; (focus rfl); (focus (intro w hSw; (try dsimp only at hSw); go_simp; (try (with_reducible rfl)))); (try simp only [Act.put, List.setIfInBounds_toArray, List.set_cons_zero, List.set_cons_succ]))
          first | (refine wpAnyH_take (i := 11) (get_of_drop' rfl) (by kernel_rfl) (by kernel_rfl) (by kernel_rfl) (fun _ _ _ h => h) (Or.inr ⟨?_, rfl⟩) hHeld ?_; (focus (simp [Region.wanted, yielded, undef]; done)); (try simp only [Act.put, List.setIfInBounds_toArray, List.set_cons_zero, List.set_cons_succ])) | (refine wpAnyH_take (i := 11) (v := ?_) (get_of_drop' rfl) (by kernel_rfl) (by kernel_rfl) (by kernel_rfl) (fun _ _ _ h => h) (Or.inl ⟨?_, ?_⟩) hHeld ?_; rotate_left; (focus rfl); (focus (intro w hSw; (try dsimp only at hSw); go_simp; (try (with_reducible rfl)))); (try simp only [Act.put, List.setIfInBounds_toArray, List.set_cons_zero, List.set_cons_succ]))
          refine wpAnyH_ready (rs := [4]) (by kernel_rfl) (by simp) ?_
          refine AllReadyH.cons (get_of_drop' rfl) (fun K hK => ?_) AllReadyH.nil
          go_simp
          go_at_call 39
          refine (l19Dec_tx f (by omega) _).mono ?_
          rintro e w6 ⟨ra, rfl, hra, hb6, hda⟩
          have HDA := Lib.hid hda; clear hda
          have hq1 : (s.size : Int) + 1 + (ra.size : Int) ≤ 9223372036854775807 := by omega
          have hq1' : ¬ (9223372036854775807 < s.size + 1 + ra.size) := by omega
          go_wp2_with fail
          refine hK.out _ _ ?_ (fun hHeld => ?_)
          · (go_split_ands; refine ⟨below_step ?_ hb6, keep_cell hb6 ?_, keep_cell hb6 ?_, keep_cell hb6 ?_⟩ <;> assumption)
          clear hK K
          try simp only [Act.put, List.setIfInBounds_toArray, List.set_cons_zero, List.set_cons_succ]
          first | (refine wpAnyH_take (i := 5) (get_of_drop' rfl) (by kernel_rfl) (by kernel_rfl) (by kernel_rfl) (fun _ _ _ h => h) (Or.inr ⟨?_, rfl⟩) hHeld ?_; (focus (simp [Region.wanted, yielded, undef]; done)); (try simp only [Act.put, List.setIfInBounds_toArray, List.set_cons_zero, List.set_cons_succ])) | (refine wpAnyH_take (i := 5) (v := ?_) (get_of_drop' rfl) (by kernel_rfl) (by kernel_rfl) (by kernel_rfl) (fun _ _ _ h => h) (Or.inl ⟨?_, ?_⟩) hHeld ?_; rotate_left; (focus rfl); (focus (intro w hSw; (try dsimp only at hSw); go_simp; (try (with_reducible rfl)))); (try simp only [Act.put, List.setIfInBounds_toArray, List.set_cons_zero, List.set_cons_succ]))
          refine wpAnyH_ready (rs := [8]) (by kernel_rfl) (by simp) ?_
          refine AllReadyH.cons (get_of_drop' rfl) (fun K hK => ?_) AllReadyH.nil
          go_simp
          go_at_call 40
          refine (l1Text_tx l hl0 hl1 _).mono ?_
          rintro e w7 ⟨rb, rfl, hrb, hb7, hdb⟩
          have HDB := Lib.hid hdb; clear hdb
          have hq2 : (s.size : Int) + 1 + (ra.size : Int) + (rb.size : Int) ≤ 9223372036854775807 := by omega
          have hq2' : ¬ (9223372036854775807 < s.size + 1 + ra.size + rb.size) := by omega
          go_wp2_with fail
          refine hK.out _ _ ?_ (fun hHeld => ?_)
          · (go_split_ands; refine ⟨below_step ?_ hb7, keep_cell hb7 ?_, keep_cell hb7 ?_, keep_cell hb7 ?_⟩ <;> assumption)
          clear hK K
          try simp only [Act.put, List.setIfInBounds_toArray, List.set_cons_zero, List.set_cons_succ]
          first | (refine wpAnyH_take (i := 9) (get_of_drop' rfl) (by kernel_rfl) (by kernel_rfl) (by kernel_rfl) (fun _ _ _ h => h) (Or.inr ⟨?_, rfl⟩) hHeld ?_; (focus (simp [Region.wanted, yielded, undef]; done)); (try simp only [Act.put, List.setIfInBounds_toArray, List.set_cons_zero, List.set_cons_succ])) | (refine wpAnyH_take (i := 9) (v := ?_) (get_of_drop' rfl) (by kernel_rfl) (by kernel_rfl) (by kernel_rfl) (fun _ _ _ h => h) (Or.inl ⟨?_, ?_⟩) hHeld ?_; rotate_left; (focus rfl); (focus (intro w hSw; (try dsimp only at hSw); go_simp; (try (with_reducible rfl)))); (try simp only [Act.put, List.setIfInBounds_toArray, List.set_cons_zero, List.set_cons_succ]))
          refine wpAnyH_ready (rs := [12]) (by kernel_rfl) (by simp) ?_
          refine AllReadyH.cons (get_of_drop' rfl) (fun K hK => ?_) AllReadyH.nil
          go_simp
          go_at_call 39
          refine (l19Dec_tx t (by omega) _).mono ?_
          rintro e w8 ⟨rc, rfl, hrc, hb8, hdc⟩
          have HDC := Lib.hid hdc; clear hdc
          have hq3 : (s.size : Int) + 1 + (ra.size : Int) + (rb.size : Int) + (rc.size : Int) ≤ 9223372036854775807 := by omega
          have hq3' : ¬ (9223372036854775807 < s.size + 1 + ra.size + rb.size + rc.size) := by omega
          go_wp2_with fail
          refine hK.out _ _ ?_ (fun hHeld => ?_)
          · (go_split_ands; refine ⟨below_step ?_ hb8, keep_cell hb8 ?_, keep_cell hb8 ?_, keep_cell hb8 ?_⟩ <;> assumption)
          clear hK K
          try simp only [Act.put, List.setIfInBounds_toArray, List.set_cons_zero, List.set_cons_succ]
          first | (refine wpAnyH_take (i := 13) (get_of_drop' rfl) (by kernel_rfl) (by kernel_rfl) (by kernel_rfl) (fun _ _ _ h => h) (Or.inr ⟨?_, rfl⟩) hHeld ?_; (focus (simp [Region.wanted, yielded, undef]; done)); (try simp only [Act.put, List.setIfInBounds_toArray, List.set_cons_zero, List.set_cons_succ])) | (refine wpAnyH_take (i := 13) (v := ?_) (get_of_drop' rfl) (by kernel_rfl) (by kernel_rfl) (by kernel_rfl) (fun _ _ _ h => h) (Or.inl ⟨?_, ?_⟩) hHeld ?_; rotate_left; (focus rfl); (focus (intro w hSw; (try dsimp only at hSw); go_simp; (try (with_reducible rfl)))); (try simp only [Act.put, List.setIfInBounds_toArray, List.set_cons_zero, List.set_cons_succ]))
          first | (refine wpAnyH_take (i := 14) (get_of_drop' rfl) (by kernel_rfl) (by kernel_rfl) (by kernel_rfl) (fun _ _ _ h => h) (Or.inr ⟨?_, rfl⟩) hHeld ?_; (focus (simp [Region.wanted, yielded, undef]; done)); (try simp only [Act.put, List.setIfInBounds_toArray, List.set_cons_zero, List.set_cons_succ])) | (refine wpAnyH_take (i := 14) (v := ?_) (get_of_drop' rfl) (by kernel_rfl) (by kernel_rfl) (by kernel_rfl) (fun _ _ _ h => h) (Or.inl ⟨?_, ?_⟩) hHeld ?_; rotate_left; (focus rfl); (focus (intro w hSw; (try dsimp only at hSw); go_simp; (try (with_reducible rfl)))); (try simp only [Act.put, List.setIfInBounds_toArray, List.set_cons_zero, List.set_cons_succ]))
          refine wpAnyH_done (by kernel_rfl) ?_ _
          have hbx := below_step (below_step (((Below.refl w5.heap.size w5).drew).trans hb6) hb7) hb8
          have HBX := Lib.hid (HB5.out.trans (hbx.mono HB5.out.size))
          have HRX := Lib.hid (rowIs_below' HROW5.out hbx)
          obtain ⟨r', hr'⟩ : ∃ r', (((s ++ ByteArray.mk #[32]) ++ ra) ++ rb) ++ rc = r' := ⟨_, rfl⟩
          have hrs' : r'.size ≤ 2000 + (k + 1) * 3000 := by rw [← hr', append_size, append_size, append_size, append_size, size32]; omega
          have hrd' : r'.data.toList = sysT al (st : Int) (es.take (k + 1)) := by rw [← hr', data_append, data_append, data_append, data_append, HSD.out, HDA.out, HDB.out, HDC.out, HST.out]; simp
          have HRD2 := Lib.hid hrd'
          clear hrd'
          have HRR2 := Lib.hid hr'; clear hr'
          clear hHeld hb6 hb7 hb8 hbx
          go_wp2
          go_roundw
          case rel => exact ⟨k + 1, r', by go_num, congrArg Value.string HRR2.out, by omega, hrs', HRD2, HBX.out, HRX.out⟩
          case measure => simp [intOf] <;> omega
      · go_wp2
        go_ret
        have hke : k = es.length := by
          have := HN.out
          omega
        exact ⟨s, rfl, by rw [HSD.out, hke, List.take_length, HFM.out], hbel⟩
end Go.Proofs.YtnjakhojdhkihaaGreatDoor
