/- The walks of the laws LettersAfter and StatesAfter. -/
import Derived.Test.YtbmhokbgkgfibaaDoorL1


namespace Go.Proofs.YtbmhokbgkgfibaaDoor
open Go.RowKit
set_option linter.unusedVariables false
set_option linter.unusedSimpArgs false
set_option maxRecDepth 100000

theorem agHas_any (s n : Int) (h0 : 0 ≤ s) (h1 : s < 9223372036854775808) (hn : 0 ≤ n) (hn' : n < 9223372036854775808) (w : World) : Calls Tryd.prog 26 #[.int .i64 s, .int .i64 n] w (Ret (.bool (hasB s n)) w) := by
  have hw : IntKind.u64.wrap n = n := by rw [IntKind.wrap_u64]; omega
  go_enter Tryd.func26, Tryd.ntmps26
  go_wp2
  go_ret
  exact ⟨ret_bool (by unfold hasB; rw [← bit_of_shr s n h0 h1]; simp; omega), rfl⟩
theorem agLetter_any (n : Int) (h0 : 0 ≤ n) (h1 : n < 6) (w : World) : Calls Tryd.prog 22 #[.int .i64 n] w (fun e w' => ∃ r : ByteArray, e = .returned (.string r) ∧ r.data.toList = [lb n] ∧ Below w.heap.size w w') := by
  have hcv := run_string_of_one w (lb n) (97 + n) (lb_nat n h0 h1).symm
  go_enter Tryd.func22, Tryd.ntmps22
  go_wp2
  go_ret
  exact ⟨_, rfl, rfl, (Below.refl _ _).alloc (Nat.le_refl _) _⟩
set_option maxHeartbeats 1000000 in
theorem agStep_any (al st x : Int) (a1 : Option Addr) (n1 c1 : Nat) (es : List Edg) (s : Nat) (w : World) (h : EV w (.slice a1 n1 c1) es) (hs : s < 65536) (hok : OkE es) :
    Calls Tryd.prog 14 #[.agg #[.int .i64 al, .int .i64 st, .slice a1 n1 c1], .int .i64 s, .int .i64 x] w (RB' (.int .i64 (stepN es s x : Nat)) w) := by
  obtain ⟨hn, hcap, hmax, hcell⟩ := h.at
  have B0 := Lib.hid (below_new' w 25 #[.int .i64 al, .int .i64 st, .slice a1 n1 c1])
  have R0 := Lib.hid (sys_cells w al st (.slice a1 n1 c1) 25)
  have HC := Lib.hid hcell; clear hcell
  have HN := Lib.hid hn; clear hn
  have HOK := Lib.hid hok; clear hok
  clear h
  go_enter Tryd.func14, Tryd.ntmps14
  go_wp2
  go_loopw [7, 8] (fun o i wr => ∃ k : Nat, k ≤ n1 ∧ i = .int .i64 k ∧ o = .int .i64 (stepN (es.take k) s x : Nat) ∧ Below w.heap.size w wr ∧ wr.rowIs w.heap.size 25 3 (fun i => #[.int .i64 al, .int .i64 st, .slice a1 n1 c1][i]?.getD undef)) (fun _ i _ => n1 - (intOf i).toNat)
  case atStart => exact ⟨0, by omega, rfl, rfl, B0.out, R0.out⟩
  case round =>
    obtain ⟨k, hk, rfl, rfl, hbel, hrow⟩ := hrel
    have p0 : wr.cell? ⟨w.heap.size, 0, none⟩ = some (.int .i64 al) := hrow.cell (by decide)
    have p1 : wr.cell? ⟨w.heap.size, 1, none⟩ = some (.int .i64 st) := hrow.cell (by decide)
    have p2 : wr.cell? ⟨w.heap.size, 2, none⟩ = some (.slice a1 n1 c1) := hrow.cell (by decide)
    by_cases hlt : k < n1
    · rcases HC.out with h0 | ⟨b, off, rfl, hb, hc⟩
      · omega
      · have hu := hc k hlt
        rw [← cell_below hbel hb, ← cell_below hbel hb, ← cell_below hbel hb] at hu
        have hlt' : k < es.length := by rw [← HN.out]; exact hlt
        have htk := take_snoc_e es k hlt'
        have hek := HOK.out.at k hlt'
        have hol := stepN_take_lt HOK.out k s x
        obtain ⟨o, ho⟩ : ∃ o, stepN (es.take k) s x = o := ⟨_, rfl⟩
        obtain ⟨f, l, t, he⟩ : ∃ f l t, Edg.at es k = (f, l, t) := ⟨_, _, _, rfl⟩
        rw [he] at hu hek htk
        rw [ho] at hol
        obtain ⟨e0, e1, e2⟩ := hu
        dsimp only at e0 e1 e2 hek
        obtain ⟨⟨hf0, hf1⟩, ⟨hl0, hl1⟩, ht0, ht1⟩ := hek
        have hwt : IntKind.u64.wrap t = t := by rw [IntKind.wrap_u64]; omega
        have HOR := Lib.hid (or_w o t hol ht0 ht1)
        have HBEL := Lib.hid hbel
        have HROW := Lib.hid hrow
        have HTK := Lib.hid htk; clear htk
        have HO := Lib.hid ho; clear ho
        clear hc hbel hrow he hlt'
        rw [HO.out]
        by_cases hx : l = x
        · subst hx
          cases hh : hasB (s : Int) f with
          | true =>
            have HH := Lib.hid hh; clear hh
            have hst : stepN (es.take (k + 1)) s l = o ||| 2 ^ t.toNat := by rw [HTK.out, stepN_yes _ _ _ _ rfl HH.out, HO.out]
            have HST := Lib.hid hst; clear hst
            go_wp2_with (go_at_call 26; (with_reducible refine (agHas_any _ _ (by omega) (by omega) (by omega) (by omega) _).mono ?_); rintro e w' ⟨rfl, rfl⟩; rw [HH.out])
            go_roundw
            case rel => exact ⟨k + 1, by omega, by go_num, by rw [HST.out]; exact congrArg (Value.int .i64) HOR.out, HBEL.out, HROW.out⟩
            case measure => simp [intOf] <;> omega
          | false =>
            have HH := Lib.hid hh; clear hh
            have hst : stepN (es.take (k + 1)) s l = o := by rw [HTK.out, stepN_no _ _ _ _ (fun h => by have := h.2; rw [HH.out] at this; cases this), HO.out]
            have HST := Lib.hid hst; clear hst
            go_wp2_with (go_at_call 26; (with_reducible refine (agHas_any _ _ (by omega) (by omega) (by omega) (by omega) _).mono ?_); rintro e w' ⟨rfl, rfl⟩; rw [HH.out])
            go_roundw
            case rel => exact ⟨k + 1, by omega, by go_num, by rw [HST.out], HBEL.out, HROW.out⟩
            case measure => simp [intOf] <;> omega
        · have hst : stepN (es.take (k + 1)) s x = o := by rw [HTK.out, stepN_no _ _ _ _ (fun h => hx h.1), HO.out]
          have HST := Lib.hid hst; clear hst
          go_wp2
          go_roundw
          case rel => exact ⟨k + 1, by omega, by go_num, by rw [HST.out], HBEL.out, HROW.out⟩
          case measure => simp [intOf] <;> omega
    · have hall : es.take k = es := by
        obtain rfl : k = n1 := by omega
        rw [HN.out]; exact List.take_length
      have HALL := Lib.hid hall; clear hall
      go_wp2
      go_ret
      exact ⟨ret_int (by rw [HALL.out]), hbel⟩
/-- The box of the law's system, while a region draws its order. -/
theorem snoc_data (s r : ByteArray) (c : UInt8) (h : r.data.toList = [c]) : (s ++ r).data.toList = s.data.toList ++ [c] := by
  simp [h]
theorem aft_any (al st : Int) (es : List Edg) (l : List UInt8) (c : UInt8) (hl : l.length < 50000) (h : sysV al st es = false) : aftN al st es (l ++ [c]) = 0 := aftN_no _ _ _ _ h
theorem has_letters (al st : Int) (es : List Edg) (l : List UInt8) (k : Nat) (hk : k < 6) (hl : l.length < 50000) : decide (aftN al st es (l ++ [lb (k : Int)]) ≠ 0) = hasB ((letN es (aftN al st es l) : Nat) : Int) (k : Int) := by
  cases hv : sysV al st es with
  | false => rw [aftN_no _ _ _ _ hv, aftN_no _ _ _ _ hv, letN_zero, hasB_nat]; simp
  | true =>
    rw [aft_snoc _ _ _ _ _ hv hl, ltr_lb _ (by omega) (by omega), hasB_nat, letN_step es (sysV_ok hv)]
set_option maxHeartbeats 4000000 in
theorem fnLettersAfter_walk (a : Option Addr) (len cap : Nat) (zs : List Int) (w : World) (hT : Tab w) (hrow : IsRow w a len cap zs) : Calls Tryd.prog 8 #[.slice a len cap] w fun e w' => e = .returned (.bool true) ∧ Below w.heap.size w w' := by
  by_cases hl : 1048576 < len
  · have hl' : (1048576 : Int) < (len : Int) := by omega
    go_enter Tryd.func8, Tryd.ntmps8
    go_wp2
    go_ret
    exact ⟨rfl, Below.refl _ _⟩
  have hl' : (len : Int) ≤ 1048576 := by omega
  clear hl
  go_enter Tryd.func8, Tryd.ntmps8
  go_wp2_with fail
  refine (DrawLettersAfter_any a len cap zs w hrow).mono ?_
  rintro e w1 ⟨al, st, ad, n, c, es, s, rfl, hs, hev, hes, hb1⟩
  have hev1 := (hev 0 (Nat.zero_le _)).ev
  have hsz : s.size ≤ 9223372036854775807 := by omega
  clear hev hrow
  obtain ⟨x0, hx0⟩ : ∃ x0, w1.heap.size = x0 := ⟨_, rfl⟩
  obtain ⟨w2, hw2⟩ : ∃ w2, (w1.alloc (.cells #[.int .i64 al, .int .i64 st, .slice ad n c] 25)) = w2 := ⟨_, rfl⟩
  have hb2 := below_new' w1 25 #[.int .i64 al, .int .i64 st, .slice ad n c]
  have hx2 := sys_cells w1 al st (.slice ad n c) 25
  rw [hx0] at hx2
  rw [hw2] at hb2 hx2
  have B2 := Lib.hid (hb1.trans (hb2.mono hb1.size))
  have X2 := Lib.hid hx2
  have E2 := Lib.hid (hev1.below hb2)
  have T2 := Lib.hid ((hT.below hb1).below hb2)
  clear hb1 hb2 hx2 hev1 hT
  have c20 : w2.cell? ⟨x0, 0, none⟩ = some (.int .i64 al) := X2.out.cell (by decide)
  have c21 : w2.cell? ⟨x0, 1, none⟩ = some (.int .i64 st) := X2.out.cell (by decide)
  have c22 : w2.cell? ⟨x0, 2, none⟩ = some (.slice ad n c) := X2.out.cell (by decide)
  have hq64 := letN_small al st es s.data.toList
  obtain ⟨q, hq⟩ : ∃ q, letN es (aftN al st es s.data.toList) = q := ⟨_, rfl⟩
  have hit := implLetters_any al st ad n c es s hsz
  have hst := specLetters_any al st ad n c es s hsz
  rw [hq] at hit hst hq64
  have HIT := Lib.hid hit
  have HST := Lib.hid hst
  have HQ := Lib.hid hq; clear hq
  clear hit hst
  go_wp2_with fail
  refine (HIT.out w2 T2.out E2.out).mono ?_
  rintro e w3 ⟨rfl, hb3⟩
  have B3 := Lib.hid (B2.out.trans (hb3.mono B2.out.size))
  have X3 := Lib.hid (rowIs_below' X2.out hb3)
  have E3 := Lib.hid (E2.out.below hb3)
  have T3 := Lib.hid (T2.out.below hb3)
  clear c20 c21 c22 hb3
  have c30 : w3.cell? ⟨x0, 0, none⟩ = some (.int .i64 al) := X3.out.cell (by decide)
  have c31 : w3.cell? ⟨x0, 1, none⟩ = some (.int .i64 st) := X3.out.cell (by decide)
  have c32 : w3.cell? ⟨x0, 2, none⟩ = some (.slice ad n c) := X3.out.cell (by decide)
  go_wp2_with fail
  refine (HST.out w3 E3.out).mono ?_
  rintro e w4 ⟨rfl, hb4⟩
  have B4 := Lib.hid (B3.out.trans (hb4.mono B3.out.size))
  have X4 := Lib.hid (rowIs_below' X3.out hb4)
  have E4 := Lib.hid (E3.out.below hb4)
  have T4 := Lib.hid (T3.out.below hb4)
  clear c30 c31 c32 hb4
  have c40 : w4.cell? ⟨x0, 0, none⟩ = some (.int .i64 al) := X4.out.cell (by decide)
  have c41 : w4.cell? ⟨x0, 1, none⟩ = some (.int .i64 st) := X4.out.cell (by decide)
  have c42 : w4.cell? ⟨x0, 2, none⟩ = some (.slice ad n c) := X4.out.cell (by decide)
  by_cases h50 : 50000 ≤ s.size
  · have h50' : (50000 : Int) ≤ (s.size : Int) := by omega
    go_wp2_with fail
    refine (HST.out w4 E4.out).mono ?_
    rintro e w5 ⟨rfl, hb5⟩
    have B5 := Lib.hid (B4.out.trans (hb5.mono B4.out.size))
    have X5 := Lib.hid (rowIs_below' X4.out hb5)
    have E5 := Lib.hid (E4.out.below hb5)
    have T5 := Lib.hid (T4.out.below hb5)
    clear c40 c41 c42 hb5
    have c50 : w5.cell? ⟨x0, 0, none⟩ = some (.int .i64 al) := X5.out.cell (by decide)
    have c51 : w5.cell? ⟨x0, 1, none⟩ = some (.int .i64 st) := X5.out.cell (by decide)
    have c52 : w5.cell? ⟨x0, 2, none⟩ = some (.slice ad n c) := X5.out.cell (by decide)
    go_wp2
    go_ret
    exact ⟨rfl, B5.out⟩
  · have h50' : decide ((50000 : Int) ≤ (s.size : Int)) = false := by simp; omega
    have hsl : s.data.toList.length < 50000 := by rw [data_len]; omega
    have hss : s.size < 50000 := by omega
    have HSL := Lib.hid hsl; clear hsl
    have HSS := Lib.hid hss; clear hss
    clear h50
    go_wp2
    go_loopw [6] (fun i wr => ∃ k : Nat, i = .int .i64 k ∧ k ≤ 6 ∧ Below w.heap.size w wr ∧ wr.rowIs x0 25 3 (fun i => #[.int .i64 al, .int .i64 st, .slice ad n c][i]?.getD undef) ∧ EV wr (.slice ad n c) es ∧ Tab wr) (fun i _ => 6 - (intOf i).toNat)
    case atStart => exact ⟨0, rfl, Nat.zero_le _, B4.out, X4.out, E4.out, T4.out⟩
    case round =>
      obtain ⟨k, rfl, hk, hbel, hrowx, hee, htt⟩ := hrel
      have d0 : wr.cell? ⟨x0, 0, none⟩ = some (.int .i64 al) := hrowx.cell (by decide)
      have d1 : wr.cell? ⟨x0, 1, none⟩ = some (.int .i64 st) := hrowx.cell (by decide)
      have d2 : wr.cell? ⟨x0, 2, none⟩ = some (.slice ad n c) := hrowx.cell (by decide)
      have HB := Lib.hid hbel
      have HX := Lib.hid hrowx
      have HE := Lib.hid hee
      have HT := Lib.hid htt
      clear hbel hrowx hee htt c40 c41 c42
      by_cases hlt : k < 6
      · have hlt' : (k : Int) < 6 := by omega
        have hhas := has_letters al st es s.data.toList k hlt HSL.out
        rw [HQ.out] at hhas
        obtain ⟨b, hb⟩ : ∃ b, hasB (q : Int) (k : Int) = b := ⟨_, rfl⟩
        rw [hb] at hhas
        have HHAS := Lib.hid hhas
        have HAG := Lib.hid (fun wq => hb ▸ agHas_any (q : Int) (k : Int) (by omega) (by omega) (by omega) (by omega) wq)
        clear hhas hb
        go_wp2_with fail
        refine wp_region_held_drew (S := fun w' => Below wr.heap.size wr w' ∧ w'.cell? ⟨x0, 0, none⟩ = some (.int .i64 al) ∧ w'.cell? ⟨x0, 1, none⟩ = some (.int .i64 st) ∧ w'.cell? ⟨x0, 2, none⟩ = some (.slice ad n c)) (by kernel_rfl) ⟨(Below.refl _ _).drew, d0, d1, d2⟩ (fun hHeld => ?_)
        first | (refine wpAnyH_take (i := 0) (get_of_drop' rfl) (by kernel_rfl) (by kernel_rfl) (by kernel_rfl) (fun _ _ _ h => h) (Or.inr ⟨?_, rfl⟩) hHeld ?_; (focus (simp [Region.wanted, yielded, undef]; done)); (try simp only [Act.put, List.setIfInBounds_toArray, List.set_cons_zero, List.set_cons_succ])) | (refine wpAnyH_take (i := 0) (v := ?_) (get_of_drop' rfl) (by kernel_rfl) (by kernel_rfl) (by kernel_rfl) (fun _ _ _ h => h) (Or.inl ⟨?_, ?_⟩) hHeld ?_; rotate_left; (focus rfl); (focus (intro w hSw; (try dsimp only at hSw); go_simp; (try (with_reducible rfl)))); (try simp only [Act.put, List.setIfInBounds_toArray, List.set_cons_zero, List.set_cons_succ]))
        first | (refine wpAnyH_take (i := 1) (get_of_drop' rfl) (by kernel_rfl) (by kernel_rfl) (by kernel_rfl) (fun _ _ _ h => h) (Or.inr ⟨?_, rfl⟩) hHeld ?_; (focus (simp [Region.wanted, yielded, undef]; done)); (try simp only [Act.put, List.setIfInBounds_toArray, List.set_cons_zero, List.set_cons_succ])) | (refine wpAnyH_take (i := 1) (v := ?_) (get_of_drop' rfl) (by kernel_rfl) (by kernel_rfl) (by kernel_rfl) (fun _ _ _ h => h) (Or.inl ⟨?_, ?_⟩) hHeld ?_; rotate_left; (focus rfl); (focus (intro w hSw; (try dsimp only at hSw); go_simp; (try (with_reducible rfl)))); (try simp only [Act.put, List.setIfInBounds_toArray, List.set_cons_zero, List.set_cons_succ]))
        first | (refine wpAnyH_take (i := 2) (get_of_drop' rfl) (by kernel_rfl) (by kernel_rfl) (by kernel_rfl) (fun _ _ _ h => h) (Or.inr ⟨?_, rfl⟩) hHeld ?_; (focus (simp [Region.wanted, yielded, undef]; done)); (try simp only [Act.put, List.setIfInBounds_toArray, List.set_cons_zero, List.set_cons_succ])) | (refine wpAnyH_take (i := 2) (v := ?_) (get_of_drop' rfl) (by kernel_rfl) (by kernel_rfl) (by kernel_rfl) (fun _ _ _ h => h) (Or.inl ⟨?_, ?_⟩) hHeld ?_; rotate_left; (focus rfl); (focus (intro w hSw; (try dsimp only at hSw); go_simp; (try (with_reducible rfl)))); (try simp only [Act.put, List.setIfInBounds_toArray, List.set_cons_zero, List.set_cons_succ]))
        first | (refine wpAnyH_take (i := 6) (get_of_drop' rfl) (by kernel_rfl) (by kernel_rfl) (by kernel_rfl) (fun _ _ _ h => h) (Or.inr ⟨?_, rfl⟩) hHeld ?_; (focus (simp [Region.wanted, yielded, undef]; done)); (try simp only [Act.put, List.setIfInBounds_toArray, List.set_cons_zero, List.set_cons_succ])) | (refine wpAnyH_take (i := 6) (v := ?_) (get_of_drop' rfl) (by kernel_rfl) (by kernel_rfl) (by kernel_rfl) (fun _ _ _ h => h) (Or.inl ⟨?_, ?_⟩) hHeld ?_; rotate_left; (focus rfl); (focus (intro w hSw; (try dsimp only at hSw); go_simp; (try (with_reducible rfl)))); (try simp only [Act.put, List.setIfInBounds_toArray, List.set_cons_zero, List.set_cons_succ]))
        first | (refine wpAnyH_take (i := 7) (get_of_drop' rfl) (by kernel_rfl) (by kernel_rfl) (by kernel_rfl) (fun _ _ _ h => h) (Or.inr ⟨?_, rfl⟩) hHeld ?_; (focus (simp [Region.wanted, yielded, undef]; done)); (try simp only [Act.put, List.setIfInBounds_toArray, List.set_cons_zero, List.set_cons_succ])) | (refine wpAnyH_take (i := 7) (v := ?_) (get_of_drop' rfl) (by kernel_rfl) (by kernel_rfl) (by kernel_rfl) (fun _ _ _ h => h) (Or.inl ⟨?_, ?_⟩) hHeld ?_; rotate_left; (focus rfl); (focus (intro w hSw; (try dsimp only at hSw); go_simp; (try (with_reducible rfl)))); (try simp only [Act.put, List.setIfInBounds_toArray, List.set_cons_zero, List.set_cons_succ]))
        refine wpAnyH_ready (rs := [3]) (by kernel_rfl) (by simp) ?_
        refine AllReadyH.cons (get_of_drop' rfl) (fun K hK => ?_) AllReadyH.nil
        go_simp
        go_at_call 22
        refine (agLetter_any (k : Int) (by omega) (by omega) _).mono ?_
        rintro e w5 ⟨r, rfl, hrd, hb5⟩
        have hr1 := size_of hrd
        have hsz2 : ¬ 9223372036854775807 < s.size + r.size := by rw [hr1]; have := HSS.out; simp; omega
        have hsz3 : (s ++ r).size ≤ 9223372036854775807 := by rw [append_size]; have := HSS.out; rw [hr1]; simp; omega
        have hi2 := implTrace_any al st ad n c es (s ++ r) hsz3
        rw [snoc_data s r _ hrd, HHAS.out] at hi2
        have HI2 := Lib.hid hi2
        have hbw5 : Below wr.heap.size wr w5 := ((Below.refl wr.heap.size wr).drew).trans hb5
        have HE5 := Lib.hid (HE.out.below hbw5)
        have HT5 := Lib.hid (HT.out.below hbw5)
        clear hi2 hrd hr1 hsz3
        go_wp2_with fail
        refine hK.out _ _ ?_ (fun hHeld => ?_)
        · (go_split_ands; refine ⟨below_step ?_ hb5, keep_cell hb5 ?_, keep_cell hb5 ?_, keep_cell hb5 ?_⟩ <;> assumption)
        clear hK K
        try simp only [Act.put, List.setIfInBounds_toArray, List.set_cons_zero, List.set_cons_succ]
        first | (refine wpAnyH_take (i := 4) (get_of_drop' rfl) (by kernel_rfl) (by kernel_rfl) (by kernel_rfl) (fun _ _ _ h => h) (Or.inr ⟨?_, rfl⟩) hHeld ?_; (focus (simp [Region.wanted, yielded, undef]; done)); (try simp only [Act.put, List.setIfInBounds_toArray, List.set_cons_zero, List.set_cons_succ])) | (refine wpAnyH_take (i := 4) (v := ?_) (get_of_drop' rfl) (by kernel_rfl) (by kernel_rfl) (by kernel_rfl) (fun _ _ _ h => h) (Or.inl ⟨?_, ?_⟩) hHeld ?_; rotate_left; (focus rfl); (focus (intro w hSw; (try dsimp only at hSw); go_simp; (try (with_reducible rfl)))); (try simp only [Act.put, List.setIfInBounds_toArray, List.set_cons_zero, List.set_cons_succ]))
        refine wpAnyH_ready (rs := [5]) (by kernel_rfl) (by simp) ?_
        refine AllReadyH.cons (get_of_drop' rfl) (fun K hK => ?_) AllReadyH.nil
        go_simp
        go_at_call 19
        refine (HI2.out w5 HT5.out HE5.out).mono ?_
        rintro e w6 ⟨rfl, hb6⟩
        go_wp2_with fail
        refine hK.out _ _ ?_ (fun hHeld => ?_)
        · (go_split_ands; refine ⟨below_step ?_ hb6, keep_cell hb6 ?_, keep_cell hb6 ?_, keep_cell hb6 ?_⟩ <;> assumption)
        clear hK K
        try simp only [Act.put, List.setIfInBounds_toArray, List.set_cons_zero, List.set_cons_succ]
        refine wpAnyH_ready (rs := [8]) (by kernel_rfl) (by simp) ?_
        refine AllReadyH.cons (get_of_drop' rfl) (fun K hK => ?_) AllReadyH.nil
        go_simp
        go_at_call 26
        refine (HAG.out w6).mono ?_
        rintro e w7 ⟨rfl, rfl⟩
        have HBX := Lib.hid (hbw5.trans (hb6.mono hbw5.size))
        go_wp2_with fail
        refine hK.out _ _ ?_ (fun hHeld => ?_)
        · (go_split_ands; refine ⟨?_, ?_, ?_, ?_⟩ <;> assumption)
        clear hK K
        try simp only [Act.put, List.setIfInBounds_toArray, List.set_cons_zero, List.set_cons_succ]
        first | (refine wpAnyH_take (i := 9) (get_of_drop' rfl) (by kernel_rfl) (by kernel_rfl) (by kernel_rfl) (fun _ _ _ h => h) (Or.inr ⟨?_, rfl⟩) hHeld ?_; (focus (simp [Region.wanted, yielded, undef]; done)); (try simp only [Act.put, List.setIfInBounds_toArray, List.set_cons_zero, List.set_cons_succ])) | (refine wpAnyH_take (i := 9) (v := ?_) (get_of_drop' rfl) (by kernel_rfl) (by kernel_rfl) (by kernel_rfl) (fun _ _ _ h => h) (Or.inl ⟨?_, ?_⟩) hHeld ?_; rotate_left; (focus rfl); (focus (intro w hSw; (try dsimp only at hSw); go_simp; (try (with_reducible rfl)))); (try simp only [Act.put, List.setIfInBounds_toArray, List.set_cons_zero, List.set_cons_succ]))
        refine wpAnyH_done (by kernel_rfl) ?_ _
        clear hHeld hb5 hb6 hbw5
        go_wp2
        go_roundw
        case rel => exact ⟨k + 1, by go_num, by omega, HB.out.trans (HBX.out.mono HB.out.size), rowIs_below' HX.out HBX.out, HE.out.below HBX.out, HT.out.below HBX.out⟩
        case measure => simp [intOf] <;> omega
      · have hq0 : (0 : Int) ≤ (q : Int) := by omega
        have hq63 : (q : Int) ≤ 63 := by omega
        go_wp2
        go_ret
        exact ⟨rfl, HB.out⟩
end Go.Proofs.YtbmhokbgkgfibaaDoor
