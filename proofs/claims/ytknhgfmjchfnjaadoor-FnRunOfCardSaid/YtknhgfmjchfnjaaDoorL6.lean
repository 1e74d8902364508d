/- The walk of the law RunBegins. -/
import Derived.Test.YtknhgfmjchfnjaaDoorL2
import Derived.Test.YtknhgfmjchfnjaaDoorL1
import Derived.Test.YtknhgfmjchfnjaaDoorSDraw4
import Derived.Test.YtknhgfmjchfnjaaDoorSysRunI
import Derived.Test.YtknhgfmjchfnjaaDoorAgInts


namespace Go.Proofs.YtknhgfmjchfnjaaDoor
open Go.RowKit
set_option linter.unusedVariables false
set_option linter.unusedSimpArgs false
set_option maxRecDepth 100000
theorem runP_len {al st : Int} {es : List Edg} {l : List UInt8} {xs : List Int} {b : Bool} (h : runP al st es l xs b) : xs.length ≤ 50001 := by
  unfold runP at h
  split at h
  · rename_i h0
    obtain ⟨T, -, -, -, -, -, -, -, -, -, hl⟩ := aft_facts h0
    rw [h.1, runL_len]
    omega
  · rw [h.1]; simp
theorem runP_yes {al st : Int} {es : List Edg} {l : List UInt8} {xs : List Int} (h : runP al st es l xs true) : aftN al st es l ≠ 0 ∧ xs = runL es st.toNat l := by
  unfold runP at h
  split at h
  · rename_i h0
    exact ⟨h0, h.1⟩
  · cases h.2
theorem runP_tr {al st : Int} {es : List Edg} {l : List UInt8} {xs : List Int} {b : Bool} (h : runP al st es l xs b) : decide (aftN al st es l ≠ 0) = b := by
  unfold runP at h
  split at h
  · rename_i h0
    rw [h.2]; simpa using h0
  · rename_i h0
    rw [h.2]; simpa using h0
set_option maxHeartbeats 4000000 in
theorem fnRunBegins_walk (a : Option Addr) (len cap : Nat) (zs : List Int) (w : World) (hT : Tab w) (hrow : IsRow w a len cap zs) : Calls Tryd.prog 8 #[.slice a len cap] w fun e w' => e = .returned (.bool true) ∧ Below w.heap.size w w' := by
  by_cases hl : 1048576 < len
  · have hl' : (1048576 : Int) < (len : Int) := by omega
    go_enter Tryd.func8, Tryd.ntmps8
    go_wp2
    go_ret
    exact ⟨rfl, Below.refl _ _⟩
  have hl' : (len : Int) ≤ 1048576 := by omega
  clear hl
  go_enter Tryd.func8, Tryd.ntmps8
  go_wp2_with fail
  refine (DrawRunOf_any a len cap zs w hrow).mono ?_
  rintro e w1 ⟨al, st, ad, n, c, es, s, rfl, hs, hev, hes, hb1⟩
  have hev1 := (hev 0 (Nat.zero_le _)).ev
  have hsz : s.size ≤ 9223372036854775807 := by omega
  clear hev hrow
  obtain ⟨x0, hx0⟩ : ∃ x0, w1.heap.size = x0 := ⟨_, rfl⟩
  obtain ⟨w2, hw2⟩ : ∃ w2, (w1.alloc (.cells #[.int .i64 al, .int .i64 st, .slice ad n c] 25)) = w2 := ⟨_, rfl⟩
  have hb2 := below_new' w1 25 #[.int .i64 al, .int .i64 st, .slice ad n c]
  have hx2 := sys_cells w1 al st (.slice ad n c) 25
  rw [hx0] at hx2
  rw [hw2] at hb2 hx2
  have B2 := Lib.hid (hb1.trans (hb2.mono hb1.size))
  have X2 := Lib.hid hx2
  have E2 := Lib.hid (hev1.below hb2)
  have T2 := Lib.hid ((hT.below hb1).below hb2)
  clear hb1 hb2 hx2 hev1 hT
  have c20 : w2.cell? ⟨x0, 0, none⟩ = some (.int .i64 al) := X2.out.cell (by decide)
  have c21 : w2.cell? ⟨x0, 1, none⟩ = some (.int .i64 st) := X2.out.cell (by decide)
  have c22 : w2.cell? ⟨x0, 2, none⟩ = some (.slice ad n c) := X2.out.cell (by decide)
  go_wp2_with fail
  refine (implRun_any al st ad n c es s hsz w2 T2.out E2.out).mono ?_
  rintro e w3 ⟨a2, n2, cc2, xs, b, gb, rfl, hgb, hgg, hb3, hrp⟩
  have hxl := runP_len hrp
  have G3 := Lib.hid hgg
  have HRP := Lib.hid hrp; clear hrp
  clear hgb hgg
  have B3 := Lib.hid (B2.out.trans (hb3.mono B2.out.size))
  have X3 := Lib.hid (rowIs_below' X2.out hb3)
  have E3 := Lib.hid (E2.out.below hb3)
  have T3 := Lib.hid (T2.out.below hb3)
  clear c20 c21 c22 hb3
  have c30 : w3.cell? ⟨x0, 0, none⟩ = some (.int .i64 al) := X3.out.cell (by decide)
  have c31 : w3.cell? ⟨x0, 1, none⟩ = some (.int .i64 st) := X3.out.cell (by decide)
  have c32 : w3.cell? ⟨x0, 2, none⟩ = some (.slice ad n c) := X3.out.cell (by decide)
  go_wp2_with fail
  refine (specRun_any al st ad n c es s hsz w3 E3.out).mono ?_
  rintro e w4 ⟨a3, n3, cc3, xs3, b3, ob, rfl, hob, hog, hb4, hrp2⟩
  obtain ⟨rfl, rfl⟩ := runP_unique HRP.out hrp2
  have G4 := Lib.hid (G3.out.below hb4)
  have O4 := Lib.hid hog
  clear hog hrp2 hob
  have B4 := Lib.hid (B3.out.trans (hb4.mono B3.out.size))
  have X4 := Lib.hid (rowIs_below' X3.out hb4)
  have E4 := Lib.hid (E3.out.below hb4)
  have T4 := Lib.hid (T3.out.below hb4)
  clear c30 c31 c32 hb4
  have c40 : w4.cell? ⟨x0, 0, none⟩ = some (.int .i64 al) := X4.out.cell (by decide)
  have c41 : w4.cell? ⟨x0, 1, none⟩ = some (.int .i64 st) := X4.out.cell (by decide)
  have c42 : w4.cell? ⟨x0, 2, none⟩ = some (.slice ad n c) := X4.out.cell (by decide)
  have hbb : (b != b) = false := by cases b <;> rfl
  have hbe : (b == b) = true := by cases b <;> rfl
  go_wp2_with fail
  refine (agInts_same a2 n2 cc2 a3 n3 cc3 xs _ G4.out.view O4.out.view).mono ?_
  rintro e w5 hq5
  obtain ⟨rfl, hb5⟩ := hq5.below
  have G5 := Lib.hid (G4.out.below hb5)
  have O5 := Lib.hid (O4.out.below hb5)
  clear hq5
  have B5 := Lib.hid (B4.out.trans (hb5.mono B4.out.size))
  have X5 := Lib.hid (rowIs_below' X4.out hb5)
  have E5 := Lib.hid (E4.out.below hb5)
  have T5 := Lib.hid (T4.out.below hb5)
  clear c40 c41 c42 hb5
  have c50 : w5.cell? ⟨x0, 0, none⟩ = some (.int .i64 al) := X5.out.cell (by decide)
  have c51 : w5.cell? ⟨x0, 1, none⟩ = some (.int .i64 st) := X5.out.cell (by decide)
  have c52 : w5.cell? ⟨x0, 2, none⟩ = some (.slice ad n c) := X5.out.cell (by decide)
  cases b with
  | false =>
    clear hbb hbe
    go_wp2_with fail
    refine (agInts_same a2 n2 cc2 a3 n3 cc3 xs _ G5.out.view O5.out.view).mono ?_
    rintro e w6 hq6
    obtain ⟨rfl, hb6⟩ := hq6.below
    have G6 := Lib.hid (G5.out.below hb6)
    have O6 := Lib.hid (O5.out.below hb6)
    clear hq6
    have B6 := Lib.hid (B5.out.trans (hb6.mono B5.out.size))
    have X6 := Lib.hid (rowIs_below' X5.out hb6)
    have E6 := Lib.hid (E5.out.below hb6)
    have T6 := Lib.hid (T5.out.below hb6)
    clear c50 c51 c52 hb6
    have c60 : w6.cell? ⟨x0, 0, none⟩ = some (.int .i64 al) := X6.out.cell (by decide)
    have c61 : w6.cell? ⟨x0, 1, none⟩ = some (.int .i64 st) := X6.out.cell (by decide)
    have c62 : w6.cell? ⟨x0, 2, none⟩ = some (.slice ad n c) := X6.out.cell (by decide)
    go_wp2
    go_ret
    exact ⟨rfl, B6.out⟩
  | true =>
    by_cases hs0 : s.size = 0
    · have hs0' : ((s.size : Int) == 0) = true := by rw [hs0]; rfl
      go_wp2_with fail
      refine (agInts_same a2 n2 cc2 a3 n3 cc3 xs _ G5.out.view O5.out.view).mono ?_
      rintro e w6 hq6
      obtain ⟨rfl, hb6⟩ := hq6.below
      have G6 := Lib.hid (G5.out.below hb6)
      have O6 := Lib.hid (O5.out.below hb6)
      clear hq6
      have B6 := Lib.hid (B5.out.trans (hb6.mono B5.out.size))
      have X6 := Lib.hid (rowIs_below' X5.out hb6)
      have E6 := Lib.hid (E5.out.below hb6)
      have T6 := Lib.hid (T5.out.below hb6)
      clear c50 c51 c52 hb6
      have c60 : w6.cell? ⟨x0, 0, none⟩ = some (.int .i64 al) := X6.out.cell (by decide)
      have c61 : w6.cell? ⟨x0, 1, none⟩ = some (.int .i64 st) := X6.out.cell (by decide)
      have c62 : w6.cell? ⟨x0, 2, none⟩ = some (.slice ad n c) := X6.out.cell (by decide)
      go_wp2
      go_ret
      exact ⟨rfl, B6.out⟩
    · have hs0' : ((s.size : Int) == 0) = false := by rw [beq_eq_false_iff_ne]; omega
      by_cases h100 : 100 < s.size
      · have h100' : decide ((100 : Int) < (s.size : Int)) = true := by simp; omega
        go_wp2_with fail
        refine (agInts_same a2 n2 cc2 a3 n3 cc3 xs _ G5.out.view O5.out.view).mono ?_
        rintro e w6 hq6
        obtain ⟨rfl, hb6⟩ := hq6.below
        have G6 := Lib.hid (G5.out.below hb6)
        have O6 := Lib.hid (O5.out.below hb6)
        clear hq6
        have B6 := Lib.hid (B5.out.trans (hb6.mono B5.out.size))
        have X6 := Lib.hid (rowIs_below' X5.out hb6)
        have E6 := Lib.hid (E5.out.below hb6)
        have T6 := Lib.hid (T5.out.below hb6)
        clear c50 c51 c52 hb6
        have c60 : w6.cell? ⟨x0, 0, none⟩ = some (.int .i64 al) := X6.out.cell (by decide)
        have c61 : w6.cell? ⟨x0, 1, none⟩ = some (.int .i64 st) := X6.out.cell (by decide)
        have c62 : w6.cell? ⟨x0, 2, none⟩ = some (.slice ad n c) := X6.out.cell (by decide)
        go_wp2
        go_ret
        exact ⟨rfl, B6.out⟩
      · have h100' : decide ((100 : Int) < (s.size : Int)) = false := by simp; omega
        obtain ⟨hne, hxs⟩ := runP_yes HRP.out
        have hpre := aft_prefix al st es _ (s.size - 1) hne
        obtain ⟨T, rfl, hT1, hT16, hok, hf, ht, hrn, hv, hwi, hlen⟩ := aft_facts hne
        rw [Int.toNat_natCast] at hxs
        obtain ⟨m, hm⟩ : ∃ m, s.size - 1 = m := ⟨_, rfl⟩
        have hcast : (s.size : Int) - 1 = (m : Int) := by omega
        have hwm : IntKind.i64.wrap ((s.size : Int) - 1) = (m : Int) := by rw [IntKind.wrap_i64]; omega
        have hms' : (m : Int) ≤ (s.size : Int) := by omega
        have hms1 : m + 1 = s.size := by omega
        have HMS := Lib.hid hms1; clear hms1
        have hms : m ≤ s.size := by omega
        rw [hm, ← extract_take] at hpre
        obtain ⟨t, ht2⟩ : ∃ t, s.extract 0 m = t := ⟨_, rfl⟩
        have hts : t.size = m := by rw [← ht2]; simp; omega
        have htl : t.data.toList = s.data.toList.take m := by rw [← ht2, extract_take]
        have hru := implRun_any al (T : Int) ad n c es t (by omega)
        have hless := fun k (hk : k ≤ m) (hs : ∀ j, j < k → runS es T (s.data.toList.take m) j = runS es T s.data.toList j) => runS_first hok hT16 hf ht s.data.toList hrn hT1 m (by rw [data_len]; omega) k hk hs
        rw [ht2] at hpre
        have hrx : ∀ ys c, runP al (T : Int) es t.data.toList ys c → ys = runL es T t.data.toList ∧ c = true := fun ys c h => by
          unfold runP at h
          rw [if_pos hpre, Int.toNat_natCast] at h
          exact h
        have HRX := Lib.hid hrx
        have HRU := Lib.hid hru
        have HLESS := Lib.hid hless
        have HTL := Lib.hid htl
        have HXS := Lib.hid hxs
        have hlen3 : n2 = s.size + 1 := by have := G5.out.at.1; rw [this, HXS.out, runL_len, data_len]
        have HCAST := Lib.hid hcast; clear hcast
        clear hne hpre hok hf ht hrn hv hwi hlen hru hless htl hxs hrx HRP h100 hs0 hbe
        go_wp2_with fail
        refine wp_region_held_drew (S := fun w' => w'.cell? ⟨x0, 0, none⟩ = some (.int .i64 al) ∧ w'.cell? ⟨x0, 1, none⟩ = some (.int .i64 (T : Int)) ∧ w'.cell? ⟨x0, 2, none⟩ = some (.slice ad n c)) (by kernel_rfl) ⟨c50, c51, c52⟩ (fun hHeld => ?_)
        first | (refine wpAnyH_take (i := 0) (get_of_drop' rfl) (by kernel_rfl) (by kernel_rfl) (by kernel_rfl) (fun _ _ _ h => h) (Or.inr ⟨?_, rfl⟩) hHeld ?_; (focus (simp [Region.wanted, yielded, undef]; done)); (try simp only [Act.put, List.setIfInBounds_toArray, List.set_cons_zero, List.set_cons_succ])) | (refine wpAnyH_take (i := 0) (v := ?_) (get_of_drop' rfl) (by kernel_rfl) (by kernel_rfl) (by kernel_rfl) (fun _ _ _ h => h) (Or.inl ⟨?_, ?_⟩) hHeld ?_; rotate_left; (focus rfl); (focus (intro w hSw; (try dsimp only at hSw); go_simp; (try (with_reducible rfl)))); (try simp only [Act.put, List.setIfInBounds_toArray, List.set_cons_zero, List.set_cons_succ]))
        first | (refine wpAnyH_take (i := 1) (get_of_drop' rfl) (by kernel_rfl) (by kernel_rfl) (by kernel_rfl) (fun _ _ _ h => h) (Or.inr ⟨?_, rfl⟩) hHeld ?_; (focus (simp [Region.wanted, yielded, undef]; done)); (try simp only [Act.put, List.setIfInBounds_toArray, List.set_cons_zero, List.set_cons_succ])) | (refine wpAnyH_take (i := 1) (v := ?_) (get_of_drop' rfl) (by kernel_rfl) (by kernel_rfl) (by kernel_rfl) (fun _ _ _ h => h) (Or.inl ⟨?_, ?_⟩) hHeld ?_; rotate_left; (focus rfl); (focus (intro w hSw; (try dsimp only at hSw); go_simp; (try (with_reducible rfl)))); (try simp only [Act.put, List.setIfInBounds_toArray, List.set_cons_zero, List.set_cons_succ]))
        first | (refine wpAnyH_take (i := 2) (get_of_drop' rfl) (by kernel_rfl) (by kernel_rfl) (by kernel_rfl) (fun _ _ _ h => h) (Or.inr ⟨?_, rfl⟩) hHeld ?_; (focus (simp [Region.wanted, yielded, undef]; done)); (try simp only [Act.put, List.setIfInBounds_toArray, List.set_cons_zero, List.set_cons_succ])) | (refine wpAnyH_take (i := 2) (v := ?_) (get_of_drop' rfl) (by kernel_rfl) (by kernel_rfl) (by kernel_rfl) (fun _ _ _ h => h) (Or.inl ⟨?_, ?_⟩) hHeld ?_; rotate_left; (focus rfl); (focus (intro w hSw; (try dsimp only at hSw); go_simp; (try (with_reducible rfl)))); (try simp only [Act.put, List.setIfInBounds_toArray, List.set_cons_zero, List.set_cons_succ]))
        first | (refine wpAnyH_take (i := 3) (get_of_drop' rfl) (by kernel_rfl) (by kernel_rfl) (by kernel_rfl) (fun _ _ _ h => h) (Or.inr ⟨?_, rfl⟩) hHeld ?_; (focus (simp [Region.wanted, yielded, undef]; done)); (try simp only [Act.put, List.setIfInBounds_toArray, List.set_cons_zero, List.set_cons_succ])) | (refine wpAnyH_take (i := 3) (v := ?_) (get_of_drop' rfl) (by kernel_rfl) (by kernel_rfl) (by kernel_rfl) (fun _ _ _ h => h) (Or.inl ⟨?_, ?_⟩) hHeld ?_; rotate_left; (focus rfl); (focus (intro w hSw; (try dsimp only at hSw); go_simp; (try (with_reducible rfl)))); (try simp only [Act.put, List.setIfInBounds_toArray, List.set_cons_zero, List.set_cons_succ]))
        first | (refine wpAnyH_take (i := 4) (get_of_drop' rfl) (by kernel_rfl) (by kernel_rfl) (by kernel_rfl) (fun _ _ _ h => h) (Or.inr ⟨?_, rfl⟩) hHeld ?_; (focus (simp [Region.wanted, yielded, undef]; done)); (try simp only [Act.put, List.setIfInBounds_toArray, List.set_cons_zero, List.set_cons_succ])) | (refine wpAnyH_take (i := 4) (v := ?_) (get_of_drop' rfl) (by kernel_rfl) (by kernel_rfl) (by kernel_rfl) (fun _ _ _ h => h) (Or.inl ⟨?_, ?_⟩) hHeld ?_; rotate_left; (focus rfl); (focus (intro w hSw; (try dsimp only at hSw); go_simp; (try (with_reducible rfl)))); (try simp only [Act.put, List.setIfInBounds_toArray, List.set_cons_zero, List.set_cons_succ]))
        first | (refine wpAnyH_take (i := 5) (get_of_drop' rfl) (by kernel_rfl) (by kernel_rfl) (by kernel_rfl) (fun _ _ _ h => h) (Or.inr ⟨?_, rfl⟩) hHeld ?_; (focus (simp [Region.wanted, yielded, undef]; done)); (try simp only [Act.put, List.setIfInBounds_toArray, List.set_cons_zero, List.set_cons_succ])) | (refine wpAnyH_take (i := 5) (v := ?_) (get_of_drop' rfl) (by kernel_rfl) (by kernel_rfl) (by kernel_rfl) (fun _ _ _ h => h) (Or.inl ⟨?_, ?_⟩) hHeld ?_; rotate_left; (focus rfl); (focus (intro w hSw; (try dsimp only at hSw); go_simp; (try (with_reducible rfl)))); (try simp only [Act.put, List.setIfInBounds_toArray, List.set_cons_zero, List.set_cons_succ]))
        refine wpAnyH_ready (rs := [6]) (by kernel_rfl) (by simp) ?_
        refine AllReadyH.cons (get_of_drop' rfl) (fun K hK => ?_) AllReadyH.nil
        go_simp
        go_at_call 28
        refine (HRU.out _ T5.out.drew (EV.drew E5.out)).mono ?_
        rintro e w6 ⟨a4, n4, cc4, xs4, b4, gb4, rfl, hgb4, hgg4, hb6', hrp4⟩
        obtain ⟨rfl, rfl⟩ := HRX.out _ _ hrp4
        have hb6 := ((Below.refl w5.heap.size w5).drew).trans hb6'
        have hn4 : n4 = m + 1 := by have := hgg4.at.1; rw [this, runL_len, data_len, hts]
        have V6 := Lib.hid hgg4
        have G6 := Lib.hid (G5.out.below hb6)
        have B6 := Lib.hid (B5.out.trans (hb6.mono B5.out.size))
        have X6 := Lib.hid (rowIs_below' X5.out hb6)
        clear hb6' hb6 hgg4 hgb4 hrp4 c50 c51 c52
        have c60 : w6.cell? ⟨x0, 0, none⟩ = some (.int .i64 al) := X6.out.cell (by decide)
        have c61 : w6.cell? ⟨x0, 1, none⟩ = some (.int .i64 (T : Int)) := X6.out.cell (by decide)
        have c62 : w6.cell? ⟨x0, 2, none⟩ = some (.slice ad n c) := X6.out.cell (by decide)
        go_wp2_with fail
        refine hK.out _ _ (And.intro c60 (And.intro c61 c62)) (fun hHeld => ?_)
        clear hK K
        try simp only [Act.put, List.setIfInBounds_toArray, List.set_cons_zero, List.set_cons_succ]
        first | (refine wpAnyH_take (i := 7) (get_of_drop' rfl) (by kernel_rfl) (by kernel_rfl) (by kernel_rfl) (fun _ _ _ h => h) (Or.inr ⟨?_, rfl⟩) hHeld ?_; (focus (simp [Region.wanted, yielded, undef]; done)); (try simp only [Act.put, List.setIfInBounds_toArray, List.set_cons_zero, List.set_cons_succ])) | (refine wpAnyH_take (i := 7) (v := ?_) (get_of_drop' rfl) (by kernel_rfl) (by kernel_rfl) (by kernel_rfl) (fun _ _ _ h => h) (Or.inl ⟨?_, ?_⟩) hHeld ?_; rotate_left; (focus rfl); (focus (intro w hSw; (try dsimp only at hSw); go_simp; (try (with_reducible rfl)))); (try simp only [Act.put, List.setIfInBounds_toArray, List.set_cons_zero, List.set_cons_succ]))
        first | (refine wpAnyH_take (i := 8) (get_of_drop' rfl) (by kernel_rfl) (by kernel_rfl) (by kernel_rfl) (fun _ _ _ h => h) (Or.inr ⟨?_, rfl⟩) hHeld ?_; (focus (simp [Region.wanted, yielded, undef]; done)); (try simp only [Act.put, List.setIfInBounds_toArray, List.set_cons_zero, List.set_cons_succ])) | (refine wpAnyH_take (i := 8) (v := ?_) (get_of_drop' rfl) (by kernel_rfl) (by kernel_rfl) (by kernel_rfl) (fun _ _ _ h => h) (Or.inl ⟨?_, ?_⟩) hHeld ?_; rotate_left; (focus rfl); (focus (intro w hSw; (try dsimp only at hSw); go_simp; (try (with_reducible rfl)))); (try simp only [Act.put, List.setIfInBounds_toArray, List.set_cons_zero, List.set_cons_succ]))
        first | (refine wpAnyH_take (i := 9) (get_of_drop' rfl) (by kernel_rfl) (by kernel_rfl) (by kernel_rfl) (fun _ _ _ h => h) (Or.inr ⟨?_, rfl⟩) hHeld ?_; (focus (simp [Region.wanted, yielded, undef]; done)); (try simp only [Act.put, List.setIfInBounds_toArray, List.set_cons_zero, List.set_cons_succ])) | (refine wpAnyH_take (i := 9) (v := ?_) (get_of_drop' rfl) (by kernel_rfl) (by kernel_rfl) (by kernel_rfl) (fun _ _ _ h => h) (Or.inl ⟨?_, ?_⟩) hHeld ?_; rotate_left; (focus rfl); (focus (intro w hSw; (try dsimp only at hSw); go_simp; (try (with_reducible rfl)))); (try simp only [Act.put, List.setIfInBounds_toArray, List.set_cons_zero, List.set_cons_succ]))
        first | (refine wpAnyH_take (i := 10) (get_of_drop' rfl) (by kernel_rfl) (by kernel_rfl) (by kernel_rfl) (fun _ _ _ h => h) (Or.inr ⟨?_, rfl⟩) hHeld ?_; (focus (simp [Region.wanted, yielded, undef]; done)); (try simp only [Act.put, List.setIfInBounds_toArray, List.set_cons_zero, List.set_cons_succ])) | (refine wpAnyH_take (i := 10) (v := ?_) (get_of_drop' rfl) (by kernel_rfl) (by kernel_rfl) (by kernel_rfl) (fun _ _ _ h => h) (Or.inl ⟨?_, ?_⟩) hHeld ?_; rotate_left; (focus rfl); (focus (intro w hSw; (try dsimp only at hSw); go_simp; (try (with_reducible rfl)))); (try simp only [Act.put, List.setIfInBounds_toArray, List.set_cons_zero, List.set_cons_succ]))
        first | (refine wpAnyH_take (i := 11) (get_of_drop' rfl) (by kernel_rfl) (by kernel_rfl) (by kernel_rfl) (fun _ _ _ h => h) (Or.inr ⟨?_, rfl⟩) hHeld ?_; (focus (simp [Region.wanted, yielded, undef]; done)); (try simp only [Act.put, List.setIfInBounds_toArray, List.set_cons_zero, List.set_cons_succ])) | (refine wpAnyH_take (i := 11) (v := ?_) (get_of_drop' rfl) (by kernel_rfl) (by kernel_rfl) (by kernel_rfl) (fun _ _ _ h => h) (Or.inl ⟨?_, ?_⟩) hHeld ?_; rotate_left; (focus rfl); (focus (intro w hSw; (try dsimp only at hSw); go_simp; (try (with_reducible rfl)))); (try simp only [Act.put, List.setIfInBounds_toArray, List.set_cons_zero, List.set_cons_succ]))
        refine wpAnyH_done (by kernel_rfl) ?_ _
        have hn5 : n4 = s.size := by rw [hn4]; exact HMS.out
        subst hn5
        have hss : ((s.size : Int) != (s.size : Int)) = false := by simp
        go_wp2
        go_loopw [11] (fun i wr => ∃ k : Nat, k ≤ s.size ∧ i = .int .i64 k ∧ (∀ j, j < k → runS es T (s.data.toList.take m) j = runS es T s.data.toList j) ∧ ∃ q, wr = w6.drewN q) (fun i _ => s.size - (intOf i).toNat)
        case atStart => exact ⟨0, Nat.zero_le _, rfl, fun j hj => absurd hj (Nat.not_lt_zero _), 0, rfl⟩
        case round =>
          obtain ⟨k, hk, rfl, hall, q, rfl⟩ := hrel
          have HALL := Lib.hid hall
          clear hall
          by_cases hlt : k < s.size
          · obtain ⟨g1, e1, b1, y1⟩ : ∃ g, a4 = some ⟨g, 0, none⟩ ∧ g < w6.heap.size ∧ w6.cell? ⟨g, k, none⟩ = some (.int .i64 ((runS es T (s.data.toList.take m) k : Nat) : Int)) := by
              rcases V6.out.at.2.2.2 with h0 | ⟨h1, h2, h3⟩
              · omega
              · refine ⟨_, h1, h2, ?_⟩
                rw [h3 k hlt, HTL.out, runL_at _ _ _ _ (by rw [List.length_take, data_len]; have := HMS.out; omega)]
            obtain ⟨g2, e2, b2, y2⟩ : ∃ g, a2 = some ⟨g, 0, none⟩ ∧ g < w6.heap.size ∧ w6.cell? ⟨g, k, none⟩ = some (.int .i64 ((runS es T s.data.toList k : Nat) : Int)) := by
              rcases G6.out.at.2.2.2 with h0 | ⟨h1, h2, h3⟩
              · omega
              · refine ⟨_, h1, h2, ?_⟩
                rw [h3 k (by omega), HXS.out, runL_at _ _ _ _ (by rw [data_len]; omega)]
            subst e1
            subst e2
            have hle := HLESS.out k (by have := HMS.out; omega) HALL.out
            obtain ⟨u, hu⟩ : ∃ u, runS es T (s.data.toList.take m) k = u := ⟨_, rfl⟩
            obtain ⟨v, hv⟩ : ∃ v, runS es T s.data.toList k = v := ⟨_, rfl⟩
            rw [hu] at y1 hle
            rw [hv] at y2 hle
            have hkn : k < n2 := by omega
            have hki : (k : Int) < (n2 : Int) := by omega
            have HU := Lib.hid hu; clear hu
            have HV := Lib.hid hv; clear hv
            by_cases he : u = v
            · have heb : ((u : Int) != (v : Int)) = false := by simp; omega
              have HE := Lib.hid he
              clear he hle
              go_wp2_with fail
              go_quiet (fail)
              rename_i nq
              go_wp2
              go_roundw
              case rel => exact ⟨k + 1, by omega, by go_num, fun j hj => by
                by_cases e : j = k
                · subst e; rw [HU.out, HV.out, HE.out]
                · exact HALL.out j (by omega), _, rfl⟩
              case measure => simp [intOf] <;> omega
            · have heb : ((u : Int) != (v : Int)) = true := by simp; omega
              have hlt2 : decide ((u : Int) < (v : Int)) = true := by simp; omega
              clear he hle
              go_wp2_with fail
              go_quiet (fail)
              rename_i nq
              go_wp2_with fail
              go_quiet (fail)
              rename_i nq2
              go_wp2
              go_ret
              exact ⟨ret_bool (by first | exact hlt2 | simp_all), below_dN (below_dN (below_dN B6.out _) _) _⟩
          · go_wp2
            go_ret
            exact ⟨rfl, below_dN B6.out _⟩
end Go.Proofs.YtknhgfmjchfnjaaDoor
