/- FormatSystem of the program: the text that it writes. -/
import Derived.Test.YtnjakhojdhkihaaGreatDoorFSpec
import Derived.Test.YtnjakhojdhkihaaGreatDoorSysVI
import Derived.Test.YtnjakhojdhkihaaGreatDoorShelf

namespace Go.Proofs.YtnjakhojdhkihaaGreatDoor
open Go.RowKit
set_option linter.unusedVariables false
set_option linter.unusedSimpArgs false
set_option maxRecDepth 100000

theorem itoa_tx (n : Nat) (hn : n < 100) (w : World) : Calls Tryz.prog 31 #[.int .i64 n] w (fun e w' => ∃ r : ByteArray, e = .returned (.string r) ∧ r.size ≤ 2 ∧ r.data.toList = dg n ∧ w' = w) :=
  (Tryz.strconv_Itoa_small n hn w).mono fun e w' ⟨h1, h2⟩ => ⟨_, h1, by have := dg_len hn; have h : (ByteArray.mk (Lib.decDigits n).toArray).data.toList = dg n := rfl; rw [size_of h]; omega, rfl, h2⟩
set_option maxHeartbeats 2000000 in
theorem edgeText_tx (f t : Nat) (l : Int) (hf : f < 16) (ht : t < 16) (h0 : 0 ≤ l) (h1 : l < 6) (w : World) :
    Calls Tryz.prog 32 #[.agg #[.int .i64 (f : Int), .int .i64 l, .int .i64 (t : Int)]] w (TextRes 5 (edgT ((f : Int), l, (t : Int))) w) := by
  have hr0 := own_cells' w #[.int .i64 (f : Int), .int .i64 l, .int .i64 (t : Int)] 41 3 rfl
  have hb0 := below_new' w 41 #[.int .i64 (f : Int), .int .i64 l, .int .i64 (t : Int)]
  obtain ⟨x0, hx0⟩ : ∃ x0, w.heap.size = x0 := ⟨_, rfl⟩
  obtain ⟨w1, hw1⟩ : ∃ w1, (w.alloc (.cells #[.int .i64 (f : Int), .int .i64 l, .int .i64 (t : Int)] 41)) = w1 := ⟨_, rfl⟩
  rw [hw1] at hr0 hb0
  rw [hx0] at hr0
  have HX := Lib.hid hx0
  have HB := Lib.hid hb0
  have g0 : w1.cell? ⟨x0, 0, none⟩ = some (.int .i64 (f : Int)) := hr0.cell (by decide)
  have g1 : w1.cell? ⟨x0, 1, none⟩ = some (.int .i64 l) := hr0.cell (by decide)
  have g2 : w1.cell? ⟨x0, 2, none⟩ = some (.int .i64 (t : Int)) := hr0.cell (by decide)
  have hwr : IntKind.i32.wrap (97 + l) = 97 + l := by
    simp [IntKind.wrap, IntKind.bits, IntKind.signed]
    omega
  go_enter Tryz.func32, Tryz.ntmps32
  go_wp2_with fail
  refine wp_region_held_drew (S := fun w' => Below w1.heap.size w1 w' ∧ w'.cell? ⟨x0, 0, none⟩ = some (.int .i64 (f : Int)) ∧ w'.cell? ⟨x0, 1, none⟩ = some (.int .i64 l) ∧ w'.cell? ⟨x0, 2, none⟩ = some (.int .i64 (t : Int))) (by kernel_rfl) ⟨(Below.refl _ _).drew, g0, g1, g2⟩ (fun hHeld => ?_)
  first | (refine wpAnyH_take (i := 0) (get_of_drop' rfl) (by kernel_rfl) (by kernel_rfl) (by kernel_rfl) (fun _ _ _ h => h) (Or.inr ⟨?_, rfl⟩) hHeld ?_; (focus (simp [Region.wanted, yielded, undef]; done)); (try simp only [Act.put, List.setIfInBounds_toArray, List.set_cons_zero, List.set_cons_succ])) | (refine wpAnyH_take (i := 0) (v := ?_) (get_of_drop' rfl) (by kernel_rfl) (by kernel_rfl) (by kernel_rfl) (fun _ _ _ h => h) (Or.inl ⟨?_, ?_⟩) hHeld ?_; rotate_left; (focus rfl); (focus (intro w hSw; (try dsimp only at hSw); go_simp; (try (with_reducible rfl)))); (try simp only [Act.put, List.setIfInBounds_toArray, List.set_cons_zero, List.set_cons_succ]))
  first | (refine wpAnyH_take (i := 1) (get_of_drop' rfl) (by kernel_rfl) (by kernel_rfl) (by kernel_rfl) (fun _ _ _ h => h) (Or.inr ⟨?_, rfl⟩) hHeld ?_; (focus (simp [Region.wanted, yielded, undef]; done)); (try simp only [Act.put, List.setIfInBounds_toArray, List.set_cons_zero, List.set_cons_succ])) | (refine wpAnyH_take (i := 1) (v := ?_) (get_of_drop' rfl) (by kernel_rfl) (by kernel_rfl) (by kernel_rfl) (fun _ _ _ h => h) (Or.inl ⟨?_, ?_⟩) hHeld ?_; rotate_left; (focus rfl); (focus (intro w hSw; (try dsimp only at hSw); go_simp; (try (with_reducible rfl)))); (try simp only [Act.put, List.setIfInBounds_toArray, List.set_cons_zero, List.set_cons_succ]))
  first | (refine wpAnyH_take (i := 3) (get_of_drop' rfl) (by kernel_rfl) (by kernel_rfl) (by kernel_rfl) (fun _ _ _ h => h) (Or.inr ⟨?_, rfl⟩) hHeld ?_; (focus (simp [Region.wanted, yielded, undef]; done)); (try simp only [Act.put, List.setIfInBounds_toArray, List.set_cons_zero, List.set_cons_succ])) | (refine wpAnyH_take (i := 3) (v := ?_) (get_of_drop' rfl) (by kernel_rfl) (by kernel_rfl) (by kernel_rfl) (fun _ _ _ h => h) (Or.inl ⟨?_, ?_⟩) hHeld ?_; rotate_left; (focus rfl); (focus (intro w hSw; (try dsimp only at hSw); go_simp; (try (with_reducible rfl)))); (try simp only [Act.put, List.setIfInBounds_toArray, List.set_cons_zero, List.set_cons_succ]))
  first | (refine wpAnyH_take (i := 4) (get_of_drop' rfl) (by kernel_rfl) (by kernel_rfl) (by kernel_rfl) (fun _ _ _ h => h) (Or.inr ⟨?_, rfl⟩) hHeld ?_; (focus (simp [Region.wanted, yielded, undef]; done)); (try simp only [Act.put, List.setIfInBounds_toArray, List.set_cons_zero, List.set_cons_succ])) | (refine wpAnyH_take (i := 4) (v := ?_) (get_of_drop' rfl) (by kernel_rfl) (by kernel_rfl) (by kernel_rfl) (fun _ _ _ h => h) (Or.inl ⟨?_, ?_⟩) hHeld ?_; rotate_left; (focus rfl); (focus (intro w hSw; (try dsimp only at hSw); go_simp; (try (with_reducible rfl)))); (try simp only [Act.put, List.setIfInBounds_toArray, List.set_cons_zero, List.set_cons_succ]))
  first | (refine wpAnyH_take (i := 9) (get_of_drop' rfl) (by kernel_rfl) (by kernel_rfl) (by kernel_rfl) (fun _ _ _ h => h) (Or.inr ⟨?_, rfl⟩) hHeld ?_; (focus (simp [Region.wanted, yielded, undef]; done)); (try simp only [Act.put, List.setIfInBounds_toArray, List.set_cons_zero, List.set_cons_succ])) | (refine wpAnyH_take (i := 9) (v := ?_) (get_of_drop' rfl) (by kernel_rfl) (by kernel_rfl) (by kernel_rfl) (fun _ _ _ h => h) (Or.inl ⟨?_, ?_⟩) hHeld ?_; rotate_left; (focus rfl); (focus (intro w hSw; (try dsimp only at hSw); go_simp; (try (with_reducible rfl)))); (try simp only [Act.put, List.setIfInBounds_toArray, List.set_cons_zero, List.set_cons_succ]))
  first | (refine wpAnyH_take (i := 10) (get_of_drop' rfl) (by kernel_rfl) (by kernel_rfl) (by kernel_rfl) (fun _ _ _ h => h) (Or.inr ⟨?_, rfl⟩) hHeld ?_; (focus (simp [Region.wanted, yielded, undef]; done)); (try simp only [Act.put, List.setIfInBounds_toArray, List.set_cons_zero, List.set_cons_succ])) | (refine wpAnyH_take (i := 10) (v := ?_) (get_of_drop' rfl) (by kernel_rfl) (by kernel_rfl) (by kernel_rfl) (fun _ _ _ h => h) (Or.inl ⟨?_, ?_⟩) hHeld ?_; rotate_left; (focus rfl); (focus (intro w hSw; (try dsimp only at hSw); go_simp; (try (with_reducible rfl)))); (try simp only [Act.put, List.setIfInBounds_toArray, List.set_cons_zero, List.set_cons_succ]))
  refine wpAnyH_ready (rs := [2]) (by kernel_rfl) (by simp) ?_
  refine AllReadyH.cons (get_of_drop' rfl) (fun K hK => ?_) AllReadyH.nil
  go_simp
  go_at_call 31
  refine (itoa_tx f (by omega) _).mono ?_
  rintro e w6 ⟨ra, rfl, hra, hda, rfl⟩
  have HDA := Lib.hid hda; clear hda
  go_wp2_with fail
  refine hK.out _ _ ?_ (fun hHeld => ?_)
  · assumption
  clear hK K
  try simp only [Act.put, List.setIfInBounds_toArray, List.set_cons_zero, List.set_cons_succ]
  refine wpAnyH_ready (rs := [5]) (by kernel_rfl) (by simp) ?_
  refine AllReadyH.cons (get_of_drop' rfl) (fun K hK => ?_) AllReadyH.nil
  go_simp
  go_at_call 60
  refine (letterByte_any l h0 h1 _).mono ?_
  rintro e w' ⟨rfl, rfl⟩
  have hlt : (97 : Int) + l < 128 := by omega
  go_wp2_with fail
  refine hK.out _ _ ?_ (fun hHeld => ?_)
  · assumption
  clear hK K
  try simp only [Act.put, List.setIfInBounds_toArray, List.set_cons_zero, List.set_cons_succ]
  first | (refine wpAnyH_take (i := 6) (get_of_drop' rfl) (by kernel_rfl) (by kernel_rfl) (by kernel_rfl) (fun _ _ _ h => h) (Or.inr ⟨?_, rfl⟩) hHeld ?_; (focus (simp [Region.wanted, yielded, undef]; done)); (try simp only [Act.put, List.setIfInBounds_toArray, List.set_cons_zero, List.set_cons_succ])) | (refine wpAnyH_take (i := 6) (v := ?_) (get_of_drop' rfl) (by kernel_rfl) (by kernel_rfl) (by kernel_rfl) (fun _ _ _ h => h) (Or.inl ⟨?_, ?_⟩) hHeld ?_; rotate_left; (focus rfl); (focus (intro w hSw; (try dsimp only at hSw); go_simp; (try (with_reducible rfl)))); (try simp only [Act.put, List.setIfInBounds_toArray, List.set_cons_zero, List.set_cons_succ]))
  first | (refine wpAnyH_take (i := 7) (get_of_drop' rfl) (by kernel_rfl) (by kernel_rfl) (by kernel_rfl) (fun _ _ _ h => h) (Or.inr ⟨?_, rfl⟩) hHeld ?_; (focus (simp [Region.wanted, yielded, undef]; done)); (try simp only [Act.put, List.setIfInBounds_toArray, List.set_cons_zero, List.set_cons_succ])) | (refine wpAnyH_take (i := 7) (v := ?_) (get_of_drop' rfl) (by kernel_rfl) (by kernel_rfl) (by kernel_rfl) (fun _ _ _ h => h) (Or.inl ⟨?_, ?_⟩) hHeld ?_; rotate_left; (focus rfl); (focus (intro w hSw; (try dsimp only at hSw); go_simp; (try (with_reducible rfl)))); (try simp only [Act.put, List.setIfInBounds_toArray, List.set_cons_zero, List.set_cons_succ]))
  have hen : Utf8.encode (97 + l) = ⟨#[lb l]⟩ := by
    have hv : Utf8.valid (97 + l) = true := by
      unfold Utf8.valid
      simp only [Bool.or_eq_true, Bool.and_eq_true, decide_eq_true_eq]
      left
      omega
    have hl : (97 + l).toNat = 97 + l.toNat := by omega
    unfold Utf8.encode
    simp only [hv, if_true]
    rw [if_pos (by omega), hl]
    rfl
  rw [hen]
  obtain ⟨rb, hrb⟩ : ∃ rb : ByteArray, (⟨#[lb l]⟩ : ByteArray) = rb := ⟨_, rfl⟩
  have hrbs : rb.size = 1 := by rw [← hrb]; rfl
  have hdb : rb.data.toList = [lb l] := by rw [← hrb]
  rw [hrb]
  have HDB := Lib.hid hdb; clear hdb
  clear hrb hen
  have hq1 : (ra.size : Int) + (rb.size : Int) ≤ 9223372036854775807 := by omega
  have hq1' : ¬ (9223372036854775807 < ra.size + rb.size) := by omega
  have HRBS := Lib.hid hrbs; clear hrbs
  first | (refine wpAnyH_take (i := 8) (get_of_drop' rfl) (by kernel_rfl) (by kernel_rfl) (by kernel_rfl) (fun _ _ _ h => h) (Or.inr ⟨?_, rfl⟩) hHeld ?_; (focus (simp [Region.wanted, yielded, undef]; done)); (try simp only [Act.put, List.setIfInBounds_toArray, List.set_cons_zero, List.set_cons_succ])) | (refine wpAnyH_take (i := 8) (v := ?_) (get_of_drop' rfl) (by kernel_rfl) (by kernel_rfl) (by kernel_rfl) (fun _ _ _ h => h) (Or.inl ⟨?_, ?_⟩) hHeld ?_; rotate_left; (focus rfl); (focus (intro w hSw; (try dsimp only at hSw); go_simp; (try (with_reducible rfl)))); (try simp only [Act.put, List.setIfInBounds_toArray, List.set_cons_zero, List.set_cons_succ]))
  refine wpAnyH_ready (rs := [11]) (by kernel_rfl) (by simp) ?_
  refine AllReadyH.cons (get_of_drop' rfl) (fun K hK => ?_) AllReadyH.nil
  go_simp
  go_at_call 31
  refine (itoa_tx t (by omega) _).mono ?_
  rintro e w6 ⟨rc, rfl, hrc, hdc, rfl⟩
  have HDC := Lib.hid hdc; clear hdc
  have hrbs2 := HRBS.out
  have hq2 : (ra.size : Int) + (rb.size : Int) + (rc.size : Int) ≤ 9223372036854775807 := by omega
  have hq2' : ¬ (9223372036854775807 < ra.size + rb.size + rc.size) := by omega
  clear hrbs2
  go_wp2_with fail
  refine hK.out _ _ ?_ (fun hHeld => ?_)
  · assumption
  clear hK K
  try simp only [Act.put, List.setIfInBounds_toArray, List.set_cons_zero, List.set_cons_succ]
  first | (refine wpAnyH_take (i := 12) (get_of_drop' rfl) (by kernel_rfl) (by kernel_rfl) (by kernel_rfl) (fun _ _ _ h => h) (Or.inr ⟨?_, rfl⟩) hHeld ?_; (focus (simp [Region.wanted, yielded, undef]; done)); (try simp only [Act.put, List.setIfInBounds_toArray, List.set_cons_zero, List.set_cons_succ])) | (refine wpAnyH_take (i := 12) (v := ?_) (get_of_drop' rfl) (by kernel_rfl) (by kernel_rfl) (by kernel_rfl) (fun _ _ _ h => h) (Or.inl ⟨?_, ?_⟩) hHeld ?_; rotate_left; (focus rfl); (focus (intro w hSw; (try dsimp only at hSw); go_simp; (try (with_reducible rfl)))); (try simp only [Act.put, List.setIfInBounds_toArray, List.set_cons_zero, List.set_cons_succ]))
  first | (refine wpAnyH_take (i := 13) (get_of_drop' rfl) (by kernel_rfl) (by kernel_rfl) (by kernel_rfl) (fun _ _ _ h => h) (Or.inr ⟨?_, rfl⟩) hHeld ?_; (focus (simp [Region.wanted, yielded, undef]; done)); (try simp only [Act.put, List.setIfInBounds_toArray, List.set_cons_zero, List.set_cons_succ])) | (refine wpAnyH_take (i := 13) (v := ?_) (get_of_drop' rfl) (by kernel_rfl) (by kernel_rfl) (by kernel_rfl) (fun _ _ _ h => h) (Or.inl ⟨?_, ?_⟩) hHeld ?_; rotate_left; (focus rfl); (focus (intro w hSw; (try dsimp only at hSw); go_simp; (try (with_reducible rfl)))); (try simp only [Act.put, List.setIfInBounds_toArray, List.set_cons_zero, List.set_cons_succ]))
  refine wpAnyH_done (by kernel_rfl) ?_ _
  have hfin : ((ra ++ rb) ++ rc).data.toList = edgT ((f : Int), l, (t : Int)) := by
    rw [data_append, data_append, HDA.out, HDB.out, HDC.out]
    rfl
  go_wp2
  go_ret
  exact ⟨_, rfl, by rw [size_of hfin]; exact edgT_len (e := ((f : Int), l, (t : Int))) (by show (f : Int) < 16; omega) (by show (t : Int) < 16; omega), HB.out.drew, hfin⟩
theorem SOwn.two {B : Nat} (w : World) (r1 r2 : ByteArray) (hb : B ≤ w.heap.size) : SOwn B (w.alloc (.cells #[.string r1, .string r2] 9)) (.slice (some ⟨w.heap.size, 0, none⟩) 2 2) [r1, r2] :=
  ⟨by simp, .inr ⟨w.heap.size, 2, #[.string r1, .string r2], rfl, hb, heap_alloc_new w _, Nat.le_refl _, by decide, rfl, by simp⟩⟩
set_option maxHeartbeats 8000000 in
theorem implFormat_tx (al st : Int) (a1 : Option Addr) (n1 c1 : Nat) (es : List Edg) (w : World) (h : EV w (.slice a1 n1 c1) es) (hes : es.length ≤ 1048576) :
    Calls Tryz.prog 11 #[.agg #[.int .i64 al, .int .i64 st, .slice a1 n1 c1]] w (RetStr (fmtS al st es) w) := by
  obtain ⟨hn, hcap, hmax, hcell⟩ := h.at
  have B0 := Lib.hid (below_new' w 24 #[.int .i64 al, .int .i64 st, .slice a1 n1 c1])
  have R0 := Lib.hid (sys_cells w al st (.slice a1 n1 c1) 24)
  have HC := Lib.hid hcell; clear hcell
  have HN := Lib.hid hn; clear hn
  have H := Lib.hid h; clear h
  cases hv : sysV al st es with
  | false =>
    have hfm : fmtS al st es = [] := by unfold fmtS; rw [hv]; simp
    have HFM := Lib.hid hfm; clear hfm
    have HV := Lib.hid hv; clear hv
    go_enter Tryz.func11, Tryz.ntmps11
    go_wp2_with fail
    refine (implSysValid_any al st a1 n1 c1 es _ (EV.below H.out B0.out)).mono ?_
    rintro e w1 ⟨rfl, hb1⟩
    rw [HV.out]
    have B1 := Lib.hid (B0.out.trans (hb1.mono B0.out.size))
    clear hb1
    go_wp2
    go_ret
    exact ⟨_, rfl, by rw [HFM.out], B1.out⟩
  | true =>
    obtain ⟨-, hst1, hst16, -⟩ := sysV_facts hv
    have hok := sysV_ok hv
    have hfm : fmtS al st es = sysT al st es := by unfold fmtS; rw [if_pos hv]
    have HFM := Lib.hid hfm; clear hfm
    obtain ⟨st, rfl⟩ := Int.eq_ofNat_of_zero_le (by omega : 0 ≤ st)
    have hstn : st < 100 := by omega
    have HOK := Lib.hid hok; clear hok
    have HV := Lib.hid hv; clear hv
    go_enter Tryz.func11, Tryz.ntmps11
    go_wp2_with fail
    refine (implSysValid_any al st a1 n1 c1 es _ (EV.below H.out B0.out)).mono ?_
    rintro e w1 ⟨rfl, hb1⟩
    rw [HV.out]
    have B1 := Lib.hid (B0.out.trans (hb1.mono B0.out.size))
    have R1 := Lib.hid (rowIs_below' R0.out hb1)
    have c0 : w1.cell? ⟨w.heap.size, 0, none⟩ = some (.int .i64 al) := R1.out.cell (by decide)
    have c1' : w1.cell? ⟨w.heap.size, 1, none⟩ = some (.int .i64 st) := R1.out.cell (by decide)
    clear hb1 hst1 hst16
    go_wp2_with fail
    refine wp_region_held_drew (S := fun w' => Below w1.heap.size w1 w' ∧ w'.cell? ⟨w.heap.size, 0, none⟩ = some (.int .i64 al) ∧ w'.cell? ⟨w.heap.size, 1, none⟩ = some (.int .i64 st)) (by kernel_rfl) ⟨(Below.refl _ _).drew, c0, c1'⟩ (fun hHeld => ?_)
    first | (refine wpAnyH_take (i := 0) (get_of_drop' rfl) (by kernel_rfl) (by kernel_rfl) (by kernel_rfl) (fun _ _ _ h => h) (Or.inr ⟨?_, rfl⟩) hHeld ?_; (focus (simp [Region.wanted, yielded, undef]; done)); (try simp only [Act.put, List.setIfInBounds_toArray, List.set_cons_zero, List.set_cons_succ])) | (refine wpAnyH_take (i := 0) (v := ?_) (get_of_drop' rfl) (by kernel_rfl) (by kernel_rfl) (by kernel_rfl) (fun _ _ _ h => h) (Or.inl ⟨?_, ?_⟩) hHeld ?_; rotate_left; (focus rfl); (focus (intro w hSw; (try dsimp only at hSw); go_simp; (try (with_reducible rfl)))); (try simp only [Act.put, List.setIfInBounds_toArray, List.set_cons_zero, List.set_cons_succ]))
    first | (refine wpAnyH_take (i := 1) (get_of_drop' rfl) (by kernel_rfl) (by kernel_rfl) (by kernel_rfl) (fun _ _ _ h => h) (Or.inr ⟨?_, rfl⟩) hHeld ?_; (focus (simp [Region.wanted, yielded, undef]; done)); (try simp only [Act.put, List.setIfInBounds_toArray, List.set_cons_zero, List.set_cons_succ])) | (refine wpAnyH_take (i := 1) (v := ?_) (get_of_drop' rfl) (by kernel_rfl) (by kernel_rfl) (by kernel_rfl) (fun _ _ _ h => h) (Or.inl ⟨?_, ?_⟩) hHeld ?_; rotate_left; (focus rfl); (focus (intro w hSw; (try dsimp only at hSw); go_simp; (try (with_reducible rfl)))); (try simp only [Act.put, List.setIfInBounds_toArray, List.set_cons_zero, List.set_cons_succ]))
    first | (refine wpAnyH_take (i := 3) (get_of_drop' rfl) (by kernel_rfl) (by kernel_rfl) (by kernel_rfl) (fun _ _ _ h => h) (Or.inr ⟨?_, rfl⟩) hHeld ?_; (focus (simp [Region.wanted, yielded, undef]; done)); (try simp only [Act.put, List.setIfInBounds_toArray, List.set_cons_zero, List.set_cons_succ])) | (refine wpAnyH_take (i := 3) (v := ?_) (get_of_drop' rfl) (by kernel_rfl) (by kernel_rfl) (by kernel_rfl) (fun _ _ _ h => h) (Or.inl ⟨?_, ?_⟩) hHeld ?_; rotate_left; (focus rfl); (focus (intro w hSw; (try dsimp only at hSw); go_simp; (try (with_reducible rfl)))); (try simp only [Act.put, List.setIfInBounds_toArray, List.set_cons_zero, List.set_cons_succ]))
    first | (refine wpAnyH_take (i := 4) (get_of_drop' rfl) (by kernel_rfl) (by kernel_rfl) (by kernel_rfl) (fun _ _ _ h => h) (Or.inr ⟨?_, rfl⟩) hHeld ?_; (focus (simp [Region.wanted, yielded, undef]; done)); (try simp only [Act.put, List.setIfInBounds_toArray, List.set_cons_zero, List.set_cons_succ])) | (refine wpAnyH_take (i := 4) (v := ?_) (get_of_drop' rfl) (by kernel_rfl) (by kernel_rfl) (by kernel_rfl) (fun _ _ _ h => h) (Or.inl ⟨?_, ?_⟩) hHeld ?_; rotate_left; (focus rfl); (focus (intro w hSw; (try dsimp only at hSw); go_simp; (try (with_reducible rfl)))); (try simp only [Act.put, List.setIfInBounds_toArray, List.set_cons_zero, List.set_cons_succ]))
    refine wpAnyH_ready (rs := [2]) (by kernel_rfl) (by simp) ?_
    refine AllReadyH.cons (get_of_drop' rfl) (fun K hK => ?_) AllReadyH.nil
    go_simp
    go_at_call 30
    refine (implFmt_any al _).mono ?_
    rintro e w5 ⟨r1, rfl, hd1, hb5⟩
    have HD1 := Lib.hid hd1; clear hd1
    go_wp2_with fail
    refine hK.out _ _ ?_ (fun hHeld => ?_)
    · (go_split_ands; refine ⟨below_step ?_ hb5, keep_cell hb5 ?_, keep_cell hb5 ?_⟩ <;> assumption)
    clear hK K
    try simp only [Act.put, List.setIfInBounds_toArray, List.set_cons_zero, List.set_cons_succ]
    refine wpAnyH_ready (rs := [5]) (by kernel_rfl) (by simp) ?_
    refine AllReadyH.cons (get_of_drop' rfl) (fun K hK => ?_) AllReadyH.nil
    go_simp
    go_at_call 31
    refine (itoa_tx st hstn _).mono ?_
    rintro e w6 ⟨r2, rfl, hr2, hd2, rfl⟩
    have HD2 := Lib.hid hd2; clear hd2
    go_wp2_with fail
    refine hK.out _ _ ?_ (fun hHeld => ?_)
    · assumption
    clear hK K
    try simp only [Act.put, List.setIfInBounds_toArray, List.set_cons_zero, List.set_cons_succ]
    refine wpAnyH_ready (rs := [6]) (by kernel_rfl) (by simp) ?_
    refine AllReadyH.cons (get_of_drop' rfl) (fun K hK => ?_) AllReadyH.nil
    have hb6 := below_new' w6 9 #[.string r1, .string r2]
    go_simp
    refine hK.out _ _ ?_ (fun hHeld => ?_)
    · (go_split_ands; refine ⟨below_step ?_ hb6, keep_cell hb6 ?_, keep_cell hb6 ?_⟩ <;> assumption)
    clear hK K
    try simp only [Act.put, List.setIfInBounds_toArray, List.set_cons_zero, List.set_cons_succ]
    first | (refine wpAnyH_take (i := 7) (get_of_drop' rfl) (by kernel_rfl) (by kernel_rfl) (by kernel_rfl) (fun _ _ _ h => h) (Or.inr ⟨?_, rfl⟩) hHeld ?_; (focus (simp [Region.wanted, yielded, undef]; done)); (try simp only [Act.put, List.setIfInBounds_toArray, List.set_cons_zero, List.set_cons_succ])) | (refine wpAnyH_take (i := 7) (v := ?_) (get_of_drop' rfl) (by kernel_rfl) (by kernel_rfl) (by kernel_rfl) (fun _ _ _ h => h) (Or.inl ⟨?_, ?_⟩) hHeld ?_; rotate_left; (focus rfl); (focus (intro w hSw; (try dsimp only at hSw); go_simp; (try (with_reducible rfl)))); (try simp only [Act.put, List.setIfInBounds_toArray, List.set_cons_zero, List.set_cons_succ]))
    refine wpAnyH_done (by kernel_rfl) ?_ _
    have hX := below_step (((Below.refl w1.heap.size w1).drew).trans hb5) hb6
    have hBX := B1.out.trans (hX.mono B1.out.size)
    have hSO := SOwn.two (B := w.heap.size) w6 r1 r2 (Nat.le_trans B1.out.size (Nat.le_trans (by simp) hb5.size))
    have hRX := rowIs_below' R1.out hX
    obtain ⟨wL, hwL⟩ : ∃ wL, w6.alloc (.cells #[.string r1, .string r2] 9) = wL := ⟨_, rfl⟩
    obtain ⟨y6, hy6⟩ : ∃ y6, w6.heap.size = y6 := ⟨_, rfl⟩
    rw [hwL] at hBX hSO hRX ⊢
    rw [hy6] at hSO ⊢
    have c2' : wL.cell? ⟨w.heap.size, 2, none⟩ = some (.slice a1 n1 c1) := hRX.cell (by decide)
    have HBX := Lib.hid hBX
    have HSO := Lib.hid hSO
    have hts : [r1, r2].map (·.data.toList) = sysParts al (st : Int) (es.take 0) := by
      simp only [List.map_cons, List.map_nil, HD1.out, HD2.out, List.take_zero]
      rfl
    have HTS := Lib.hid hts; clear hts
    clear hHeld hX hBX hSO hRX hwL hy6 hb5 hb6 c0 c1' B1 R1
    go_wp2_with fail
    go_loopw [3, 19] (fun v i wr => ∃ (k n cap : Nat) (ao : Option Addr) (ss : List ByteArray), i = .int .i64 k ∧ v = .slice ao n cap ∧ k ≤ n1 ∧ n = ss.length ∧ SOwn w.heap.size wr (.slice ao n cap) ss ∧ Hid (ss.map (·.data.toList) = sysParts al (st : Int) (es.take k)) ∧ Below w.heap.size w wr) (fun _ i _ => n1 - (intOf i).toNat)
    case atStart => exact ⟨0, 2, 2, _, _, rfl, rfl, Nat.zero_le _, rfl, HSO.out, HTS, HBX.out⟩
    case round =>
      obtain ⟨k, n, cap, ao, ss, rfl, rfl, hk, hns, hown, HT, hbel⟩ := hrel
      have hsl : ss.length = 2 + (es.take k).length := by
        have h := congrArg List.length HT.out
        simp only [List.length_map, sysParts, List.length_cons] at h
        omega
      have htl : (es.take k).length ≤ es.length := by rw [List.length_take]; omega
      have hss : ss.length ≤ 10000000 := by omega
      have HNS := Lib.hid hns; clear hns
      have HSL := Lib.hid hsl; clear hsl
      by_cases hlt : k < n1
      · rcases HC.out with h0 | ⟨b, off, rfl, hb, hc⟩
        · omega
        · have hu := hc k hlt
          rw [← cell_below hbel hb, ← cell_below hbel hb, ← cell_below hbel hb] at hu
          have hlt' : k < es.length := by rw [← HN.out]; exact hlt
          have hek := HOK.out.at k hlt'
          obtain ⟨f, l, t, he⟩ : ∃ f l t, Edg.at es k = (f, l, t) := ⟨_, _, _, rfl⟩
          have hst1 : sysParts al (st : Int) (es.take (k + 1)) = sysParts al (st : Int) (es.take k) ++ [edgT (f, l, t)] := by
            rw [take_snoc_e es k hlt', he]
            simp [sysParts]
          have HST := Lib.hid hst1; clear hst1
          rw [he] at hu hek
          obtain ⟨e0, e1, e2⟩ := hu
          dsimp only at e0 e1 e2 hek
          obtain ⟨⟨hf0, hf1⟩, ⟨hl0, hl1⟩, ht0, ht1⟩ := hek
          obtain ⟨f, rfl⟩ := Int.eq_ofNat_of_zero_le hf0
          obtain ⟨t, rfl⟩ := Int.eq_ofNat_of_zero_le ht0
          clear hc he htl
          go_wp2_with fail
          refine (edgeText_tx f t l (by omega) (by omega) hl0 hl1 _).mono ?_
          rintro e w5 ⟨ra, rfl, -, hb5, hda⟩
          have hb4 := below_new' wr 41 #[.int .i64 (f : Int), .int .i64 l, .int .i64 (t : Int)]
          have hbq := hb4.trans (hb5.mono hb4.size)
          have HO5 := Lib.hid (hown.below hbq)
          have HB5 := Lib.hid (hbel.trans (hbq.mono hbel.size))
          have HDA := Lib.hid hda; clear hda
          clear hb4 hb5 hbq hown hbel e0 e1 e2
          have hz5 := HB5.out.size
          go_wp2_with (at_builtin; refine app_str w5 ra w.heap.size rfl rfl _ _ rfl (.slice ao n cap) ss rfl HO5.out rfl ?_ hz5 ?_)
          · omega
          intro ao2 n2 cap2 w7 hn2 hown2 hkept
          have HB7 := Lib.hid (hkept.1 w HB5.out)
          have HO7 := Lib.hid hown2
          have HN2 := Lib.hid hn2; clear hn2
          clear hkept hown2
          go_wp2
          go_roundw
          case rel => exact ⟨k + 1, n2, cap2, ao2, ss ++ [ra], by go_num, rfl, by omega, by rw [HN2.out]; simp, HO7.out, Lib.hid (by rw [List.map_append, HT.out, HST.out, List.map_cons, List.map_nil, HDA.out]), HB7.out⟩
          case measure => simp [intOf] <;> omega
      · have hkl : k = es.length := by
          have := HN.out
          omega
        have hT : ss.map (·.data.toList) = sysParts al (st : Int) es := by rw [HT.out, hkl, List.take_length]
        have hn0 : 0 < n := by
          have h1 := HNS.out
          have h2 := HSL.out
          omega
        obtain ⟨hnl, hnc, hcm, g, rfl, hg0, hg1, hgc⟩ := hown.at hn0
        subst hnl
        have hj : Lib.join (ss.map (·.data.toList)) [32] = sysT al (st : Int) es := by rw [hT]; rfl
        have hjl : (Lib.join (ss.map (·.data.toList)) [32]).length ≤ 140737488355328 := by
          rw [hj]
          have := sysT_len (st := (st : Int)) al (by omega) HOK.out
          omega
        have hcl : ∀ (j : Nat) x, ss[j]? = some x → wr.cell? ⟨g, 0 + j, none⟩ = some (.string x) := fun j x hx => by
          have hjlt := (List.getElem?_eq_some_iff.1 hx).1
          rw [Nat.zero_add, hgc j hjlt, hx]
          rfl
        have HJ := Lib.hid (Tryz.strings_Join g 0 cap ss ⟨#[32]⟩ wr hcl hg1 (by omega) hnc hjl)
        have HJ2 := Lib.hid hj; clear hj
        have HBL := Lib.hid hbel
        clear hcl hgc hjl hT hbel hown
        go_wp2_with fail
        refine HJ.out.mono ?_
        rintro e w5 ⟨rfl, hb5⟩
        go_wp2
        go_ret
        exact ⟨_, rfl, by rw [HFM.out, ← HJ2.out], HBL.out.trans (hb5.mono HBL.out.size)⟩
end Go.Proofs.YtnjakhojdhkihaaGreatDoor
