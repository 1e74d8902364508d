/- Marks of automata. -/
import Derived.Test.YtagegbhchljggaaMark
namespace Go.Proofs.Ytagegbhchljggaa
open Go.RowKit
set_option linter.unusedVariables false
set_option linter.unusedSimpArgs false
set_option maxRecDepth 1048576

theorem WM.below {w w' : World} {b0 : Nat} {Bf : Nat → Nat} {v : Value} {xss : List (List Int)} (h : WM w b0 Bf v xss) (hb : Below w.heap.size w w') : WM w' b0 Bf v xss :=
  h.only (Only.of_below (fun _ => False) hb) (fun h => h) (fun _ _ _ h => h)
theorem WB.below {w w' : World} {b : Nat} {v : Value} {xs : List Bool} (h : WB w b v xs) (hb : Below w.heap.size w w') : WB w' b v xs := h.only (Only.of_below (fun _ => False) hb) (fun _ h => h)
theorem WM.shape {w : World} {b0 : Nat} {Bf : Nat → Nat} {v : Value} {xss : List (List Int)} (h : WM w b0 Bf v xss) : ∃ a c, v = .slice a xss.length c := by
  obtain ⟨ao, cap, rfl, -⟩ := h
  exact ⟨ao, cap, rfl⟩
theorem WB.shape {w : World} {b : Nat} {v : Value} {xs : List Bool} (h : WB w b v xs) : ∃ a c, v = .slice a xs.length c := by
  obtain ⟨ao, cap, rfl, -⟩ := h
  exact ⟨ao, cap, rfl⟩

set_option maxHeartbeats 10485760 in
theorem heldIntSS_any (ao : Option Addr) (n cap : Nat) (xss : List (List Int)) (k : Int) (w : World) (h : MV w (.slice ao n cap) (markM k xss)) (hk0 : 0 ≤ k) (hk1 : k ≤ 10) (hm : xss.length ≤ 1048576) (hl : ∀ l ∈ xss, l.length ≤ 1048576) :
    Calls Try.prog 52 #[.slice ao n cap, .int .i64 k] w (Ret (.int .i64 (k + (offs xss n : Int))) w) := by
  obtain ⟨hn, hcap, hmax, hcell⟩ := SV.at h
  rw [markM_len] at hn
  unfold maxLen at hmax
  have HN := Lib.hid hn
  have hn2 : n ≤ 1048576 := by omega
  have HC := Lib.hid hcell; clear hcell
  have HL := Lib.hid hl; clear hl
  clear h hn
  go_enter Try.func52, Try.ntmps52
  go_wp2
  go_loop [1, 5] (fun kv i => ∃ j : Nat, j ≤ n ∧ i = .int .i64 j ∧ kv = .int .i64 (k + (offs xss j : Int))) (fun _ i => n - (intOf i).toNat)
  case atStart => exact ⟨0, by omega, rfl, by simp [offs]⟩
  case round =>
    obtain ⟨j, hj, rfl, rfl⟩ := hrel
    by_cases hlt : j < n
    · rcases HC.out with h0 | ⟨b, off, rfl, hb, hc⟩
      · omega
      · obtain ⟨u, hu, hv⟩ := hc j hlt
        rw [markM_at k xss j (by rw [← HN.out]; exact hlt)] at hv
        obtain ⟨x, hx⟩ : ∃ x, (xss[j]?.getD []).length = x := ⟨_, rfl⟩
        have hxl : x ≤ 1048576 := by
          have hj' : j < xss.length := by rw [← HN.out]; exact hlt
          rw [← hx, List.getElem?_eq_getElem hj', Option.getD_some]
          exact HL.out _ (List.getElem_mem hj')
        have hoff : offs xss j ≤ j * 1048576 := offs_le xss 1048576 HL.out j (by rw [← HN.out]; omega)
        have hbound : k + (offs xss j : Int) < 1125899906842624 := by
          have h1 : j * 1048576 ≤ 1048576 * 1048576 := Nat.mul_le_mul_right _ (by omega)
          omega
        have hpos : 0 ≤ k + (offs xss j : Int) := by omega
        have hoffs : offs xss (j + 1) = offs xss j + x := by show offs xss j + (xss[j]?.getD []).length = _; rw [hx]
        rw [hx] at hv
        obtain ⟨kk, hkk⟩ : ∃ kk, k + (offs xss j : Int) = kk := ⟨_, rfl⟩
        rw [hkk] at hbound hpos hv
        obtain ⟨a3, n3, c3, rfl⟩ : ∃ a n c, u = .slice a n c := by obtain ⟨a, c, e, -⟩ := hv; exact ⟨a, _, c, e⟩
        obtain rfl : n3 = x := by have := (SV.at hv).1; rw [seqI_len] at this; exact this
        have HV := Lib.hid hv; clear hv
        have HX := Lib.hid hx; clear hx
        have HKK := Lib.hid hkk; clear hkk
        have HOF := Lib.hid hoffs; clear hoffs
        clear hc hoff
        rw [HKK.out]
        go_wp2_with fail
        refine (heldIntS_any a3 n3 c3 kk _ HV.out hpos hbound (by omega)).mono ?_
        rintro e w1 ⟨rfl, rfl⟩
        have hnn : decide (kk + (n3 : Int) < 0) = false := by simp; omega
        go_wp2
        go_round
        case rel => exact ⟨j + 1, by omega, by go_num, by rw [HOF.out, ← HKK.out]; go_num⟩
        case measure => simp [intOf] <;> omega
    · obtain rfl : j = n := by omega
      go_wp2
      go_ret
      exact ⟨rfl, rfl⟩

/-- An automaton that may be written. -/
def WA (w : World) (b0 b1 : Nat) (Bf : Nat → Nat) (v1 v2 : Value) (xss : List (List Int)) (bs : List Bool) : Prop :=
  WM w b0 Bf v1 xss ∧ WB w b1 v2 bs ∧ b1 ≠ b0 ∧ (∀ i, i < xss.length → (xss[i]?.getD []).length ≠ 0 → Bf i ≠ b1) ∧ ∀ i, i < xss.length → (xss[i]?.getD []).length ≠ 0 → Bf i < w.heap.size
def blocksOf (b1 : Nat) (Bf : Nat → Nat) (xss : List (List Int)) (bs : List Bool) (q : Nat) : Prop := rowsOf Bf xss q ∨ (bs.length ≠ 0 ∧ q = b1)
theorem WA.below {w w' : World} {b0 b1 : Nat} {Bf : Nat → Nat} {v1 v2 : Value} {xss : List (List Int)} {bs : List Bool} (h : WA w b0 b1 Bf v1 v2 xss bs) (hb : Below w.heap.size w w') : WA w' b0 b1 Bf v1 v2 xss bs :=
  ⟨h.1.below hb, h.2.1.below hb, h.2.2.1, h.2.2.2.1, fun i h1 h2 => Nat.lt_of_lt_of_le (h.2.2.2.2 i h1 h2) hb.size⟩
theorem WA.only {S : Nat → Prop} {w w' : World} {b0 b1 : Nat} {Bf : Nat → Nat} {v1 v2 : Value} {xss : List (List Int)} {bs : List Bool} (h : WA w b0 b1 Bf v1 v2 xss bs) (ho : Only S w w') (h0 : ¬ S b0) (h1 : ¬ S b1) (hr : ∀ i, i < xss.length → (xss[i]?.getD []).length ≠ 0 → ¬ S (Bf i)) : WA w' b0 b1 Bf v1 v2 xss bs :=
  ⟨h.1.only ho h0 hr, h.2.1.only ho (fun _ => h1), h.2.2.1, h.2.2.2.1, fun i q1 q2 => Nat.lt_of_lt_of_le (h.2.2.2.2 i q1 q2) ho.2.2.2.1⟩
def markV (k : Int) (xss : List (List Int)) (m : Nat) : Int := k + (offs xss xss.length : Int) + (m : Int)

set_option maxHeartbeats 10485760 in
theorem markAut_any (al : Int) (b0 b1 : Nat) (Bf : Nat → Nat) (v1 v2 : Value) (xss : List (List Int)) (bs : List Bool) (k : Int) (w : World) (h : WA w b0 b1 Bf v1 v2 xss bs) (hk0 : 0 ≤ k) (hk1 : k ≤ 10) (hm : xss.length ≤ 1048576) (hl : ∀ l ∈ xss, l.length ≤ 1048576) (hbl : bs.length ≤ 1048576) :
    Calls Try.prog 25 #[.agg #[.int .i64 al, v1, v2], .int .i64 k] w (fun e w' => e = .returned (.int .i64 (markV k xss bs.length)) ∧ WA w' b0 b1 Bf v1 v2 (markM k xss) (seqB (k + (offs xss xss.length : Int)) bs.length) ∧ Only (blocksOf b1 Bf xss bs) w w') := by
  obtain ⟨a1, c1, rfl⟩ := h.1.shape
  obtain ⟨a2, c2, rfl⟩ := h.2.1.shape
  have B0 := Lib.hid (below_new w 28 #[.int .i64 al, .slice a1 xss.length c1, .slice a2 bs.length c2])
  have hw := h.below B0.out
  have hR := agg3_cell w al (.slice a1 xss.length c1) (.slice a2 bs.length c2) 28
  have H := Lib.hid hw
  have H0 := Lib.hid h
  have HL := Lib.hid hl; clear hl
  have hoff : offs xss xss.length ≤ xss.length * 1048576 := offs_le xss 1048576 HL.out _ (Nat.le_refl _)
  have hb1 : xss.length * 1048576 ≤ 1048576 * 1048576 := Nat.mul_le_mul_right _ hm
  have hob : offs xss xss.length ≤ 1099511627777 := by omega
  clear hw h hoff hb1
  go_enter Try.func25, Try.ntmps25
  go_wp2_with fail
  obtain ⟨w1, hw1⟩ : ∃ w1, w.alloc (.cells #[.int .i64 al, .slice a1 xss.length c1, .slice a2 bs.length c2] 28) = w1 := ⟨_, rfl⟩
  have hH := H.out
  have hB := B0.out
  rw [hw1] at hH hB hR ⊢
  have HR := Lib.hid hR
  have HH := Lib.hid hH
  have HB := Lib.hid hB
  clear hw1 H B0 hH hB hR
  refine (markIntSS_any b0 Bf a1 xss.length c1 xss k w1 HH.out.1 hk0 hk1 hm HL.out HH.out.2.2.2.2).mono ?_
  rintro e w2 ⟨rfl, hM, ho⟩
  have hS : ∀ q, rowsOf Bf xss q → q < w1.heap.size := fun q ⟨i, q1, q2, q3⟩ => by rw [q3]; exact HH.out.2.2.2.2 i q1 q2
  have hbox : w2.cell? ⟨w.heap.size, 2, none⟩ = some (.slice a2 bs.length c2) := by
    rw [World.cell?_of_block (w := w1) (w' := w2) (a := ⟨w.heap.size, 2, none⟩) (ho.2.2.2.2 w.heap.size (World.rowIs.lt HR.out) (by rintro ⟨i, q1, q2, q3⟩; have := H0.out.2.2.2.2 i q1 q2; omega))]
    exact HR.out.cell (by decide)
  have hWB : WB w2 b1 (.slice a2 bs.length c2) bs := HH.out.2.1.only ho (fun _ => by rintro ⟨i, q1, q2, q3⟩; exact HH.out.2.2.2.1 i q1 q2 q3.symm)
  have HM := Lib.hid hM
  have HO := Lib.hid ho
  have HW := Lib.hid hWB
  clear hM ho hWB hS
  have hp0 : 0 ≤ k + (offs xss xss.length : Int) := by omega
  have hp1 : k + (offs xss xss.length : Int) < 1125899906842624 := by omega
  go_wp2_with fail
  refine (markBoolS_any b1 a2 bs.length c2 bs _ w2 HW.out hp0 hp1 hbl).mono ?_
  rintro e w3 ⟨rfl, hB3, ho3⟩
  have HB3 := Lib.hid hB3
  have HO3 := Lib.hid ho3
  clear hB3 ho3
  go_wp2
  go_ret
  refine ⟨rfl, ⟨HM.out.only HO3.out (fun ⟨_, q⟩ => HH.out.2.2.1 q.symm) (fun i hi hl0 ⟨_, q⟩ => ?_), HB3.out, HH.out.2.2.1, fun i hi hl0 => ?_, fun i hi hl0 => ?_⟩, ?_⟩
  · rw [markM_len] at hi
    rw [markM_at k xss i hi, seqI_len] at hl0
    exact HH.out.2.2.2.1 i hi hl0 q
  · rw [markM_len] at hi
    rw [markM_at k xss i hi, seqI_len] at hl0
    exact HH.out.2.2.2.1 i hi hl0
  · rw [markM_len] at hi
    rw [markM_at k xss i hi, seqI_len] at hl0
    have := HH.out.2.2.2.2 i hi hl0
    have h1 := HO.out.2.2.2.1
    have h2 := HO3.out.2.2.2.1
    omega
  · exact ((Only.of_below _ HB.out).trans (HO.out.mono (fun q h => .inl h))).trans (HO3.out.mono (fun q h => .inr h))

set_option maxHeartbeats 10485760 in
theorem heldAut_any (al : Int) (v1 v2 : Value) (xss : List (List Int)) (m : Nat) (k : Int) (w : World) (h1 : MV w v1 (markM k xss)) (h2 : BV w v2 (seqB (k + (offs xss xss.length : Int)) m)) (hk0 : 0 ≤ k) (hk1 : k ≤ 10) (hm : xss.length ≤ 1048576) (hl : ∀ l ∈ xss, l.length ≤ 1048576) (hbl : m ≤ 1048576) :
    Calls Try.prog 26 #[.agg #[.int .i64 al, v1, v2], .int .i64 k] w (RB (.int .i64 (markV k xss m)) w) := by
  obtain ⟨a1, n1, c1, rfl⟩ : ∃ a n c, v1 = .slice a n c := by obtain ⟨a, c, e, -⟩ := h1; exact ⟨a, _, c, e⟩
  obtain ⟨a2, n2, c2, rfl⟩ : ∃ a n c, v2 = .slice a n c := by obtain ⟨a, c, e, -⟩ := h2; exact ⟨a, _, c, e⟩
  obtain rfl : n1 = xss.length := by have := (SV.at h1).1; rwa [markM_len] at this
  obtain rfl : n2 = m := by have := (SV.at h2).1; rwa [seqB_len] at this
  have B0 := Lib.hid (below_new w 28 #[.int .i64 al, .slice a1 xss.length c1, .slice a2 n2 c2])
  have H1 := Lib.hid h1; clear h1
  have H2 := Lib.hid h2; clear h2
  have HL := Lib.hid hl; clear hl
  have hoff : offs xss xss.length ≤ xss.length * 1048576 := offs_le xss 1048576 HL.out _ (Nat.le_refl _)
  have hb1 : xss.length * 1048576 ≤ 1048576 * 1048576 := Nat.mul_le_mul_right _ hm
  have hp0 : 0 ≤ k + (offs xss xss.length : Int) := by omega
  have hp1 : k + (offs xss xss.length : Int) < 1125899906842624 := by omega
  clear hoff hb1
  go_enter Try.func26, Try.ntmps26
  go_wp2_with fail
  refine (heldIntSS_any a1 xss.length c1 xss k _ (MV.below H1.out B0.out) hk0 hk1 hm HL.out).mono ?_
  rintro e w1 ⟨rfl, rfl⟩
  have hd : decide (k + (offs xss xss.length : Int) < 0) = false := by simp; omega
  go_wp2_with fail
  refine (heldBoolS_any a2 n2 c2 _ _ (BV.below H2.out B0.out) hp0 hp1 hbl).mono ?_
  rintro e w2 ⟨rfl, hb2⟩
  have B2 := Lib.hid (B0.out.trans (hb2.mono B0.out.size))
  have hd2 : decide (k + (offs xss xss.length : Int) + (n2 : Int) < 0) = false := by simp; omega
  clear hb2
  go_wp2
  go_ret
  exact ⟨rfl, B2.out⟩
end Go.Proofs.Ytagegbhchljggaa
