/- ReachableStates, on both sides. -/
import Derived.Test.YtknhgfmjchfnjaaDoorSysImpl
namespace Go.Proofs.YtknhgfmjchfnjaaDoor
open Go.RowKit
set_option linter.unusedVariables false
set_option linter.unusedSimpArgs false
set_option maxRecDepth 100000

/-- No closed set that has state 0 lacks a state of s. -/
def Und (es : List Edg) (s : Nat) : Prop := ∀ c : Nat, c.testBit 0 = true → Clo es c → ∀ j, s.testBit j = true → c.testBit j = true
theorem und_one (es : List Edg) : Und es 1 := fun c hc _ j hj => by
  have h1 : (1 : Nat) = 2 ^ 0 := rfl
  rw [h1, Nat.testBit_two_pow] at hj
  have : 0 = j := by simpa using hj
  rw [← this]; exact hc
theorem und_or {es : List Edg} {a b : Nat} (h : Und es a) (h2 : Und es b) : Und es (a ||| b) := fun c hc hcl j hj => by
  rw [Nat.testBit_or, Bool.or_eq_true] at hj
  rcases hj with hj | hj
  · exact h c hc hcl j hj
  · exact h2 c hc hcl j hj
theorem und_step {es : List Edg} {a : Nat} (h : Und es a) (x : Int) : Und es (stepN es a x) := fun c hc hcl j hj => by
  rw [stepN_bit, List.any_eq_true] at hj
  obtain ⟨e, he, h2⟩ := hj
  simp only [decide_eq_true_eq] at h2
  rw [← h2.2]
  refine hcl e he (h c hc hcl _ ?_)
  have := h2.1.2
  unfold hasB at this
  simp only [Bool.and_eq_true, Int.toNat_natCast] at this
  exact this.2
theorem und_bit {es : List Edg} {a : Nat} (h : Und es a) (e : Edg) (he : e ∈ es) (hb : a.testBit e.1.toNat = true) : Und es (2 ^ e.2.2.toNat) := fun c hc hcl j hj => by
  rw [Nat.testBit_two_pow] at hj
  have : e.2.2.toNat = j := by simpa using hj
  rw [← this]
  exact hcl e he (h c hc hcl _ hb)
theorem or_more {a b : Nat} (h : a ||| b ≠ a) : a < a ||| b := Nat.lt_of_le_of_ne Nat.left_le_or (fun e => h e.symm)
theorem at_mem (es : List Edg) (k : Nat) (h : k < es.length) : Edg.at es k ∈ es := by
  unfold Edg.at
  rw [List.getElem?_eq_getElem h]
  exact List.getElem_mem _
theorem mem_at (es : List Edg) (e : Edg) (h : e ∈ es) : ∃ k, k < es.length ∧ Edg.at es k = e := by
  obtain ⟨k, hk, rfl⟩ := List.mem_iff_getElem.1 h
  exact ⟨k, hk, by unfold Edg.at; rw [List.getElem?_eq_getElem hk]; rfl⟩
theorem clo_steps {es : List Edg} (hok : OkE es) {c : Nat} (h : ∀ x : Nat, x < 6 → ∀ j, (stepN es c (x : Int)).testBit j = true → c.testBit j = true) : Clo es c := by
  intro e he hb
  have ho := hok e he
  refine h e.2.1.toNat (by omega) _ ?_
  rw [stepN_bit, List.any_eq_true]
  refine ⟨e, he, ?_⟩
  simp only [decide_eq_true_eq]
  refine ⟨⟨by omega, ?_⟩, trivial⟩
  unfold hasB
  simp only [Bool.and_eq_true, decide_eq_true_eq, Int.toNat_natCast]
  exact ⟨ho.1.1, hb⟩
theorem hasB_bit {s : Nat} {f : Int} (h : hasB (s : Int) f = true) : s.testBit f.toNat = true := by
  unfold hasB at h
  simp only [Bool.and_eq_true, Int.toNat_natCast] at h
  exact h.2
theorem bit_hasB {s : Nat} {f : Int} (h0 : 0 ≤ f) (h : hasB (s : Int) f = false) : s.testBit f.toNat = false := by
  unfold hasB at h
  simpa [h0] using h
/-- A set under way: it has state 0 and nothing that cannot be reached. -/
def Way (es : List Edg) (s : Nat) : Prop := s < 65536 ∧ s.testBit 0 = true ∧ Und es s
theorem Way.done {es : List Edg} {s : Nat} (h : Way es s) (hc : Clo es s) : IsReach es s := ⟨h.1, h.2.1, hc, h.2.2⟩
theorem Way.or {es : List Edg} {s t : Nat} (h : Way es s) (ht : t < 65536) (hu : Und es t) : Way es (s ||| t) := ⟨Nat.or_lt_two_pow (n := 16) h.1 ht, by rw [Nat.testBit_or, h.2.1]; rfl, und_or h.2.2 hu⟩
theorem way_one (es : List Edg) : Way es 1 := ⟨by decide, by decide, und_one es⟩
def reachP (al st : Int) (es : List Edg) (r : Nat) : Prop := if sysV al st es = true then IsReach es r else r = 0
theorem reachP_unique {al st : Int} {es : List Edg} {r q : Nat} (h : reachP al st es r) (h2 : reachP al st es q) : r = q := by
  unfold reachP at h h2
  split at h
  · rw [if_pos (by assumption)] at h2; exact h.unique h2
  · rw [if_neg (by assumption)] at h2; omega
def boolOf : Value → Bool
  | .bool b => b
  | _ => false
set_option maxHeartbeats 4000000 in
theorem l2Reach_any (al st : Int) (a1 : Option Addr) (n1 c1 : Nat) (es : List Edg) (w : World) (h : EV w (.slice a1 n1 c1) es) (hv : sysV al st es = true) :
    Calls Tryd.prog 79 #[.agg #[.int .i64 al, .int .i64 st, .slice a1 n1 c1], .int .i64 1, .int .i64 al] w (fun e w' => ∃ r : Nat, e = .returned (.int .i64 r) ∧ IsReach es r ∧ Below w.heap.size w w') := by
  obtain ⟨hn, hcap, hmax, hcell⟩ := h.at
  have B0 := Lib.hid (below_new' w 25 #[.int .i64 al, .int .i64 st, .slice a1 n1 c1])
  have R0 := Lib.hid (sys_cells w al st (.slice a1 n1 c1) 25)
  obtain ⟨hal, hst1, hst16, hedge⟩ := sysV_facts hv
  have hok := sysV_ok hv
  obtain ⟨hal0, hal1⟩ := (isA_iff al).1 hal
  have HC := Lib.hid hcell; clear hcell
  have HN := Lib.hid hn; clear hn
  have HOK := Lib.hid hok; clear hok
  have HEDGE := Lib.hid hedge; clear hedge
  clear h hv hal hst1 hst16
  go_enter Tryd.func79, Tryd.ntmps79
  go_wp2
  go_loopw [1, 7] (fun v m wr => ∃ (S : Nat) (M : Bool), v = .int .i64 S ∧ m = .bool M ∧ Way es S ∧ (M = false → Clo es S) ∧ Below w.heap.size w wr ∧ wr.rowIs w.heap.size 25 3 (fun i => #[.int .i64 al, .int .i64 st, .slice a1 n1 c1][i]?.getD undef)) (fun v m _ => 2 * (65536 - (intOf v).toNat) + (if boolOf m = true then 1 else 0))
  case atStart => exact ⟨1, true, rfl, rfl, way_one es, (fun h => by cases h), B0.out, R0.out⟩
  case round =>
    obtain ⟨S, M, rfl, rfl, hway, hclo, hbel, hrow⟩ := hrel
    cases M with
    | false =>
      have HW := Lib.hid hway
      have HCL := Lib.hid (hclo rfl)
      clear hway hclo
      go_wp2
      go_ret
      exact ⟨S, rfl, HW.out.done HCL.out, hbel⟩
    | true =>
      have hS := hway.1
      have HW := Lib.hid hway
      have HBEL := Lib.hid hbel
      have HROW := Lib.hid hrow
      obtain ⟨wo, hwo⟩ : ∃ wo : World, wo = wr := ⟨_, rfl⟩
      subst hwo
      clear hway hclo hbel hrow
      go_wp2
      go_loopw [1, 7, 8] (fun v m i wr => ∃ (T : Nat) (M : Bool) (k : Nat), v = .int .i64 T ∧ m = .bool M ∧ i = .int .i64 k ∧ k ≤ n1 ∧ Way es T ∧ S ≤ T ∧ (M = true → S < T) ∧ (M = false → T = S ∧ ∀ j, j < k → S.testBit (Edg.at es j).1.toNat = true → S.testBit (Edg.at es j).2.2.toNat = true) ∧ Below w.heap.size w wr ∧ wr.rowIs w.heap.size 25 3 (fun i => #[.int .i64 al, .int .i64 st, .slice a1 n1 c1][i]?.getD undef)) (fun _ _ i _ => n1 - (intOf i).toNat)
      case atStart => exact ⟨S, false, 0, rfl, rfl, rfl, by omega, HW.out, Nat.le_refl _, (fun h => by cases h), (fun _ => ⟨rfl, fun j hj => absurd hj (Nat.not_lt_zero _)⟩), HBEL.out, HROW.out⟩
      case round =>
        obtain ⟨T, M, k, rfl, rfl, rfl, hk, hway, hle, hM1, hM0, hbel, hrow⟩ := hrel
        have p0 : wr.cell? ⟨w.heap.size, 0, none⟩ = some (.int .i64 al) := hrow.cell (by decide)
        have p1 : wr.cell? ⟨w.heap.size, 1, none⟩ = some (.int .i64 st) := hrow.cell (by decide)
        have p2 : wr.cell? ⟨w.heap.size, 2, none⟩ = some (.slice a1 n1 c1) := hrow.cell (by decide)
        have hTl := hway.1
        have HWT := Lib.hid hway
        have HM1 := Lib.hid hM1
        have HM0 := Lib.hid hM0
        have HBELR := Lib.hid hbel
        have HROWR := Lib.hid hrow
        by_cases hlt : k < n1
        · rcases HC.out with h0 | ⟨b, off, rfl, hb, hc⟩
          · omega
          · have hu := hc k hlt
            rw [← cell_below hbel hb, ← cell_below hbel hb, ← cell_below hbel hb] at hu
            have hlt' : k < es.length := by rw [← HN.out]; exact hlt
            have hmem := at_mem es k hlt'
            have hee := edgeOK_facts (HEDGE.out _ hmem)
            have hek := HOK.out.at k hlt'
            obtain ⟨f, l, t, he⟩ : ∃ f l t, Edg.at es k = (f, l, t) := ⟨_, _, _, rfl⟩
            rw [he] at hu hee hek hmem
            obtain ⟨e0, e1, e2⟩ := hu
            dsimp only at e0 e1 e2 hee hek
            obtain ⟨⟨hf0, hf1⟩, ⟨hl0, hl1⟩, ht0, ht1⟩ := hek
            have hhl := hee.2.2.2
            have HOR := Lib.hid (or_n T (2 ^ t.toNat) hTl (bit_lt t ht0 ht1))
            have HHL := Lib.hid hhl; clear hhl
            have HE := Lib.hid he; clear he
            have HMEM := Lib.hid hmem; clear hmem
            clear hc hlt' hee hway hM1 hM0 hbel hrow
            go_wp2_with fail
            obtain ⟨x0, hx0⟩ : ∃ x0, wr.heap.size = x0 := ⟨_, rfl⟩
            obtain ⟨w5, hw5⟩ : ∃ w5, (wr.alloc (.cells #[.int .i64 f, .int .i64 l, .int .i64 t] 58)) = w5 := ⟨_, rfl⟩
            have hr5 := own_cells' wr #[.int .i64 f, .int .i64 l, .int .i64 t] 58 3 rfl
            have hb5 := below_new' wr 58 #[.int .i64 f, .int .i64 l, .int .i64 t]
            rw [hx0] at hr5
            rw [hw5] at hr5 hb5 ⊢
            rw [hx0]
            have g0 : w5.cell? ⟨x0, 0, none⟩ = some (.int .i64 f) := hr5.cell (by decide)
            have g1 : w5.cell? ⟨x0, 1, none⟩ = some (.int .i64 l) := hr5.cell (by decide)
            have g2 : w5.cell? ⟨x0, 2, none⟩ = some (.int .i64 t) := hr5.cell (by decide)
            have HROW5 := Lib.hid (rowIs_below' HROWR.out hb5)
            have HB5 := Lib.hid (HBELR.out.trans (hb5.mono HBELR.out.size))
            clear hw5 hr5 hb5 hx0 e0 e1 e2 p0 p1 p2
            cases hhf : hasB (T : Int) f with
            | false =>
              have hbf := bit_hasB hf0 hhf
              have HBF := Lib.hid hbf; clear hbf
              have HHF := Lib.hid hhf
              clear hhf
              go_wp2_with (first | (go_at_call 78; refine (l1Has_any _ _ (by omega) (by omega) (by omega) (by omega) _).mono ?_; rintro e w9 ⟨rfl, rfl⟩; (first | rw [HHL.out] | rw [HHF.out])))
              go_roundw
              case rel => exact ⟨T, M, k + 1, rfl, rfl, by go_num, by omega, HWT.out, hle, HM1.out, fun hm => ⟨(HM0.out hm).1, fun j hj hb => by
                by_cases e : j = k
                · subst e
                  rw [HE.out] at hb
                  rw [← (HM0.out hm).1, HBF.out] at hb
                  cases hb
                · exact (HM0.out hm).2 j (by omega) hb⟩, HB5.out, HROW5.out⟩
              case measure => simp [intOf] <;> omega
            | true =>
              have hbf := hasB_bit hhf
              have HBF := Lib.hid hbf; clear hbf
              have HHF := Lib.hid hhf
              clear hhf
              cases hht : hasB (T : Int) t with
              | true =>
                have hbt := hasB_bit hht
                have HBT := Lib.hid hbt; clear hbt
                have HHT := Lib.hid hht
                clear hht
                go_wp2_with (first | (go_at_call 78; refine (l1Has_any _ _ (by omega) (by omega) (by omega) (by omega) _).mono ?_; rintro e w9 ⟨rfl, rfl⟩; (first | rw [HHL.out] | rw [HHF.out] | rw [HHT.out])))
                go_roundw
                case rel => exact ⟨T, M, k + 1, rfl, rfl, by go_num, by omega, HWT.out, hle, HM1.out, fun hm => ⟨(HM0.out hm).1, fun j hj hb => by
                  by_cases e : j = k
                  · subst e
                    rw [HE.out]
                    rw [← (HM0.out hm).1]
                    exact HBT.out
                  · exact (HM0.out hm).2 j (by omega) hb⟩, HB5.out, HROW5.out⟩
                case measure => simp [intOf] <;> omega
              | false =>
                have hbt := bit_hasB ht0 hht
                have hne : T ||| 2 ^ t.toNat ≠ T := fun e => by
                  have : (T ||| 2 ^ t.toNat).testBit t.toNat = true := by rw [Nat.testBit_or, Nat.testBit_two_pow]; simp
                  rw [e, hbt] at this
                  cases this
                have hmore := or_more hne
                have hw2 : Way es (T ||| 2 ^ t.toNat) := HWT.out.or (bit_lt t ht0 ht1) (und_bit HWT.out.2.2 (f, l, t) HMEM.out HBF.out)
                have hgt : S < T ||| 2 ^ t.toNat := Nat.lt_of_le_of_lt hle hmore
                obtain ⟨U, hU⟩ : ∃ U, T ||| 2 ^ t.toNat = U := ⟨_, rfl⟩
                rw [hU] at hgt hw2 HOR
                have HGT := Lib.hid hgt; clear hgt
                have HW2 := Lib.hid hw2; clear hw2
                clear hmore hU
                have HHT := Lib.hid hht
                clear hht hbt hne
                go_wp2_with (first | (go_at_call 78; refine (l1Has_any _ _ (by omega) (by omega) (by omega) (by omega) _).mono ?_; rintro e w9 ⟨rfl, rfl⟩; (first | rw [HHL.out] | rw [HHF.out] | rw [HHT.out])) | (go_at_call 61; (with_reducible refine (l1Bit_any _ (by omega) (by omega) _).mono ?_); rintro e w' ⟨rfl, rfl⟩))
                go_roundw
                case rel => exact ⟨U, true, k + 1, congrArg (Value.int .i64) HOR.out, rfl, by go_num, hlt, HW2.out, Nat.le_of_lt HGT.out, (fun _ => HGT.out), (fun h => by cases h), HB5.out, HROW5.out⟩
                case measure => simp [intOf] <;> omega
        · obtain rfl : k = n1 := by omega
          clear hway hM1 hM0 hbel hrow
          go_wp2
          go_roundw
          case rel => exact ⟨T, M, rfl, rfl, HWT.out, fun hm => fun e he hb => by
            obtain ⟨j, hj, rfl⟩ := mem_at es e he
            rw [(HM0.out hm).1] at hb ⊢
            exact (HM0.out hm).2 j (by rw [HN.out]; exact hj) hb, HBELR.out, HROWR.out⟩
          case measure =>
            have h1 := HM1.out
            cases M with
            | true => have := h1 rfl; simp [intOf, boolOf] <;> omega
            | false => simp [intOf, boolOf] <;> omega
set_option maxHeartbeats 1000000 in
theorem specReach_any (al st : Int) (a1 : Option Addr) (n1 c1 : Nat) (es : List Edg) (w : World) (h : EV w (.slice a1 n1 c1) es) :
    Calls Tryd.prog 42 #[.agg #[.int .i64 al, .int .i64 st, .slice a1 n1 c1]] w (fun e w' => ∃ r : Nat, e = .returned (.int .i64 r) ∧ reachP al st es r ∧ Below w.heap.size w w') := by
  have B0 := Lib.hid (below_new' w 25 #[.int .i64 al, .int .i64 st, .slice a1 n1 c1])
  have R0 := Lib.hid (sys_cells w al st (.slice a1 n1 c1) 25)
  have H := Lib.hid h; clear h
  cases hv : sysV al st es with
  | false =>
    have hr : reachP al st es 0 := by unfold reachP; rw [if_neg (by rw [hv]; decide)]
    have HR := Lib.hid hr; clear hr
    have HV := Lib.hid hv; clear hv
    go_enter Tryd.func42, Tryd.ntmps42
    go_wp2_with fail
    refine (specSysValid_any al st a1 n1 c1 es _ (EV.below H.out B0.out)).mono ?_
    rintro e w1 ⟨rfl, hb1⟩
    rw [HV.out]
    have B1 := Lib.hid (B0.out.trans (hb1.mono B0.out.size))
    clear hb1
    go_wp2
    go_ret
    exact ⟨0, rfl, HR.out, B1.out⟩
  | true =>
    have HV := Lib.hid hv; clear hv
    go_enter Tryd.func42, Tryd.ntmps42
    go_wp2_with fail
    refine (specSysValid_any al st a1 n1 c1 es _ (EV.below H.out B0.out)).mono ?_
    rintro e w1 ⟨rfl, hb1⟩
    rw [HV.out]
    have B1 := Lib.hid (B0.out.trans (hb1.mono B0.out.size))
    have R1 := Lib.hid (rowIs_below' R0.out hb1)
    have c10 : w1.cell? ⟨w.heap.size, 0, none⟩ = some (.int .i64 al) := R1.out.cell (by decide)
    have c11 : w1.cell? ⟨w.heap.size, 1, none⟩ = some (.int .i64 st) := R1.out.cell (by decide)
    have c12 : w1.cell? ⟨w.heap.size, 2, none⟩ = some (.slice a1 n1 c1) := R1.out.cell (by decide)
    clear hb1
    go_wp2_with fail
    refine (l2Reach_any al st a1 n1 c1 es _ (EV.below H.out B1.out) HV.out).mono ?_
    rintro e w2 ⟨r, rfl, hr, hb2⟩
    have B2 := Lib.hid (B1.out.trans (hb2.mono B1.out.size))
    have HR := Lib.hid hr; clear hr
    clear hb2
    go_wp2
    go_ret
    exact ⟨r, rfl, by unfold reachP; rw [if_pos HV.out]; exact HR.out, B2.out⟩
set_option maxHeartbeats 4000000 in
theorem implReach_any (al st : Int) (a1 : Option Addr) (n1 c1 : Nat) (es : List Edg) (w : World) (hT : Tab w) (h : EV w (.slice a1 n1 c1) es) :
    Calls Tryd.prog 24 #[.agg #[.int .i64 al, .int .i64 st, .slice a1 n1 c1]] w (fun e w' => ∃ r : Nat, e = .returned (.int .i64 r) ∧ reachP al st es r ∧ Below w.heap.size w w') := by
  have B0 := Lib.hid (below_new' w 25 #[.int .i64 al, .int .i64 st, .slice a1 n1 c1])
  have R0 := Lib.hid (sys_cells w al st (.slice a1 n1 c1) 25)
  have H := Lib.hid h; clear h
  have HT := Lib.hid hT; clear hT
  cases hv : sysV al st es with
  | false =>
    have hr : reachP al st es 0 := by unfold reachP; rw [if_neg (by rw [hv]; decide)]
    have HR := Lib.hid hr; clear hr
    have HV := Lib.hid hv; clear hv
    go_enter Tryd.func24, Tryd.ntmps24
    go_wp2_with fail
    refine (implSysValid_any al st a1 n1 c1 es _ (EV.below H.out B0.out)).mono ?_
    rintro e w1 ⟨rfl, hb1⟩
    rw [HV.out]
    have B1 := Lib.hid (B0.out.trans (hb1.mono B0.out.size))
    clear hb1
    go_wp2
    go_ret
    exact ⟨0, rfl, HR.out, B1.out⟩
  | true =>
    have hok := sysV_ok hv
    have HOK := Lib.hid hok; clear hok
    have HV := Lib.hid hv; clear hv
    go_enter Tryd.func24, Tryd.ntmps24
    go_wp2_with fail
    refine (implSysValid_any al st a1 n1 c1 es _ (EV.below H.out B0.out)).mono ?_
    rintro e w1 ⟨rfl, hb1⟩
    rw [HV.out]
    have B1 := Lib.hid (B0.out.trans (hb1.mono B0.out.size))
    have R1 := Lib.hid (rowIs_below' R0.out hb1)
    have c10 : w1.cell? ⟨w.heap.size, 0, none⟩ = some (.int .i64 al) := R1.out.cell (by decide)
    have c11 : w1.cell? ⟨w.heap.size, 1, none⟩ = some (.int .i64 st) := R1.out.cell (by decide)
    have c12 : w1.cell? ⟨w.heap.size, 2, none⟩ = some (.slice a1 n1 c1) := R1.out.cell (by decide)
    clear hb1
    go_wp2_with fail
    refine (movesOf_any al st a1 n1 c1 es _ (EV.below H.out B1.out) HOK.out).mono ?_
    rintro e w2 ⟨b, rfl, hmv, hbl, hb2⟩
    have B2 := Lib.hid (B1.out.trans (hb2.mono B1.out.size))
    have hmv' : MvT w2 b es := hmv
    have HMV := Lib.hid hmv'
    have HT2 := Lib.hid ((HT.out.below B1.out).below hb2)
    clear hb2 hmv hmv' c10 c11 c12
    go_wp2
    go_loopw [4] (fun v wr => ∃ S : Nat, v = .int .i64 S ∧ Way es S ∧ Below w.heap.size w wr ∧ MvT wr b es ∧ Tab wr) (fun v _ => 65536 - (intOf v).toNat)
    case atStart => exact ⟨1, rfl, way_one es, B2.out, HMV.out, HT2.out⟩
    case round =>
      obtain ⟨S, rfl, hway, hbel, hrow, htab⟩ := hrel
      have hS := hway.1
      have HW := Lib.hid hway
      have HBEL := Lib.hid hbel
      have HROW := Lib.hid hrow
      have HTAB := Lib.hid htab
      clear hway hbel hrow htab
      go_wp2
      go_loopw [5, 13] (fun v i wr => ∃ T k : Nat, v = .int .i64 T ∧ i = .int .i64 k ∧ k ≤ 6 ∧ Way es T ∧ (∀ x, x < k → ∀ j, (stepN es S (x : Int)).testBit j = true → T.testBit j = true) ∧ (∃ u, T = S ||| u) ∧ Below w.heap.size w wr ∧ MvT wr b es ∧ Tab wr) (fun _ i _ => 6 - (intOf i).toNat)
      case atStart => exact ⟨S, 0, rfl, rfl, by omega, HW.out, fun x hx => by omega, ⟨0, (Nat.or_zero _).symm⟩, HBEL.out, HROW.out, HTAB.out⟩
      case round =>
        obtain ⟨T, k, rfl, rfl, hk, hwt, hst, hsup, hbel, hrow, htab⟩ := hrel
        have hTl := hwt.1
        have HWT := Lib.hid hwt
        have HST := Lib.hid hst
        have HSUP := Lib.hid hsup
        have HBELR := Lib.hid hbel
        have HROWR := Lib.hid hrow
        have HTABR := Lib.hid htab
        clear hwt hst hsup hbel hrow htab
        by_cases hlt : k < 6
        · have hol := stepN_lt HOK.out S (k : Int)
          have HOR := Lib.hid (or_n T (stepN es S (k : Int)) hTl hol)
          have hw2 := HWT.out.or hol (und_step HW.out.2.2 (k : Int))
          have HW2 := Lib.hid hw2
          have HS2 := Lib.hid (show ∀ x, x < k + 1 → ∀ j, (stepN es S (x : Int)).testBit j = true → (T ||| stepN es S (k : Int)).testBit j = true from fun x hx j hj => by
            rw [Nat.testBit_or]
            by_cases e : x = k
            · subst e; rw [hj, Bool.or_true]
            · rw [HST.out x (by omega) j hj]; rfl)
          obtain ⟨o, ho⟩ : ∃ o, stepN es S (k : Int) = o := ⟨_, rfl⟩
          have hstep := fun wq (h1 : MvT wq b es) (h2 : Tab wq) => step_any b es S k wq h1 h2 hS hlt HOK.out
          rw [ho] at hol hw2 HOR HW2 HS2 hstep
          have HSTEP := Lib.hid hstep; clear hstep
          clear hw2
          go_wp2_with fail
          refine (HSTEP.out _ HROWR.out HTABR.out).mono ?_
          rintro e w6 ⟨rfl, nq, rfl⟩
          go_wp2
          go_roundw
          case rel => exact ⟨T ||| o, k + 1, congrArg (Value.int .i64) HOR.out, by go_num, by omega, HW2.out, HS2.out, by obtain ⟨u, hu⟩ := HSUP.out; exact ⟨u ||| o, by rw [hu, Nat.or_assoc]⟩, below_dN HBELR.out nq, HROWR.out, HTABR.out⟩
          case measure => simp [intOf] <;> omega
        · obtain rfl : k = 6 := by omega
          by_cases he : T = S
          · subst he
            go_wp2
            go_ret
            exact ⟨T, rfl, by unfold reachP; rw [if_pos HV.out]; exact HWT.out.done (clo_steps HOK.out (fun x hx j hj => HST.out x hx j hj)), HBELR.out⟩
          · have he' : ¬ (T : Int) = (S : Int) := by omega
            go_wp2
            go_roundw
            case rel => exact ⟨T, rfl, HWT.out, HBELR.out, HROWR.out, HTABR.out⟩
            case measure =>
              have hgt : S < T := by
                obtain ⟨u, rfl⟩ := HSUP.out
                exact or_more he
              simp [intOf] <;> omega
end Go.Proofs.YtknhgfmjchfnjaaDoor
