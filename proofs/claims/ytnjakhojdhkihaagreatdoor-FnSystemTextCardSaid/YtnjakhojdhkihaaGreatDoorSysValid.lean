/- eqSystem where both read alike; SystemValid on both sides. -/
import Derived.Test.YtnjakhojdhkihaaGreatDoorSysView
import Derived.StillTailTactics
namespace Go.Proofs.YtnjakhojdhkihaaGreatDoor
open Go.RowKit
set_option linter.unusedVariables false
set_option linter.unusedSimpArgs false
set_option maxRecDepth 100000

theorem below_new' (w : World) (t : TypeId) (c : Array Value) : Below w.heap.size w (w.alloc (.cells c t)) := (Below.refl _ _).alloc (Nat.le_refl _) _
theorem sys_cells (w : World) (al st : Int) (v2 : Value) (t : TypeId) : (w.alloc (.cells #[.int .i64 al, .int .i64 st, v2] t)).rowIs w.heap.size t 3 (fun i => #[.int .i64 al, .int .i64 st, v2][i]?.getD undef) := own_cells' w _ t 3 rfl

set_option maxHeartbeats 1000000 in
theorem eqSys_same (al st : Int) (a1 : Option Addr) (n1 c1 : Nat) (a2 : Option Addr) (n2 c2 : Nat) (es : List Edg) (w : World) (h1 : EV w (.slice a1 n1 c1) es) (h2 : EV w (.slice a2 n2 c2) es) :
    Calls Tryz.prog 7 #[.agg #[.int .i64 al, .int .i64 st, .slice a1 n1 c1], .agg #[.int .i64 al, .int .i64 st, .slice a2 n2 c2]] w (RB' (.bool true) w) := by
  have H1 := Lib.hid h1; clear h1
  have H2 := Lib.hid h2; clear h2
  have HB := Lib.hid (((Below.refl w.heap.size w).alloc (Nat.le_refl _) (.cells #[.int .i64 al, .int .i64 st, .slice a1 n1 c1] 24)).alloc (by simp) (.cells #[.int .i64 al, .int .i64 st, .slice a2 n2 c2] 24))
  go_enter Tryz.func7, Tryz.ntmps7
  go_wp2_with fail
  refine (eqEdgeS_same a1 n1 c1 a2 n2 c2 es _ (EV.below H1.out HB.out) (EV.below H2.out HB.out)).mono ?_
  rintro e w1 ⟨rfl, hb1⟩
  have HB1 := Lib.hid (HB.out.trans (hb1.mono HB.out.size))
  clear hb1
  go_wp2
  go_ret
  exact ⟨rfl, HB1.out⟩

/-- What SystemValid computes. -/
def ltE (e f : Edg) : Bool := if e.1 ≠ f.1 then decide (e.1 < f.1) else if e.2.1 ≠ f.2.1 then decide (e.2.1 < f.2.1) else decide (e.2.2 < f.2.2)
def edgeOK (al st : Int) (e : Edg) : Bool := decide (0 ≤ e.1 ∧ e.1 < st) && (decide (0 ≤ e.2.2 ∧ e.2.2 < st) && (decide (e.2.1 < 6) && hasB al e.2.1))
def stepOK (al st : Int) (es : List Edg) (i : Nat) : Bool := edgeOK al st (Edg.at es i) && (decide (i = 0) || ltE (Edg.at es (i - 1)) (Edg.at es i))
def sysV (al st : Int) (es : List Edg) : Bool := isA al && (decide (1 ≤ st ∧ st ≤ 16) && (List.range es.length).all (stepOK al st es))
theorem sysV_no1 (al st : Int) (es : List Edg) (h : isA al = false) : sysV al st es = false := by simp [sysV, h]
theorem sysV_no2 (al st : Int) (es : List Edg) (h : ¬ (1 ≤ st ∧ st ≤ 16)) : sysV al st es = false := by simp only [sysV, decide_eq_false h]; simp
theorem sysV_go (al st : Int) (es : List Edg) (h : isA al = true) (h2 : 1 ≤ st ∧ st ≤ 16) : sysV al st es = (List.range es.length).all (stepOK al st es) := by simp only [sysV, decide_eq_true h2, h]; simp
theorem range_no (p : Nat → Bool) (n k : Nat) (hk : k < n) (h : p k = false) : (List.range n).all p = false := by
  rw [List.all_eq_false]
  exact ⟨k, List.mem_range.2 hk, by simp [h]⟩
theorem range_snoc (p : Nat → Bool) (k : Nat) (h1 : (List.range k).all p = true) (h : p k = true) : (List.range (k + 1)).all p = true := by
  rw [List.range_succ, List.all_append, h1]; simp [h]

theorem l2Before_any (f l t f' l' t' : Int) (w : World) : Calls Tryz.prog 43 #[.agg #[.int .i64 f, .int .i64 l, .int .i64 t], .agg #[.int .i64 f', .int .i64 l', .int .i64 t']] w (RB' (.bool (ltE (f, l, t) (f', l', t'))) w) := by
  have HB := Lib.hid (((Below.refl w.heap.size w).alloc (Nat.le_refl _) (.cells #[.int .i64 f, .int .i64 l, .int .i64 t] 41)).alloc (by simp) (.cells #[.int .i64 f', .int .i64 l', .int .i64 t'] 41))
  by_cases h1 : f = f'
  · subst h1
    by_cases h2 : l = l'
    · subst h2
      have hr : ltE (f, l, t) (f, l, t') = decide (t < t') := by simp [ltE]
      have HR := Lib.hid hr; clear hr
      go_enter Tryz.func43, Tryz.ntmps43
      go_wp2
      go_ret
      exact ⟨ret_bool HR.out.symm, HB.out⟩
    · have hr : ltE (f, l, t) (f, l', t') = decide (l < l') := by simp [ltE, h2]
      have hq : (l != l') = true := by simp [h2]
      have HR := Lib.hid hr; clear hr
      clear h2
      go_enter Tryz.func43, Tryz.ntmps43
      go_wp2
      go_ret
      exact ⟨ret_bool HR.out.symm, HB.out⟩
  · have hr : ltE (f, l, t) (f', l', t') = decide (f < f') := by simp [ltE, h1]
    have hq : (f != f') = true := by simp [h1]
    have HR := Lib.hid hr; clear hr
    clear h1
    go_enter Tryz.func43, Tryz.ntmps43
    go_wp2
    go_ret
    exact ⟨ret_bool HR.out.symm, HB.out⟩

set_option maxHeartbeats 1000000 in
theorem l2Edge_any (al st f l t : Int) (h0 : 0 ≤ al) (h1 : al < 9223372036854775808) (w : World) : Calls Tryz.prog 42 #[.int .i64 al, .int .i64 st, .agg #[.int .i64 f, .int .i64 l, .int .i64 t]] w (RB' (.bool (edgeOK al st (f, l, t))) w) := by
  have HB := Lib.hid ((Below.refl w.heap.size w).alloc (Nat.le_refl _) (.cells #[.int .i64 f, .int .i64 l, .int .i64 t] 41))
  by_cases hf : 0 ≤ f ∧ f < st
  · by_cases ht : 0 ≤ t ∧ t < st
    · by_cases hl : 0 ≤ l ∧ l < 6
      · have hr : edgeOK al st (f, l, t) = hasB al l := by simp only [edgeOK, decide_eq_true hf, decide_eq_true ht, decide_eq_true hl.2]; simp
        obtain ⟨hf0, hf1⟩ := hf
        obtain ⟨ht0, ht1⟩ := ht
        obtain ⟨hl0, hl1⟩ := hl
        have HR := Lib.hid hr; clear hr
        go_enter Tryz.func42, Tryz.ntmps42
        go_wp2_with (go_at_call 68; (with_reducible refine (l1Has_any al l h0 h1 (by omega) (by omega) _).mono ?_); rintro e w' ⟨rfl, rfl⟩)
        go_ret
        exact ⟨ret_bool HR.out.symm, HB.out⟩
      · have hr : edgeOK al st (f, l, t) = false := by
          simp only [edgeOK]
          by_cases h6 : l < 6
          · rw [hasB_neg al l (by omega)]; simp
          · simp [h6]
        obtain ⟨hf0, hf1⟩ := hf
        obtain ⟨ht0, ht1⟩ := ht
        have HR := Lib.hid hr; clear hr
        go_enter Tryz.func42, Tryz.ntmps42
        by_cases hl0 : 0 ≤ l
        · have hl1 : 6 ≤ l := by omega
          clear hl
          go_wp2
          go_ret
          exact ⟨ret_bool HR.out.symm, HB.out⟩
        · clear hl
          go_wp2
          go_ret
          exact ⟨ret_bool HR.out.symm, HB.out⟩
    · have hr : edgeOK al st (f, l, t) = false := by simp only [edgeOK, decide_eq_false ht]; simp
      obtain ⟨hf0, hf1⟩ := hf
      have HR := Lib.hid hr; clear hr
      go_enter Tryz.func42, Tryz.ntmps42
      by_cases ht0 : 0 ≤ t
      · have ht1 : st ≤ t := by omega
        clear ht
        go_wp2
        go_ret
        exact ⟨ret_bool HR.out.symm, HB.out⟩
      · clear ht
        go_wp2
        go_ret
        exact ⟨ret_bool HR.out.symm, HB.out⟩
  · have hr : edgeOK al st (f, l, t) = false := by simp only [edgeOK, decide_eq_false hf]; simp
    have HR := Lib.hid hr; clear hr
    go_enter Tryz.func42, Tryz.ntmps42
    by_cases ht0 : 0 ≤ f
    · have ht1 : st ≤ f := by omega
      clear hf
      go_wp2
      go_ret
      exact ⟨ret_bool HR.out.symm, HB.out⟩
    · clear hf
      go_wp2
      go_ret
      exact ⟨ret_bool HR.out.symm, HB.out⟩
end Go.Proofs.YtnjakhojdhkihaaGreatDoor
