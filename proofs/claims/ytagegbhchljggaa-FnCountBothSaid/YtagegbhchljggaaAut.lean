/- eqAutomaton where both read alike; AutomatonValid on both sides. -/
import Derived.Test.YtagegbhchljggaaSame
import Derived.Test.YtagegbhchljggaaWithin
import Derived.Deep.RegionWith
namespace Go.Proofs.Ytagegbhchljggaa
open Go.RowKit
set_option linter.unusedVariables false
set_option linter.unusedSimpArgs false
set_option maxRecDepth 100000

/-- It returns v and has written nothing old. -/
def RB (v : Value) (w : World) (e : Ending) (w' : World) : Prop := e = .returned v ∧ Below w.heap.size w w'

set_option maxHeartbeats 400000 in
theorem eqAut_same (al : Int) (a1 : Option Addr) (n1 c1 : Nat) (a2 : Option Addr) (n2 c2 : Nat) (a3 : Option Addr) (n3 c3 : Nat) (a4 : Option Addr) (n4 c4 : Nat) (xss : List (List Int)) (bs : List Bool) (w : World)
    (h1 : MV w (.slice a1 n1 c1) xss) (h2 : BV w (.slice a2 n2 c2) bs) (h3 : MV w (.slice a3 n3 c3) xss) (h4 : BV w (.slice a4 n4 c4) bs) :
    Calls Try.prog 16 #[.agg #[.int .i64 al, .slice a1 n1 c1, .slice a2 n2 c2], .agg #[.int .i64 al, .slice a3 n3 c3, .slice a4 n4 c4]] w (RB (.bool true) w) := by
  have H1 := Lib.hid h1; clear h1
  have H2 := Lib.hid h2; clear h2
  have H3 := Lib.hid h3; clear h3
  have H4 := Lib.hid h4; clear h4
  go_enter Try.func16, Try.ntmps16
  go_wp2_with fail
  have hbel : Below w.heap.size w ((w.alloc (.cells #[.int .i64 al, .slice a1 n1 c1, .slice a2 n2 c2] 28)).alloc (.cells #[.int .i64 al, .slice a3 n3 c3, .slice a4 n4 c4] 28)) := ((Below.refl _ _).alloc (Nat.le_refl _) _).alloc (by simp) _
  have HB := Lib.hid hbel
  clear hbel
  refine (eqIntSS_b a1 n1 c1 a3 n3 c3 xss xss _ true (by simp) (MV.below H1.out HB.out) (MV.below H3.out HB.out)).mono ?_
  rintro e w1 ⟨rfl, m, rfl⟩
  go_wp2_with fail
  refine (eqBoolS_b a2 n2 c2 a4 n4 c4 bs bs _ true (by simp) (BV.below H2.out (below_drewN HB.out m)) (BV.below H4.out (below_drewN HB.out m))).mono ?_
  rintro e w1 ⟨rfl, m2, rfl⟩
  go_wp2
  go_ret
  exact ⟨rfl, below_drewN HB.out (m + m2)⟩

/-- What AutomatonValid computes. -/
def rowOK (l : List Int) (k n : Nat) : Bool := decide (l.length = k) && l.all (fun q => decide (0 ≤ q ∧ q < (n : Int)))
def autV (al : Int) (xss : List (List Int)) (bs : List Bool) : Bool := isA al && (decide (1 ≤ xss.length ∧ xss.length ≤ 12 ∧ bs.length = xss.length) && xss.all (fun l => rowOK l (lets al).length xss.length))

theorem take_succ_all {α : Type} (d : α) (p : α → Bool) (xs : List α) (k : Nat) (h : k < xs.length) (h1 : (xs.take k).all p = true) (h2 : p (xs[k]?.getD d) = true) : (xs.take (k + 1)).all p = true := by
  rw [List.getElem?_eq_getElem h, Option.getD_some] at h2
  rw [List.take_add_one, List.getElem?_eq_getElem h, List.all_append, h1]
  simp [h2]
theorem all_no {α : Type} (d : α) (p : α → Bool) (xs : List α) (k : Nat) (h : k < xs.length) (h2 : p (xs[k]?.getD d) = false) : xs.all p = false := by
  rw [List.getElem?_eq_getElem h, Option.getD_some] at h2
  rw [List.all_eq_false]
  exact ⟨_, List.getElem_mem h, by simp [h2]⟩

theorem l3Row_any (ao : Option Addr) (n cap : Nat) (xs : List Int) (k m : Nat) (hk : k < 1000) (hm : m ≤ 12) (w : World) (h : IV w (.slice ao n cap) xs) :
    Calls Try.prog 35 #[.slice ao n cap, .int .i64 k, .int .i64 m] w (Ret (.bool (rowOK xs k m)) w) := by
  obtain ⟨hn, hcap, hmax, hcell⟩ := SV.at h
  unfold maxLen at hmax
  clear h hcap
  by_cases hl : n = k
  · have hr : rowOK xs k m = xs.all (fun q => decide (0 ≤ q ∧ q < (m : Int))) := by
      have : xs.length = k := by omega
      simp [rowOK, this]
    subst hl
    have HR := Lib.hid hr; clear hr
    have HC := Lib.hid hcell
    have HN := Lib.hid hn
    clear hcell hn
    go_enter Try.func35, Try.ntmps35
    go_wp2
    go_loop [7] (fun i => ∃ k : Nat, k ≤ n ∧ i = .int .i64 k ∧ (xs.take k).all (fun q => decide (0 ≤ q ∧ q < (m : Int))) = true) (fun i => n - (intOf i).toNat)
    case atStart => exact ⟨0, by omega, rfl, by simp⟩
    case round =>
      obtain ⟨k, hk, rfl, hall⟩ := hrel
      have HALL := Lib.hid hall; clear hall
      by_cases hlt : k < n
      · rcases HC.out with h0 | ⟨b, off, rfl, hb, hc⟩
        · omega
        · obtain ⟨u, hu, rfl⟩ := hc k hlt
          clear hc
          obtain ⟨x, hx⟩ : ∃ x, xs[k]?.getD 0 = x := ⟨_, rfl⟩
          rw [hx] at hu
          have HX := Lib.hid hx; clear hx
          by_cases hx0 : x < 0
          · go_wp2
            go_ret
            exact ⟨ret_bool (by rw [HR.out]; exact (all_no 0 _ xs k (by rw [← HN.out]; exact hlt) (by rw [HX.out]; simp; omega)).symm), rfl⟩
          · by_cases hx1 : x < (m : Int)
            · go_wp2
              go_round
              case rel => exact ⟨k + 1, by omega, by go_num, take_succ_all 0 _ xs k (by rw [← HN.out]; exact hlt) HALL.out (by rw [HX.out]; simp; omega)⟩
              case measure => simp [intOf] <;> omega
            · go_wp2
              go_ret
              exact ⟨ret_bool (by rw [HR.out]; exact (all_no 0 _ xs k (by rw [← HN.out]; exact hlt) (by rw [HX.out]; simp; omega)).symm), rfl⟩
      · go_wp2
        go_ret
        obtain rfl : k = n := by omega
        exact ⟨ret_bool (by rw [HR.out, ← HALL.out, List.take_of_length_le (by rw [← HN.out]; exact Nat.le_refl _)]), rfl⟩
  · have hr : rowOK xs k m = false := by
      have : xs.length ≠ k := by omega
      simp [rowOK, this]
    have HR := Lib.hid hr; clear hr
    have hq : ((n : Int) == (k : Int)) = false := by simp; omega
    clear hn hcell
    go_enter Try.func35, Try.ntmps35
    go_wp2
    go_ret
    exact ⟨ret_bool HR.out.symm, rfl⟩

/-- The two struct cells' reading through a call that keeps the old. -/
theorem agg3_cell (w : World) (al : Int) (v1 v2 : Value) (t : TypeId) : (w.alloc (.cells #[.int .i64 al, v1, v2] t)).rowIs w.heap.size t 3 (fun i => #[.int .i64 al, v1, v2][i]?.getD undef) := own_cells w _ t 3 rfl

theorem autV_no1 (al : Int) (xss : List (List Int)) (bs : List Bool) (h : isA al = false) : autV al xss bs = false := by simp [autV, h]
theorem autV_no2 (al : Int) (xss : List (List Int)) (bs : List Bool) (h : ¬ (1 ≤ xss.length ∧ xss.length ≤ 12 ∧ bs.length = xss.length)) : autV al xss bs = false := by simp only [autV, decide_eq_false h]; simp
theorem autV_go (al : Int) (xss : List (List Int)) (bs : List Bool) (h : isA al = true) (h2 : 1 ≤ xss.length ∧ xss.length ≤ 12 ∧ bs.length = xss.length) : autV al xss bs = xss.all (fun l => rowOK l (lets al).length xss.length) := by simp only [autV, decide_eq_true h2, h]; simp

end Go.Proofs.Ytagegbhchljggaa
