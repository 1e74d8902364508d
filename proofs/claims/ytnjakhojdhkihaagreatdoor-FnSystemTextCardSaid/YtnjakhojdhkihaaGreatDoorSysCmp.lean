/- isState, compareEdges. -/
import Derived.Test.YtnjakhojdhkihaaGreatDoorSysValid
namespace Go.Proofs.YtnjakhojdhkihaaGreatDoor
open Go.RowKit
set_option linter.unusedVariables false
set_option linter.unusedSimpArgs false
set_option maxRecDepth 100000

theorem isState_any (al st q : Int) (v : Value) (w : World) : Calls Tryz.prog 35 #[.agg #[.int .i64 al, .int .i64 st, v], .int .i64 q] w (RB' (.bool (decide (0 ≤ q ∧ q < st))) w) := by
  have HB := Lib.hid ((Below.refl w.heap.size w).alloc (Nat.le_refl _) (.cells #[.int .i64 al, .int .i64 st, v] 24))
  by_cases h : 0 ≤ q
  · by_cases h2 : q < st
    · have hr : decide (0 ≤ q ∧ q < st) = true := by simp [h, h2]
      have HR := Lib.hid hr; clear hr
      go_enter Tryz.func35, Tryz.ntmps35
      go_wp2
      go_ret
      exact ⟨ret_bool HR.out.symm, HB.out⟩
    · have hr : decide (0 ≤ q ∧ q < st) = false := by simp [h2]
      have h3 : st ≤ q := by omega
      have HR := Lib.hid hr; clear hr
      go_enter Tryz.func35, Tryz.ntmps35
      go_wp2
      go_ret
      exact ⟨ret_bool (by symm; simp; omega), HB.out⟩
  · have hr : decide (0 ≤ q ∧ q < st) = false := by simp [h]
    have HR := Lib.hid hr; clear hr
    go_enter Tryz.func35, Tryz.ntmps35
    go_wp2
    go_ret
    exact ⟨ret_bool (by symm; simp; omega), HB.out⟩
theorem cmpIntE_any (x y : Int) (w : World) : Calls Tryz.prog 66 #[.int .i64 x, .int .i64 y] w (Ret (.int .i64 (cmpI x y)) w) := by
  by_cases h1 : x < y
  · have hr : cmpI x y = -1 := by simp [cmpI, h1]
    have HR := Lib.hid hr; clear hr
    go_enter Tryz.func66, Tryz.ntmps66
    go_wp2
    go_ret
    exact ⟨ret_int HR.out.symm, rfl⟩
  · by_cases h2 : y < x
    · have hr : cmpI x y = 1 := by simp [cmpI, h1, h2]
      have HR := Lib.hid hr; clear hr
      go_enter Tryz.func66, Tryz.ntmps66
      go_wp2
      go_ret
      exact ⟨ret_int HR.out.symm, rfl⟩
    · have hr : cmpI x y = 0 := by simp [cmpI, h1, h2]
      have HR := Lib.hid hr; clear hr
      go_enter Tryz.func66, Tryz.ntmps66
      go_wp2
      go_ret
      exact ⟨ret_int HR.out.symm, rfl⟩

theorem orE_yes (xs : List Int) (k : Nat) (h : k < xs.length) (he : xs[k]?.getD 0 ≠ 0) : orL (xs.drop k) = xs[k]?.getD 0 := by
  rw [List.drop_eq_getElem_cons h]; rw [List.getElem?_eq_getElem h] at he ⊢
  simp only [Option.getD_some] at he ⊢
  simp [orL, he]
theorem orE_no (xs : List Int) (k : Nat) (h : k < xs.length) (he : xs[k]?.getD 0 = 0) : orL (xs.drop k) = orL (xs.drop (k + 1)) := by
  rw [List.drop_eq_getElem_cons h]; rw [List.getElem?_eq_getElem h] at he
  simp only [Option.getD_some] at he
  simp [orL, he]

set_option maxHeartbeats 400000 in
theorem orE_any (g m cap : Nat) (xs : List Int) (w : World) (hc : Hid (∀ j, j < m → w.cell? ⟨g, j, none⟩ = some (.int .i64 (xs[j]?.getD 0)))) (HM : Hid (xs.length = m)) (hm : m ≤ 1000) (hcap : m ≤ cap) (hcap2 : cap ≤ 1000) : Calls Tryz.prog 65 #[.slice (some ⟨g, 0, none⟩) m cap] w (Ret (.int .i64 (orL xs)) w) := by
  go_enter Tryz.func65, Tryz.ntmps65
  go_wp2
  go_loop [8] (fun i => ∃ k : Nat, k ≤ m ∧ i = .int .i64 k ∧ orL (xs.drop k) = orL xs) (fun i => m - (intOf i).toNat)
  case atStart => exact ⟨0, by omega, rfl, rfl⟩
  case round =>
    obtain ⟨k, hk, rfl, hrest⟩ := hrel
    have HREST := Lib.hid hrest; clear hrest
    by_cases hlt : k < m
    · have hcell := hc.out k hlt
      obtain ⟨y, hy⟩ : ∃ y, xs[k]?.getD 0 = y := ⟨_, rfl⟩
      rw [hy] at hcell
      have HY := Lib.hid hy; clear hy
      by_cases he : y = 0
      · subst he
        go_wp2
        go_round
        case rel => exact ⟨k + 1, by omega, by go_num, by rw [← HREST.out, orE_no xs k (by rw [HM.out]; exact hlt) HY.out]⟩
        case measure => simp [intOf] <;> omega
      · have heb : (y != 0) = true := by simpa using he
        have HE := Lib.hid he
        clear he
        go_wp2
        go_ret
        exact ⟨ret_int (by rw [← HREST.out, orE_yes xs k (by rw [HM.out]; exact hlt) (by rw [HY.out]; exact HE.out), HY.out]), rfl⟩
    · go_wp2
      go_ret
      obtain rfl : k = m := by omega
      refine ⟨ret_int ?_, rfl⟩
      rw [← HREST.out, ← HM.out, List.drop_length]; rfl


def cmpE (e f : Edg) : Int := orL [cmpI e.1 f.1, cmpI e.2.1 f.2.1, cmpI e.2.2 f.2.2]
theorem cmpE_lt (e f : Edg) : decide (0 ≤ cmpE e f) = !ltE e f := by
  obtain ⟨a, b, c⟩ := e
  obtain ⟨a', b', c'⟩ := f
  unfold cmpE ltE cmpI
  dsimp only
  by_cases h1 : a < a'
  · have h2 : a ≠ a' := by omega
    simp [orL, h1, h2]
  · by_cases h2 : a' < a
    · have h3 : a ≠ a' := by omega
      simp [orL, h1, h2, h3]
    · obtain rfl : a = a' := by omega
      by_cases h4 : b < b'
      · have h5 : b ≠ b' := by omega
        simp [orL, h4, h5]
      · by_cases h5 : b' < b
        · have h6 : b ≠ b' := by omega
          simp [orL, h4, h5, h6]
        · obtain rfl : b = b' := by omega
          by_cases h7 : c < c'
          · simp [orL, h7]
          · by_cases h8 : c' < c
            · simp [orL, h7, h8]
            · simp [orL, h7, h8]
theorem Ret.still {P : Program} {f : FuncId} {args : Array Value} {w : World} {v : Value} (h : Calls P f args w (Ret v w)) : Calls P f args w (fun e w'' => e = .returned v ∧ w'' = w) := h.mono (fun _ _ h => ⟨h.1, h.2.symm⟩)
set_option maxHeartbeats 2000000 in
theorem cmpEdges_any (f l t f' l' t' : Int) (w : World) : Calls Tryz.prog 37 #[.agg #[.int .i64 f, .int .i64 l, .int .i64 t], .agg #[.int .i64 f', .int .i64 l', .int .i64 t']] w (RB' (.int .i64 (cmpE (f, l, t) (f', l', t'))) w) := by
  have HB := Lib.hid (((Below.refl w.heap.size w).alloc (Nat.le_refl _) (.cells #[.int .i64 f, .int .i64 l, .int .i64 t] 41)).alloc (by simp) (.cells #[.int .i64 f', .int .i64 l', .int .i64 t'] 41))
  go_enter Tryz.func37, Tryz.ntmps37
  go_wp2_with fail
  obtain ⟨w1, hw1⟩ : ∃ w1, ((w.alloc (.cells #[.int .i64 f, .int .i64 l, .int .i64 t] 41)).alloc (.cells #[.int .i64 f', .int .i64 l', .int .i64 t'] 41)) = w1 := ⟨_, rfl⟩
  have hr := (own_cells' w #[.int .i64 f, .int .i64 l, .int .i64 t] 41 3 rfl).alloc (.cells #[.int .i64 f', .int .i64 l', .int .i64 t'] 41)
  have hr' := own_cells' (w.alloc (.cells #[.int .i64 f, .int .i64 l, .int .i64 t] 41)) #[.int .i64 f', .int .i64 l', .int .i64 t'] 41 3 rfl
  have hs : (w.alloc (.cells #[.int .i64 f, .int .i64 l, .int .i64 t] 41)).heap.size = w.heap.size + 1 := by simp
  rw [hs] at hr'
  have hb := HB.out
  rw [hw1] at hr hr' hb ⊢
  have a0 : w1.cell? ⟨w.heap.size, 0, none⟩ = some (.int .i64 f) := hr.cell (by decide)
  have a1 : w1.cell? ⟨w.heap.size, 1, none⟩ = some (.int .i64 l) := hr.cell (by decide)
  have a2 : w1.cell? ⟨w.heap.size, 2, none⟩ = some (.int .i64 t) := hr.cell (by decide)
  have b0 : w1.cell? ⟨w.heap.size + 1, 0, none⟩ = some (.int .i64 f') := hr'.cell (by decide)
  have b1 : w1.cell? ⟨w.heap.size + 1, 1, none⟩ = some (.int .i64 l') := hr'.cell (by decide)
  have b2 : w1.cell? ⟨w.heap.size + 1, 2, none⟩ = some (.int .i64 t') := hr'.cell (by decide)
  have HB1 := Lib.hid hb; clear hb
  clear hw1 hr hr' hs HB
  go_still_tail 15, (by kernel_rfl)
  still_call (Ret.still (cmpIntE_any _ _ _))
  repeat still_step
  still_call (Ret.still (cmpIntE_any _ _ _))
  repeat still_step
  still_call (Ret.still (cmpIntE_any _ _ _))
  repeat still_step
  refine wpStill_nil ?_
  change wpList _ _ _ _ _ (World.drew _)
  go_wp2_with fail
  have hlt : w.heap.size ≤ w1.heap.size := HB1.out.size
  refine (orE_any w1.heap.size 3 3 [cmpI f f', cmpI l l', cmpI t t'] _ (Lib.hid ?_) (Lib.hid rfl) (by omega) (by omega) (by omega)).mono ?_
  · intro j hj
    match j, hj with
    | 0, _ => simp
    | 1, _ => simp
    | 2, _ => simp
  rintro e w' ⟨rfl, rfl⟩
  go_wp2
  go_ret
  exact ⟨rfl, (HB1.out.alloc hlt _).drew⟩

end Go.Proofs.YtnjakhojdhkihaaGreatDoor
