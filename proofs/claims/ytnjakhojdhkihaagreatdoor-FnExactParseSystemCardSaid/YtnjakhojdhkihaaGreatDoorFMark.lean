/- Marking edges and looking for the marks. -/
import Derived.Test.YtnjakhojdhkihaaGreatDoorSParse
namespace Go.Proofs.YtnjakhojdhkihaaGreatDoor
open Go.RowKit
set_option linter.unusedVariables false
set_option linter.unusedSimpArgs false
set_option maxRecDepth 1048576

theorem frozen_setE (w : World) (a b : Addr) (v : Value) : (w.setCell a v).frozen? b = w.frozen? b := by
  unfold World.frozen? World.setCell
  simp only [Array.getElem?_modify]
  by_cases h : a.block = b.block
  · rw [if_pos h]
    cases hb : w.heap[b.block]? with
    | none => simp
    | some o => cases o <;> simp
  · rw [if_neg h]
theorem cell_sameE (w : World) (b j : Nat) (v u : Value) (h : w.cell? ⟨b, j, none⟩ = some u) : (w.setCell ⟨b, j, none⟩ v).cell? ⟨b, j, none⟩ = some v := by
  unfold World.cell? World.setCell at *
  simp only [Array.getElem?_modify, if_true]
  cases hb : w.heap[b]? with
  | none => rw [hb] at h; cases h
  | some o =>
    rw [hb] at h
    cases o with
    | cells c e f =>
      simp at h ⊢
      obtain ⟨hj, -⟩ := Array.getElem?_eq_some_iff.1 h
      simp [hj]
    | _ => simp at h
theorem cell_otherE (w : World) (b j i : Nat) (v : Value) (hne : i ≠ j) : (w.setCell ⟨b, j, none⟩ v).cell? ⟨b, i, none⟩ = w.cell? ⟨b, i, none⟩ := by
  unfold World.cell? World.setCell
  simp only [Array.getElem?_modify, if_true]
  cases hb : w.heap[b]? with
  | none => simp
  | some o =>
    cases o with
    | cells c e f => simp [Array.getElem?_setIfInBounds, hne.symm, fun h => hne h]
    | _ => simp

/-- The first m of N cells of the block b hold the marks from k on; all of them may be written. -/
def MC (b : Nat) (k : Int) (m N : Nat) (w : World) : Prop := ∀ j, j < N → ∃ u, w.cell? ⟨b, j, none⟩ = some u ∧ (j < m → u = .int .i64 (k + (j : Int))) ∧ w.frozen? ⟨b, j, none⟩ = false
theorem MC.set {b m N : Nat} {k : Int} {w : World} (h : MC b k m N w) : MC b k (m + 1) N (w.setCell ⟨b, m, none⟩ (.int .i64 (k + (m : Int)))) := by
  intro j hj
  obtain ⟨u, h1, h2, h3⟩ := h j hj
  by_cases e : j = m
  · subst e
    exact ⟨_, cell_sameE _ _ _ _ _ h1, fun _ => rfl, by rw [frozen_setE]; exact h3⟩
  · exact ⟨u, by rw [cell_otherE _ _ _ _ _ e]; exact h1, fun hlt => h2 (by omega), by rw [frozen_setE]; exact h3⟩
theorem Onl.setE {n b : Nat} {w w' : World} (h : Onl (fun q => n ≠ 0 ∧ q = b) w w') (hn : n ≠ 0) (j : Nat) (v : Value) : Onl (fun q => n ≠ 0 ∧ q = b) w (w'.setCell ⟨b, j, none⟩ v) := by
  obtain ⟨h1, h2, h3, h4, h5⟩ := h
  refine ⟨h1, h2, h3, by simpa using h4, fun k hk hne => ?_⟩
  rw [Below.heap_setCell _ _ _ _ (show k ≠ b from fun e => hne ⟨hn, e⟩)]
  exact h5 k hk hne
set_option maxHeartbeats 8000000 in
theorem markEdgeS_any (b : Nat) (ao : Option Addr) (n cap : Nat) (k : Int) (w : World) (hao : n ≠ 0 → ao = some ⟨b, 0, none⟩) (hm : n ≤ 1048576) (h : n ≠ 0 → MC b k 0 (n * 3) w) (hk0 : 0 ≤ k) (hk1 : k < 1125899906842624) :
    Calls Tryz.prog 27 #[.slice ao n cap, .int .i64 k] w (fun e w' => e = .returned (.int .i64 (k + ((n * 3 : Nat) : Int))) ∧ (n ≠ 0 → MC b k (n * 3) (n * 3) w') ∧ Onl (fun q => n ≠ 0 ∧ q = b) w w') := by
  have H := Lib.hid h
  clear h
  go_enter Tryz.func27, Tryz.ntmps27
  go_wp2
  go_loopw [1, 5] (fun kv i wr => ∃ j : Nat, j ≤ n ∧ i = .int .i64 j ∧ kv = .int .i64 (k + ((j * 3 : Nat) : Int)) ∧ (n ≠ 0 → MC b k (j * 3) (n * 3) wr) ∧ Onl (fun q => n ≠ 0 ∧ q = b) w wr) (fun _ i _ => n - (intOf i).toNat)
  case atStart => exact ⟨0, by omega, rfl, by simp, H.out, Onl.refl _ _⟩
  case round =>
    obtain ⟨j, hj, rfl, rfl, hc, hbut⟩ := hrel
    by_cases hlt : j < n
    · have hn0 : n ≠ 0 := by omega
      have hao' := hao hn0
      subst hao'
      have m0 := hc hn0
      obtain ⟨u0, c0, -, f0⟩ := m0 (j * 3) (by omega)
      have x0 : k + ((j * 3 : Nat) : Int) = k + (j : Int) * 3 := by omega
      have x1 : k + ((j * 3 + 1 : Nat) : Int) = k + (j : Int) * 3 + 1 := by omega
      have x2 : k + ((j * 3 + 1 + 1 : Nat) : Int) = k + (j : Int) * 3 + 1 + 1 := by omega
      have m1 := m0.set
      have o1 := hbut.setE hn0 (j * 3) (.int .i64 (k + (j : Int) * 3))
      rw [x0] at m1
      obtain ⟨w1, hw1⟩ : ∃ w1, wr.setCell ⟨b, j * 3, none⟩ (.int .i64 (k + (j : Int) * 3)) = w1 := ⟨_, rfl⟩
      rw [hw1] at m1 o1
      obtain ⟨u1, c1, -, f1⟩ := m1 (j * 3 + 1) (by omega)
      have m2 := m1.set
      have o2 := o1.setE hn0 (j * 3 + 1) (.int .i64 (k + (j : Int) * 3 + 1))
      rw [x1] at m2
      obtain ⟨w2, hw2⟩ : ∃ w2, w1.setCell ⟨b, j * 3 + 1, none⟩ (.int .i64 (k + (j : Int) * 3 + 1)) = w2 := ⟨_, rfl⟩
      rw [hw2] at m2 o2
      obtain ⟨u2, c2, -, f2⟩ := m2 (j * 3 + 2) (by omega)
      have m3 := m2.set
      have o3 := o2.setE hn0 (j * 3 + 2) (.int .i64 (k + (j : Int) * 3 + 1 + 1))
      rw [x2] at m3
      have M3 := Lib.hid m3
      have O3 := Lib.hid o3
      clear m0 m1 m2 m3 o1 o2 o3 hc hbut x0 x1 x2
      go_wp2
      go_roundw
      case rel => exact ⟨j + 1, by omega, by go_num, by go_num <;> omega, fun _ => by rw [Nat.add_mul]; exact M3.out, O3.out⟩
      case measure => simp [intOf] <;> omega
    · obtain rfl : j = n := by omega
      have HC := Lib.hid hc
      have HB := Lib.hid hbut
      clear hc hbut
      go_wp2
      go_ret
      exact ⟨rfl, HC.out, HB.out⟩
set_option maxHeartbeats 8000000 in
theorem heldEdgeS_any (b : Nat) (ao : Option Addr) (n cap : Nat) (k : Int) (w : World) (hao : n ≠ 0 → ao = some ⟨b, 0, none⟩) (hm : n ≤ 1048576) (h : n ≠ 0 → MC b k (n * 3) (n * 3) w) (hk0 : 0 ≤ k) (hk1 : k < 1125899906842624) :
    Calls Tryz.prog 28 #[.slice ao n cap, .int .i64 k] w (Ret (.int .i64 (k + ((n * 3 : Nat) : Int))) w) := by
  have H := Lib.hid h
  clear h
  go_enter Tryz.func28, Tryz.ntmps28
  go_wp2
  go_loop [1, 5] (fun kv i => ∃ j : Nat, j ≤ n ∧ i = .int .i64 j ∧ kv = .int .i64 (k + ((j * 3 : Nat) : Int))) (fun _ i => n - (intOf i).toNat)
  case atStart => exact ⟨0, by omega, rfl, by simp⟩
  case round =>
    obtain ⟨j, hj, rfl, rfl⟩ := hrel
    by_cases hlt : j < n
    · have hn0 : n ≠ 0 := by omega
      have hao' := hao hn0
      subst hao'
      have m0 := H.out hn0
      obtain ⟨u0, c0, q0, -⟩ := m0 (j * 3) (by omega)
      obtain ⟨u1, c1, q1, -⟩ := m0 (j * 3 + 1) (by omega)
      obtain ⟨u2, c2, q2, -⟩ := m0 (j * 3 + 2) (by omega)
      have x0 : k + ((j * 3 : Nat) : Int) = k + (j : Int) * 3 := by omega
      have x1 : k + ((j * 3 + 1 : Nat) : Int) = k + (j : Int) * 3 + 1 := by omega
      have x2 : k + ((j * 3 + 2 : Nat) : Int) = k + (j : Int) * 3 + 1 + 1 := by omega
      rw [q0 (by omega), x0] at c0
      rw [q1 (by omega), x1] at c1
      rw [q2 (by omega), x2] at c2
      clear m0 q0 q1 q2 x0 x1 x2
      go_wp2
      go_round
      case rel => exact ⟨j + 1, by omega, by go_num, by go_num <;> omega⟩
      case measure => simp [intOf] <;> omega
    · obtain rfl : j = n := by omega
      go_wp2
      go_ret
      exact ⟨rfl, rfl⟩
/-- What a call has made for itself may be marked. -/
theorem rowIs_MC {b N : Nat} {t : TypeId} {k : Int} {w : World} {f : Nat → Value} (h : w.rowIs b t N f) : MC b k 0 N w := fun j hj => ⟨_, h.cell hj, fun h0 => absurd h0 (Nat.not_lt_zero _), h.frozen j⟩
theorem MC.block {b N m : Nat} {k : Int} {w w' : World} (h : MC b k m N w) (hk : w'.heap[b]? = w.heap[b]?) : MC b k m N w' := fun j hj => by
  obtain ⟨u, h1, h2, h3⟩ := h j hj
  exact ⟨u, by rw [World.cell?_of_block (w := w) (w' := w') (a := ⟨b, j, none⟩) hk]; exact h1, h2, by rw [World.frozen?_of_block (w := w) (w' := w') (a := ⟨b, j, none⟩) hk]; exact h3⟩
set_option maxHeartbeats 4000000 in
theorem markSystem_any (al st : Int) (b : Nat) (ao : Option Addr) (n cap : Nat) (k : Int) (w : World) (hao : n ≠ 0 → ao = some ⟨b, 0, none⟩) (hm : n ≤ 1048576) (hb : n ≠ 0 → b < w.heap.size) (h : n ≠ 0 → MC b k 0 (n * 3) w) (hk0 : 0 ≤ k) (hk1 : k < 1125899906842624) :
    Calls Tryz.prog 8 #[.agg #[.int .i64 al, .int .i64 st, .slice ao n cap], .int .i64 k] w (fun e w' => e = .returned (.int .i64 (k + ((n * 3 : Nat) : Int))) ∧ (n ≠ 0 → MC b k (n * 3) (n * 3) w') ∧ Onl (fun q => n ≠ 0 ∧ q = b) w w') := by
  have hx0 := sys_cells w al st (.slice ao n cap) 24
  have hb0 := below_new' w 24 #[.int .i64 al, .int .i64 st, .slice ao n cap]
  obtain ⟨wx, hwx⟩ : ∃ wx, (w.alloc (.cells #[.int .i64 al, .int .i64 st, .slice ao n cap] 24)) = wx := ⟨_, rfl⟩
  rw [hwx] at hx0 hb0
  have c2 : wx.cell? ⟨w.heap.size, 2, none⟩ = some (.slice ao n cap) := hx0.cell (by decide)
  have H := Lib.hid (fun hn => (h hn).block (hb0.block b (hb hn)))
  have HB := Lib.hid hb0
  clear h hx0 hb0
  go_enter Tryz.func8, Tryz.ntmps8
  go_wp2_with fail
  refine (markEdgeS_any b ao n cap k _ hao hm H.out hk0 hk1).mono ?_
  rintro e w1 ⟨rfl, hm1, ho⟩
  have HM := Lib.hid hm1
  have HO := Lib.hid ho
  clear hm1 ho
  go_wp2
  go_ret
  refine ⟨rfl, HM.out, ?_⟩
  obtain ⟨o1, o2, o3, o4, o5⟩ := HO.out
  exact ⟨o1.trans HB.out.os, o2.trans HB.out.tape, o3.trans HB.out.output, Nat.le_trans HB.out.size o4, fun q hq hne => (o5 q (Nat.lt_of_lt_of_le hq HB.out.size) hne).trans (HB.out.block q hq)⟩
set_option maxHeartbeats 4000000 in
theorem heldSystem_any (al st : Int) (b : Nat) (ao : Option Addr) (n cap : Nat) (k : Int) (w : World) (hao : n ≠ 0 → ao = some ⟨b, 0, none⟩) (hm : n ≤ 1048576) (hb : n ≠ 0 → b < w.heap.size) (h : n ≠ 0 → MC b k (n * 3) (n * 3) w) (hk0 : 0 ≤ k) (hk1 : k < 1125899906842624) :
    Calls Tryz.prog 9 #[.agg #[.int .i64 al, .int .i64 st, .slice ao n cap], .int .i64 k] w (RB' (.int .i64 (k + ((n * 3 : Nat) : Int))) w) := by
  have hx0 := sys_cells w al st (.slice ao n cap) 24
  have hb0 := below_new' w 24 #[.int .i64 al, .int .i64 st, .slice ao n cap]
  obtain ⟨wx, hwx⟩ : ∃ wx, (w.alloc (.cells #[.int .i64 al, .int .i64 st, .slice ao n cap] 24)) = wx := ⟨_, rfl⟩
  rw [hwx] at hx0 hb0
  have c2 : wx.cell? ⟨w.heap.size, 2, none⟩ = some (.slice ao n cap) := hx0.cell (by decide)
  have H := Lib.hid (fun hn => (h hn).block (hb0.block b (hb hn)))
  have HB := Lib.hid hb0
  obtain ⟨q, hq⟩ : ∃ q : Int, k + ((n * 3 : Nat) : Int) = q := ⟨_, rfl⟩
  have hq0 : (decide (q < 0)) = false := by rw [decide_eq_false_iff_not]; omega
  have hC := heldEdgeS_any b ao n cap k wx hao hm H.out hk0 hk1
  rw [hq] at hC ⊢
  have HC := Lib.hid hC
  clear h hx0 hb0 hC hq
  go_enter Tryz.func9, Tryz.ntmps9
  go_wp2_with fail
  refine HC.out.mono ?_
  rintro e w1 ⟨rfl, rfl⟩
  go_wp2
  go_ret
  exact ⟨rfl, HB.out⟩
end Go.Proofs.YtnjakhojdhkihaaGreatDoor
