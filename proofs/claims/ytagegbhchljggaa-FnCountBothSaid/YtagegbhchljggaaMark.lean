/- Marking and looking for the marks: rows that may be written. -/
import Derived.Test.YtagegbhchljggaaBut
namespace Go.Proofs.Ytagegbhchljggaa
open Go.RowKit
set_option linter.unusedVariables false
set_option linter.unusedSimpArgs false
set_option maxRecDepth 1048576

/-- A row that may be written: its cells lie in the block b from the first on. -/
def WI (w : World) (b : Nat) (v : Value) (xs : List Int) : Prop :=
  ∃ ao cap, v = .slice ao xs.length cap ∧ xs.length ≤ cap ∧ cap ≤ maxLen ∧ (xs.length = 0 ∨ (ao = some ⟨b, 0, none⟩ ∧ b < w.heap.size ∧ ∀ j, j < xs.length → w.cell? ⟨b, j, none⟩ = some (.int .i64 (xs[j]?.getD 0)) ∧ w.frozen? ⟨b, j, none⟩ = false))
def WB (w : World) (b : Nat) (v : Value) (xs : List Bool) : Prop :=
  ∃ ao cap, v = .slice ao xs.length cap ∧ xs.length ≤ cap ∧ cap ≤ maxLen ∧ (xs.length = 0 ∨ (ao = some ⟨b, 0, none⟩ ∧ b < w.heap.size ∧ ∀ j, j < xs.length → w.cell? ⟨b, j, none⟩ = some (.bool (xs[j]?.getD false)) ∧ w.frozen? ⟨b, j, none⟩ = false))
theorem WI.view {w : World} {b : Nat} {v : Value} {xs : List Int} (h : WI w b v xs) : IV w v xs := by
  obtain ⟨ao, cap, rfl, h1, h2, h3⟩ := h
  refine ⟨ao, cap, rfl, h1, h2, ?_⟩
  rcases h3 with h3 | ⟨rfl, h4, h5⟩
  · exact .inl h3
  · exact .inr ⟨b, 0, rfl, h4, fun i hi => ⟨_, by rw [Nat.zero_add]; exact (h5 i hi).1, rfl⟩⟩
theorem WB.view {w : World} {b : Nat} {v : Value} {xs : List Bool} (h : WB w b v xs) : BV w v xs := by
  obtain ⟨ao, cap, rfl, h1, h2, h3⟩ := h
  refine ⟨ao, cap, rfl, h1, h2, ?_⟩
  rcases h3 with h3 | ⟨rfl, h4, h5⟩
  · exact .inl h3
  · exact .inr ⟨b, 0, rfl, h4, fun i hi => ⟨_, by rw [Nat.zero_add]; exact (h5 i hi).1, rfl⟩⟩
/-- Only blocks of the set S are written, none is new. -/
def Only (S : Nat → Prop) (w w' : World) : Prop := w'.os = w.os ∧ w'.tape = w.tape ∧ w'.output = w.output ∧ w.heap.size ≤ w'.heap.size ∧ ∀ k, k < w.heap.size → ¬ S k → w'.heap[k]? = w.heap[k]?
theorem Only.refl (S : Nat → Prop) (w : World) : Only S w w := ⟨rfl, rfl, rfl, Nat.le_refl _, fun _ _ _ => rfl⟩
theorem Only.trans {S : Nat → Prop} {a b c : World} (h : Only S a b) (k : Only S b c) : Only S a c := by
  obtain ⟨h1, h2, h3, h4, h5⟩ := h
  obtain ⟨k1, k2, k3, k4, k5⟩ := k
  exact ⟨k1.trans h1, k2.trans h2, k3.trans h3, Nat.le_trans h4 k4, fun j hj hs => (k5 j (by omega) hs).trans (h5 j hj hs)⟩
theorem Only.mono {S S' : Nat → Prop} {a b : World} (h : Only S a b) (hs : ∀ k, S k → S' k) : Only S' a b := ⟨h.1, h.2.1, h.2.2.1, h.2.2.2.1, fun k hk hn => h.2.2.2.2 k hk (fun hx => hn (hs k hx))⟩
theorem Only.below {S : Nat → Prop} {B : Nat} {w0 w w' : World} (h : Only S w w') (hb : Below B w0 w) (hS : ∀ k, S k → B ≤ k) (hB : B ≤ w.heap.size) : Below B w0 w' := by
  obtain ⟨h1, h2, h3, h4, h5⟩ := h
  refine ⟨h1.trans hb.os, h2.trans hb.tape, h3.trans hb.output, Nat.le_trans hb.size h4, fun k hk => ?_⟩
  rw [← hb.block k hk]
  exact h5 k (by omega) (fun hs => by have := hS k hs; omega)
theorem Only.of_but {b : Nat} {w w' : World} (h : But b w w') : Only (fun k => k = b) w w' := ⟨h.1, h.2.1, h.2.2.1, h.2.2.2.1, fun k hk hn => h.2.2.2.2 k hk hn⟩
theorem Only.of_below {w w' : World} (S : Nat → Prop) (h : Below w.heap.size w w') : Only S w w' := ⟨h.os, h.tape, h.output, h.size, fun k hk _ => h.block k hk⟩
theorem WI.only {S : Nat → Prop} {w w' : World} {b : Nat} {v : Value} {xs : List Int} (h : WI w b v xs) (ho : Only S w w') (hb : xs.length ≠ 0 → ¬ S b) : WI w' b v xs := by
  obtain ⟨ao, cap, rfl, h1, h2, h3⟩ := h
  refine ⟨ao, cap, rfl, h1, h2, ?_⟩
  by_cases h0 : xs.length = 0
  · exact .inl h0
  · rcases h3 with h3 | ⟨rfl, h4, h5⟩
    · exact .inl h3
    · have hk := ho.2.2.2.2 b h4 (hb h0)
      refine .inr ⟨rfl, Nat.lt_of_lt_of_le h4 ho.2.2.2.1, fun j hj => ?_⟩
      rw [World.cell?_of_block (w := w) (w' := w') (a := ⟨b, j, none⟩) hk, World.frozen?_of_block (w := w) (w' := w') (a := ⟨b, j, none⟩) hk]
      exact h5 j hj
theorem WB.only {S : Nat → Prop} {w w' : World} {b : Nat} {v : Value} {xs : List Bool} (h : WB w b v xs) (ho : Only S w w') (hb : xs.length ≠ 0 → ¬ S b) : WB w' b v xs := by
  obtain ⟨ao, cap, rfl, h1, h2, h3⟩ := h
  refine ⟨ao, cap, rfl, h1, h2, ?_⟩
  by_cases h0 : xs.length = 0
  · exact .inl h0
  · rcases h3 with h3 | ⟨rfl, h4, h5⟩
    · exact .inl h3
    · have hk := ho.2.2.2.2 b h4 (hb h0)
      refine .inr ⟨rfl, Nat.lt_of_lt_of_le h4 ho.2.2.2.1, fun j hj => ?_⟩
      rw [World.cell?_of_block (w := w) (w' := w') (a := ⟨b, j, none⟩) hk, World.frozen?_of_block (w := w) (w' := w') (a := ⟨b, j, none⟩) hk]
      exact h5 j hj
theorem Only.set {n b : Nat} {w w' : World} (h : Only (fun q => n ≠ 0 ∧ q = b) w w') (hn : n ≠ 0) (j : Nat) (v : Value) : Only (fun q => n ≠ 0 ∧ q = b) w (w'.setCell ⟨b, j, none⟩ v) := by
  obtain ⟨h1, h2, h3, h4, h5⟩ := h
  refine ⟨h1, h2, h3, by simpa using h4, fun k hk hne => ?_⟩
  rw [Below.heap_setCell _ _ _ _ (show k ≠ b from fun e => hne ⟨hn, e⟩)]
  exact h5 k hk hne
theorem WI.of_block {w w' : World} {b : Nat} {v : Value} {xs : List Int} (h : WI w b v xs) (hs : w.heap.size ≤ w'.heap.size) (hk : xs.length ≠ 0 → w'.heap[b]? = w.heap[b]?) : WI w' b v xs := by
  obtain ⟨ao, cap, rfl, h1, h2, h3⟩ := h
  refine ⟨ao, cap, rfl, h1, h2, ?_⟩
  by_cases h0 : xs.length = 0
  · exact .inl h0
  · rcases h3 with h3 | ⟨rfl, h4, h5⟩
    · exact .inl h3
    · refine .inr ⟨rfl, Nat.lt_of_lt_of_le h4 hs, fun j hj => ?_⟩
      rw [World.cell?_of_block (w := w) (w' := w') (a := ⟨b, j, none⟩) (hk h0), World.frozen?_of_block (w := w) (w' := w') (a := ⟨b, j, none⟩) (hk h0)]
      exact h5 j hj
theorem WI.shape {w : World} {b : Nat} {v : Value} {xs : List Int} (h : WI w b v xs) : ∃ a n c, v = .slice a n c ∧ n = xs.length := by
  obtain ⟨ao, cap, rfl, -⟩ := h
  exact ⟨ao, _, cap, rfl, rfl⟩
/-- The marks of a row. -/
def seqI (k : Int) (n : Nat) : List Int := (List.range n).map (fun (j : Nat) => k + (j : Int))
theorem seqI_len (k : Int) (n : Nat) : (seqI k n).length = n := by simp [seqI]
theorem seqI_at (k : Int) (n j : Nat) (h : j < n) : (seqI k n)[j]?.getD 0 = k + (j : Int) := by simp [seqI, h]
def seqB (k : Int) (n : Nat) : List Bool := (List.range n).map (fun (j : Nat) => (k + (j : Int)) % 3 == 0)
theorem seqB_len (k : Int) (n : Nat) : (seqB k n).length = n := by simp [seqB]
theorem seqB_at (k : Int) (n j : Nat) (h : j < n) : (seqB k n)[j]?.getD false = ((k + (j : Int)) % 3 == 0) := by simp [seqB, h]
theorem frozen_set (w : World) (a b : Addr) (v : Value) : (w.setCell a v).frozen? b = w.frozen? b := by
  unfold World.frozen? World.setCell
  simp only [Array.getElem?_modify]
  by_cases h : a.block = b.block
  · rw [if_pos h]
    cases hb : w.heap[b.block]? with
    | none => simp
    | some o => cases o <;> simp
  · rw [if_neg h]
theorem cell_set_same (w : World) (b j : Nat) (v u : Value) (h : w.cell? ⟨b, j, none⟩ = some u) : (w.setCell ⟨b, j, none⟩ v).cell? ⟨b, j, none⟩ = some v := by
  unfold World.cell? World.setCell at *
  simp only [Array.getElem?_modify, if_true]
  cases hb : w.heap[b]? with
  | none => rw [hb] at h; cases h
  | some o =>
    rw [hb] at h
    cases o with
    | cells c e f =>
      simp at h ⊢
      obtain ⟨hj, -⟩ := Array.getElem?_eq_some_iff.1 h
      simp [hj]
    | _ => simp at h
theorem cell_set_other (w : World) (b j i : Nat) (v : Value) (hne : i ≠ j) : (w.setCell ⟨b, j, none⟩ v).cell? ⟨b, i, none⟩ = w.cell? ⟨b, i, none⟩ := by
  unfold World.cell? World.setCell
  simp only [Array.getElem?_modify, if_true]
  cases hb : w.heap[b]? with
  | none => simp
  | some o =>
    cases o with
    | cells c e f => simp [Array.getElem?_setIfInBounds, hne.symm, fun h => hne h]
    | _ => simp

set_option maxHeartbeats 10485760 in
theorem markIntS_any (b : Nat) (ao : Option Addr) (n cap : Nat) (xs : List Int) (k : Int) (w : World) (h : WI w b (.slice ao n cap) xs) (hk0 : 0 ≤ k) (hk1 : k < 1125899906842624) (hm : xs.length ≤ 1048576) :
    Calls Try.prog 67 #[.slice ao n cap, .int .i64 k] w (fun e w' => e = .returned (.int .i64 (k + (n : Int))) ∧ WI w' b (.slice ao n cap) (seqI k n) ∧ Only (fun q => n ≠ 0 ∧ q = b) w w') := by
  obtain ⟨ao', cap', he, h1, h2, h3⟩ := h
  injection he with e1 e2 e3
  subst e1 e3
  unfold maxLen at h2
  have HN := Lib.hid e2
  have hn2 : n ≤ 1048576 := by omega
  have hcap : n ≤ cap := by omega
  rw [← e2] at h3
  have H3 := Lib.hid h3; clear h3
  clear h1 hm e2
  go_enter Try.func67, Try.ntmps67
  go_wp2
  go_loopw [1, 5] (fun kv i wr => ∃ j : Nat, j ≤ n ∧ i = .int .i64 j ∧ kv = .int .i64 (k + (j : Int)) ∧ (n = 0 ∨ (ao = some ⟨b, 0, none⟩ ∧ b < wr.heap.size ∧ ∀ y, y < n → wr.cell? ⟨b, y, none⟩ = some (.int .i64 (if y < j then k + (y : Int) else xs[y]?.getD 0)) ∧ wr.frozen? ⟨b, y, none⟩ = false)) ∧ Only (fun q => n ≠ 0 ∧ q = b) w wr) (fun _ i _ => n - (intOf i).toNat)
  case atStart => exact ⟨0, by omega, rfl, by simp, (H3.out).imp id (fun ⟨q1, q2, q3⟩ => ⟨q1, q2, fun y hy => by simpa using q3 y hy⟩), Only.refl _ _⟩
  case round =>
    obtain ⟨j, hj, rfl, rfl, hc, hbut⟩ := hrel
    by_cases hlt : j < n
    · rcases hc with h0 | ⟨rfl, hb, hc⟩
      · omega
      · obtain ⟨c1, c2⟩ := hc j hlt
        have HC := Lib.hid hc
        have HB := Lib.hid hbut
        clear hc hbut
        go_wp2
        go_roundw
        case rel => exact ⟨j + 1, by omega, by go_num, by go_num, .inr ⟨by first | trivial | rfl, by simpa using hb, fun y hy => ⟨by
          by_cases e : y = j
          · subst e
            rw [cell_set_same _ _ _ _ _ (HC.out y hy).1, if_pos (by omega)]
          · rw [cell_set_other _ _ _ _ _ e, (HC.out y hy).1]
            have : (y < j + 1) = (y < j) := by simp only [eq_iff_iff]; omega
            simp only [this], by rw [frozen_set]; exact (HC.out y hy).2⟩⟩, HB.out.set (by omega) _ _⟩
        case measure => simp [intOf] <;> omega
    · obtain rfl : j = n := by omega
      have HC := Lib.hid hc
      have HB := Lib.hid hbut
      clear hc hbut
      go_wp2
      go_ret
      refine ⟨rfl, ⟨ao, cap, by rw [seqI_len], by rw [seqI_len]; exact hcap, h2, ?_⟩, HB.out⟩
      rw [seqI_len]
      exact HC.out.imp id (fun ⟨q1, q2, q3⟩ => ⟨q1, q2, fun y hy => ⟨by rw [(q3 y hy).1, if_pos hy, seqI_at k j y hy], (q3 y hy).2⟩⟩)

set_option maxHeartbeats 10485760 in
theorem heldIntS_any (ao : Option Addr) (n cap : Nat) (k : Int) (w : World) (h : IV w (.slice ao n cap) (seqI k n)) (hk0 : 0 ≤ k) (hk1 : k < 1125899906842624) (hm : n ≤ 1048576) :
    Calls Try.prog 68 #[.slice ao n cap, .int .i64 k] w (Ret (.int .i64 (k + (n : Int))) w) := by
  obtain ⟨hn, hcap, hmax, hcell⟩ := SV.at h
  unfold maxLen at hmax
  have HC := Lib.hid hcell; clear hcell
  clear h hn
  go_enter Try.func68, Try.ntmps68
  go_wp2
  go_loop [1, 5] (fun kv i => ∃ j : Nat, j ≤ n ∧ i = .int .i64 j ∧ kv = .int .i64 (k + (j : Int))) (fun _ i => n - (intOf i).toNat)
  case atStart => exact ⟨0, by omega, rfl, by simp⟩
  case round =>
    obtain ⟨j, hj, rfl, rfl⟩ := hrel
    by_cases hlt : j < n
    · rcases HC.out with h0 | ⟨b, off, rfl, hb, hc⟩
      · omega
      · obtain ⟨u, hu, rfl⟩ := hc j hlt
        rw [seqI_at k n j hlt] at hu
        clear hc
        go_wp2
        go_round
        case rel => exact ⟨j + 1, by omega, by go_num, by go_num⟩
        case measure => simp [intOf] <;> omega
    · obtain rfl : j = n := by omega
      go_wp2
      go_ret
      exact ⟨rfl, rfl⟩

set_option maxHeartbeats 10485760 in
theorem markBoolS_any (b : Nat) (ao : Option Addr) (n cap : Nat) (xs : List Bool) (k : Int) (w : World) (h : WB w b (.slice ao n cap) xs) (hk0 : 0 ≤ k) (hk1 : k < 1125899906842624) (hm : xs.length ≤ 1048576) :
    Calls Try.prog 51 #[.slice ao n cap, .int .i64 k] w (fun e w' => e = .returned (.int .i64 (k + (n : Int))) ∧ WB w' b (.slice ao n cap) (seqB k n) ∧ Only (fun q => n ≠ 0 ∧ q = b) w w') := by
  obtain ⟨ao', cap', he, h1, h2, h3⟩ := h
  injection he with e1 e2 e3
  subst e1 e3
  unfold maxLen at h2
  have HN := Lib.hid e2
  have hn2 : n ≤ 1048576 := by omega
  have hcap : n ≤ cap := by omega
  rw [← e2] at h3
  have H3 := Lib.hid h3; clear h3
  clear h1 hm e2
  go_enter Try.func51, Try.ntmps51
  go_wp2
  go_loopw [1, 5] (fun kv i wr => ∃ j : Nat, j ≤ n ∧ i = .int .i64 j ∧ kv = .int .i64 (k + (j : Int)) ∧ (n = 0 ∨ (ao = some ⟨b, 0, none⟩ ∧ b < wr.heap.size ∧ ∀ y, y < n → wr.cell? ⟨b, y, none⟩ = some (.bool (if y < j then ((k + (y : Int)) % 3 == 0) else xs[y]?.getD false)) ∧ wr.frozen? ⟨b, y, none⟩ = false)) ∧ Only (fun q => n ≠ 0 ∧ q = b) w wr) (fun _ i _ => n - (intOf i).toNat)
  case atStart => exact ⟨0, by omega, rfl, by simp, (H3.out).imp id (fun ⟨q1, q2, q3⟩ => ⟨q1, q2, fun y hy => by simpa using q3 y hy⟩), Only.refl _ _⟩
  case round =>
    obtain ⟨j, hj, rfl, rfl, hc, hbut⟩ := hrel
    by_cases hlt : j < n
    · rcases hc with h0 | ⟨rfl, hb, hc⟩
      · omega
      · obtain ⟨c1, c2⟩ := hc j hlt
        have HC := Lib.hid hc
        have HB := Lib.hid hbut
        clear hc hbut
        go_wp2
        go_roundw
        case rel => exact ⟨j + 1, by omega, by go_num, by go_num, .inr ⟨by first | trivial | rfl, by simpa using hb, fun y hy => ⟨by
          by_cases e : y = j
          · subst e
            rw [cell_set_same _ _ _ _ _ (HC.out y hy).1, if_pos (by omega)]
          · rw [cell_set_other _ _ _ _ _ e, (HC.out y hy).1]
            have : (y < j + 1) = (y < j) := by simp only [eq_iff_iff]; omega
            simp only [this], by rw [frozen_set]; exact (HC.out y hy).2⟩⟩, HB.out.set (by omega) _ _⟩
        case measure => simp [intOf] <;> omega
    · obtain rfl : j = n := by omega
      have HC := Lib.hid hc
      have HB := Lib.hid hbut
      clear hc hbut
      go_wp2
      go_ret
      refine ⟨rfl, ⟨ao, cap, by rw [seqB_len], by rw [seqB_len]; exact hcap, h2, ?_⟩, HB.out⟩
      rw [seqB_len]
      exact HC.out.imp id (fun ⟨q1, q2, q3⟩ => ⟨q1, q2, fun y hy => ⟨by rw [(q3 y hy).1, if_pos hy, seqB_at k j y hy], (q3 y hy).2⟩⟩)

set_option maxHeartbeats 10485760 in
theorem heldBoolS_any (ao : Option Addr) (n cap : Nat) (k : Int) (w : World) (h : BV w (.slice ao n cap) (seqB k n)) (hk0 : 0 ≤ k) (hk1 : k < 1125899906842624) (hm : n ≤ 1048576) :
    Calls Try.prog 53 #[.slice ao n cap, .int .i64 k] w (fun e w' => e = .returned (.int .i64 (k + (n : Int))) ∧ Below w.heap.size w w') := by
  obtain ⟨hn, hcap, hmax, hcell⟩ := SV.at h
  unfold maxLen at hmax
  have HC := Lib.hid hcell; clear hcell
  clear h hn
  go_enter Try.func53, Try.ntmps53
  go_wp2
  go_loopw [1, 5] (fun kv i wr => ∃ j : Nat, j ≤ n ∧ i = .int .i64 j ∧ kv = .int .i64 (k + (j : Int)) ∧ Below w.heap.size w wr) (fun _ i _ => n - (intOf i).toNat)
  case atStart => exact ⟨0, by omega, rfl, by simp, Below.refl _ _⟩
  case round =>
    obtain ⟨j, hj, rfl, rfl, hbel⟩ := hrel
    by_cases hlt : j < n
    · rcases HC.out with h0 | ⟨b, off, rfl, hb, hc⟩
      · omega
      · obtain ⟨u, hu, rfl⟩ := hc j hlt
        rw [seqB_at k n j hlt] at hu
        have hu' := hu
        rw [← cell_below hbel hb] at hu'
        have HB := Lib.hid hbel
        clear hc hu hbel
        obtain ⟨m3, h3⟩ : ∃ m3, (k + (j : Int)) % 3 = m3 := ⟨_, rfl⟩
        rw [h3] at hu'
        have ht : (k + (j : Int)).tmod 3 = m3 := by rw [← h3, Int.tmod_eq_emod_of_nonneg (by omega)]
        by_cases hz : m3 = 0
        · subst hz
          have hu2 : wr.cell? ⟨b, off + j, none⟩ = some (.bool true) := by simpa using hu'
          clear hu'
          go_wp2
          go_roundw
          case rel => exact ⟨j + 1, by omega, by go_num, by go_num, HB.out⟩
          case measure => simp [intOf] <;> omega
        · have hzb : (m3 == 0) = false := by simpa using hz
          rw [hzb] at hu'
          clear hz
          go_wp2
          go_roundw
          case rel => exact ⟨j + 1, by omega, by go_num, by go_num, HB.out⟩
          case measure => simp [intOf] <;> omega
    · obtain rfl : j = n := by omega
      go_wp2
      go_ret
      exact ⟨rfl, hbel⟩

/-- How many numbers the first i rows hold. -/
def offs (xss : List (List Int)) : Nat → Nat
  | 0 => 0
  | i + 1 => offs xss i + (xss[i]?.getD []).length
def markM (k : Int) (xss : List (List Int)) : List (List Int) := (List.range xss.length).map (fun (i : Nat) => seqI (k + (offs xss i : Int)) (xss[i]?.getD []).length)
theorem markM_len (k : Int) (xss : List (List Int)) : (markM k xss).length = xss.length := by simp [markM]
theorem markM_at (k : Int) (xss : List (List Int)) (i : Nat) (h : i < xss.length) : (markM k xss)[i]?.getD [] = seqI (k + (offs xss i : Int)) (xss[i]?.getD []).length := by simp [markM, h]
theorem offs_le (xss : List (List Int)) (m : Nat) (hl : ∀ l ∈ xss, l.length ≤ m) (i : Nat) (hi : i ≤ xss.length) : offs xss i ≤ i * m := by
  induction i with
  | zero => simp [offs]
  | succ i ih =>
    have h1 := ih (by omega)
    have h2 : (xss[i]?.getD []).length ≤ m := by
      have hi' : i < xss.length := by omega
      rw [List.getElem?_eq_getElem hi', Option.getD_some]
      exact hl _ (List.getElem_mem hi')
    unfold offs
    rw [Nat.succ_mul]
    omega
/-- A matrix that may be written: the row of rows in the block b0, row i in the block Bf i, all apart. -/
def WM (w : World) (b0 : Nat) (Bf : Nat → Nat) (v : Value) (xss : List (List Int)) : Prop :=
  ∃ ao cap, v = .slice ao xss.length cap ∧ xss.length ≤ cap ∧ cap ≤ maxLen ∧
    (xss.length = 0 ∨ ∃ off, ao = some ⟨b0, off, none⟩ ∧ b0 < w.heap.size ∧ ∀ i, i < xss.length → ∃ u, w.cell? ⟨b0, off + i, none⟩ = some u ∧ WI w (Bf i) u (xss[i]?.getD [])) ∧
    (∀ i j, i < xss.length → j < xss.length → (xss[i]?.getD []).length ≠ 0 → (xss[j]?.getD []).length ≠ 0 → Bf i = Bf j → i = j) ∧
    ∀ i, i < xss.length → (xss[i]?.getD []).length ≠ 0 → Bf i ≠ b0
theorem WM.view {w : World} {b0 : Nat} {Bf : Nat → Nat} {v : Value} {xss : List (List Int)} (h : WM w b0 Bf v xss) : MV w v xss := by
  obtain ⟨ao, cap, rfl, h1, h2, h3, -, -⟩ := h
  refine ⟨ao, cap, rfl, h1, h2, ?_⟩
  rcases h3 with h3 | ⟨off, rfl, h4, h5⟩
  · exact .inl h3
  · exact .inr ⟨b0, off, rfl, h4, fun i hi => by obtain ⟨u, q1, q2⟩ := h5 i hi; exact ⟨u, q1, q2.view⟩⟩
def rowsOf (Bf : Nat → Nat) (xss : List (List Int)) (k : Nat) : Prop := ∃ i, i < xss.length ∧ (xss[i]?.getD []).length ≠ 0 ∧ k = Bf i
theorem WM.only {S : Nat → Prop} {w w' : World} {b0 : Nat} {Bf : Nat → Nat} {v : Value} {xss : List (List Int)} (h : WM w b0 Bf v xss) (ho : Only S w w') (h0 : ¬ S b0) (hb : ∀ i, i < xss.length → (xss[i]?.getD []).length ≠ 0 → ¬ S (Bf i)) : WM w' b0 Bf v xss := by
  obtain ⟨ao, cap, rfl, h1, h2, h3, h4, h5⟩ := h
  refine ⟨ao, cap, rfl, h1, h2, ?_, h4, h5⟩
  rcases h3 with h3 | ⟨off, rfl, h6, h7⟩
  · exact .inl h3
  · refine .inr ⟨off, rfl, Nat.lt_of_lt_of_le h6 ho.2.2.2.1, fun i hi => ?_⟩
    obtain ⟨u, q1, q2⟩ := h7 i hi
    exact ⟨u, by rw [World.cell?_of_block (w := w) (w' := w') (a := ⟨b0, off + i, none⟩) (ho.2.2.2.2 b0 h6 h0)]; exact q1, q2.only ho (hb i hi)⟩

set_option maxHeartbeats 2000000 in
theorem markIntSS_any (b0 : Nat) (Bf : Nat → Nat) (ao : Option Addr) (n cap : Nat) (xss : List (List Int)) (k : Int) (w : World) (h : WM w b0 Bf (.slice ao n cap) xss) (hk0 : 0 ≤ k) (hk1 : k ≤ 10) (hm : xss.length ≤ 1048576) (hl : ∀ l ∈ xss, l.length ≤ 1048576) (hB : ∀ i, i < n → (xss[i]?.getD []).length ≠ 0 → Bf i < w.heap.size) :
    Calls Try.prog 50 #[.slice ao n cap, .int .i64 k] w (fun e w' => e = .returned (.int .i64 (k + (offs xss n : Int))) ∧ WM w' b0 Bf (.slice ao n cap) (markM k xss) ∧ Only (rowsOf Bf xss) w w') := by
  obtain ⟨ao', cap', he, h1, h2, h3, h4, h5⟩ := h
  injection he with e1 e2 e3
  subst e1 e3
  unfold maxLen at h2
  have hn2 : n ≤ 1048576 := by omega
  have hcap : n ≤ cap := by omega
  have HN := Lib.hid e2
  rw [← e2] at h3 h4 h5
  have H3 := Lib.hid h3; clear h3
  have H4 := Lib.hid h4; clear h4
  have H5 := Lib.hid h5; clear h5
  have HL := Lib.hid hl; clear hl
  have HBF := Lib.hid hB; clear hB
  clear h1 e2
  go_enter Try.func50, Try.ntmps50
  go_wp2
  go_loopw [1, 5] (fun kv i wr => ∃ j : Nat, j ≤ n ∧ i = .int .i64 j ∧ kv = .int .i64 (k + (offs xss j : Int)) ∧
    (∀ y, j ≤ y → y < n → (xss[y]?.getD []).length ≠ 0 → wr.heap[Bf y]? = w.heap[Bf y]?) ∧
    (n = 0 ∨ ∃ off, ao = some ⟨b0, off, none⟩ ∧ b0 < w.heap.size ∧ ∀ y, y < n → ∃ u, w.cell? ⟨b0, off + y, none⟩ = some u ∧ WI w (Bf y) u (xss[y]?.getD []) ∧ (y < j → WI wr (Bf y) u (seqI (k + (offs xss y : Int)) (xss[y]?.getD []).length))) ∧ Only (rowsOf Bf xss) w wr) (fun _ i _ => n - (intOf i).toNat)
  case atStart => exact ⟨0, by omega, rfl, by simp [offs], fun y _ _ _ => rfl, H3.out.imp id (fun ⟨off, q1, q2, q3⟩ => ⟨off, q1, q2, fun y hy => by obtain ⟨u, r1, r2⟩ := q3 y hy; exact ⟨u, r1, r2, fun h => by omega⟩⟩), Only.refl _ _⟩
  case round =>
    obtain ⟨j, hj, rfl, rfl, hrest, hc, honly⟩ := hrel
    by_cases hlt : j < n
    · rcases hc with h0 | ⟨off, rfl, hb0, hc⟩
      · omega
      · obtain ⟨u, hu, hwi, -⟩ := hc j hlt
        obtain ⟨x, hx⟩ : ∃ x, xss[j]?.getD [] = x := ⟨_, rfl⟩
        have hxl : x.length ≤ 1048576 := by
          have hj' : j < xss.length := by rw [← HN.out]; exact hlt
          rw [← hx, List.getElem?_eq_getElem hj', Option.getD_some]
          exact HL.out _ (List.getElem_mem hj')
        have hoff : offs xss j ≤ j * 1048576 := offs_le xss 1048576 HL.out j (by rw [← HN.out]; omega)
        have hwi2 : WI wr (Bf j) u x := by
          rw [← hx]
          exact hwi.of_block honly.2.2.2.1 (hrest j (Nat.le_refl _) hlt)
        obtain ⟨a3, n3, c3, rfl, hn3⟩ := hwi2.shape
        have hu' : wr.cell? ⟨b0, off + j, none⟩ = some (.slice a3 n3 c3) := by
          rw [World.cell?_of_block (w := w) (w' := wr) (a := ⟨b0, off + j, none⟩) (honly.2.2.2.2 b0 hb0 (by rintro ⟨y, q1, q2, q3⟩; exact H5.out y (by rw [HN.out]; exact q1) q2 q3.symm))]
          exact hu
        have hbound : k + (offs xss j : Int) < 1125899906842624 := by
          have h1 : j * 1048576 ≤ 1048576 * 1048576 := Nat.mul_le_mul_right _ (by omega)
          omega
        have hpos : 0 ≤ k + (offs xss j : Int) := by omega
        have hoffs : offs xss (j + 1) = offs xss j + n3 := by show offs xss j + (xss[j]?.getD []).length = _; rw [hx, hn3]
        obtain ⟨kk, hkk⟩ : ∃ kk, k + (offs xss j : Int) = kk := ⟨_, rfl⟩
        rw [hkk] at hbound hpos
        have HWI := Lib.hid hwi2
        have HCC := Lib.hid hc
        have HON := Lib.hid honly
        have HRE := Lib.hid hrest
        have HX := Lib.hid hx; clear hx
        have HKK := Lib.hid hkk; clear hkk
        have HOF := Lib.hid hoffs; clear hoffs
        have HN3 := Lib.hid hn3; clear hn3
        clear hu hwi hwi2 hc honly hrest hoff
        rw [HKK.out]
        go_wp2_with fail
        refine (markIntS_any (Bf j) a3 n3 c3 x kk wr HWI.out hpos hbound (by omega)).mono ?_
        rintro e w1 ⟨rfl, hw1, ho1⟩
        have HW1 := Lib.hid hw1
        have HO1 := Lib.hid ho1
        clear hw1 ho1
        go_wp2
        go_roundw
        case rel =>
          have hblk : ∀ y, y < n → y ≠ j → (xss[y]?.getD []).length ≠ 0 → w1.heap[Bf y]? = wr.heap[Bf y]? := by
            intro y hy hne hl0
            refine HO1.out.2.2.2.2 (Bf y) (Nat.lt_of_lt_of_le (HBF.out y hy hl0) HON.out.2.2.2.1) ?_
            rintro ⟨q1, q2⟩
            exact hne (H4.out y j hy hlt hl0 (by rw [HX.out, ← HN3.out]; exact q1) q2)
          refine ⟨j + 1, by omega, by go_num, ?_, fun y h1 h2 h3 => ?_, .inr ⟨off, rfl, hb0, fun y hy => ?_⟩, ?_⟩
          · rw [HOF.out, ← HKK.out]; go_num
          · rw [hblk y h2 (by omega) h3]; exact HRE.out y (by omega) h2 h3
          · obtain ⟨u, r1, r2, r3⟩ := HCC.out y hy
            refine ⟨u, r1, r2, fun hyj => ?_⟩
            by_cases e : y = j
            · subst e
              obtain ⟨u2, s1, s2, -⟩ := HCC.out y hy
              have : u = .slice a3 n3 c3 := by
                have h3 : wr.cell? ⟨b0, off + y, none⟩ = w.cell? ⟨b0, off + y, none⟩ := World.cell?_of_block (HON.out.2.2.2.2 b0 hb0 (by rintro ⟨z, q1, q2, q3⟩; exact H5.out z (by rw [HN.out]; exact q1) q2 q3.symm))
                rw [hu', r1] at h3
                exact (Option.some.inj h3).symm
              subst this
              have := HW1.out
              rw [HX.out, ← HN3.out, HKK.out]
              exact this
            · exact (r3 (by omega)).of_block HO1.out.2.2.2.1 (fun hl0 => hblk y hy e (by rwa [seqI_len] at hl0))
          · exact HON.out.trans (HO1.out.mono (fun q ⟨q1, q2⟩ => ⟨j, by rw [← HN.out]; exact hlt, by rw [HX.out, ← HN3.out]; exact q1, q2⟩))
        case measure => simp [intOf] <;> omega
    · obtain rfl : j = n := by omega
      have HCC := Lib.hid hc
      have HON := Lib.hid honly
      clear hc honly hrest
      go_wp2
      go_ret
      refine ⟨rfl, ⟨ao, cap, by rw [markM_len, HN.out], by rw [markM_len, ← HN.out]; exact hcap, h2, ?_, ?_, ?_⟩, HON.out⟩
      · rw [markM_len, ← HN.out]
        refine HCC.out.imp id (fun ⟨off, q1, q2, q3⟩ => ⟨off, q1, Nat.lt_of_lt_of_le q2 HON.out.2.2.2.1, fun i hi => ?_⟩)
        obtain ⟨u, r1, r2, r3⟩ := q3 i hi
        refine ⟨u, ?_, by rw [markM_at k xss i (by rw [← HN.out]; exact hi)]; exact r3 hi⟩
        rw [World.cell?_of_block (w := w) (w' := wr) (a := ⟨b0, off + i, none⟩) (HON.out.2.2.2.2 b0 q2 (by rintro ⟨z, s1, s2, s3⟩; exact H5.out z (by rw [HN.out]; exact s1) s2 s3.symm))]
        exact r1
      · rw [markM_len, ← HN.out]
        intro y z hy hz h1 h2
        rw [markM_at k xss y (by rw [← HN.out]; exact hy), seqI_len] at h1
        rw [markM_at k xss z (by rw [← HN.out]; exact hz), seqI_len] at h2
        exact H4.out y z hy hz h1 h2
      · rw [markM_len, ← HN.out]
        intro y hy h1
        rw [markM_at k xss y (by rw [← HN.out]; exact hy), seqI_len] at h1
        exact H5.out y hy h1
end Go.Proofs.Ytagegbhchljggaa
