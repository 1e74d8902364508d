/- Marking and looking for the marks: rows of numbers that may be written. -/
import Derived.Test.YtomllliencgijaaDoorView
import Derived.Deep.OwnRows
namespace Go.Proofs.YtomllliencgijaaDoor
open Go.RowKit
set_option linter.unusedVariables false
set_option linter.unusedSimpArgs false
set_option maxRecDepth 1048576

/-- A row that may be written: its cells lie in the block b from the first on. -/
def WI (w : World) (b : Nat) (v : Value) (xs : List Int) : Prop :=
  ∃ ao cap, v = .slice ao xs.length cap ∧ xs.length ≤ cap ∧ cap ≤ maxLen ∧ (xs.length = 0 ∨ (ao = some ⟨b, 0, none⟩ ∧ b < w.heap.size ∧ ∀ j, j < xs.length → w.cell? ⟨b, j, none⟩ = some (.int .i64 (xs[j]?.getD 0)) ∧ w.frozen? ⟨b, j, none⟩ = false))
theorem WI.view {w : World} {b : Nat} {v : Value} {xs : List Int} (h : WI w b v xs) : IV w v xs := by
  obtain ⟨ao, cap, rfl, h1, h2, h3⟩ := h
  refine ⟨ao, cap, rfl, h1, h2, ?_⟩
  rcases h3 with h3 | ⟨rfl, h4, h5⟩
  · exact .inl h3
  · exact .inr ⟨b, 0, rfl, h4, fun i hi => ⟨_, by rw [Nat.zero_add]; exact (h5 i hi).1, rfl⟩⟩
/-- Only blocks of the set S are written, none is new. -/
def Only (S : Nat → Prop) (w w' : World) : Prop := w'.os = w.os ∧ w'.tape = w.tape ∧ w'.output = w.output ∧ w.heap.size ≤ w'.heap.size ∧ ∀ k, k < w.heap.size → ¬ S k → w'.heap[k]? = w.heap[k]?
theorem Only.refl (S : Nat → Prop) (w : World) : Only S w w := ⟨rfl, rfl, rfl, Nat.le_refl _, fun _ _ _ => rfl⟩
theorem Only.trans {S : Nat → Prop} {a b c : World} (h : Only S a b) (k : Only S b c) : Only S a c := by
  obtain ⟨h1, h2, h3, h4, h5⟩ := h
  obtain ⟨k1, k2, k3, k4, k5⟩ := k
  exact ⟨k1.trans h1, k2.trans h2, k3.trans h3, Nat.le_trans h4 k4, fun j hj hs => (k5 j (by omega) hs).trans (h5 j hj hs)⟩
theorem Only.mono {S S' : Nat → Prop} {a b : World} (h : Only S a b) (hs : ∀ k, S k → S' k) : Only S' a b := ⟨h.1, h.2.1, h.2.2.1, h.2.2.2.1, fun k hk hn => h.2.2.2.2 k hk (fun hx => hn (hs k hx))⟩
theorem Only.below {S : Nat → Prop} {B : Nat} {w0 w w' : World} (h : Only S w w') (hb : Below B w0 w) (hS : ∀ k, S k → B ≤ k) (hB : B ≤ w.heap.size) : Below B w0 w' := by
  obtain ⟨h1, h2, h3, h4, h5⟩ := h
  refine ⟨h1.trans hb.os, h2.trans hb.tape, h3.trans hb.output, Nat.le_trans hb.size h4, fun k hk => ?_⟩
  rw [← hb.block k hk]
  exact h5 k (by omega) (fun hs => by have := hS k hs; omega)
theorem Only.of_below {w w' : World} (S : Nat → Prop) (h : Below w.heap.size w w') : Only S w w' := ⟨h.os, h.tape, h.output, h.size, fun k hk _ => h.block k hk⟩
theorem WI.only {S : Nat → Prop} {w w' : World} {b : Nat} {v : Value} {xs : List Int} (h : WI w b v xs) (ho : Only S w w') (hb : xs.length ≠ 0 → ¬ S b) : WI w' b v xs := by
  obtain ⟨ao, cap, rfl, h1, h2, h3⟩ := h
  refine ⟨ao, cap, rfl, h1, h2, ?_⟩
  by_cases h0 : xs.length = 0
  · exact .inl h0
  · rcases h3 with h3 | ⟨rfl, h4, h5⟩
    · exact .inl h3
    · have hk := ho.2.2.2.2 b h4 (hb h0)
      refine .inr ⟨rfl, Nat.lt_of_lt_of_le h4 ho.2.2.2.1, fun j hj => ?_⟩
      rw [World.cell?_of_block (w := w) (w' := w') (a := ⟨b, j, none⟩) hk, World.frozen?_of_block (w := w) (w' := w') (a := ⟨b, j, none⟩) hk]
      exact h5 j hj
theorem Only.set {n b : Nat} {w w' : World} (h : Only (fun q => n ≠ 0 ∧ q = b) w w') (hn : n ≠ 0) (j : Nat) (v : Value) : Only (fun q => n ≠ 0 ∧ q = b) w (w'.setCell ⟨b, j, none⟩ v) := by
  obtain ⟨h1, h2, h3, h4, h5⟩ := h
  refine ⟨h1, h2, h3, by simpa using h4, fun k hk hne => ?_⟩
  rw [Below.heap_setCell _ _ _ _ (show k ≠ b from fun e => hne ⟨hn, e⟩)]
  exact h5 k hk hne
theorem WI.of_block {w w' : World} {b : Nat} {v : Value} {xs : List Int} (h : WI w b v xs) (hs : w.heap.size ≤ w'.heap.size) (hk : xs.length ≠ 0 → w'.heap[b]? = w.heap[b]?) : WI w' b v xs := by
  obtain ⟨ao, cap, rfl, h1, h2, h3⟩ := h
  refine ⟨ao, cap, rfl, h1, h2, ?_⟩
  by_cases h0 : xs.length = 0
  · exact .inl h0
  · rcases h3 with h3 | ⟨rfl, h4, h5⟩
    · exact .inl h3
    · refine .inr ⟨rfl, Nat.lt_of_lt_of_le h4 hs, fun j hj => ?_⟩
      rw [World.cell?_of_block (w := w) (w' := w') (a := ⟨b, j, none⟩) (hk h0), World.frozen?_of_block (w := w) (w' := w') (a := ⟨b, j, none⟩) (hk h0)]
      exact h5 j hj
theorem WI.shape {w : World} {b : Nat} {v : Value} {xs : List Int} (h : WI w b v xs) : ∃ a n c, v = .slice a n c ∧ n = xs.length := by
  obtain ⟨ao, cap, rfl, -⟩ := h
  exact ⟨ao, _, cap, rfl, rfl⟩
/-- The marks of a row. -/
def seqI (k : Int) (n : Nat) : List Int := (List.range n).map (fun (j : Nat) => k + (j : Int))
theorem seqI_len (k : Int) (n : Nat) : (seqI k n).length = n := by simp [seqI]
theorem seqI_at (k : Int) (n j : Nat) (h : j < n) : (seqI k n)[j]?.getD 0 = k + (j : Int) := by simp [seqI, h]
theorem frozen_set (w : World) (a b : Addr) (v : Value) : (w.setCell a v).frozen? b = w.frozen? b := by
  unfold World.frozen? World.setCell
  simp only [Array.getElem?_modify]
  by_cases h : a.block = b.block
  · rw [if_pos h]
    cases hb : w.heap[b.block]? with
    | none => simp
    | some o => cases o <;> simp
  · rw [if_neg h]
theorem cell_set_same (w : World) (b j : Nat) (v u : Value) (h : w.cell? ⟨b, j, none⟩ = some u) : (w.setCell ⟨b, j, none⟩ v).cell? ⟨b, j, none⟩ = some v := by
  unfold World.cell? World.setCell at *
  simp only [Array.getElem?_modify, if_true]
  cases hb : w.heap[b]? with
  | none => rw [hb] at h; cases h
  | some o =>
    rw [hb] at h
    cases o with
    | cells c e f =>
      simp at h ⊢
      obtain ⟨hj, -⟩ := Array.getElem?_eq_some_iff.1 h
      simp [hj]
    | _ => simp at h
theorem cell_set_other (w : World) (b j i : Nat) (v : Value) (hne : i ≠ j) : (w.setCell ⟨b, j, none⟩ v).cell? ⟨b, i, none⟩ = w.cell? ⟨b, i, none⟩ := by
  unfold World.cell? World.setCell
  simp only [Array.getElem?_modify, if_true]
  cases hb : w.heap[b]? with
  | none => simp
  | some o =>
    cases o with
    | cells c e f => simp [Array.getElem?_setIfInBounds, hne.symm, fun h => hne h]
    | _ => simp

set_option maxHeartbeats 10485760 in
theorem markIntS_any (b : Nat) (ao : Option Addr) (n cap : Nat) (xs : List Int) (k : Int) (w : World) (h : WI w b (.slice ao n cap) xs) (hk0 : 0 ≤ k) (hk1 : k < 1125899906842624) (hm : xs.length ≤ 1048576) :
    Calls Tryd.prog 30 #[.slice ao n cap, .int .i64 k] w (fun e w' => e = .returned (.int .i64 (k + (n : Int))) ∧ WI w' b (.slice ao n cap) (seqI k n) ∧ Only (fun q => n ≠ 0 ∧ q = b) w w') := by
  obtain ⟨ao', cap', he, h1, h2, h3⟩ := h
  injection he with e1 e2 e3
  subst e1 e3
  unfold maxLen at h2
  have HN := Lib.hid e2
  have hn2 : n ≤ 1048576 := by omega
  have hcap : n ≤ cap := by omega
  rw [← e2] at h3
  have H3 := Lib.hid h3; clear h3
  clear h1 hm e2
  go_enter Tryd.func30, Tryd.ntmps30
  go_wp2
  go_loopw [1, 5] (fun kv i wr => ∃ j : Nat, j ≤ n ∧ i = .int .i64 j ∧ kv = .int .i64 (k + (j : Int)) ∧ (n = 0 ∨ (ao = some ⟨b, 0, none⟩ ∧ b < wr.heap.size ∧ ∀ y, y < n → wr.cell? ⟨b, y, none⟩ = some (.int .i64 (if y < j then k + (y : Int) else xs[y]?.getD 0)) ∧ wr.frozen? ⟨b, y, none⟩ = false)) ∧ Only (fun q => n ≠ 0 ∧ q = b) w wr) (fun _ i _ => n - (intOf i).toNat)
  case atStart => exact ⟨0, by omega, rfl, by simp, (H3.out).imp id (fun ⟨q1, q2, q3⟩ => ⟨q1, q2, fun y hy => by simpa using q3 y hy⟩), Only.refl _ _⟩
  case round =>
    obtain ⟨j, hj, rfl, rfl, hc, hbut⟩ := hrel
    by_cases hlt : j < n
    · rcases hc with h0 | ⟨rfl, hb, hc⟩
      · omega
      · obtain ⟨c1, c2⟩ := hc j hlt
        have HC := Lib.hid hc
        have HB := Lib.hid hbut
        clear hc hbut
        go_wp2
        go_roundw
        case rel => exact ⟨j + 1, by omega, by go_num, by go_num, .inr ⟨by first | trivial | rfl, by simpa using hb, fun y hy => ⟨by
          by_cases e : y = j
          · subst e
            rw [cell_set_same _ _ _ _ _ (HC.out y hy).1, if_pos (by omega)]
          · rw [cell_set_other _ _ _ _ _ e, (HC.out y hy).1]
            have : (y < j + 1) = (y < j) := by simp only [eq_iff_iff]; omega
            simp only [this], by rw [frozen_set]; exact (HC.out y hy).2⟩⟩, HB.out.set (by omega) _ _⟩
        case measure => simp [intOf] <;> omega
    · obtain rfl : j = n := by omega
      have HC := Lib.hid hc
      have HB := Lib.hid hbut
      clear hc hbut
      go_wp2
      go_ret
      refine ⟨rfl, ⟨ao, cap, by rw [seqI_len], by rw [seqI_len]; exact hcap, h2, ?_⟩, HB.out⟩
      rw [seqI_len]
      exact HC.out.imp id (fun ⟨q1, q2, q3⟩ => ⟨q1, q2, fun y hy => ⟨by rw [(q3 y hy).1, if_pos hy, seqI_at k j y hy], (q3 y hy).2⟩⟩)

set_option maxHeartbeats 10485760 in
theorem heldIntS_any (ao : Option Addr) (n cap : Nat) (k : Int) (w : World) (h : IV w (.slice ao n cap) (seqI k n)) (hk0 : 0 ≤ k) (hk1 : k < 1125899906842624) (hm : n ≤ 1048576) :
    Calls Tryd.prog 31 #[.slice ao n cap, .int .i64 k] w (Ret (.int .i64 (k + (n : Int))) w) := by
  obtain ⟨hn, hcap, hmax, hcell⟩ := SV.at h
  unfold maxLen at hmax
  have HC := Lib.hid hcell; clear hcell
  clear h hn
  go_enter Tryd.func31, Tryd.ntmps31
  go_wp2
  go_loop [1, 5] (fun kv i => ∃ j : Nat, j ≤ n ∧ i = .int .i64 j ∧ kv = .int .i64 (k + (j : Int))) (fun _ i => n - (intOf i).toNat)
  case atStart => exact ⟨0, by omega, rfl, by simp⟩
  case round =>
    obtain ⟨j, hj, rfl, rfl⟩ := hrel
    by_cases hlt : j < n
    · rcases HC.out with h0 | ⟨b, off, rfl, hb, hc⟩
      · omega
      · obtain ⟨u, hu, rfl⟩ := hc j hlt
        rw [seqI_at k n j hlt] at hu
        clear hc
        go_wp2
        go_round
        case rel => exact ⟨j + 1, by omega, by go_num, by go_num⟩
        case measure => simp [intOf] <;> omega
    · obtain rfl : j = n := by omega
      go_wp2
      go_ret
      exact ⟨rfl, rfl⟩


theorem WI.below {w w' : World} {b : Nat} {v : Value} {xs : List Int} (h : WI w b v xs) (hb : Below w.heap.size w w') : WI w' b v xs := by
  obtain ⟨ao, cap, rfl, h1, h2, h3⟩ := h
  rcases h3 with h3 | ⟨rfl, h4, h5⟩
  · exact ⟨ao, cap, rfl, h1, h2, .inl h3⟩
  · refine ⟨_, cap, rfl, h1, h2, .inr ⟨rfl, Nat.lt_of_lt_of_le h4 hb.size, fun j hj => ?_⟩⟩
    rw [World.cell?_of_block (w := w) (w' := w') (a := ⟨b, j, none⟩) (hb.block b h4), World.frozen?_of_block (w := w) (w' := w') (a := ⟨b, j, none⟩) (hb.block b h4)]
    exact h5 j hj
theorem IRow.wi {B : Nat} {w : World} {v : Value} {xs : List Int} (h : IRow B w v xs) : ∃ b, (xs.length ≠ 0 → B ≤ b ∧ b < w.heap.size) ∧ WI w b v xs := by
  rcases h.shape with ⟨rfl, rfl⟩ | ⟨g, cap, rfl, hB, hg, hc, hm, hcell, hfz⟩
  · exact ⟨0, fun h => absurd rfl h, none, 0, rfl, Nat.le_refl _, by decide, .inl rfl⟩
  · exact ⟨g, fun _ => ⟨hB, hg⟩, _, cap, rfl, hc, hm, .inr ⟨rfl, hg, fun j hj => ⟨hcell j hj, hfz j⟩⟩⟩
theorem rowIs.wi {w : World} {b n : Nat} {xs : List Int} (h : w.rowIs b 3 n (fun j => .int .i64 (xs[j]?.getD 0))) (hn : n = xs.length) (hm : n ≤ 1048576) : WI w b (.slice (some ⟨b, 0, none⟩) n n) xs := by
  subst hn
  exact ⟨_, _, rfl, Nat.le_refl _, by unfold maxLen; omega, .inr ⟨rfl, World.rowIs.lt h, fun j hj => ⟨World.rowIs.cell h hj, World.rowIs.frozen h j⟩⟩⟩
/-- The cells of such a row. -/
theorem WI.at {w : World} {b n cap : Nat} {a : Option Addr} {xs : List Int} (h : WI w b (.slice a n cap) xs) : n = xs.length ∧ n ≤ cap ∧ cap ≤ 9223372036854775807 ∧ (n = 0 ∨ (a = some ⟨b, 0, none⟩ ∧ b < w.heap.size ∧ ∀ j, j < n → w.cell? ⟨b, j, none⟩ = some (.int .i64 (xs[j]?.getD 0)))) := by
  obtain ⟨ao, cap', he, h1, h2, h3⟩ := h
  injection he with e1 e2 e3
  subst e1; subst e2; subst e3
  refine ⟨rfl, h1, h2, ?_⟩
  rcases h3 with h3 | ⟨rfl, h4, h5⟩
  · exact .inl h3
  · exact .inr ⟨rfl, h4, fun j hj => (h5 j hj).1⟩
end Go.Proofs.YtomllliencgijaaDoor
