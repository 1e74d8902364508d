/- A system that is copied and spoilt: its state. -/
import Derived.Test.YtnjakhojdhkihaaGreatDoorSDraw1
namespace Go.Proofs.YtnjakhojdhkihaaGreatDoor
open Go.RowKit
set_option linter.unusedVariables false
set_option linter.unusedSimpArgs false
set_option maxRecDepth 100000

theorem own_ne {B S : Nat} {w : World} {v : Value} {es : List Edg} {f : Nat → Value} (h : EOwn B w v es) (hr : w.rowIs S 24 3 f) : v.ownBlock ≠ some S := by
  intro hv
  rcases h.2 with ⟨h1, -⟩ | ⟨g, c, cur, h1, hB, hg, -⟩
  · rw [h1] at hv; cases hv
  · rw [h1] at hv
    have hgS : g = S := Option.some.inj hv
    subst hgS
    obtain ⟨c', hc', -⟩ := hr
    rw [hg] at hc'
    have := Option.some.inj hc'
    simp at this
theorem EOwn.setNe {B S j : Nat} {w : World} {v u : Value} {es : List Edg} (h : EOwn B w v es) (hS : v.ownBlock ≠ some S) : EOwn B (w.setCell ⟨S, j, none⟩ u) v es := by
  refine ⟨h.1, ?_⟩
  rcases h.2 with h2 | ⟨g, c, cur, hv, hB, hg, hc, hm, hs, ht⟩
  · exact .inl h2
  · have hne : g ≠ S := fun e => hS (by rw [hv, e]; rfl)
    exact .inr ⟨g, c, cur, hv, hB, by rw [Below.heap_setCell _ _ _ _ (by simpa using hne)]; exact hg, hc, hm, hs, ht⟩
/-- The state: the reader in R, the box in S; wL: the world ahead of the copy. -/
def DW (R p S : Nat) (al st : Int) (wL w : World) (v : Value) (es : List Edg) : Prop :=
  RdOk R p w ∧ w.rowIs S 24 3 (fun i => #[.int .i64 al, .int .i64 st, v][i]?.getD undef) ∧ EOwn wL.heap.size w v es ∧ R < wL.heap.size ∧ wL.heap.size ≤ S ∧ wL.grownBy w (some R)
theorem DW.drew {R p S : Nat} {al st : Int} {wL w : World} {v : Value} {es : List Edg} (h : DW R p S al st wL w v es) : DW R p S al st wL w.drew v es := ⟨h.1, h.2.1, h.2.2.1, h.2.2.2.1, h.2.2.2.2.1, ⟨h.2.2.2.2.2.os, h.2.2.2.2.2.tape, h.2.2.2.2.2.output, h.2.2.2.2.2.size, h.2.2.2.2.2.block⟩⟩
theorem DW.pick {R p p' S : Nat} {al st : Int} {wL w w' : World} {v : Value} {es : List Edg} (h : DW R p S al st wL w v es) (hr : RdOk R p' w') (hg : w.grownBy w' (some R)) : DW R p' S al st wL w' v es :=
  ⟨hr, row_grown h.2.1 hg (by have := h.2.2.2.1; have := h.2.2.2.2.1; omega), h.2.2.1.grown h.2.2.2.1 hg, h.2.2.2.1, h.2.2.2.2.1, grown_trans h.2.2.2.2.2 hg⟩
theorem DW.setS {R p S j : Nat} {al st al' st' : Int} {wL w : World} {v u : Value} {es : List Edg} (h : DW R p S al st wL w v es) (hf : ∀ i, i < 3 → (if i = j then u else (#[.int .i64 al, .int .i64 st, v] : Array Value)[i]?.getD undef) = (#[.int .i64 al', .int .i64 st', v] : Array Value)[i]?.getD undef) : DW R p S al' st' wL (w.setCell ⟨S, j, none⟩ u) v es := by
  obtain ⟨h1, h2, h3, h4, h5, h6⟩ := h
  exact ⟨h1.set (by omega), (h2.set j u).congr hf, h3.setNe (own_ne h3 h2), h4, h5, grown_set _ h6 h5⟩
theorem DW.app {R p S : Nat} {al st : Int} {wL w w5 : World} {v v' : Value} {es es' : List Edg} (h : DW R p S al st wL w v es) (hk : Kept wL.heap.size w w5 v) (ho : EOwn wL.heap.size w5 v' es') : DW R p S al st wL (w5.setCell ⟨S, 2, none⟩ v') v' es' := by
  obtain ⟨h1, h2, h3, h4, h5, h6⟩ := h
  have hB : Below wL.heap.size w w5 := hk.1 w (Below.refl _ _)
  have hS5 : w5.rowIs S 24 3 (fun i => #[.int .i64 al, .int .i64 st, v][i]?.getD undef) := h2.of_block (hk.2.block S (World.rowIs.lt h2) (fun e => own_ne h3 h2 e.symm))
  refine ⟨(h1.same hB.size (fun k hk => hB.block k (by omega))).set (by omega), ?_, ho.setNe (own_ne ho hS5), h4, h5, grown_set _ ?_ h5⟩
  · exact (hS5.set 2 v').congr (fun j hj => by
      obtain rfl | rfl | rfl : j = 0 ∨ j = 1 ∨ j = 2 := by omega
      all_goals rfl)
  · exact ⟨hB.os.trans h6.os, hB.tape.trans h6.tape, hB.output.trans h6.output, Nat.le_trans h6.size hB.size, fun k hk hn => (hB.block k hk).trans (h6.block k hk hn)⟩
theorem DW.cells {R p S : Nat} {al st : Int} {wL w w5 : World} {v : Value} {es : List Edg} (h : DW R p S al st wL w v es) (hk : Kept wL.heap.size w w5 v) : w5.cell? ⟨S, 2, none⟩ = some v ∧ w5.frozen? ⟨S, 2, none⟩ = false := by
  have hS5 : w5.rowIs S 24 3 (fun i => #[.int .i64 al, .int .i64 st, v][i]?.getD undef) := h.2.1.of_block (hk.2.block S (World.rowIs.lt h.2.1) (fun e => own_ne h.2.2.1 h.2.1 e.symm))
  exact ⟨hS5.cell (by decide), hS5.frozen 2⟩
/-- The end of the road: the edges may be read. -/
def DE (R p S : Nat) (al st : Int) (wL w : World) (v : Value) (es : List Edg) : Prop :=
  RdOk R p w ∧ w.rowIs S 24 3 (fun i => #[.int .i64 al, .int .i64 st, v][i]?.getD undef) ∧ (∀ R', R' < wL.heap.size → EVR R' w v es) ∧ wL.grownBy w (some R)
theorem DW.de {R p S : Nat} {al st : Int} {wL w : World} {v : Value} {es : List Edg} (h : DW R p S al st wL w v es) : DE R p S al st wL w v es := ⟨h.1, h.2.1, fun R' hR' => h.2.2.1.evr hR', h.2.2.2.2.2⟩
def setF (f : Nat) (e : Edg) (x : Int) : Edg := if f = 0 then (x, e.2) else if f = 1 then (e.1, x, e.2.2) else (e.1, e.2.1, x)
def setE (es : List Edg) (k f : Nat) (x : Int) : List Edg := (List.range es.length).map (fun i => if i = k then setF f (Edg.at es i) x else Edg.at es i)
theorem setE_len (es : List Edg) (k f : Nat) (x : Int) : (setE es k f x).length = es.length := by simp [setE]
theorem setE_at (es : List Edg) (k f : Nat) (x : Int) (i : Nat) (hi : i < es.length) : Edg.at (setE es k f x) i = if i = k then setF f (Edg.at es i) x else Edg.at es i := by
  unfold setE
  have e : ∀ g : Nat → Edg, Edg.at ((List.range es.length).map g) i = g i := fun g => by unfold Edg.at; simp [hi]
  rw [e]
theorem cellE_set_same (w : World) (b j : Nat) (v u : Value) (h : w.cell? ⟨b, j, none⟩ = some u) : (w.setCell ⟨b, j, none⟩ v).cell? ⟨b, j, none⟩ = some v := by
  unfold World.cell? World.setCell at *
  simp only [Array.getElem?_modify, if_true]
  cases hb : w.heap[b]? with
  | none => rw [hb] at h; cases h
  | some o =>
    rw [hb] at h
    cases o with
    | cells c e f =>
      simp at h ⊢
      obtain ⟨hj, -⟩ := Array.getElem?_eq_some_iff.1 h
      simp [hj]
    | _ => simp at h
theorem cellE_set_other (w : World) (b j i : Nat) (v : Value) (hne : i ≠ j) : (w.setCell ⟨b, j, none⟩ v).cell? ⟨b, i, none⟩ = w.cell? ⟨b, i, none⟩ := by
  unfold World.cell? World.setCell
  simp only [Array.getElem?_modify, if_true]
  cases hb : w.heap[b]? with
  | none => simp
  | some o =>
    cases o with
    | cells c e f => simp [Array.getElem?_setIfInBounds, hne.symm, fun h => hne h]
    | _ => simp
theorem set_cells (w : World) (b j i : Nat) (u old : Value) (h : w.cell? ⟨b, j, none⟩ = some old) : (w.setCell ⟨b, j, none⟩ u).cell? ⟨b, i, none⟩ = if i = j then some u else w.cell? ⟨b, i, none⟩ := by
  by_cases e : i = j
  · subst e
    rw [if_pos rfl]
    exact cellE_set_same w b i u old h
  · rw [if_neg e]
    exact cellE_set_other w b j i u e
theorem DW.elem {R p S : Nat} {al st : Int} {wL w : World} {g n c k f : Nat} {es : List Edg} {x : Int} (h : DW R p S al st wL w (.slice (some ⟨g, 0, none⟩) n c) es) (hn : n = es.length) (hk : k < n) (hf : f < 3) : DE R p S al st wL (w.setCell ⟨g, k * 3 + f, none⟩ (.int .i64 x)) (.slice (some ⟨g, 0, none⟩) n c) (setE es k f x) := by
  obtain ⟨h1, h2, h3, h4, h5, h6⟩ := h
  have hne : g ≠ S := fun e => own_ne h3 h2 (by rw [e]; rfl)
  have hgB : wL.heap.size ≤ g := (World.ownsRow.lt h3 g rfl).1
  refine ⟨h1.set (by omega), ?_, fun R' hR' => ?_, grown_set _ h6 hgB⟩
  · exact h2.of_block (Below.heap_setCell _ _ _ _ (by simpa using fun e => hne e.symm))
  · obtain ⟨ao, cap, q1, q2, q3, q4⟩ := h3.evr hR'
    injection q1 with e1 e2 e3
    subst e1
    rcases q4 with q4 | ⟨b, off, q5, q6, q7, q8⟩
    · omega
    · injection q5 with q5
      injection q5 with q5 q5' _
      subst q5
      subst q5'
      refine ⟨_, cap, by rw [setE_len, ← hn, e3], by rw [setE_len]; exact q2, q3, .inr ⟨g, 0, rfl, q6, by simpa using q7, fun i hi => ?_⟩⟩
      rw [setE_len] at hi
      have hold : ∃ old, w.cell? ⟨g, k * 3 + f, none⟩ = some old := by
        obtain ⟨r0, r1, r2⟩ := q8 k (by omega)
        obtain rfl | rfl | rfl : f = 0 ∨ f = 1 ∨ f = 2 := by omega
        · exact ⟨_, by simpa using r0⟩
        · exact ⟨_, by simpa using r1⟩
        · exact ⟨_, by simpa using r2⟩
      obtain ⟨old, hold⟩ := hold
      obtain ⟨r0, r1, r2⟩ := q8 i hi
      rw [Nat.zero_add] at r0 r1 r2 ⊢
      rw [set_cells w g _ _ _ old hold, set_cells w g _ _ _ old hold, set_cells w g _ _ _ old hold, setE_at es k f x i hi]
      have d01 : ∀ a b : Nat, ¬ (i * 3 + a = k * 3 + b ∧ (i ≠ k ∧ a < 3 ∧ b < 3)) := fun a b h => by omega
      obtain rfl | rfl | rfl : f = 0 ∨ f = 1 ∨ f = 2 := by omega
      · by_cases e : i = k
        · subst e
          have t1 : i * 3 = i * 3 + 0 := by omega
          have t2 : ¬ i * 3 + 1 = i * 3 + 0 := by omega
          have t3 : ¬ i * 3 + 2 = i * 3 + 0 := by omega
          rw [if_pos t1, if_neg t2, if_neg t3, if_pos rfl]
          exact ⟨rfl, r1, r2⟩
        · have t1 : ¬ i * 3 = k * 3 + 0 := by omega
          have t2 : ¬ i * 3 + 1 = k * 3 + 0 := by omega
          have t3 : ¬ i * 3 + 2 = k * 3 + 0 := by omega
          rw [if_neg t1, if_neg t2, if_neg t3, if_neg e]
          exact ⟨r0, r1, r2⟩
      · by_cases e : i = k
        · subst e
          have t1 : ¬ i * 3 = i * 3 + 1 := by omega
          have t3 : ¬ i * 3 + 2 = i * 3 + 1 := by omega
          rw [if_neg t1, if_pos rfl, if_neg t3, if_pos rfl]
          exact ⟨r0, rfl, r2⟩
        · have t1 : ¬ i * 3 = k * 3 + 1 := by omega
          have t2 : ¬ i * 3 + 1 = k * 3 + 1 := by omega
          have t3 : ¬ i * 3 + 2 = k * 3 + 1 := by omega
          rw [if_neg t1, if_neg t2, if_neg t3, if_neg e]
          exact ⟨r0, r1, r2⟩
      · by_cases e : i = k
        · subst e
          have t1 : ¬ i * 3 = i * 3 + 2 := by omega
          have t2 : ¬ i * 3 + 1 = i * 3 + 2 := by omega
          rw [if_neg t1, if_neg t2, if_pos rfl, if_pos rfl]
          exact ⟨r0, r1, rfl⟩
        · have t1 : ¬ i * 3 = k * 3 + 2 := by omega
          have t2 : ¬ i * 3 + 1 = k * 3 + 2 := by omega
          have t3 : ¬ i * 3 + 2 = k * 3 + 2 := by omega
          rw [if_neg t1, if_neg t2, if_neg t3, if_neg e]
          exact ⟨r0, r1, r2⟩
/-- A slice of edges, cell by cell. -/
theorem evr_flat {R : Nat} {w : World} {b off n c : Nat} {es : List Edg} (h : EVR R w (.slice (some ⟨b, off, none⟩) n c) es) : ∀ j u, (eflat es)[j]? = some u → w.cell? (Addr.add ⟨b, off, none⟩ j) = some u := by
  intro j u hu
  have hj : j < es.length * 3 := by
    have := (List.getElem?_eq_some_iff.1 hu).1
    rwa [eflat_len] at this
  obtain ⟨ao, cap, q1, q2, q3, q4⟩ := h
  injection q1 with e1 e2 e3
  subst e1
  rcases q4 with q4 | ⟨b', off', q5, q6, q7, q8⟩
  · omega
  · injection q5 with q5
    injection q5 with q5 q5' _
    subst q5
    subst q5'
    have ha : Addr.add ⟨b, off, none⟩ j = ⟨b, off + j, none⟩ := by
      unfold Addr.add
      split
      · rename_i h; subst h; rfl
      · rfl
    rw [ha, ← hu]
    obtain ⟨r0, r1, r2⟩ := q8 (j / 3) (by omega)
    obtain ⟨s0, s1, s2⟩ := eflat_at es (j / 3) (by omega)
    obtain hm | hm | hm : j % 3 = 0 ∨ j % 3 = 1 ∨ j % 3 = 2 := by omega
    · have e1 : j = j / 3 * 3 := by omega
      rw [show off + j = off + j / 3 * 3 by omega, r0, e1, show j / 3 * 3 / 3 = j / 3 by omega, s0]
    · rw [show off + j = off + j / 3 * 3 + 1 by omega, r1]
      have e1 : j = j / 3 * 3 + 1 := by omega
      rw [← s1, ← e1]
    · rw [show off + j = off + j / 3 * 3 + 2 by omega, r2]
      have e1 : j = j / 3 * 3 + 2 := by omega
      rw [← s2, ← e1]
end Go.Proofs.YtnjakhojdhkihaaGreatDoor
