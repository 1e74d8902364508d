/- Automata that the code itself makes: the outer row, the rows and the marks, each owned; they grow by append. -/
import Derived.Test.YtagegbhchljggaaClone
import Derived.Test.YtagegbhchljggaaDraw2
import Derived.Laws.OwnMore
import Derived.Deep.RegionHeld3
namespace Go.Proofs.Ytagegbhchljggaa
open Go.RowKit
set_option linter.unusedVariables false
set_option linter.unusedSimpArgs false
set_option maxRecDepth 100000

theorem Try.infoRowA : (Try.prog.info? 44).map (fun i => (i.zero, i.size, i.bytes)) = some (some (.slice none 0 0), 1, 24) := by kernel_rfl
theorem Try.infoBoolA : (Try.prog.info? 4).map (fun i => (i.zero, i.size, i.bytes)) = some (some (.bool false), 1, 1) := by kernel_rfl
theorem own_block {B e size n : Nat} {w : World} {v : Value} {xs : List Value} (h : w.ownsRow B e size v n xs) : v.ownBlock = none ∨ ∃ g cur, v.ownBlock = some g ∧ B ≤ g ∧ w.heap[g]? = some (.cells cur e (0, 0)) := by
  rcases h.2 with ⟨rfl, -⟩ | ⟨g, cap, cur, rfl, hB, hg, -⟩
  · exact .inl rfl
  · exact .inr ⟨g, cur, rfl, hB, hg⟩
/-- Owned rows of different element types lie in different blocks. -/
theorem own_apart {B B' e e' s s' n n' : Nat} {w : World} {v v' : Value} {xs xs' : List Value} (h : w.ownsRow B e s v n xs) (h' : w.ownsRow B' e' s' v' n' xs') (he : e ≠ e') : v.ownBlock = none ∨ v.ownBlock ≠ v'.ownBlock := by
  rcases own_block h with h0 | ⟨g, cur, hg, -, hc⟩
  · exact .inl h0
  · right
    rcases own_block h' with h0 | ⟨g', cur', hg', -, hc'⟩
    · rw [hg, h0]; intro q; cases q
    · rw [hg, hg']
      intro q
      have q := Option.some.inj q
      subst q
      rw [hc] at hc'
      have := Option.some.inj hc'
      simp at this
      exact he this.2
theorem own_box {B e s n m : Nat} {t : TypeId} {S : Nat} {w : World} {v : Value} {xs : List Value} {f : Nat → Value} (h : w.ownsRow B e s v n xs) (hr : w.rowIs S t m f) (he : e ≠ t) : v.ownBlock ≠ some S := by
  rcases own_block h with h0 | ⟨g, cur, hg, -, hc⟩
  · rw [h0]; intro q; cases q
  · rw [hg]
    intro q
    have q := Option.some.inj q
    subst q
    obtain ⟨c', hc', -⟩ := hr
    rw [hc] at hc'
    have := Option.some.inj hc'
    simp at this
    exact he this.2
theorem own_low {B e s n R : Nat} {w : World} {v : Value} {xs : List Value} (h : w.ownsRow B e s v n xs) (hR : R < B) : v.ownBlock = none ∨ v.ownBlock ≠ some R := by
  rcases own_block h with h0 | ⟨g, cur, hg, hB, -⟩
  · exact .inl h0
  · right
    rw [hg]
    intro q
    have q := Option.some.inj q
    omega
def uAt (us : List Value) (i : Nat) : Value := us[i]?.getD undef
def xAt (xss : List (List Int)) (i : Nat) : List Int := xss[i]?.getD []
/-- No two rows share a block. -/
def Sep (us : List Value) : Prop := ∀ i j, i < us.length → j < us.length → i ≠ j → (uAt us i).ownBlock = none ∨ (uAt us i).ownBlock ≠ (uAt us j).ownBlock
/-- The rows of an automaton under way. -/
def RO (B : Nat) (w : World) (v : Value) (us : List Value) (xss : List (List Int)) : Prop :=
  w.ownsRow B 44 1 v us.length us ∧ us.length = xss.length ∧ (∀ i, i < us.length → IRow B w (uAt us i) (xAt xss i)) ∧ Sep us
theorem RO.nil (B : Nat) (w : World) : RO B w (.slice none 0 0) [] [] := ⟨World.ownsRow_nil _ _ _ _, rfl, fun i hi => by simp at hi, fun i j hi => by simp at hi⟩
theorem RO.kept {B : Nat} {w w' : World} {v : Value} {us : List Value} {xss : List (List Int)} {row : Option Nat} (h : RO B w v us xss) (hg : w.grownBy w' row) (hv : v.ownBlock = none ∨ v.ownBlock ≠ row) (hu : ∀ i, i < us.length → (uAt us i).ownBlock = none ∨ (uAt us i).ownBlock ≠ row) : RO B w' v us xss :=
  ⟨h.1.kept hg hv, h.2.1, fun i hi => (h.2.2.1 i hi).kept hg (hu i hi), h.2.2.2⟩
theorem RO.low {B R : Nat} {w w' : World} {v : Value} {us : List Value} {xss : List (List Int)} (h : RO B w v us xss) (hR : R < B) (hg : w.grownBy w' (some R)) : RO B w' v us xss :=
  h.kept hg (own_low h.1 hR) (fun i hi => own_low (h.2.2.1 i hi) hR)
theorem grown_cell (w : World) (S j : Nat) (u : Value) : w.grownBy (w.setCell ⟨S, j, none⟩ u) (some S) :=
  ⟨rfl, rfl, rfl, by simp, fun k hk hn => Below.heap_setCell _ _ _ _ (by simp; exact fun e => hn (by rw [e]))⟩
theorem RO.box {B S j m : Nat} {w : World} {v u : Value} {us : List Value} {xss : List (List Int)} {f : Nat → Value} (h : RO B w v us xss) (hr : w.rowIs S 28 m f) : RO B (w.setCell ⟨S, j, none⟩ u) v us xss :=
  h.kept (grown_cell w S j u) (.inr (own_box h.1 hr (by decide))) (fun i hi => .inr (own_box (h.2.2.1 i hi) hr (by decide)))
theorem RO.below {B : Nat} {w w' : World} {v : Value} {us : List Value} {xss : List (List Int)} (h : RO B w v us xss) (hb : Below w.heap.size w w') : RO B w' v us xss :=
  ⟨ownsRow_below h.1 hb, h.2.1, fun i hi => (h.2.2.1 i hi).below hb, h.2.2.2⟩
/-- One row more. -/
theorem RO.more {B : Nat} {w w' : World} {v v' u : Value} {us : List Value} {xss : List (List Int)} {x : List Int} (h : RO B w v us xss) (hu : IRow B w u x) (hs : ∀ i, i < us.length → (u.ownBlock = none ∨ u.ownBlock ≠ (uAt us i).ownBlock) ∧ ((uAt us i).ownBlock = none ∨ (uAt us i).ownBlock ≠ u.ownBlock))
    (hk : Kept B w w' v) (ho : w'.ownsRow B 44 1 v' (us ++ [u]).length (us ++ [u])) : RO B w' v' (us ++ [u]) (xss ++ [x]) := by
  have hl := h.2.1
  refine ⟨ho, by simp [hl], fun i hi => ?_, fun i j hi hj hij => ?_⟩
  · have hi' : i < us.length + 1 := by simpa using hi
    by_cases e : i = us.length
    · subst e
      have e1 : uAt (us ++ [u]) us.length = u := by simp [uAt]
      have e2 : xAt (xss ++ [x]) us.length = x := by simp [xAt, hl]
      rw [e1, e2]
      exact hu.kept hk.2 (own_apart hu h.1 (by decide))
    · have e1 : uAt (us ++ [u]) i = uAt us i := by unfold uAt; rw [List.getElem?_append_left (by omega)]
      have e2 : xAt (xss ++ [x]) i = xAt xss i := by unfold xAt; rw [List.getElem?_append_left (by omega)]
      rw [e1, e2]
      have hi2 := h.2.2.1 i (by omega)
      exact hi2.kept hk.2 (own_apart hi2 h.1 (by decide))
  · have hi' : i < us.length + 1 := by simpa using hi
    have hj' : j < us.length + 1 := by simpa using hj
    have e1 : uAt (us ++ [u]) us.length = u := by simp [uAt]
    have e2 : ∀ k, k < us.length → uAt (us ++ [u]) k = uAt us k := fun k hk => by unfold uAt; rw [List.getElem?_append_left hk]
    by_cases ei : i = us.length
    · subst ei
      rw [e1, e2 j (by omega)]
      exact (hs j (by omega)).1
    · by_cases ej : j = us.length
      · subst ej
        rw [e1, e2 i (by omega)]
        exact (hs i (by omega)).2
      · rw [e2 i (by omega), e2 j (by omega)]
        exact h.2.2.2 i j (by omega) (by omega) hij
theorem RO.mv {B : Nat} {w : World} {v : Value} {us : List Value} {xss : List (List Int)} (h : RO B w v us xss) : MV w v xss := by
  obtain ⟨h1, h2, h3, -⟩ := h
  rcases h1.2 with ⟨hv, h0⟩ | ⟨g, c, cur, hv, hB, hg, hc, hm, hs, ht⟩
  · exact ⟨none, 0, by rw [hv, ← h2, h0], by omega, by decide, .inl (by omega)⟩
  · refine ⟨_, c, by rw [hv, h2], by omega, hm, .inr ⟨g, 0, rfl, (Array.getElem?_eq_some_iff.1 hg).1, fun i hi => ?_⟩⟩
    have hi' : i < us.length := by omega
    subst hv
    have hcl := World.ownsRow.cellAt h1 i (by omega)
    refine ⟨uAt us i, by rw [Nat.zero_add, hcl]; unfold uAt; rw [List.getElem?_eq_getElem hi']; rfl, ?_⟩
    have hr := h3 i hi'
    unfold xAt at hr
    rcases hr.2 with ⟨hv, h0⟩ | ⟨g', c', cur', hv, hB', hg', hc', hm', hs', ht'⟩
    · exact ⟨none, 0, by rw [hv, h0], by omega, by decide, .inl h0⟩
    · refine ⟨_, c', hv, hc', hm', .inr ⟨g', 0, rfl, (Array.getElem?_eq_some_iff.1 hg').1, fun j hj => ⟨_, ?_, rfl⟩⟩⟩
      rw [hv] at hr
      rw [Nat.zero_add, World.ownsRow.cellAt hr j (by omega)]
      simp [List.getElem?_eq_getElem hj]
theorem TRow.bv {B : Nat} {w : World} {v : Value} {bs : List Bool} (h : TRow B w v bs) : BV w v bs := by
  rcases h.2 with ⟨hv, h0⟩ | ⟨g, c, cur, hv, hB, hg, hc, hm, hs, ht⟩
  · exact ⟨none, 0, by rw [hv, h0], by omega, by decide, .inl h0⟩
  · refine ⟨_, c, hv, hc, hm, .inr ⟨g, 0, rfl, (Array.getElem?_eq_some_iff.1 hg).1, fun j hj => ⟨_, ?_, rfl⟩⟩⟩
    have h' := h
    rw [hv] at h'
    rw [Nat.zero_add, World.ownsRow.cellAt h' j (by omega)]
    simp [List.getElem?_eq_getElem hj]
theorem TRow.nil (B : Nat) (w : World) : TRow B w (.slice none 0 0) [] := World.ownsRow_nil _ _ _ _
/-- An automaton under way in its box S: the reader, the rows, the marks. -/
def AD (R p S : Nat) (al : Int) (wL w : World) (v1 v2 : Value) (us : List Value) (xss : List (List Int)) (bs : List Bool) : Prop :=
  RdOk R p w ∧ w.rowIs S 28 3 (fun i => #[.int .i64 al, v1, v2][i]?.getD undef) ∧ RO wL.heap.size w v1 us xss ∧ TRow wL.heap.size w v2 bs ∧ R < S ∧ S < wL.heap.size ∧
  w.os = wL.os ∧ w.tape = wL.tape ∧ w.output = wL.output ∧ wL.heap.size ≤ w.heap.size ∧ ∀ k, k < wL.heap.size → k ≠ R → k ≠ S → w.heap[k]? = wL.heap[k]?
theorem TRow.low {B R : Nat} {w w' : World} {v : Value} {bs : List Bool} (h : TRow B w v bs) (hR : R < B) (hg : w.grownBy w' (some R)) : TRow B w' v bs := World.ownsRow.kept h hg (own_low h hR)
theorem TRow.box {B S j m : Nat} {w : World} {v u : Value} {bs : List Bool} {f : Nat → Value} (h : TRow B w v bs) (hr : w.rowIs S 28 m f) : TRow B (w.setCell ⟨S, j, none⟩ u) v bs := World.ownsRow.kept h (grown_cell w S j u) (.inr (own_box h hr (by decide)))
theorem rd_same {R p : Nat} {w w' : World} (h : RdOk R p w) (hs : w.heap.size ≤ w'.heap.size) (hb : ∀ k, k ≤ R → w'.heap[k]? = w.heap[k]?) : RdOk R p w' := by
  obtain ⟨bo, n, cap, h1, h2, h3, h4, h5⟩ := h
  have hR := hb R (Nat.le_refl _)
  refine ⟨bo, n, cap, Nat.lt_of_lt_of_le h1 hs, by rw [World.cell?_of_block (w := w) (w' := w') (a := ⟨R, 0, none⟩) hR]; exact h2, by rw [World.cell?_of_block (w := w) (w' := w') (a := ⟨R, 1, none⟩) hR]; exact h3, by rw [World.frozen?_of_block (w := w) (w' := w') (a := ⟨R, 1, none⟩) hR]; exact h4, ?_⟩
  rcases h5 with h5 | ⟨b, off, h6, h7, h8, h9, h10, h11⟩
  · exact .inl h5
  · refine .inr ⟨b, off, h6, h7, h8, h9, h10, fun j hj => ?_⟩
    obtain ⟨z, hz, hc⟩ := h11 j hj
    exact ⟨z, hz, by rw [World.cell?_of_block (w := w) (w' := w') (a := ⟨b, off + j, none⟩) (hb b (by omega))]; exact hc⟩
variable {R p S : Nat} {al : Int} {wL w w' : World} {v1 v2 : Value} {us : List Value} {xss : List (List Int)} {bs : List Bool}
theorem AD.pick {p' : Nat} (h : AD R p S al wL w v1 v2 us xss bs) (hr : RdOk R p' w') (hg : w.grownBy w' (some R)) : AD R p' S al wL w' v1 v2 us xss bs := by
  obtain ⟨h1, h2, h3, h4, h5, h6, h7, h8, h9, h10, h11⟩ := h
  refine ⟨hr, h2.of_block (hg.block S (World.rowIs.lt h2) (fun e => by injection e with e; omega)), h3.low (by omega) hg, h4.low (by omega) hg, h5, h6, hg.os.trans h7, hg.tape.trans h8, hg.output.trans h9, Nat.le_trans h10 hg.size, fun k hk hn hn' => (hg.block k (by omega) (fun e => hn (by injection e))).trans (h11 k hk hn hn')⟩
theorem AD.below (h : AD R p S al wL w v1 v2 us xss bs) (hb : Below w.heap.size w w') : AD R p S al wL w' v1 v2 us xss bs := by
  obtain ⟨h1, h2, h3, h4, h5, h6, h7, h8, h9, h10, h11⟩ := h
  exact ⟨h1.below hb, h2.of_block (hb.block S (World.rowIs.lt h2)), h3.below hb, h4.below hb, h5, h6, hb.os.trans h7, hb.tape.trans h8, hb.output.trans h9, Nat.le_trans h10 hb.size, fun k hk hn hn' => (hb.block k (by omega)).trans (h11 k hk hn hn')⟩
theorem AD.drew (h : AD R p S al wL w v1 v2 us xss bs) : AD R p S al wL w.drew v1 v2 us xss bs := h
theorem AD.cells (h : AD R p S al wL w v1 v2 us xss bs) : w.cell? ⟨S, 0, none⟩ = some (.int .i64 al) ∧ w.cell? ⟨S, 1, none⟩ = some v1 ∧ w.cell? ⟨S, 2, none⟩ = some v2 :=
  ⟨h.2.1.cell (by decide), h.2.1.cell (by decide), h.2.1.cell (by decide)⟩
/-- What is kept where an owned row of another kind has grown. -/
theorem AD.grown {v : Value} {e s n : Nat} {xs : List Value} (h : AD R p S al wL w v1 v2 us xss bs) (hk : Kept wL.heap.size w w' v) (ho : w.ownsRow wL.heap.size e s v n xs) (he : e ≠ 28) :
    RdOk R p w' ∧ w'.rowIs S 28 3 (fun i => #[.int .i64 al, v1, v2][i]?.getD undef) ∧ w'.os = wL.os ∧ w'.tape = wL.tape ∧ w'.output = wL.output ∧ wL.heap.size ≤ w'.heap.size ∧ ∀ k, k < wL.heap.size → k ≠ R → k ≠ S → w'.heap[k]? = wL.heap[k]? := by
  obtain ⟨h1, h2, h3, h4, h5, h6, h7, h8, h9, h10, h11⟩ := h
  have hB : Below wL.heap.size w w' := hk.1 w (Below.refl _ _)
  exact ⟨rd_same h1 hB.size (fun k hkr => hB.block k (by omega)), h2.of_block (hB.block S h6), hB.os.trans h7, hB.tape.trans h8, hB.output.trans h9, Nat.le_trans h10 hB.size, fun k hkk hn hn' => (hB.block k hkk).trans (h11 k hkk hn hn')⟩
theorem AD.app1 {w5 : World} {v1' u : Value} {x : List Int} (h : AD R p S al wL w v1 v2 us xss bs) (hu : IRow wL.heap.size w u x) (hs : ∀ i, i < us.length → (u.ownBlock = none ∨ u.ownBlock ≠ (uAt us i).ownBlock) ∧ ((uAt us i).ownBlock = none ∨ (uAt us i).ownBlock ≠ u.ownBlock))
    (hk : Kept wL.heap.size w w5 v1) (ho : w5.ownsRow wL.heap.size 44 1 v1' (us ++ [u]).length (us ++ [u])) : AD R p S al wL (w5.setCell ⟨S, 1, none⟩ v1') v1' v2 (us ++ [u]) (xss ++ [x]) bs := by
  obtain ⟨g1, g2, g3, g4, g5, g6, g7⟩ := h.grown hk h.2.2.1.1 (by decide)
  obtain ⟨h1, h2, h3, h4, h5, h6, h7⟩ := h
  have hro := h3.more hu hs hk ho
  have htr : TRow wL.heap.size w5 v2 bs := World.ownsRow.kept h4 hk.2 (own_apart h4 h3.1 (by decide))
  refine ⟨rd_same g1 (by simp) (fun k hkr => Below.heap_setCell _ _ _ _ (by simp; omega)), (g2.set 1 v1').congr (fun j hj => by
    obtain rfl | rfl | rfl : j = 0 ∨ j = 1 ∨ j = 2 := by omega
    all_goals rfl), hro.box g2, htr.box g2, h5, h6, g3, g4, g5, by simpa using g6, fun k hkk hn hn' => by rw [Below.heap_setCell _ _ _ _ (by simp; exact hn')]; exact g7 k hkk hn hn'⟩
theorem AD.app2 {w5 : World} {v2' : Value} {b : Bool} (h : AD R p S al wL w v1 v2 us xss bs) (hk : Kept wL.heap.size w w5 v2) (ho : TRow wL.heap.size w5 v2' (bs ++ [b])) : AD R p S al wL (w5.setCell ⟨S, 2, none⟩ v2') v1 v2' us xss (bs ++ [b]) := by
  obtain ⟨g1, g2, g3, g4, g5, g6, g7⟩ := h.grown hk h.2.2.2.1 (by decide)
  obtain ⟨h1, h2, h3, h4, h5, h6, h7⟩ := h
  have hro : RO wL.heap.size w5 v1 us xss := h3.kept hk.2 (own_apart h3.1 h4 (by decide)) (fun i hi => own_apart (h3.2.2.1 i hi) h4 (by decide))
  refine ⟨rd_same g1 (by simp) (fun k hkr => Below.heap_setCell _ _ _ _ (by simp; omega)), (g2.set 2 v2').congr (fun j hj => by
    obtain rfl | rfl | rfl : j = 0 ∨ j = 1 ∨ j = 2 := by omega
    all_goals rfl), hro.box g2, ho.box g2, h5, h6, g3, g4, g5, by simpa using g6, fun k hkk hn hn' => by rw [Below.heap_setCell _ _ _ _ (by simp; exact hn')]; exact g7 k hkk hn hn'⟩
theorem RO.base {B B' : Nat} {w : World} {v : Value} {us : List Value} {xss : List (List Int)} (h : RO B w v us xss) (hb : B' ≤ B) : RO B' w v us xss := by
  refine ⟨⟨h.1.1, ?_⟩, h.2.1, fun i hi => (h.2.2.1 i hi).base hb, h.2.2.2⟩
  rcases h.1.2 with h2 | ⟨g, c, cur, hv, hB, rest⟩
  · exact .inl h2
  · exact .inr ⟨g, c, cur, hv, Nat.le_trans hb hB, rest⟩
theorem TRow.base {B B' : Nat} {w : World} {v : Value} {bs : List Bool} (h : TRow B w v bs) (hb : B' ≤ B) : TRow B' w v bs := by
  refine ⟨h.1, ?_⟩
  rcases h.2 with h2 | ⟨g, c, cur, hv, hB, rest⟩
  · exact .inl h2
  · exact .inr ⟨g, c, cur, hv, Nat.le_trans hb hB, rest⟩
theorem own_shape {B e s n : Nat} {w : World} {v : Value} {xs : List Value} (h : w.ownsRow B e s v n xs) : ∃ a c, v = .slice a n c := by
  rcases h.2 with ⟨rfl, h0⟩ | ⟨g, c, cur, rfl, _⟩
  · exact ⟨none, 0, by rw [h0]⟩
  · exact ⟨_, _, rfl⟩
/-- A row of numbers in new memory has grown. -/
theorem AD.keptInt {lo : Nat} {v : Value} {row : List Int} (h : AD R p S al wL w v1 v2 us xss bs) (ho : IRow lo w v row) (hk : Kept lo w w' v) (hlo : wL.heap.size ≤ lo) (hul : ∀ i, i < us.length → (uAt us i).ownBlock = none ∨ (uAt us i).ownBlock ≠ v.ownBlock) : AD R p S al wL w' v1 v2 us xss bs := by
  have hk' : Kept wL.heap.size w w' v := ⟨fun w0 h0 => h0.grown hk.2 h.2.2.2.2.2.2.2.2.2.1 (fun k hkv => Nat.le_trans hlo (World.ownsRow.lt ho k hkv).1), hk.2⟩
  obtain ⟨g1, g2, g3, g4, g5, g6, g7⟩ := h.grown hk' (ho.base hlo) (by decide)
  obtain ⟨h1, h2, h3, h4, h5, h6, h7⟩ := h
  exact ⟨g1, g2, h3.kept hk.2 (own_apart h3.1 ho (by decide)) hul, World.ownsRow.kept h4 hk.2 (own_apart h4 ho (by decide)), h5, h6, g3, g4, g5, g6, g7⟩
theorem AD.lt (h : AD R p S al wL w v1 v2 us xss bs) (i : Nat) (hi : i < us.length) (g : Nat) (hg : (uAt us i).ownBlock = some g) : g < w.heap.size := (World.ownsRow.lt (h.2.2.1.2.2.1 i hi) g hg).2
/-- The result is stored in its box Z and handed back. -/
theorem AD.done {Z : Nat} {w0 : World} {u0 u1 u2 : Value} (h : AD R p S al wL w v1 v2 us xss bs) (h0 : w0.grownBy wL (some R)) (hZ : w0.heap.size ≤ Z) (hZR : R < w0.heap.size) (hS : w0.heap.size ≤ S) (hZL : Z < wL.heap.size) :
    RO wL.heap.size (((w.setCell ⟨Z, 0, none⟩ u0).setCell ⟨Z, 1, none⟩ u1).setCell ⟨Z, 2, none⟩ u2) v1 us xss ∧ TRow wL.heap.size (((w.setCell ⟨Z, 0, none⟩ u0).setCell ⟨Z, 1, none⟩ u1).setCell ⟨Z, 2, none⟩ u2) v2 bs ∧
    RdOk R p (((w.setCell ⟨Z, 0, none⟩ u0).setCell ⟨Z, 1, none⟩ u1).setCell ⟨Z, 2, none⟩ u2) ∧ w0.grownBy (((w.setCell ⟨Z, 0, none⟩ u0).setCell ⟨Z, 1, none⟩ u1).setCell ⟨Z, 2, none⟩ u2) (some R) := by
  obtain ⟨h1, h2, h3, h4, h5, h6, h7, h8, h9, h10, h11⟩ := h
  have hsz := h0.size
  refine ⟨((h3.low hZL (grown_cell _ _ _ _)).low hZL (grown_cell _ _ _ _)).low hZL (grown_cell _ _ _ _), ((h4.low hZL (grown_cell _ _ _ _)).low hZL (grown_cell _ _ _ _)).low hZL (grown_cell _ _ _ _), ?_, ?_⟩
  · refine rd_same h1 (by simp) (fun k hk => ?_)
    rw [Below.heap_setCell _ _ _ _ (by simp; omega), Below.heap_setCell _ _ _ _ (by simp; omega), Below.heap_setCell _ _ _ _ (by simp; omega)]
  · refine ⟨h7.trans h0.os, h8.trans h0.tape, h9.trans h0.output, by simp; omega, fun k hk hn => ?_⟩
    rw [Below.heap_setCell _ _ _ _ (by simp; omega), Below.heap_setCell _ _ _ _ (by simp; omega), Below.heap_setCell _ _ _ _ (by simp; omega)]
    exact (h11 k (by omega) (fun e => hn (by rw [e])) (by omega)).trans (h0.block k hk hn)
/-- A drawn automaton: its rows and marks lie in new memory. -/
def DA (R p K N : Nat) (w : World) (e : Ending) (w' : World) : Prop := ∃ (al : Int) (a1 : Option Addr) (n1 c1 : Nat) (a2 : Option Addr) (n2 c2 : Nat) (us : List Value) (xss : List (List Int)) (bs : List Bool),
  e = .returned (.agg #[.int .i64 al, .slice a1 n1 c1, .slice a2 n2 c2]) ∧ RO w.heap.size w' (.slice a1 n1 c1) us xss ∧ TRow w.heap.size w' (.slice a2 n2 c2) bs ∧ xss.length ≤ N ∧ bs.length ≤ N ∧ (∀ l ∈ xss, l.length ≤ N) ∧ Adv R p K w w'
theorem appL_bool {ops : Array Oper} {rest : List Oper} {o : Oper} {a : Act} {Q : Exit → Act → World → Prop} (wr : World) (B : Nat) (hg : o.guard = none) (s y : Operand)
    (ho : o.op = .call { callee := .builtin .append, args := #[s, y], argTypes := #[23, 23] }) (x : Bool)  (v : Value) (xs : List Bool) (hs : a.eval s = v) (hown : wr.ownsRow B 4 1 v xs.length (xs.map Value.bool))
    (hy : a.eval y = .slice (some ⟨wr.heap.size, 0, none⟩) 1 1) (hb : xs.length ≤ 1000000) (hB : B ≤ wr.heap.size)
    (h : ∀ ao n cap w1, n = xs.length + 1 → w1.ownsRow B 4 1 (.slice ao n cap) (xs ++ [x]).length ((xs ++ [x]).map Value.bool) → Kept B wr w1 v → wpList Try.prog ops Q rest (a.put o.dst (.slice ao n cap)) w1) :
    wpList Try.prog ops Q (o :: rest) a (wr.alloc (.cells #[.bool x] 4)) := by
  obtain ⟨i0, hi, hz0, hz1, hz2⟩ := info_parts Try.infoBoolA
  first | (refine wpList_append_own _ hg s y 23 ho B 4 i0 (.bool false) 1 1 Try.underlying23 hi hz0 hz1 hz2 rfl (by decide) v xs.length (xs.map Value.bool) hs (World.ownsRow.alloc hown _) ⟨wr.heap.size, 0, none⟩ 1 1 [Value.bool x] hy rfl (cell_one_new _ _ _) ?_ (by unfold maxLen; omega) (by omega) (by simp; omega) ?_) | (refine wp_append_own _ s y 23 ho B 4 i0 (.bool false) 1 1 Try.underlying23 hi hz0 hz1 hz2 rfl (by decide) v xs.length (xs.map Value.bool) hs (World.ownsRow.alloc hown _) ⟨wr.heap.size, 0, none⟩ 1 1 [Value.bool x] hy rfl (cell_one_new _ _ _) ?_ (by unfold maxLen; omega) (by omega) (by simp; omega) ?_)
  · intro u hu
    simp at hu
    subst hu
    first | rfl | exact hone
  intro v' w1 hown' hgrow _
  have hg2 : wr.grownBy w1 v.ownBlock := by
    refine ⟨hgrow.os, hgrow.tape, hgrow.output, ?_, fun k hk hne => ?_⟩
    · have := hgrow.size; simp at this; omega
    · rw [hgrow.block k (by simp; omega) hne]; exact Below.heap_alloc wr _ k hk
  have hown2 : w1.ownsRow B 4 1 v' (xs ++ [x]).length ((xs ++ [x]).map Value.bool) := by simpa using hown'
  have hK : Kept B wr w1 v := ⟨fun w0 h0 => h0.grown hg2 hB (fun k hk => (World.ownsRow.lt hown k hk).1), hg2⟩
  rcases hown'.2 with ⟨rfl, h0⟩ | ⟨g, cap, cur, rfl, _⟩
  · omega
  · exact h _ _ _ w1 (by simp) hown2 hK
theorem appK_bool {K : Act → World → Prop} {o : Oper} {a : Act} {Q : Exit → Act → World → Prop} (wr : World) (B : Nat) (hg : o.guard = none) (s y : Operand)
    (ho : o.op = .call { callee := .builtin .append, args := #[s, y], argTypes := #[23, 23] }) (x : Bool)  (v : Value) (xs : List Bool) (hs : a.eval s = v) (hown : wr.ownsRow B 4 1 v xs.length (xs.map Value.bool))
    (hy : a.eval y = .slice (some ⟨wr.heap.size, 0, none⟩) 1 1) (hb : xs.length ≤ 1000000) (hB : B ≤ wr.heap.size)
    (h : ∀ ao n cap w1, n = xs.length + 1 → w1.ownsRow B 4 1 (.slice ao n cap) (xs ++ [x]).length ((xs ++ [x]).map Value.bool) → Kept B wr w1 v → K (a.put o.dst (.slice ao n cap)) w1) :
    o.wp Try.prog a (wr.alloc (.cells #[.bool x] 4)) K Q := by
  obtain ⟨i0, hi, hz0, hz1, hz2⟩ := info_parts Try.infoBoolA
  first | (refine wpList_append_own _ hg s y 23 ho B 4 i0 (.bool false) 1 1 Try.underlying23 hi hz0 hz1 hz2 rfl (by decide) v xs.length (xs.map Value.bool) hs (World.ownsRow.alloc hown _) ⟨wr.heap.size, 0, none⟩ 1 1 [Value.bool x] hy rfl (cell_one_new _ _ _) ?_ (by unfold maxLen; omega) (by omega) (by simp; omega) ?_) | (refine wp_append_own _ s y 23 ho B 4 i0 (.bool false) 1 1 Try.underlying23 hi hz0 hz1 hz2 rfl (by decide) v xs.length (xs.map Value.bool) hs (World.ownsRow.alloc hown _) ⟨wr.heap.size, 0, none⟩ 1 1 [Value.bool x] hy rfl (cell_one_new _ _ _) ?_ (by unfold maxLen; omega) (by omega) (by simp; omega) ?_)
  · intro u hu
    simp at hu
    subst hu
    first | rfl | exact hone
  intro v' w1 hown' hgrow _
  have hg2 : wr.grownBy w1 v.ownBlock := by
    refine ⟨hgrow.os, hgrow.tape, hgrow.output, ?_, fun k hk hne => ?_⟩
    · have := hgrow.size; simp at this; omega
    · rw [hgrow.block k (by simp; omega) hne]; exact Below.heap_alloc wr _ k hk
  have hown2 : w1.ownsRow B 4 1 v' (xs ++ [x]).length ((xs ++ [x]).map Value.bool) := by simpa using hown'
  have hK : Kept B wr w1 v := ⟨fun w0 h0 => h0.grown hg2 hB (fun k hk => (World.ownsRow.lt hown k hk).1), hg2⟩
  rcases hown'.2 with ⟨rfl, h0⟩ | ⟨g, cap, cur, rfl, _⟩
  · omega
  · exact h _ _ _ w1 (by simp) hown2 hK
theorem appK_int {K : Act → World → Prop} {o : Oper} {a : Act} {Q : Exit → Act → World → Prop} (wr : World) (B : Nat) (hg : o.guard = none) (s y : Operand)
    (ho : o.op = .call { callee := .builtin .append, args := #[s, y], argTypes := #[44, 44] }) (x : Int)  (v : Value) (xs : List Int) (hs : a.eval s = v) (hown : wr.ownsRow B 3 1 v xs.length (xs.map (Value.int .i64)))
    (hy : a.eval y = .slice (some ⟨wr.heap.size, 0, none⟩) 1 1) (hb : xs.length ≤ 1000000) (hB : B ≤ wr.heap.size)
    (h : ∀ ao n cap w1, n = xs.length + 1 → w1.ownsRow B 3 1 (.slice ao n cap) (xs ++ [x]).length ((xs ++ [x]).map (Value.int .i64)) → Kept B wr w1 v → K (a.put o.dst (.slice ao n cap)) w1) :
    o.wp Try.prog a (wr.alloc (.cells #[.int .i64 x] 3)) K Q := by
  obtain ⟨i0, hi, hz0, hz1, hz2⟩ := info_parts Try.infoInt
  first | (refine wpList_append_own _ hg s y 44 ho B 3 i0 (.int .i64 0) 1 8 Try.underlying44 hi hz0 hz1 hz2 rfl (by decide) v xs.length (xs.map (Value.int .i64)) hs (World.ownsRow.alloc hown _) ⟨wr.heap.size, 0, none⟩ 1 1 [(Value.int .i64) x] hy rfl (cell_one_new _ _ _) ?_ (by unfold maxLen; omega) (by omega) (by simp; omega) ?_) | (refine wp_append_own _ s y 44 ho B 3 i0 (.int .i64 0) 1 8 Try.underlying44 hi hz0 hz1 hz2 rfl (by decide) v xs.length (xs.map (Value.int .i64)) hs (World.ownsRow.alloc hown _) ⟨wr.heap.size, 0, none⟩ 1 1 [(Value.int .i64) x] hy rfl (cell_one_new _ _ _) ?_ (by unfold maxLen; omega) (by omega) (by simp; omega) ?_)
  · intro u hu
    simp at hu
    subst hu
    first | rfl | exact hone
  intro v' w1 hown' hgrow _
  have hg2 : wr.grownBy w1 v.ownBlock := by
    refine ⟨hgrow.os, hgrow.tape, hgrow.output, ?_, fun k hk hne => ?_⟩
    · have := hgrow.size; simp at this; omega
    · rw [hgrow.block k (by simp; omega) hne]; exact Below.heap_alloc wr _ k hk
  have hown2 : w1.ownsRow B 3 1 v' (xs ++ [x]).length ((xs ++ [x]).map (Value.int .i64)) := by simpa using hown'
  have hK : Kept B wr w1 v := ⟨fun w0 h0 => h0.grown hg2 hB (fun k hk => (World.ownsRow.lt hown k hk).1), hg2⟩
  rcases hown'.2 with ⟨rfl, h0⟩ | ⟨g, cap, cur, rfl, _⟩
  · omega
  · exact h _ _ _ w1 (by simp) hown2 hK
theorem appL_rows {ops : Array Oper} {rest : List Oper} {o : Oper} {a : Act} {Q : Exit → Act → World → Prop} (wr : World) (B : Nat) (hg : o.guard = none) (s y : Operand)
    (ho : o.op = .call { callee := .builtin .append, args := #[s, y], argTypes := #[22, 22] }) (x : Value) (hone : x.oneCell' = true) (v : Value) (xs : List Value) (hs : a.eval s = v) (hown : wr.ownsRow B 44 1 v xs.length (xs.map id))
    (hy : a.eval y = .slice (some ⟨wr.heap.size, 0, none⟩) 1 1) (hb : xs.length ≤ 1000000) (hB : B ≤ wr.heap.size)
    (h : ∀ ao n cap w1, n = xs.length + 1 → w1.ownsRow B 44 1 (.slice ao n cap) (xs ++ [x]).length ((xs ++ [x]).map id) → Kept B wr w1 v → wpList Try.prog ops Q rest (a.put o.dst (.slice ao n cap)) w1) :
    wpList Try.prog ops Q (o :: rest) a (wr.alloc (.cells #[x] 44)) := by
  obtain ⟨i0, hi, hz0, hz1, hz2⟩ := info_parts Try.infoRowA
  first | (refine wpList_append_own _ hg s y 22 ho B 44 i0 (.slice none 0 0) 1 24 Try.underlying22 hi hz0 hz1 hz2 rfl (by decide) v xs.length (xs.map id) hs (World.ownsRow.alloc hown _) ⟨wr.heap.size, 0, none⟩ 1 1 [id x] hy rfl (cell_one_new _ _ _) ?_ (by unfold maxLen; omega) (by omega) (by simp; omega) ?_) | (refine wp_append_own _ s y 22 ho B 44 i0 (.slice none 0 0) 1 24 Try.underlying22 hi hz0 hz1 hz2 rfl (by decide) v xs.length (xs.map id) hs (World.ownsRow.alloc hown _) ⟨wr.heap.size, 0, none⟩ 1 1 [id x] hy rfl (cell_one_new _ _ _) ?_ (by unfold maxLen; omega) (by omega) (by simp; omega) ?_)
  · intro u hu
    simp at hu
    subst hu
    first | rfl | exact hone
  intro v' w1 hown' hgrow _
  have hg2 : wr.grownBy w1 v.ownBlock := by
    refine ⟨hgrow.os, hgrow.tape, hgrow.output, ?_, fun k hk hne => ?_⟩
    · have := hgrow.size; simp at this; omega
    · rw [hgrow.block k (by simp; omega) hne]; exact Below.heap_alloc wr _ k hk
  have hown2 : w1.ownsRow B 44 1 v' (xs ++ [x]).length ((xs ++ [x]).map id) := by simpa using hown'
  have hK : Kept B wr w1 v := ⟨fun w0 h0 => h0.grown hg2 hB (fun k hk => (World.ownsRow.lt hown k hk).1), hg2⟩
  rcases hown'.2 with ⟨rfl, h0⟩ | ⟨g, cap, cur, rfl, _⟩
  · omega
  · exact h _ _ _ w1 (by simp) hown2 hK
theorem appK_rows {K : Act → World → Prop} {o : Oper} {a : Act} {Q : Exit → Act → World → Prop} (wr : World) (B : Nat) (hg : o.guard = none) (s y : Operand)
    (ho : o.op = .call { callee := .builtin .append, args := #[s, y], argTypes := #[22, 22] }) (x : Value) (hone : x.oneCell' = true) (v : Value) (xs : List Value) (hs : a.eval s = v) (hown : wr.ownsRow B 44 1 v xs.length (xs.map id))
    (hy : a.eval y = .slice (some ⟨wr.heap.size, 0, none⟩) 1 1) (hb : xs.length ≤ 1000000) (hB : B ≤ wr.heap.size)
    (h : ∀ ao n cap w1, n = xs.length + 1 → w1.ownsRow B 44 1 (.slice ao n cap) (xs ++ [x]).length ((xs ++ [x]).map id) → Kept B wr w1 v → K (a.put o.dst (.slice ao n cap)) w1) :
    o.wp Try.prog a (wr.alloc (.cells #[x] 44)) K Q := by
  obtain ⟨i0, hi, hz0, hz1, hz2⟩ := info_parts Try.infoRowA
  first | (refine wpList_append_own _ hg s y 22 ho B 44 i0 (.slice none 0 0) 1 24 Try.underlying22 hi hz0 hz1 hz2 rfl (by decide) v xs.length (xs.map id) hs (World.ownsRow.alloc hown _) ⟨wr.heap.size, 0, none⟩ 1 1 [id x] hy rfl (cell_one_new _ _ _) ?_ (by unfold maxLen; omega) (by omega) (by simp; omega) ?_) | (refine wp_append_own _ s y 22 ho B 44 i0 (.slice none 0 0) 1 24 Try.underlying22 hi hz0 hz1 hz2 rfl (by decide) v xs.length (xs.map id) hs (World.ownsRow.alloc hown _) ⟨wr.heap.size, 0, none⟩ 1 1 [id x] hy rfl (cell_one_new _ _ _) ?_ (by unfold maxLen; omega) (by omega) (by simp; omega) ?_)
  · intro u hu
    simp at hu
    subst hu
    first | rfl | exact hone
  intro v' w1 hown' hgrow _
  have hg2 : wr.grownBy w1 v.ownBlock := by
    refine ⟨hgrow.os, hgrow.tape, hgrow.output, ?_, fun k hk hne => ?_⟩
    · have := hgrow.size; simp at this; omega
    · rw [hgrow.block k (by simp; omega) hne]; exact Below.heap_alloc wr _ k hk
  have hown2 : w1.ownsRow B 44 1 v' (xs ++ [x]).length ((xs ++ [x]).map id) := by simpa using hown'
  have hK : Kept B wr w1 v := ⟨fun w0 h0 => h0.grown hg2 hB (fun k hk => (World.ownsRow.lt hown k hk).1), hg2⟩
  rcases hown'.2 with ⟨rfl, h0⟩ | ⟨g, cap, cur, rfl, _⟩
  · omega
  · exact h _ _ _ w1 (by simp) hown2 hK
end Go.Proofs.Ytagegbhchljggaa
