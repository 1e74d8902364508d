/- An automaton under way in its box S, the result's box Z. -/
import Derived.Test.YtagegbhchljggaaADraw1
namespace Go.Proofs.Ytagegbhchljggaa
open Go.RowKit
set_option linter.unusedVariables false
set_option linter.unusedSimpArgs false
set_option maxRecDepth 100000

def zBox (w : World) (Z : Nat) : Prop := w.rowIs Z 28 3 (fun i => #[.int .i64 0, .slice none 0 0, .slice none 0 0][i]?.getD undef)
def sBox (w : World) (S : Nat) (al : Int) (v1 v2 : Value) : Prop := w.rowIs S 28 3 (fun i => #[.int .i64 al, v1, v2][i]?.getD undef)
def AQ (row : Option Nat) (Z S : Nat) (al : Int) (w0 w : World) (v1 v2 : Value) (us : List Value) (xss : List (List Int)) (bs : List Bool) : Prop :=
  AX Z w v1 v2 us xss bs ∧ w0.grownBy w row ∧ zBox w Z ∧ sBox w S al v1 v2 ∧ w0.heap.size = Z ∧ Z < S ∧ ∀ R, row = some R → R < Z
variable {row : Option Nat} {R p Z S : Nat} {al : Int} {w0 w w' w5 : World} {v1 v2 v1' v2' : Value} {us : List Value} {xss : List (List Int)} {bs : List Bool}
theorem AQ.pick (h : AQ (some R) Z S al w0 w v1 v2 us xss bs) (hg : w.grownBy w' (some R)) : AQ (some R) Z S al w0 w' v1 v2 us xss bs := by
  obtain ⟨h1, h2, h3, h4, h5, h6, h7⟩ := h
  have hR := h7 R rfl
  exact ⟨h1.low hR hg, grown_trans h2 hg, row_grownA h3 hg (by omega), row_grownA h4 hg (by omega), h5, h6, h7⟩
theorem AQ.below (h : AQ row Z S al w0 w v1 v2 us xss bs) (hb : Below w.heap.size w w') : AQ row Z S al w0 w' v1 v2 us xss bs := by
  obtain ⟨h1, h2, h3, h4, h5, h6, h7⟩ := h
  exact ⟨h1.below hb, grown_trans h2 (grown_below row hb), rowIs_below h3 hb, rowIs_below h4 hb, h5, h6, h7⟩
theorem AQ.drew (h : AQ row Z S al w0 w v1 v2 us xss bs) : AQ row Z S al w0 w.drew v1 v2 us xss bs := h.below (Below.refl w.heap.size w).drew
theorem AQ.cells (h : AQ row Z S al w0 w v1 v2 us xss bs) : w.cell? ⟨S, 0, none⟩ = some (.int .i64 al) ∧ w.cell? ⟨S, 1, none⟩ = some v1 ∧ w.cell? ⟨S, 2, none⟩ = some v2 :=
  ⟨h.2.2.2.1.cell (by decide), h.2.2.2.1.cell (by decide), h.2.2.2.1.cell (by decide)⟩
theorem AQ.low (h : AQ row Z S al w0 w v1 v2 us xss bs) : Z ≤ w.heap.size := by rw [← h.2.2.2.2.1]; exact h.2.1.size
theorem AQ.lt (h : AQ row Z S al w0 w v1 v2 us xss bs) (i : Nat) (hi : i < us.length) (g : Nat) (hg : (uAt us i).ownBlock = some g) : g < w.heap.size := (World.ownsRow.lt (h.1.1.2.2.1 i hi) g hg).2
theorem AQ.apart {u : Value} {lo : Nat} (hl : ∀ i, i < us.length → ∀ g, (uAt us i).ownBlock = some g → g < lo) (hu : ∀ g, u.ownBlock = some g → lo ≤ g) : ∀ i, i < us.length → (u.ownBlock = none ∨ u.ownBlock ≠ (uAt us i).ownBlock) ∧ ((uAt us i).ownBlock = none ∨ (uAt us i).ownBlock ≠ u.ownBlock) := fun i hi => by
  have key : ∀ g, (uAt us i).ownBlock = some g → u.ownBlock ≠ some g := fun g h1 h2 => by
    have := hl i hi g h1
    have := hu g h2
    omega
  constructor
  · cases hv : u.ownBlock with
    | none => exact .inl rfl
    | some g => right; intro q; exact key g q.symm hv
  · cases hv : (uAt us i).ownBlock with
    | none => exact .inl rfl
    | some g => right; intro q; exact key g hv q.symm
theorem chg_box (hr : sBox w S al v1 v2) (h0 : Z ≤ S) (j : Nat) (u : Value) : Chg Z w w → RdOk R p w → R < Z → RdOk R p (w.setCell ⟨S, j, none⟩ u) := fun _ hr hR => by
  refine rd_same hr (by simp) (fun k hk => ?_)
  rw [Below.heap_setCell _ _ _ _ (by simp; omega)]
/-- A changed automaton whose box is written. -/
theorem AQ.next {j : Nat} {u : Value} {al' : Int} {us' : List Value} {xss' : List (List Int)} {bs' : List Bool} (h : AQ row Z S al w0 w v1 v2 us xss bs) (hx : AX Z w5 v1' v2' us' xss' bs') (hc : Chg Z w w5) (hf : ∀ i, i < 3 → (if i = j then u else (#[.int .i64 al, v1, v2] : Array Value)[i]?.getD undef) = (#[.int .i64 al', v1', v2'] : Array Value)[i]?.getD undef) :
    AQ row Z S al' w0 (w5.setCell ⟨S, j, none⟩ u) v1' v2' us' xss' bs' ∧ ∀ p R, R < Z → RdOk R p w → RdOk R p (w5.setCell ⟨S, j, none⟩ u) := by
  obtain ⟨h1, h2, h3, h4, h5, h6, h7⟩ := h
  have hs5 := hc.box h4
  refine ⟨⟨hx.box hs5, ?_, ?_, (hs5.set j u).congr hf, h5, h6, h7⟩, fun p R hR hr => ?_⟩
  · have hg5 := hc.grown h2 (Nat.le_of_eq h5)
    refine ⟨hg5.os, hg5.tape, hg5.output, by simpa using hg5.size, fun k hk hn => ?_⟩
    rw [Below.heap_setCell _ _ _ _ (by simp; omega)]
    exact hg5.block k hk hn
  · exact (hc.box h3).of_block (Below.heap_setCell _ _ _ _ (by simp; omega))
  · refine rd_same (hc.rd hr hR) (by simp) (fun k hk => ?_)
    rw [Below.heap_setCell _ _ _ _ (by simp; omega)]
theorem AQ.app1 {u : Value} {x : List Int} {lo : Nat} (h : AQ row Z S al w0 w v1 v2 us xss bs) (hu : IRow Z w u x) (hl : ∀ i, i < us.length → ∀ g, (uAt us i).ownBlock = some g → g < lo) (hlo : ∀ g, u.ownBlock = some g → lo ≤ g)
    (hk : Kept Z w w5 v1) (ho : w5.ownsRow Z 44 1 v1' (us ++ [u]).length (us ++ [u])) : AQ row Z S al w0 (w5.setCell ⟨S, 1, none⟩ v1') v1' v2 (us ++ [u]) (xss ++ [x]) bs ∧ ∀ p R, R < Z → RdOk R p w → RdOk R p (w5.setCell ⟨S, 1, none⟩ v1') := by
  obtain ⟨hx, hc⟩ := h.1.app1 h.low hu (AQ.apart hl hlo) hk ho
  exact h.next hx hc (fun j hj => by
    obtain rfl | rfl | rfl : j = 0 ∨ j = 1 ∨ j = 2 := by omega
    all_goals rfl)
theorem AQ.app2 {b : Bool} (h : AQ row Z S al w0 w v1 v2 us xss bs) (hk : Kept Z w w5 v2) (ho : TRow Z w5 v2' (bs ++ [b])) : AQ row Z S al w0 (w5.setCell ⟨S, 2, none⟩ v2') v1 v2' us xss (bs ++ [b]) ∧ ∀ p R, R < Z → RdOk R p w → RdOk R p (w5.setCell ⟨S, 2, none⟩ v2') := by
  obtain ⟨hx, hc⟩ := h.1.app2 h.low hk ho
  exact h.next hx hc (fun j hj => by
    obtain rfl | rfl | rfl : j = 0 ∨ j = 1 ∨ j = 2 := by omega
    all_goals rfl)
/-- The box itself in the world behind an append. -/
theorem AQ.box1 (h : AQ row Z S al w0 w v1 v2 us xss bs) (hk : Kept Z w w5 v1) : sBox w5 S al v1 v2 := (Chg.own hk.2 h.1.1.1 (by decide) h.low).box h.2.2.2.1
theorem AQ.box2 (h : AQ row Z S al w0 w v1 v2 us xss bs) (hk : Kept Z w w5 v2) : sBox w5 S al v1 v2 := (Chg.own hk.2 h.1.2 (by decide) h.low).box h.2.2.2.1
theorem lit_row (w : World) (xs : List Int) (A : Array Value) (hA : A = (xs.map (Value.int .i64)).toArray) (n : Nat) (hn : n = xs.length) (hm : xs.length ≤ maxLen) (B : Nat) (hB : B ≤ w.heap.size) : IRow B (w.alloc (.cells A 3)) (.slice (some ⟨w.heap.size, 0, none⟩) n n) xs := by
  subst hA hn
  have := World.ownsRow_lit w (xs.map (Value.int .i64)).toArray xs.length (base := B) (e := 3) (size := 1) hB hm (by simp)
  simpa [IRow] using this
end Go.Proofs.Ytagegbhchljggaa
