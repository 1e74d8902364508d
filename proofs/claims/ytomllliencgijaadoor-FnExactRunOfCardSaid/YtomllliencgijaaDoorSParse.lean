/- ParseSystem of the reference: that it ends with a system and a word. -/
import Derived.Test.YtomllliencgijaaDoorSText3
import Derived.Test.YtomllliencgijaaDoorParse
namespace Go.Proofs.YtomllliencgijaaDoor
open Go.RowKit
set_option linter.unusedVariables false
set_option linter.unusedSimpArgs false
set_option maxRecDepth 100000

/-- A system under way in a box, no reader about. -/
def PSt (S : Nat) (al st : Int) (wL w : World) (v : Value) (es : List Edg) : Prop :=
  w.rowIs S 29 3 (fun i => #[.int .i64 al, .int .i64 st, v][i]?.getD undef) ∧ EOwn wL.heap.size w v es ∧ S < wL.heap.size ∧ Onl (fun q => q = S) wL w
theorem Onl.belowT {S : Nat → Prop} {a b c : World} (h : Onl S a b) (hb : Below b.heap.size b c) : Onl S a c :=
  ⟨hb.os.trans h.1, hb.tape.trans h.2.1, hb.output.trans h.2.2.1, Nat.le_trans h.2.2.2.1 hb.size, fun k hk hn => (hb.block k (Nat.lt_of_lt_of_le hk h.2.2.2.1)).trans (h.2.2.2.2 k hk hn)⟩
theorem PSt.below {S : Nat} {al st : Int} {wL w w' : World} {v : Value} {es : List Edg} (h : PSt S al st wL w v es) (hb : Below w.heap.size w w') : PSt S al st wL w' v es :=
  ⟨rowIs_below' h.1 hb, h.2.1.below hb, h.2.2.1, h.2.2.2.belowT hb⟩
theorem PSt.app {S : Nat} {al st : Int} {wL w w5 : World} {v v' : Value} {es es' : List Edg} (h : PSt S al st wL w v es) (hk : Kept wL.heap.size w w5 v) (ho : EOwn wL.heap.size w5 v' es') : PSt S al st wL (w5.setCell ⟨S, 2, none⟩ v') v' es' := by
  obtain ⟨h2, h3, h5, h6⟩ := h
  have hsz := h6.2.2.2.1
  have hB : Below wL.heap.size w w5 := hk.1 w (Below.refl _ _)
  have hblk : ∀ k, k < wL.heap.size → w5.heap[k]? = w.heap[k]? := hB.block
  refine ⟨?_, ho.set h5, h5, ?_⟩
  · exact ((h2.of_block (hblk S h5)).set 2 v').congr (fun j hj => by
      obtain rfl | rfl | rfl : j = 0 ∨ j = 1 ∨ j = 2 := by omega
      all_goals rfl)
  · refine ⟨hB.os.trans h6.1, hB.tape.trans h6.2.1, hB.output.trans h6.2.2.1, ?_, fun k hk hn => ?_⟩
    · have := hB.size; simp; omega
    · rw [Below.heap_setCell _ _ _ _ (by simp; exact fun e => hn e), hblk k hk]
      exact h6.2.2.2.2 k hk hn
theorem below_onl {S : Nat → Prop} {w0 wL w : World} (h0 : Below w0.heap.size w0 wL) (h : Onl S wL w) (hS : ∀ q, S q → w0.heap.size ≤ q) : Below w0.heap.size w0 w :=
  ⟨h.1.trans h0.os, h.2.1.trans h0.tape, h.2.2.1.trans h0.output, Nat.le_trans h0.size h.2.2.2.1, fun k hk => (h.2.2.2.2 k (Nat.lt_of_lt_of_le hk h0.size) (fun e => by have := hS k e; omega)).trans (h0.block k hk)⟩
def ParseSRes (w : World) (e : Ending) (w' : World) : Prop := ∃ (al st : Int) (a : Option Addr) (n c : Nat) (es : List Edg) (b : Bool), e = .returned (.tuple #[.agg #[.int .i64 al, .int .i64 st, .slice a n c], .bool b]) ∧ es.length ≤ 1000 ∧ (∀ R, R < w.heap.size → EVR R w' (.slice a n c) es) ∧ Below w.heap.size w w'
theorem evr_nil (R : Nat) (w : World) : EVR R w (.slice none 0 0) [] := ⟨none, 0, rfl, Nat.le_refl _, by decide, .inl rfl⟩
end Go.Proofs.YtomllliencgijaaDoor
