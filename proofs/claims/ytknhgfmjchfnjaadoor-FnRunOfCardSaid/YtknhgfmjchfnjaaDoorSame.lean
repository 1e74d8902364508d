/- Whether two copies read alike. -/
import Derived.Test.YtknhgfmjchfnjaaDoorOwn
import Derived.Deep.QuietTactic
import Derived.BigQuiet
namespace Go.Proofs.YtknhgfmjchfnjaaDoor
open Go.RowKit
set_option linter.unusedVariables false
set_option linter.unusedSimpArgs false
set_option maxRecDepth 100000

theorem ext_get {α : Type} (d : α) {xs ys : List α} (h : xs.length = ys.length) (h2 : ∀ j, j < xs.length → xs[j]?.getD d = ys[j]?.getD d) : xs = ys := by
  apply List.ext_getElem h
  intro i h3 h4
  have := h2 i h3
  rwa [List.getElem?_eq_getElem h3, List.getElem?_eq_getElem h4] at this

/-- It returns v and has drawn at most. -/
def RetQ (v : Value) (w : World) (e : Ending) (w' : World) : Prop := e = .returned v ∧ ∃ m, w' = w.drewN m
theorem RetQ.below {v : Value} {w : World} {e : Ending} {w' : World} (h : RetQ v w e w') : e = .returned v ∧ Below w.heap.size w w' := by
  obtain ⟨h1, m, rfl⟩ := h
  exact ⟨h1, rfl, rfl, rfl, Nat.le_refl _, fun _ _ => rfl⟩
theorem below_drewN {B : Nat} {w w1 : World} (h : Below B w w1) (n : Nat) : Below B w (w1.drewN n) := ⟨h.os, h.tape, h.output, h.size, h.block⟩
theorem quiet_add {P : Program} {f : FuncId} {args : Array Value} {w : World} {q n : Nat} {v : Value} (h : Calls P f args (w.drewN (q + n)) (RetQ v (w.drewN (q + n)))) :
    Calls P f args (w.drewN (q + n)) fun e w'' => e = .returned v ∧ ∃ m, w'' = w.drewN (q + m) :=
  h.mono fun _ _ ⟨he, m, hm⟩ => ⟨he, n + m, by rw [hm, World.drewN_drewN, Nat.add_assoc]⟩
theorem IV.drewN {w : World} {v : Value} {xs : List Int} (h : IV w v xs) (n : Nat) : IV (w.drewN n) v xs := h
theorem BV.drewN {w : World} {v : Value} {xs : List Bool} (h : BV w v xs) (n : Nat) : BV (w.drewN n) v xs := h
theorem MV.drewN {w : World} {v : Value} {xs : List (List Int)} (h : MV w v xs) (n : Nat) : MV (w.drewN n) v xs := h
end Go.Proofs.YtknhgfmjchfnjaaDoor
