/- What a function that makes an automaton gives back, in one form; a copy may be marked. -/
import Derived.Test.YtagegbhchljggaaComp
import Derived.Test.YtagegbhchljggaaCompS
namespace Go.Proofs.Ytagegbhchljggaa
open Go.RowKit
set_option linter.unusedVariables false
set_option linter.unusedSimpArgs false
set_option maxRecDepth 100000

/-- An automaton of the call's own and whether it is one. -/
def MadeU (A : Int) (X : List (List Int)) (Y : List Bool) (ok : Bool) (w : World) (e : Ending) (w' : World) : Prop :=
  ∃ b0 b1 Bf v1 v2, e = .returned (.tuple #[.agg #[.int .i64 A, v1, v2], .bool ok]) ∧ WA w' b0 b1 Bf v1 v2 X Y ∧ w.heap.size ≤ b0 ∧ w.heap.size ≤ b1 ∧ (∀ i, i < X.length → (X[i]?.getD []).length ≠ 0 → w.heap.size ≤ Bf i) ∧ Below w.heap.size w w'
theorem Made.uni {ok : Bool} {al : Int} {xss : List (List Int)} {bs : List Bool} {w : World} {e : Ending} {w' : World} (h : Made ok al xss bs w e w') : MadeU (if ok = true then al else 0) (if ok = true then xss else []) (if ok = true then bs else []) ok w e w' := by
  cases ok with
  | true => exact h
  | false =>
    obtain ⟨rfl, hb⟩ := h
    refine ⟨w'.heap.size, w'.heap.size + 1, fun _ => 0, _, _, rfl, ⟨⟨none, 0, rfl, Nat.le_refl _, by decide, .inl rfl, fun i j hi => absurd hi (Nat.not_lt_zero _), fun i hi => absurd hi (Nat.not_lt_zero _)⟩, ⟨none, 0, rfl, Nat.le_refl _, by decide, .inl rfl⟩, by omega, fun i hi => absurd hi (Nat.not_lt_zero _), fun i hi => absurd hi (Nat.not_lt_zero _)⟩, hb.size, by have := hb.size; omega, fun i hi => absurd hi (Nat.not_lt_zero _), hb⟩
theorem inj_of_lt {Bf : Nat → Nat} {n : Nat} (h : ∀ j, j < n → ∀ i, i < j → Bf i < Bf j) (i j : Nat) (hi : i < n) (hj : j < n) (he : Bf i = Bf j) : i = j := by
  rcases Nat.lt_trichotomy i j with h1 | h1 | h1
  · have := h j hj i h1; omega
  · exact h1
  · have := h i hi j h1; omega
theorem AR.wa {w : World} {lo b1 b2 : Nat} {xss : List (List Int)} {bs : List Bool} {Bf : Nat → Nat} (h : AR w lo b1 b2 xss bs Bf) (hm : xss.length ≤ 1048576) (hl : ∀ l ∈ xss, l.length ≤ 1048576) (hb : bs.length ≤ 1048576) :
    WA w b1 b2 Bf (.slice (some ⟨b1, 0, none⟩) xss.length xss.length) (.slice (some ⟨b2, 0, none⟩) bs.length bs.length) xss bs := by
  obtain ⟨h1, h2, h3, h4, h5⟩ := h
  refine ⟨⟨_, _, rfl, Nat.le_refl _, by unfold maxLen; omega, .inr ⟨0, rfl, World.rowIs.lt h1.1, fun i hi => ⟨_, by rw [Nat.zero_add]; exact World.rowIs.cell h1.1 hi, ?_⟩⟩, fun i j hi hj _ _ he => inj_of_lt (fun j hj i hij => (h1.2 j hj).2.2 i hij) i j hi hj he, fun i hi _ => ?_⟩, ⟨_, _, rfl, Nat.le_refl _, by unfold maxLen; omega, .inr ⟨rfl, World.rowIs.lt h2, fun j hj => ⟨World.rowIs.cell h2 hj, World.rowIs.frozen h2 j⟩⟩⟩, ?_, fun i hi _ => ?_, fun i hi _ => MR.lt h1 i hi⟩
  · rw [if_pos hi]
    have hr := (h1.2 i hi).2.1
    exact ⟨_, _, rfl, Nat.le_refl _, by have := mem_len hl i; unfold maxLen; omega, .inr ⟨rfl, World.rowIs.lt hr, fun j hj => ⟨World.rowIs.cell hr hj, World.rowIs.frozen hr j⟩⟩⟩
  · have := (h1.2 i hi).1; omega
  · omega
  · have := h5 i hi; omega
theorem AR.lo {w : World} {lo b1 b2 : Nat} {xss : List (List Int)} {bs : List Bool} {Bf : Nat → Nat} (h : AR w lo b1 b2 xss bs Bf) (q : Nat) (hq : blocksOf b2 Bf xss bs q) : lo ≤ q := by
  obtain ⟨h1, h2, h3, h4, h5⟩ := h
  rcases hq with ⟨i, hi, h0, rfl⟩ | ⟨h0, rfl⟩
  · have := (h1.2 i hi).1; omega
  · omega
theorem AR.hi {w : World} {lo b1 b2 : Nat} {xss : List (List Int)} {bs : List Bool} {Bf : Nat → Nat} (h : AR w lo b1 b2 xss bs Bf) (q : Nat) (hq : blocksOf b2 Bf xss bs q) : q < w.heap.size := by
  obtain ⟨h1, h2, h3, h4, h5⟩ := h
  rcases hq with ⟨i, hi, h0, rfl⟩ | ⟨h0, rfl⟩
  · exact MR.lt h1 i hi
  · exact World.rowIs.lt h2
theorem WM.mv {w : World} {b0 : Nat} {Bf : Nat → Nat} {v : Value} {xss : List (List Int)} (h : WM w b0 Bf v xss) : MV w v xss := by
  obtain ⟨ao, cap, rfl, h1, h2, h3, h4, h5⟩ := h
  refine ⟨ao, cap, rfl, h1, h2, ?_⟩
  rcases h3 with h3 | ⟨off, rfl, h6, h7⟩
  · exact .inl h3
  · refine .inr ⟨b0, off, rfl, h6, fun i hi => ?_⟩
    obtain ⟨u, hu, hw⟩ := h7 i hi
    exact ⟨u, hu, hw.view⟩
end Go.Proofs.Ytagegbhchljggaa
