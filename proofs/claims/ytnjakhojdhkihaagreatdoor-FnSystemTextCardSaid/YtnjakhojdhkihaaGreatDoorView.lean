/- What slices of numbers, of truth values and of rows read as in a world, and that it stays so where nothing old is written; the sizes that a law first adds up. -/
import Derived.Test.YtnjakhojdhkihaaGreatDoorMem
namespace Go.Proofs.YtnjakhojdhkihaaGreatDoor
open Go.RowKit
set_option linter.unusedVariables false
set_option linter.unusedSimpArgs false
set_option maxRecDepth 100000

/-- A slice's value reads as a list: each element's cell by R. -/
def SV {α : Type} (R : World → Value → α → Prop) (d : α) (w : World) (v : Value) (xs : List α) : Prop :=
  ∃ ao cap, v = .slice ao xs.length cap ∧ xs.length ≤ cap ∧ cap ≤ maxLen ∧
    (xs.length = 0 ∨ ∃ b off, ao = some ⟨b, off, none⟩ ∧ b < w.heap.size ∧ ∀ i, i < xs.length → ∃ u, w.cell? ⟨b, off + i, none⟩ = some u ∧ R w u (xs[i]?.getD d))
def IV : World → Value → List Int → Prop := SV (fun _ u x => u = .int .i64 x) 0
def BV : World → Value → List Bool → Prop := SV (fun _ u x => u = .bool x) false
def MV : World → Value → List (List Int) → Prop := SV IV []

theorem cell_below {w w' : World} (hb : Below w.heap.size w w') {b j : Nat} (h : b < w.heap.size) : w'.cell? ⟨b, j, none⟩ = w.cell? ⟨b, j, none⟩ := by
  unfold World.cell?; rw [hb.block b h]
theorem SV.below {α : Type} {R : World → Value → α → Prop} {d : α} {w w' : World} {v : Value} {xs : List α} (h : SV R d w v xs) (hb : Below w.heap.size w w') (hR : ∀ u x, R w u x → R w' u x) : SV R d w' v xs := by
  obtain ⟨ao, cap, rfl, h1, h2, h3⟩ := h
  refine ⟨ao, cap, rfl, h1, h2, ?_⟩
  rcases h3 with h3 | ⟨b, off, rfl, hlt, hc⟩
  · exact .inl h3
  · refine .inr ⟨b, off, rfl, Nat.lt_of_lt_of_le hlt hb.size, fun i hi => ?_⟩
    obtain ⟨u, hu, hr⟩ := hc i hi
    exact ⟨u, by rw [cell_below hb hlt]; exact hu, hR _ _ hr⟩
theorem IV.below {w w' : World} {v : Value} {xs : List Int} (h : IV w v xs) (hb : Below w.heap.size w w') : IV w' v xs := SV.below h hb (fun _ _ h => h)
theorem BV.below {w w' : World} {v : Value} {xs : List Bool} (h : BV w v xs) (hb : Below w.heap.size w w') : BV w' v xs := SV.below h hb (fun _ _ h => h)
theorem MV.below {w w' : World} {v : Value} {xs : List (List Int)} (h : MV w v xs) (hb : Below w.heap.size w w') : MV w' v xs := SV.below h hb (fun _ _ h => IV.below h hb)

/-- The cell of an element. -/
theorem SV.at {α : Type} {R : World → Value → α → Prop} {d : α} {w : World} {ao : Option Addr} {n cap : Nat} {xs : List α} (h : SV R d w (.slice ao n cap) xs) : n = xs.length ∧ n ≤ cap ∧ cap ≤ maxLen ∧
    (n = 0 ∨ ∃ b off, ao = some ⟨b, off, none⟩ ∧ b < w.heap.size ∧ ∀ i, i < n → ∃ u, w.cell? ⟨b, off + i, none⟩ = some u ∧ R w u (xs[i]?.getD d)) := by
  obtain ⟨ao', cap', he, h1, h2, h3⟩ := h
  injection he with e1 e2 e3
  subst e1; subst e2; subst e3
  exact ⟨rfl, h1, h2, h3⟩

def szR : List (List Int) → Int → Int
  | [], left => left
  | l :: r, left => if left - l.length < 0 then -1 else szR r (left - l.length)
theorem szR_facts : ∀ (xss : List (List Int)) (left : Int), szR xss left ≤ left ∨ left < 0
  | [], left => .inl (Int.le_refl _)
  | l :: r, left => by
    unfold szR
    split
    · omega
    · have := szR_facts r (left - l.length)
      omega
theorem szR_ok : ∀ (xss : List (List Int)) (left : Int), 0 ≤ left → 0 ≤ szR xss left → szR xss left ≤ left ∧ ∀ l ∈ xss, (l.length : Int) ≤ left
  | [], left, _, _ => ⟨Int.le_refl _, by simp⟩
  | l :: r, left, h0, h => by
    unfold szR at h ⊢
    split at h
    · omega
    · rename_i hh
      rw [if_neg hh]
      obtain ⟨h1, h2⟩ := szR_ok r (left - l.length) (by omega) h
      refine ⟨by omega, fun m hm => ?_⟩
      rcases List.mem_cons.1 hm with rfl | hm
      · omega
      · have := h2 m hm; omega

end Go.Proofs.YtnjakhojdhkihaaGreatDoor
