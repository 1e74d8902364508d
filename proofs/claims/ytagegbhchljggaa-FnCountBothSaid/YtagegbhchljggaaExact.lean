/- What the laws on automata share: the argument's rows as lists; the copies' readings. -/
import Derived.Test.YtagegbhchljggaaAut
import Derived.Deep.Matrix
import Derived.Deep.Grids
namespace Go.Proofs.Ytagegbhchljggaa
open Go.RowKit
set_option linter.unusedVariables false
set_option linter.unusedSimpArgs false
set_option maxRecDepth 100000

theorem AR.views {w : World} {lo b1 b2 : Nat} {xss : List (List Int)} {bs : List Bool} {Bf : Nat → Nat} (h : AR w lo b1 b2 xss bs Bf) (hm : xss.length ≤ 1048576) (hl : ∀ l ∈ xss, l.length ≤ 1048576) (hb : bs.length ≤ 1048576) :
    MV w (.slice (some ⟨b1, 0, none⟩) xss.length xss.length) xss ∧ BV w (.slice (some ⟨b2, 0, none⟩) bs.length bs.length) bs := ⟨MR.view h.1 hm hl, BR.view h.2.1 hb⟩
theorem below_new (w : World) (t : TypeId) (c : Array Value) : Below w.heap.size w (w.alloc (.cells c t)) := (Below.refl _ _).alloc (Nat.le_refl _) _
theorem MV.drew {w : World} {v : Value} {xs : List (List Int)} (h : MV w v xs) : MV w.drew v xs := h
theorem BV.drew {w : World} {v : Value} {xs : List Bool} (h : BV w v xs) : BV w.drew v xs := h
theorem IV.drew {w : World} {v : Value} {xs : List Int} (h : IV w v xs) : IV w.drew v xs := h

theorem cell_spot {w : World} {a : Addr} {v : Value} (h : w.cell? a = some v) : a = ⟨a.block, a.off, none⟩ ∧ a.block < w.heap.size := by
  obtain ⟨b, o, s⟩ := a
  unfold World.cell? at h
  dsimp only at h ⊢
  cases hb : w.heap[b]? with
  | none => rw [hb] at h; cases h
  | some o =>
    obtain ⟨hlt, -⟩ := Array.getElem?_eq_some_iff.1 hb
    rw [hb] at h
    cases s with
    | none => exact ⟨rfl, hlt⟩
    | some k => cases o <;> simp at h
theorem add_at (b o i : Nat) : Addr.add ⟨b, o, none⟩ i = ⟨b, o + i, none⟩ := by
  unfold Addr.add
  split
  · rename_i h; subst h; rfl
  · rfl
section
variable {H : Type} {enc : TypeId × Value → H} {w : World} {base : Nat} {held : Bool} {fuel : Nat}
theorem view_of {α : Type} {R : World → Value → α → Prop} {d : α} (a : Addr) (n cap : Nat) (xs : List α) (hn : xs.length = n) (hl : n ≤ cap) (hm : cap ≤ maxLen) (h : ∀ i, i < n → ∃ u, w.cell? (a.add i) = some u ∧ R w u (xs[i]?.getD d)) :
    SV R d w (.slice (some a) n cap) xs := by
  subst hn
  refine ⟨some a, cap, rfl, hl, hm, ?_⟩
  by_cases h0 : xs.length = 0
  · exact .inl h0
  · obtain ⟨u, hu, -⟩ := h 0 (by omega)
    obtain ⟨ha, hlt⟩ := cell_spot hu
    rw [show a.add 0 = a from rfl] at ha hlt
    refine .inr ⟨a.block, a.off, by rw [← ha], hlt, fun i hi => ?_⟩
    have := h i hi
    rw [ha, add_at] at this
    exact this
theorem open_MV {c : Value} {x : DataW H × List MemPlace} (h : DataW.trod enc Try.prog w base (fun _ => true) held fuel 22 [c] = some x) : ∃ a n cap xss, c = .slice a n cap ∧ MV w c xss := by
  rcases Go.Deep.open_int_rows Try.underlying22 Try.underlying44 Try.underlying3 (by kernel_rfl) (by kernel_rfl) h with ⟨hcs, -⟩ | ⟨a, len, cap, A, L, C, Z, hcs, hb, hl, hm, -, hrows⟩
  · simp at hcs
    subst hcs
    exact ⟨none, 0, 0, [], rfl, none, 0, rfl, Nat.le_refl _, by decide, .inl rfl⟩
  · simp at hcs
    subst hcs
    refine ⟨_, _, _, (List.range len).map (fun r => (Z r).take (L r)), rfl, view_of a len cap _ (by simp) hl hm (fun i hi => ?_)⟩
    obtain ⟨h1, h2, h3, h4, h5, h6, h7⟩ := hrows i (by omega)
    refine ⟨_, h1, ?_⟩
    have e : ((List.range len).map (fun r => (Z r).take (L r)))[i]?.getD [] = (Z i).take (L i) := by simp [hi]
    rw [e]
    have hlen : ((Z i).take (L i)).length = L i := by rw [List.length_take]; omega
    cases hA : A i with
    | none =>
      have := h6 hA
      have h0 : L i = 0 := by omega
      rw [h0, this]
      exact ⟨none, 0, by simp, by simp, by decide, .inl (by simp)⟩
    | some a' =>
      obtain ⟨-, h9⟩ := h7 a' hA
      refine view_of a' (L i) (C i) _ hlen h2 h3 (fun j hj => ⟨_, h9 j (by omega), ?_⟩)
      have : j < (Z i).length := by omega
      simp [List.getElem?_take, hj, this]
theorem open_BV {c : Value} {x : DataW H × List MemPlace} (h : DataW.trod enc Try.prog w base (fun _ => true) held fuel 23 [c] = some x) : ∃ a n cap bs, c = .slice a n cap ∧ BV w c bs := by
  rcases Go.Deep.open_bools Try.underlying23 Try.underlying4 (by kernel_rfl) h with ⟨hcs, -⟩ | ⟨a, len, cap, B, hcs, hb, hl, hm, -, hcell⟩
  · simp at hcs
    subst hcs
    exact ⟨none, 0, 0, [], rfl, none, 0, rfl, Nat.le_refl _, by decide, .inl rfl⟩
  · simp at hcs
    subst hcs
    refine ⟨_, _, _, (List.range len).map B, rfl, view_of a len cap _ (by simp) hl hm (fun i hi => ⟨_, hcell i (by omega), ?_⟩)⟩
    simp [hi]
end
end Go.Proofs.Ytagegbhchljggaa
