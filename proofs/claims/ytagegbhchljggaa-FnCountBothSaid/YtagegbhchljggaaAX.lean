/- Automata that the code itself makes, apart from their box: written in place, grown. -/
import Derived.Test.YtagegbhchljggaaAO
import Derived.Deep.AppendLies
namespace Go.Proofs.Ytagegbhchljggaa
open Go.RowKit
set_option linter.unusedVariables false
set_option linter.unusedSimpArgs false
set_option maxRecDepth 100000

/-- The rows and the marks of an automaton. -/
def AX (B : Nat) (w : World) (v1 v2 : Value) (us : List Value) (xss : List (List Int)) (bs : List Bool) : Prop := RO B w v1 us xss ∧ TRow B w v2 bs
/-- Nothing below the base is changed, nor any automaton's box. -/
def Chg (B : Nat) (w w' : World) : Prop := w'.os = w.os ∧ w'.tape = w.tape ∧ w'.output = w.output ∧ w.heap.size ≤ w'.heap.size ∧ (∀ k, k < B → w'.heap[k]? = w.heap[k]?) ∧ ∀ S m f, w.rowIs S 28 m f → w'.rowIs S 28 m f
variable {B R p S : Nat} {w0 w w' w5 : World} {v v1 v2 : Value} {us : List Value} {xss : List (List Int)} {bs : List Bool} {row : Option Nat}
theorem Chg.grown (h : Chg B w w') (hg : w0.grownBy w row) (hB : w0.heap.size ≤ B) : w0.grownBy w' row :=
  ⟨h.1.trans hg.os, h.2.1.trans hg.tape, h.2.2.1.trans hg.output, Nat.le_trans hg.size h.2.2.2.1, fun k hk hn => (h.2.2.2.2.1 k (by omega)).trans (hg.block k hk hn)⟩
theorem Chg.rd (h : Chg B w w') (hr : RdOk R p w) (hR : R < B) : RdOk R p w' := rd_same hr h.2.2.2.1 (fun k hk => h.2.2.2.2.1 k (by omega))
theorem Chg.box (h : Chg B w w') {m : Nat} {f : Nat → Value} (hr : w.rowIs S 28 m f) : w'.rowIs S 28 m f := h.2.2.2.2.2 _ _ _ hr
theorem Chg.trans (h : Chg B w w') (h2 : Chg B w' w5) : Chg B w w5 :=
  ⟨h2.1.trans h.1, h2.2.1.trans h.2.1, h2.2.2.1.trans h.2.2.1, Nat.le_trans h.2.2.2.1 h2.2.2.2.1, fun k hk => (h2.2.2.2.2.1 k hk).trans (h.2.2.2.2.1 k hk), fun S m f hr => h2.box (h.box hr)⟩
theorem Chg.own {e s n : Nat} {xs : List Value} (hg : w.grownBy w' v.ownBlock) (ho : w.ownsRow B e s v n xs) (he : e ≠ 28) (hB : B ≤ w.heap.size) : Chg B w w' :=
  ⟨hg.os, hg.tape, hg.output, hg.size, fun k hk => hg.block k (by omega) (fun q => by have := (World.ownsRow.lt ho k q.symm).1; omega), fun S m f hr => hr.of_block (hg.block S (World.rowIs.lt hr) (fun q => own_box ho hr he q.symm))⟩
theorem AX.kept1 (h : AX B w v1 v2 us xss bs) (hg : w.grownBy w' v1.ownBlock) : TRow B w' v2 bs := World.ownsRow.kept h.2 hg (own_apart h.2 h.1.1 (by decide))
theorem AX.kept2 (h : AX B w v1 v2 us xss bs) (hg : w.grownBy w' v2.ownBlock) : RO B w' v1 us xss := h.1.kept hg (own_apart h.1.1 h.2 (by decide)) (fun i hi => own_apart (h.1.2.2.1 i hi) h.2 (by decide))
theorem AX.below (h : AX B w v1 v2 us xss bs) (hb : Below w.heap.size w w') : AX B w' v1 v2 us xss bs := ⟨h.1.below hb, h.2.below hb⟩
theorem AX.drew (h : AX B w v1 v2 us xss bs) : AX B w.drew v1 v2 us xss bs := h
theorem AX.low (h : AX B w v1 v2 us xss bs) (hR : R < B) (hg : w.grownBy w' (some R)) : AX B w' v1 v2 us xss bs := ⟨h.1.low hR hg, h.2.low hR hg⟩
theorem AX.box (h : AX B w v1 v2 us xss bs) {m j : Nat} {u : Value} {f : Nat → Value} (hr : w.rowIs S 28 m f) : AX B (w.setCell ⟨S, j, none⟩ u) v1 v2 us xss bs := ⟨h.1.box hr, h.2.box hr⟩
theorem AX.nil (B : Nat) (w : World) : AX B w (.slice none 0 0) (.slice none 0 0) [] [] [] := ⟨RO.nil _ _, TRow.nil _ _⟩
theorem AX.base {B' : Nat} (h : AX B w v1 v2 us xss bs) (hb : B' ≤ B) : AX B' w v1 v2 us xss bs := ⟨h.1.base hb, h.2.base hb⟩
theorem AX.app1 {v1' u : Value} {x : List Int} (h : AX B w v1 v2 us xss bs) (hB : B ≤ w.heap.size) (hu : IRow B w u x) (hs : ∀ i, i < us.length → (u.ownBlock = none ∨ u.ownBlock ≠ (uAt us i).ownBlock) ∧ ((uAt us i).ownBlock = none ∨ (uAt us i).ownBlock ≠ u.ownBlock))
    (hk : Kept B w w5 v1) (ho : w5.ownsRow B 44 1 v1' (us ++ [u]).length (us ++ [u])) : AX B w5 v1' v2 (us ++ [u]) (xss ++ [x]) bs ∧ Chg B w w5 :=
  ⟨⟨h.1.more hu hs hk ho, h.kept1 hk.2⟩, Chg.own hk.2 h.1.1 (by decide) hB⟩
theorem AX.app2 {v2' : Value} {b : Bool} (h : AX B w v1 v2 us xss bs) (hB : B ≤ w.heap.size) (hk : Kept B w w5 v2) (ho : TRow B w5 v2' (bs ++ [b])) : AX B w5 v1 v2' us xss (bs ++ [b]) ∧ Chg B w w5 :=
  ⟨⟨h.kept2 hk.2, ho⟩, Chg.own hk.2 h.2 (by decide) hB⟩
/-- A mark is written in place. -/
theorem AX.mark {g n c j : Nat} {b : Bool} (h : AX B w v1 (.slice (some ⟨g, 0, none⟩) n c) us xss bs) (hn : n = bs.length) (hB : B ≤ w.heap.size) : AX B (w.setCell ⟨g, j, none⟩ (.bool b)) v1 (.slice (some ⟨g, 0, none⟩) n c) us xss (bs.set j b) ∧ Chg B w (w.setCell ⟨g, j, none⟩ (.bool b)) := by
  subst hn
  obtain ⟨h1, h2⟩ := World.ownsRow.stored h.2 j (.bool b)
  have hg : w.grownBy (w.setCell ⟨g, j, none⟩ (.bool b)) (Value.slice (some ⟨g, 0, none⟩) bs.length c).ownBlock := h2
  refine ⟨⟨h.kept2 hg, ?_⟩, Chg.own hg h.2 (by decide) hB⟩
  unfold TRow
  rw [List.map_set, List.length_set]
  exact h1
/-- A number of a row is written in place. -/
theorem AX.num {i g n c j : Nat} {x : Int} (h : AX B w v1 v2 us xss bs) (hi : i < us.length) (hu : uAt us i = .slice (some ⟨g, 0, none⟩) n c) (hn : n = (xAt xss i).length) (hB : B ≤ w.heap.size) :
    AX B (w.setCell ⟨g, j, none⟩ (.int .i64 x)) v1 v2 us (xss.set i ((xAt xss i).set j x)) bs ∧ Chg B w (w.setCell ⟨g, j, none⟩ (.int .i64 x)) := by
  subst hn
  have hr := h.1.2.2.1 i hi
  have hr' := hr
  rw [hu] at hr'
  obtain ⟨h1, h2⟩ := World.ownsRow.stored hr' j (.int .i64 x)
  have hg : w.grownBy (w.setCell ⟨g, j, none⟩ (.int .i64 x)) (uAt us i).ownBlock := by rw [hu]; exact h2
  refine ⟨⟨⟨h.1.1.kept hg (own_apart h.1.1 hr (by decide)), by simpa using h.1.2.1, fun k hk => ?_, h.1.2.2.2⟩, World.ownsRow.kept h.2 hg (own_apart h.2 hr (by decide))⟩, Chg.own hg hr (by decide) hB⟩
  by_cases e : k = i
  · subst e
    have e2 : xAt (xss.set k ((xAt xss k).set j x)) k = (xAt xss k).set j x := by
      have hl := h.1.2.1
      show ((xss.set k ((xAt xss k).set j x))[k]?).getD [] = _
      rw [List.getElem?_set_self (by omega)]
      rfl
    rw [e2, hu]
    unfold IRow
    rw [List.map_set, List.length_set]
    exact h1
  · have e2 : xAt (xss.set i ((xAt xss i).set j x)) k = xAt xss k := by
      show ((xss.set i ((xAt xss i).set j x))[k]?).getD [] = (xss[k]?).getD []
      rw [List.getElem?_set_ne (Ne.symm e)]
    rw [e2]
    exact (h.1.2.2.1 k hk).kept hg (h.1.2.2.2 k i hk hi e)
/-- A row is replaced by what has grown out of it. -/
theorem AX.put {i g n c H : Nat} {u' : Value} {x' : List Int} (h : AX B w (.slice (some ⟨g, 0, none⟩) n c) v2 us xss bs) (hn : n = us.length) (hi : i < us.length) (hB : B ≤ w.heap.size)
    (hk : w.grownBy w5 (uAt us i).ownBlock) (ho : IRow B w5 u' x') (hat : u'.ownBlock = (uAt us i).ownBlock ∨ ∃ H, w.heap.size ≤ H ∧ u'.ownBlock = some H) :
    AX B (w5.setCell ⟨g, i, none⟩ u') (.slice (some ⟨g, 0, none⟩) n c) v2 (us.set i u') (xss.set i x') bs ∧ Chg B w (w5.setCell ⟨g, i, none⟩ u') := by
  subst hn
  have hr := h.1.2.2.1 i hi
  have hl := h.1.2.1
  have hc1 : Chg B w w5 := Chg.own hk hr (by decide) hB
  have hv1 := h.1.1.kept hk (own_apart h.1.1 hr (by decide))
  have hv2 : TRow B w5 v2 bs := World.ownsRow.kept h.2 hk (own_apart h.2 hr (by decide))
  have hlt : ∀ k, k < us.length → ∀ q, (uAt us k).ownBlock = some q → q < w.heap.size := fun k hk q hq => (World.ownsRow.lt (h.1.2.2.1 k hk) q hq).2
  obtain ⟨s1, s2⟩ := World.ownsRow.stored hv1 i u'
  have hg2 : w5.grownBy (w5.setCell ⟨g, i, none⟩ u') (Value.slice (some ⟨g, 0, none⟩) us.length c).ownBlock := s2
  have e1 : ∀ k, k < us.length → uAt (us.set i u') k = if k = i then u' else uAt us k := fun k hk => by
    show ((us.set i u')[k]?).getD undef = _
    by_cases e : k = i
    · rw [if_pos e, e, List.getElem?_set_self hi]; rfl
    · rw [if_neg e, List.getElem?_set_ne (Ne.symm e)]; rfl
  have hap : ∀ k, k < us.length → k ≠ i → (u'.ownBlock = none ∨ u'.ownBlock ≠ (uAt us k).ownBlock) ∧ ((uAt us k).ownBlock = none ∨ (uAt us k).ownBlock ≠ u'.ownBlock) := fun k hk hne => by
    rcases hat with hat | ⟨H, hH, hat⟩
    · rw [hat]; exact ⟨h.1.2.2.2 i k hi hk (Ne.symm hne), h.1.2.2.2 k i hk hi hne⟩
    · rw [hat]
      cases hq : (uAt us k).ownBlock with
      | none => exact ⟨.inr (fun q => by cases q), .inl rfl⟩
      | some q =>
        have := hlt k hk q hq
        exact ⟨.inr (fun e => by injection e with e; omega), .inr (fun e => by injection e with e; omega)⟩
  refine ⟨⟨⟨?_, by simpa using hl, fun k hk' => ?_, fun a b ha hb hab => ?_⟩, World.ownsRow.kept hv2 hg2 (own_apart hv2 hv1 (by decide))⟩, hc1.trans (Chg.own hg2 hv1 (by decide) (Nat.le_trans hB hc1.2.2.2.1))⟩
  · rw [List.length_set]; exact s1
  · have hk2 : k < us.length := by simpa using hk'
    rw [e1 k hk2]
    by_cases e : k = i
    · subst e
      rw [if_pos rfl]
      have e2 : xAt (xss.set k x') k = x' := by show ((xss.set k x')[k]?).getD [] = _; rw [List.getElem?_set_self (by omega)]; rfl
      rw [e2]
      exact World.ownsRow.kept ho hg2 (own_apart ho hv1 (by decide))
    · rw [if_neg e]
      have e2 : xAt (xss.set i x') k = xAt xss k := by show ((xss.set i x')[k]?).getD [] = (xss[k]?).getD []; rw [List.getElem?_set_ne (Ne.symm e)]
      rw [e2]
      have h3 : IRow B w5 (uAt us k) (xAt xss k) := (h.1.2.2.1 k hk2).kept hk (h.1.2.2.2 k i hk2 hi e)
      exact World.ownsRow.kept h3 hg2 (own_apart h3 hv1 (by decide))
  · have ha' : a < us.length := by simpa using ha
    have hb' : b < us.length := by simpa using hb
    rw [e1 a ha', e1 b hb']
    by_cases ea : a = i
    · rw [if_pos ea]
      by_cases eb : b = i
      · exact absurd (ea.trans eb.symm) hab
      · rw [if_neg eb]; exact (hap b hb' eb).1
    · rw [if_neg ea]
      by_cases eb : b = i
      · rw [if_pos eb]; exact (hap a ha' ea).2
      · rw [if_neg eb]; exact h.1.2.2.2 a b ha' hb' hab
/-- What the code reads of it. -/
theorem AX.form1 (h : AX B w v1 v2 us xss bs) (h0 : 0 < us.length) : ∃ g c, v1 = .slice (some ⟨g, 0, none⟩) us.length c ∧ us.length ≤ c ∧ c ≤ maxLen ∧ (∀ i, i < us.length → w.cell? ⟨g, i, none⟩ = some (uAt us i)) ∧ ∀ i, w.frozen? ⟨g, i, none⟩ = false := by
  rcases h.1.1.2 with ⟨-, h2⟩ | ⟨g, c, cur, rfl, hB, hg, hc, hm, -⟩
  · omega
  · exact ⟨g, c, rfl, hc, hm, fun i hi => by rw [World.ownsRow.cellAt h.1.1 i (by omega)]; unfold uAt; rw [List.getElem?_eq_getElem hi]; rfl, fun i => World.ownsRow.frozenAt h.1.1 i⟩
theorem AX.form2 (h : AX B w v1 v2 us xss bs) (h0 : 0 < bs.length) : ∃ g c, v2 = .slice (some ⟨g, 0, none⟩) bs.length c ∧ bs.length ≤ c ∧ c ≤ maxLen ∧ (∀ i, i < bs.length → w.cell? ⟨g, i, none⟩ = some (.bool (bs[i]?.getD false))) ∧ ∀ i, w.frozen? ⟨g, i, none⟩ = false := by
  have h2 := h.2
  rcases h2.2 with ⟨-, h3⟩ | ⟨g, c, cur, rfl, hB, hg, hc, hm, -⟩
  · omega
  · exact ⟨g, c, rfl, hc, hm, fun i hi => by rw [World.ownsRow.cellAt h2 i (by omega)]; simp [List.getElem?_eq_getElem hi], fun i => World.ownsRow.frozenAt h2 i⟩
theorem IRow.form {x : List Int} (h : IRow B w v x) : (∃ a c, v = .slice a x.length c ∧ x.length ≤ c ∧ c ≤ maxLen) ∧ (0 < x.length → ∃ g c, v = .slice (some ⟨g, 0, none⟩) x.length c ∧ x.length ≤ c ∧ c ≤ maxLen ∧ (∀ i, i < x.length → w.cell? ⟨g, i, none⟩ = some (.int .i64 (x[i]?.getD 0))) ∧ ∀ i, w.frozen? ⟨g, i, none⟩ = false) := by
  rcases h.2 with ⟨rfl, h3⟩ | ⟨g, c, cur, rfl, hB, hg, hc, hm, -⟩
  · exact ⟨⟨none, 0, by rw [h3], by omega, by decide⟩, fun _ => by omega⟩
  · exact ⟨⟨_, c, rfl, hc, hm⟩, fun h0 => ⟨g, c, rfl, hc, hm, fun i hi => by rw [World.ownsRow.cellAt h i (by omega)]; simp [List.getElem?_eq_getElem hi], fun i => World.ownsRow.frozenAt h i⟩⟩
end Go.Proofs.Ytagegbhchljggaa
