/- A system under way in a draw: its box, its edges, the reader. -/
import Derived.Test.YtnjakhojdhkihaaGreatDoorEOwn
import Derived.Test.YtnjakhojdhkihaaGreatDoorDraw2
namespace Go.Proofs.YtnjakhojdhkihaaGreatDoor
open Go.RowKit
set_option linter.unusedVariables false
set_option linter.unusedSimpArgs false
set_option maxRecDepth 100000

/-- Only blocks of the set S are written. -/
def Onl (S : Nat → Prop) (w w' : World) : Prop := w'.os = w.os ∧ w'.tape = w.tape ∧ w'.output = w.output ∧ w.heap.size ≤ w'.heap.size ∧ ∀ k, k < w.heap.size → ¬ S k → w'.heap[k]? = w.heap[k]?
theorem Onl.refl (S : Nat → Prop) (w : World) : Onl S w w := ⟨rfl, rfl, rfl, Nat.le_refl _, fun _ _ _ => rfl⟩
theorem Onl.grown {S : Nat → Prop} {R : Nat} {a b c : World} (h : Onl S a b) (hg : b.grownBy c (some R)) (hS : S R) : Onl S a c :=
  ⟨hg.os.trans h.1, hg.tape.trans h.2.1, hg.output.trans h.2.2.1, Nat.le_trans h.2.2.2.1 hg.size, fun k hk hn => (hg.block k (Nat.lt_of_lt_of_le hk h.2.2.2.1) (fun e => by injection e with e; subst e; exact hn hS)).trans (h.2.2.2.2 k hk hn)⟩
theorem Onl.cell {S : Nat → Prop} {w w' : World} {b j : Nat} {v : Value} (h : Onl S w w') (hc : w.cell? ⟨b, j, none⟩ = some v) (hb : ¬ S b) : w'.cell? ⟨b, j, none⟩ = some v := by
  rw [World.cell?_of_block (w := w) (w' := w') (a := ⟨b, j, none⟩) (h.2.2.2.2 b (cell_lt hc) hb)]; exact hc
theorem Onl.row {S : Nat → Prop} {w w' : World} {b n : Nat} {t : TypeId} {f : Nat → Value} (h : Onl S w w') (hr : w.rowIs b t n f) (hb : ¬ S b) : w'.rowIs b t n f := hr.of_block (h.2.2.2.2 b (World.rowIs.lt hr) hb)
theorem RdOk.same {R p : Nat} {w w' : World} (h : RdOk R p w) (hs : w.heap.size ≤ w'.heap.size) (hb : ∀ k, k ≤ R → w'.heap[k]? = w.heap[k]?) : RdOk R p w' := by
  obtain ⟨bo, n, cap, h1, h2, h3, h4, h5⟩ := h
  have hR := hb R (Nat.le_refl _)
  refine ⟨bo, n, cap, Nat.lt_of_lt_of_le h1 hs, by rw [World.cell?_of_block (w := w) (w' := w') (a := ⟨R, 0, none⟩) hR]; exact h2, by rw [World.cell?_of_block (w := w) (w' := w') (a := ⟨R, 1, none⟩) hR]; exact h3, by rw [World.frozen?_of_block (w := w) (w' := w') (a := ⟨R, 1, none⟩) hR]; exact h4, ?_⟩
  rcases h5 with h5 | ⟨b, off, h6, h7, h8, h9, h10, h11⟩
  · exact .inl h5
  · refine .inr ⟨b, off, h6, h7, h8, h9, h10, fun j hj => ?_⟩
    obtain ⟨z, hz, hc⟩ := h11 j hj
    exact ⟨z, hz, by rw [World.cell?_of_block (w := w) (w' := w') (a := ⟨b, off + j, none⟩) (hb b (by omega))]; exact hc⟩
theorem RdOk.set {R p S j : Nat} {w : World} {v : Value} (h : RdOk R p w) (hS : R < S) : RdOk R p (w.setCell ⟨S, j, none⟩ v) :=
  h.same (by simp) (fun k hk => Below.heap_setCell _ _ _ _ (by simp; omega))
theorem grown_set {w : World} {R S j : Nat} {v : Value} (w0 : World) (h : w0.grownBy w (some R)) (hS : w0.heap.size ≤ S) : w0.grownBy (w.setCell ⟨S, j, none⟩ v) (some R) :=
  ⟨h.os, h.tape, h.output, by simpa using h.size, fun k hk hn => by rw [Below.heap_setCell _ _ _ _ (by simp; omega)]; exact h.block k hk hn⟩
theorem EOwn.set {B S j : Nat} {w : World} {v u : Value} {es : List Edg} (h : EOwn B w v es) (hS : S < B) : EOwn B (w.setCell ⟨S, j, none⟩ u) v es := by
  refine ⟨h.1, ?_⟩
  rcases h.2 with h2 | ⟨g, c, cur, hv, hB, hg, hc, hm, hs, ht⟩
  · exact .inl h2
  · exact .inr ⟨g, c, cur, hv, hB, by rw [Below.heap_setCell _ _ _ _ (by simp; omega)]; exact hg, hc, hm, hs, ht⟩
theorem EVR.set {R S j : Nat} {w : World} {v u : Value} {es : List Edg} (h : EVR R w v es) (hS : ∀ a n c b off, v = .slice a n c → a = some ⟨b, off, none⟩ → b ≠ S) : EVR R (w.setCell ⟨S, j, none⟩ u) v es := by
  obtain ⟨ao, cap, h1, h2, h3, h4⟩ := h
  refine ⟨ao, cap, h1, h2, h3, ?_⟩
  rcases h4 with h4 | ⟨b, off, h5, hR, h6, h7⟩
  · exact .inl h4
  · refine .inr ⟨b, off, h5, hR, by simpa using h6, fun i hi => ?_⟩
    have hb : (w.setCell ⟨S, j, none⟩ u).heap[b]? = w.heap[b]? := Below.heap_setCell _ _ _ _ (by simp; exact hS ao _ cap b off h1 h5)
    rw [World.cell?_of_block (w := w) (a := ⟨b, off + i * 3, none⟩) hb, World.cell?_of_block (w := w) (a := ⟨b, off + i * 3 + 1, none⟩) hb, World.cell?_of_block (w := w) (a := ⟨b, off + i * 3 + 2, none⟩) hb]
    exact h7 i hi
/-- The state of a draw of a system: the reader in R, the box in S; wL: the world in which the loop began. -/
def DSt (R p S : Nat) (al st : Int) (wL w : World) (v : Value) (es : List Edg) : Prop :=
  RdOk R p w ∧ w.rowIs S 24 3 (fun i => #[.int .i64 al, .int .i64 st, v][i]?.getD undef) ∧ EOwn wL.heap.size w v es ∧ R < S ∧ S < wL.heap.size ∧ Onl (fun q => q = R ∨ q = S) wL w
theorem DSt.rd {R p S : Nat} {al st : Int} {wL w : World} {v : Value} {es : List Edg} (h : DSt R p S al st wL w v es) : RdOk R p w := h.1
theorem DSt.drew {R p S : Nat} {al st : Int} {wL w : World} {v : Value} {es : List Edg} (h : DSt R p S al st wL w v es) : DSt R p S al st wL w.drew v es := ⟨h.1, h.2.1, h.2.2.1, h.2.2.2.1, h.2.2.2.2.1, h.2.2.2.2.2⟩
theorem DSt.pick {R p p' S : Nat} {al st : Int} {wL w w' : World} {v : Value} {es : List Edg} (h : DSt R p S al st wL w v es) (hr : RdOk R p' w') (hg : w.grownBy w' (some R)) : DSt R p' S al st wL w' v es :=
  ⟨hr, h.2.1.of_block (hg.block S (World.rowIs.lt h.2.1) (fun e => by injection e with e; have := h.2.2.2.1; omega)), h.2.2.1.grown (by have := h.2.2.2.1; have := h.2.2.2.2.1; omega) hg, h.2.2.2.1, h.2.2.2.2.1, h.2.2.2.2.2.grown hg (.inl rfl)⟩
theorem DSt.app {R p S : Nat} {al st : Int} {wL w w5 : World} {v v' : Value} {es es' : List Edg} (h : DSt R p S al st wL w v es) (hk : Kept wL.heap.size w w5 v) (ho : EOwn wL.heap.size w5 v' es') : DSt R p S al st wL (w5.setCell ⟨S, 2, none⟩ v') v' es' := by
  obtain ⟨h1, h2, h3, h4, h5, h6⟩ := h
  have hsz := h6.2.2.2.1
  have hB : Below wL.heap.size w w5 := hk.1 w (Below.refl _ _)
  have hblk : ∀ k, k < wL.heap.size → w5.heap[k]? = w.heap[k]? := hB.block
  refine ⟨(h1.same hB.size (fun k hk => hblk k (by omega))).set h4, ?_, ho.set h5, h4, h5, ?_⟩
  · exact ((h2.of_block (hblk S h5)).set 2 v').congr (fun j hj => by
      obtain rfl | rfl | rfl : j = 0 ∨ j = 1 ∨ j = 2 := by omega
      all_goals rfl)
  · refine ⟨hB.os.trans h6.1, hB.tape.trans h6.2.1, hB.output.trans h6.2.2.1, ?_, fun k hk hn => ?_⟩
    · have := hB.size; simp; omega
    · rw [Below.heap_setCell _ _ _ _ (by simp; exact fun e => hn (.inr e)), hblk k hk]
      exact h6.2.2.2.2 k hk hn
theorem DSt.setS {R p S j : Nat} {al st al' st' : Int} {wL w : World} {v u : Value} {es : List Edg} (h : DSt R p S al st wL w v es) (hf : ∀ i, i < 3 → (if i = j then u else (#[.int .i64 al, .int .i64 st, v] : Array Value)[i]?.getD undef) = (#[.int .i64 al', .int .i64 st', v] : Array Value)[i]?.getD undef) : DSt R p S al' st' wL (w.setCell ⟨S, j, none⟩ u) v es := by
  obtain ⟨h1, h2, h3, h4, h5, h6⟩ := h
  refine ⟨h1.set h4, (h2.set j u).congr hf, h3.set h5, h4, h5, h6.1, h6.2.1, h6.2.2.1, by simpa using h6.2.2.2.1, fun k hk hn => ?_⟩
  rw [Below.heap_setCell _ _ _ _ (by simp; exact fun e => hn (.inr e))]
  exact h6.2.2.2.2 k hk hn
theorem DSt.done {R p S Z : Nat} {al st : Int} {w0 wL w : World} {v u0 u1 u2 : Value} {es : List Edg} (h : DSt R p S al st wL w v es) (h0 : w0.grownBy wL (some R)) (hZ : w0.heap.size ≤ Z) (hZR : R < w0.heap.size) (hS : w0.heap.size ≤ S) (hZL : Z < wL.heap.size) :
    (∀ R', R' < w0.heap.size → EVR R' (((w.setCell ⟨Z, 0, none⟩ u0).setCell ⟨Z, 1, none⟩ u1).setCell ⟨Z, 2, none⟩ u2) v es) ∧ RdOk R p (((w.setCell ⟨Z, 0, none⟩ u0).setCell ⟨Z, 1, none⟩ u1).setCell ⟨Z, 2, none⟩ u2) ∧ w0.grownBy (((w.setCell ⟨Z, 0, none⟩ u0).setCell ⟨Z, 1, none⟩ u1).setCell ⟨Z, 2, none⟩ u2) (some R) := by
  obtain ⟨h1, h2, h3, h4, h5, h6⟩ := h
  refine ⟨fun R' hR' => (((h3.set hZL).set hZL).set hZL).evr (by have := h0.size; omega), ((h1.set (by omega)).set (by omega)).set (by omega), grown_set _ (grown_set _ (grown_set _ ?_ hZ) hZ) hZ⟩
  exact ⟨h6.1.trans h0.os, h6.2.1.trans h0.tape, h6.2.2.1.trans h0.output, Nat.le_trans h0.size h6.2.2.2.1, fun k hk hn => (h6.2.2.2.2 k (Nat.lt_of_lt_of_le hk h0.size) (fun e => by
    rcases e with e | e
    · exact hn (by rw [e])
    · omega)).trans (h0.block k hk hn)⟩
/-- A drawn system: its edges lie in new memory. -/
def SysR (R p K N : Nat) (w : World) (e : Ending) (w' : World) : Prop := ∃ (al st : Int) (a : Option Addr) (n c : Nat) (es : List Edg), e = .returned (.agg #[.int .i64 al, .int .i64 st, .slice a n c]) ∧ es.length ≤ N ∧ (∀ R', R' < w.heap.size → EVR R' w' (.slice a n c) es) ∧ Adv R p K w w'
/-- The append of one edge, as one operation of a region that draws. -/
theorem wp_app_edge {o : Oper} {a : Act} {K : Act → World → Prop} {Q : Exit → Act → World → Prop} (wr : World) (e : Edg) (B : Nat) (s y : Operand)
    (ho : o.op = .call { callee := .builtin .append, args := #[s, y], argTypes := #[22, 22] }) (v : Value) (es : List Edg) (hs : a.eval s = v) (hown : EOwn B wr v es)
    (hy : a.eval y = .slice (some ⟨wr.heap.size, 0, none⟩) 1 1) (hb : es.length ≤ 1000000) (hB : B ≤ wr.heap.size)
    (h : ∀ ao n cap w1, n = es.length + 1 → EOwn B w1 (.slice ao n cap) (es ++ [e]) → Kept B wr w1 v → K (a.put o.dst (.slice ao n cap)) w1) :
    o.wp Tryz.prog a (wr.alloc (.cells #[.int .i64 e.1, .int .i64 e.2.1, .int .i64 e.2.2] 41)) K Q := by
  obtain ⟨i0, hi, hz0, hz1, hz2⟩ := info_parts Tryz.infoEdge
  refine wp_append_own _ s y 22 ho B 41 i0 (.agg #[.int .i64 0, .int .i64 0, .int .i64 0]) 3 24 Tryz.underlying22 hi hz0 hz1 hz2 rfl (by decide) v es.length (eflat es) hs (World.ownsRow.alloc hown _) ⟨wr.heap.size, 0, none⟩ 1 1 (eflat [e]) hy rfl (edge_one_new _ _) (eflat_one _) (by unfold maxLen; omega) (by omega) (by simp; omega) ?_
  intro v' w1 hown' hgrow _
  have hg2 : wr.grownBy w1 v.ownBlock := by
    refine ⟨hgrow.os, hgrow.tape, hgrow.output, ?_, fun k hk hne => ?_⟩
    · have := hgrow.size; simp at this; omega
    · rw [hgrow.block k (by simp; omega) hne]; exact Below.heap_alloc wr _ k hk
  have hown2 : EOwn B w1 v' (es ++ [e]) := by unfold EOwn; rw [eflat_app]; simpa using hown'
  have hK : Kept B wr w1 v := ⟨fun w0 h0 => h0.grown hg2 hB (fun k hk => (World.ownsRow.lt hown k hk).1), hg2⟩
  rcases hown'.2 with ⟨rfl, h0⟩ | ⟨g, cap, cur, rfl, _⟩
  · omega
  · exact h _ _ _ w1 rfl hown2 hK
theorem get_of_drop' {ops : Array Oper} {i : Nat} {o : Oper} {rest : List Oper} (h : ops.toList.drop i = o :: rest) : ops[i]? = some o := by
  have h2 : (ops.toList.drop i)[0]? = some o := by rw [h]; rfl
  rw [List.getElem?_drop] at h2
  simpa using h2
end Go.Proofs.YtnjakhojdhkihaaGreatDoor
