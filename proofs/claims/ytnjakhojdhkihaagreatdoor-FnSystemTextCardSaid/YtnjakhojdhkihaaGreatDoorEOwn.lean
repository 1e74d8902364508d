/- Rows of edges that the code itself makes: they grow by append; what lies behind the reader's block. -/
import Derived.Test.YtnjakhojdhkihaaGreatDoorSysValid
import Derived.Test.YtnjakhojdhkihaaGreatDoorDraw
namespace Go.Proofs.YtnjakhojdhkihaaGreatDoor
open Go.RowKit
set_option linter.unusedVariables false
set_option linter.unusedSimpArgs false
set_option maxRecDepth 100000

def eflat (es : List Edg) : List Value := es.flatMap (fun e => [.int .i64 e.1, .int .i64 e.2.1, .int .i64 e.2.2])
theorem eflat_len (es : List Edg) : (eflat es).length = es.length * 3 := by
  induction es with
  | nil => rfl
  | cons e r ih =>
    have : eflat (e :: r) = [.int .i64 e.1, .int .i64 e.2.1, .int .i64 e.2.2] ++ eflat r := rfl
    rw [this, List.length_append, ih]
    simp
    omega
theorem eflat_app (es fs : List Edg) : eflat (es ++ fs) = eflat es ++ eflat fs := by simp [eflat]
theorem eflat_at (es : List Edg) : ∀ k, k < es.length → (eflat es)[k * 3]? = some (.int .i64 (Edg.at es k).1) ∧ (eflat es)[k * 3 + 1]? = some (.int .i64 (Edg.at es k).2.1) ∧ (eflat es)[k * 3 + 2]? = some (.int .i64 (Edg.at es k).2.2) := by
  induction es with
  | nil => intro k h; cases h
  | cons e r ih =>
    intro k hk
    have he : eflat (e :: r) = .int .i64 e.1 :: .int .i64 e.2.1 :: .int .i64 e.2.2 :: eflat r := rfl
    cases k with
    | zero => rw [he]; exact ⟨rfl, rfl, rfl⟩
    | succ k =>
      have := ih k (by simpa using hk)
      have e1 : (k + 1) * 3 = k * 3 + 1 + 1 + 1 := by omega
      have e2 : (k + 1) * 3 + 1 = k * 3 + 1 + 1 + 1 + 1 := by omega
      have e3 : (k + 1) * 3 + 2 = k * 3 + 2 + 1 + 1 + 1 := by omega
      have e4 : Edg.at (e :: r) (k + 1) = Edg.at r k := by unfold Edg.at; simp
      rw [he, e2, e3, e1, e4]
      simp only [List.getElem?_cons_succ]
      exact this
theorem eflat_one (es : List Edg) : ∀ u ∈ eflat es, u.oneCell' = true := by
  intro u hu
  simp only [eflat, List.mem_flatMap] at hu
  obtain ⟨e, -, hu⟩ := hu
  simp at hu
  rcases hu with rfl | rfl | rfl <;> rfl
/-- The slice owns its edges; its block lies at B or over it. -/
def EOwn (B : Nat) (w : World) (v : Value) (es : List Edg) : Prop := w.ownsRow B 41 3 v es.length (eflat es)
theorem EOwn.nil (B : Nat) (w : World) : EOwn B w (.slice none 0 0) [] := World.ownsRow_nil _ _ _ _
theorem EOwn.below {B : Nat} {w w' : World} {v : Value} {es : List Edg} (h : EOwn B w v es) (hb : Below w.heap.size w w') : EOwn B w' v es := ownsRow_below h hb
theorem EOwn.shape {B : Nat} {w : World} {v : Value} {es : List Edg} (h : EOwn B w v es) : ∃ a n c, v = .slice a n c ∧ n = es.length := by
  rcases h.2 with ⟨rfl, h0⟩ | ⟨g, c, cur, rfl, _⟩
  · exact ⟨none, 0, 0, rfl, h0.symm⟩
  · exact ⟨_, _, _, rfl, rfl⟩
/-- It survives what leaves its block alone. -/
theorem EOwn.grown {B R : Nat} {w w' : World} {v : Value} {es : List Edg} (h : EOwn B w v es) (hR : R < B) (hg : w.grownBy w' (some R)) : EOwn B w' v es := by
  refine ⟨h.1, ?_⟩
  rcases h.2 with h2 | ⟨g, c, cur, hv, hB, hgc, hc, hm, hs, ht⟩
  · exact .inl h2
  · have hlt : g < w.heap.size := (Array.getElem?_eq_some_iff.1 hgc).1
    exact .inr ⟨g, c, cur, hv, hB, by rw [hg.block g hlt (fun e => by injection e with e; omega)]; exact hgc, hc, hm, hs, ht⟩
/-- Edges that lie over the reader's block: they may be read. -/
def EVR (R : Nat) (w : World) (v : Value) (es : List Edg) : Prop :=
  ∃ ao cap, v = .slice ao es.length cap ∧ es.length ≤ cap ∧ cap ≤ maxLen ∧
    (es.length = 0 ∨ ∃ b off, ao = some ⟨b, off, none⟩ ∧ R < b ∧ b < w.heap.size ∧ ∀ i, i < es.length → w.cell? ⟨b, off + i * 3, none⟩ = some (.int .i64 (Edg.at es i).1) ∧ w.cell? ⟨b, off + i * 3 + 1, none⟩ = some (.int .i64 (Edg.at es i).2.1) ∧ w.cell? ⟨b, off + i * 3 + 2, none⟩ = some (.int .i64 (Edg.at es i).2.2))
theorem EVR.ev {R : Nat} {w : World} {v : Value} {es : List Edg} (h : EVR R w v es) : EV w v es := by
  obtain ⟨ao, cap, h1, h2, h3, h4⟩ := h
  refine ⟨ao, cap, h1, h2, h3, ?_⟩
  rcases h4 with h4 | ⟨b, off, h5, -, h6, h7⟩
  · exact .inl h4
  · exact .inr ⟨b, off, h5, h6, h7⟩
theorem EVR.shape {R : Nat} {w : World} {v : Value} {es : List Edg} (h : EVR R w v es) : ∃ a n c, v = .slice a n c := by
  obtain ⟨ao, cap, h1, -⟩ := h
  exact ⟨_, _, _, h1⟩
theorem EVR.grown {R : Nat} {w w' : World} {v : Value} {es : List Edg} (h : EVR R w v es) (hg : w.grownBy w' (some R)) : EVR R w' v es := by
  obtain ⟨ao, cap, h1, h2, h3, h4⟩ := h
  refine ⟨ao, cap, h1, h2, h3, ?_⟩
  rcases h4 with h4 | ⟨b, off, h5, hR, h6, h7⟩
  · exact .inl h4
  · refine .inr ⟨b, off, h5, hR, Nat.lt_of_lt_of_le h6 hg.size, fun i hi => ?_⟩
    have hb := hg.block b h6 (fun e => by injection e with e; omega)
    rw [World.cell?_of_block (w := w) (w' := w') (a := ⟨b, off + i * 3, none⟩) hb, World.cell?_of_block (w := w) (w' := w') (a := ⟨b, off + i * 3 + 1, none⟩) hb, World.cell?_of_block (w := w) (w' := w') (a := ⟨b, off + i * 3 + 2, none⟩) hb]
    exact h7 i hi
theorem EVR.below {R : Nat} {w w' : World} {v : Value} {es : List Edg} (h : EVR R w v es) (hb : Below w.heap.size w w') : EVR R w' v es := h.grown (grown_below _ hb)
theorem EOwn.evr {B R : Nat} {w : World} {v : Value} {es : List Edg} (h : EOwn B w v es) (hR : R < B) : EVR R w v es := by
  rcases h.2 with ⟨hv, h0⟩ | ⟨g, c, cur, hv, hB, hgc, hc, hm, hs, ht⟩
  · exact ⟨none, 0, by rw [hv, h0], by omega, by decide, .inl h0⟩
  · refine ⟨_, c, hv, hc, hm, .inr ⟨g, 0, rfl, by omega, (Array.getElem?_eq_some_iff.1 hgc).1, fun i hi => ?_⟩⟩
    subst hv
    have q := eflat_at es i hi
    have c0 := World.ownsRow.cellAt h (i * 3) (by omega)
    have c1 := World.ownsRow.cellAt h (i * 3 + 1) (by omega)
    have c2 := World.ownsRow.cellAt h (i * 3 + 2) (by omega)
    rw [Nat.zero_add, c0, c1, c2]
    exact q
theorem edge_one_new (w : World) (e : Edg) : ∀ j u, (eflat [e])[j]? = some u → (w.alloc (.cells #[.int .i64 e.1, .int .i64 e.2.1, .int .i64 e.2.2] 41)).cell? (Addr.add ⟨w.heap.size, 0, none⟩ j) = some u := by
  intro j u hu
  have hr := own_cells' w #[.int .i64 e.1, .int .i64 e.2.1, .int .i64 e.2.2] 41 3 rfl
  have hj : j < 3 := by
    have := (List.getElem?_eq_some_iff.1 hu).1
    rw [eflat_len] at this
    simpa using this
  have hc := hr.cell hj
  have ha : Addr.add ⟨w.heap.size, 0, none⟩ j = ⟨w.heap.size, j, none⟩ := by
    unfold Addr.add
    split
    · rename_i h; subst h; rfl
    · simp
  rw [ha, hc, ← hu]
  obtain rfl | rfl | rfl : j = 0 ∨ j = 1 ∨ j = 2 := by omega
  all_goals rfl
theorem app_edge {P : Program} {ops : Array Oper} {rest : List Oper} {o : Oper} {a : Act} {Q : Exit → Act → World → Prop} (wr : World) (e : Edg) (B : Nat) (hP : P = Tryz.prog) (hg : o.guard = none) (s y : Operand)
    (ho : o.op = .call { callee := .builtin .append, args := #[s, y], argTypes := #[22, 22] }) (v : Value) (es : List Edg) (hs : a.eval s = v) (hown : EOwn B wr v es)
    (hy : a.eval y = .slice (some ⟨wr.heap.size, 0, none⟩) 1 1) (hb : es.length ≤ 1000000) (hB : B ≤ wr.heap.size)
    (h : ∀ ao n cap w1, n = es.length + 1 → EOwn B w1 (.slice ao n cap) (es ++ [e]) → Kept B wr w1 v → wpList P ops Q rest (a.put o.dst (.slice ao n cap)) w1) :
    wpList P ops Q (o :: rest) a (wr.alloc (.cells #[.int .i64 e.1, .int .i64 e.2.1, .int .i64 e.2.2] 41)) := by
  subst hP
  obtain ⟨i0, hi, hz0, hz1, hz2⟩ := info_parts Tryz.infoEdge
  refine wpList_append_own _ hg s y 22 ho B 41 i0 (.agg #[.int .i64 0, .int .i64 0, .int .i64 0]) 3 24 Tryz.underlying22 hi hz0 hz1 hz2 rfl (by decide) v es.length (eflat es) hs (World.ownsRow.alloc hown _) ⟨wr.heap.size, 0, none⟩ 1 1 (eflat [e]) hy rfl (edge_one_new _ _) (eflat_one _) (by unfold maxLen; omega) (by omega) (by simp; omega) ?_
  intro v' w1 hown' hgrow _
  have hg2 : wr.grownBy w1 v.ownBlock := by
    refine ⟨hgrow.os, hgrow.tape, hgrow.output, ?_, fun k hk hne => ?_⟩
    · have := hgrow.size; simp at this; omega
    · rw [hgrow.block k (by simp; omega) hne]; exact Below.heap_alloc wr _ k hk
  have hown2 : EOwn B w1 v' (es ++ [e]) := by unfold EOwn; rw [eflat_app]; simpa using hown'
  have hK : Kept B wr w1 v := ⟨fun w0 h0 => h0.grown hg2 hB (fun k hk => (World.ownsRow.lt hown k hk).1), hg2⟩
  rcases hown'.2 with ⟨rfl, h0⟩ | ⟨g, cap, cur, rfl, _⟩
  · omega
  · exact h _ _ _ w1 rfl hown2 hK
/-- A drawn system. -/
def SysD (R p K : Nat) (w : World) (e : Ending) (w' : World) : Prop := ∃ (al st : Int) (a : Option Addr) (n c : Nat) (es : List Edg), e = .returned (.agg #[.int .i64 al, .int .i64 st, .slice a n c]) ∧ es.length ≤ 1000 ∧ EVR R w' (.slice a n c) es ∧ Adv R p K w w'
end Go.Proofs.YtnjakhojdhkihaaGreatDoor
