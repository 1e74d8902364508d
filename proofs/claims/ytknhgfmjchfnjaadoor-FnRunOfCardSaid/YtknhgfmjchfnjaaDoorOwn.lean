/- The copies that a law makes of its arguments: every row a block of its own. -/
import Derived.Test.YtknhgfmjchfnjaaDoorView
import Derived.Deep.OwnRows
namespace Go.Proofs.YtknhgfmjchfnjaaDoor
open Go.RowKit
set_option linter.unusedVariables false
set_option linter.unusedSimpArgs false
set_option maxRecDepth 100000

theorem Tryd.infoBool : (Tryd.prog.info? 4).map (fun i => (i.zero, i.size, i.bytes)) = some (some (.bool false), 1, 1) := by kernel_rfl
theorem Tryd.infoInts : (Tryd.prog.info? 44).map (fun i => (i.zero, i.size, i.bytes)) = some (some (.slice none 0 0), 1, 24) := by kernel_rfl

/-- An owned row of the call's own: exact, in one block, from its first cell on. -/
def IR (w : World) (b : Nat) (xs : List Int) : Prop := w.rowIs b 3 xs.length (fun j => .int .i64 (xs[j]?.getD 0))
def BR (w : World) (b : Nat) (xs : List Bool) : Prop := w.rowIs b 4 xs.length (fun j => .bool (xs[j]?.getD false))

theorem rowIs_below {w w' : World} {b : Nat} {t : TypeId} {n : Nat} {f : Nat → Value} (h : w.rowIs b t n f) (hb : Below w.heap.size w w') : w'.rowIs b t n f := h.of_block (hb.block b h.lt)

/-- An owned matrix: the row of its rows, and each row in a block of its own, in order. -/
def MRk (w : World) (b0 : Nat) (xss : List (List Int)) (Bf : Nat → Nat) (k : Nat) : Prop :=
  w.rowIs b0 44 xss.length (fun j => if j < k then .slice (some ⟨Bf j, 0, none⟩) (xss[j]?.getD []).length (xss[j]?.getD []).length else .slice none 0 0) ∧
  ∀ j, j < k → b0 < Bf j ∧ IR w (Bf j) (xss[j]?.getD []) ∧ ∀ i, i < j → Bf i < Bf j
theorem MRk.step {w w1 : World} {b0 : Nat} {xss : List (List Int)} {Bf : Nat → Nat} {k : Nat} (h : MRk w b0 xss Bf k) (hb : Below w.heap.size w w1) (hr : IR w1 w.heap.size (xss[k]?.getD [])) (h0 : b0 < w.heap.size) :
    MRk (w1.setCell ⟨b0, k, none⟩ (.slice (some ⟨w.heap.size, 0, none⟩) (xss[k]?.getD []).length (xss[k]?.getD []).length)) b0 xss (fun j => if j = k then w.heap.size else Bf j) (k + 1) := by
  refine ⟨((rowIs_below h.1 hb).set k _).congr (fun j hj => ?_), fun j hj => ?_⟩
  · by_cases e : j = k
    · subst e; simp
    · have : (j < k + 1) = (j < k) := by simp only [eq_iff_iff]; omega
      simp only [if_neg e, this]
  · by_cases e : j = k
    · subst e
      simp only [if_pos rfl]
      refine ⟨h0, World.rowIs.setOther hr (by simp; omega) _, fun i hi => ?_⟩
      rw [if_neg (by omega)]
      exact World.rowIs.lt (h.2 i hi).2.1
    · simp only [if_neg e]
      obtain ⟨h1, h2, h3⟩ := h.2 j (by omega)
      refine ⟨h1, World.rowIs.setOther (rowIs_below h2 hb) (by simp; omega) _, fun i hi => ?_⟩
      rw [if_neg (by omega)]
      exact h3 i hi
def MR (w : World) (b0 : Nat) (xss : List (List Int)) (Bf : Nat → Nat) : Prop := MRk w b0 xss Bf xss.length

theorem IR.view {w : World} {b : Nat} {xs : List Int} (h : IR w b xs) (hl : xs.length ≤ 1048576) : IV w (.slice (some ⟨b, 0, none⟩) xs.length xs.length) xs :=
  ⟨_, _, rfl, Nat.le_refl _, by unfold maxLen; omega, .inr ⟨b, 0, rfl, World.rowIs.lt h, fun i hi => ⟨_, by rw [Nat.zero_add]; exact World.rowIs.cell h hi, rfl⟩⟩⟩
theorem BR.view {w : World} {b : Nat} {xs : List Bool} (h : BR w b xs) (hl : xs.length ≤ 1048576) : BV w (.slice (some ⟨b, 0, none⟩) xs.length xs.length) xs :=
  ⟨_, _, rfl, Nat.le_refl _, by unfold maxLen; omega, .inr ⟨b, 0, rfl, World.rowIs.lt h, fun i hi => ⟨_, by rw [Nat.zero_add]; exact World.rowIs.cell h hi, rfl⟩⟩⟩
theorem mem_len {xss : List (List Int)} (hl : ∀ l ∈ xss, l.length ≤ 1048576) (k : Nat) : (xss[k]?.getD []).length ≤ 1048576 := by
  by_cases h : k < xss.length
  · rw [List.getElem?_eq_getElem h]; exact hl _ (List.getElem_mem h)
  · rw [List.getElem?_eq_none (by omega)]; simp
theorem MR.view {w : World} {b : Nat} {xss : List (List Int)} {Bf : Nat → Nat} (h : MR w b xss Bf) (hm : xss.length ≤ 1048576) (hl : ∀ l ∈ xss, l.length ≤ 1048576) : MV w (.slice (some ⟨b, 0, none⟩) xss.length xss.length) xss :=
  ⟨_, _, rfl, Nat.le_refl _, by unfold maxLen; omega, .inr ⟨b, 0, rfl, World.rowIs.lt h.1, fun i hi => ⟨_, by rw [Nat.zero_add]; exact World.rowIs.cell h.1 hi, by
    rw [if_pos hi]; exact IR.view (h.2 i hi).2.1 (mem_len hl i)⟩⟩⟩
theorem MRk.below {w w' : World} {b : Nat} {xss : List (List Int)} {Bf : Nat → Nat} {k : Nat} (h : MRk w b xss Bf k) (hb : Below w.heap.size w w') : MRk w' b xss Bf k :=
  ⟨rowIs_below h.1 hb, fun j hj => ⟨(h.2 j hj).1, rowIs_below (h.2 j hj).2.1 hb, (h.2 j hj).2.2⟩⟩

/-- An automaton's copy: what it reads as, and that its blocks are its own. -/
def AR (w : World) (lo b1 b2 : Nat) (xss : List (List Int)) (bs : List Bool) (Bf : Nat → Nat) : Prop :=
  MR w b1 xss Bf ∧ BR w b2 bs ∧ lo ≤ b1 ∧ b1 < b2 ∧ ∀ j, j < xss.length → Bf j < b2
theorem AR.below {w w' : World} {lo b1 b2 : Nat} {xss : List (List Int)} {bs : List Bool} {Bf : Nat → Nat} (h : AR w lo b1 b2 xss bs Bf) (hb : Below w.heap.size w w') : AR w' lo b1 b2 xss bs Bf :=
  ⟨MRk.below h.1 hb, rowIs_below h.2.1 hb, h.2.2⟩
def AggV (al : Int) (a1 : Option Addr) (n1 c1 : Nat) (a2 : Option Addr) (n2 c2 : Nat) : Value := .agg #[.int .i64 al, .slice a1 n1 c1, .slice a2 n2 c2]
def CopyRet (al : Int) (xss : List (List Int)) (bs : List Bool) (w : World) (e : Ending) (w' : World) : Prop :=
  ∃ b1 b2 Bf, e = .returned (.agg #[.int .i64 al, .slice (some ⟨b1, 0, none⟩) xss.length xss.length, .slice (some ⟨b2, 0, none⟩) bs.length bs.length]) ∧ AR w' w.heap.size b1 b2 xss bs Bf ∧ Below w.heap.size w w'

theorem own_cells (w : World) (c : Array Value) (t : TypeId) (n : Nat) (hn : c.size = n) : (w.alloc (.cells c t)).rowIs w.heap.size t n (fun i => c[i]?.getD undef) := by
  subst hn
  exact World.rowIs_alloc w c t _ (fun i hi => by rw [Array.getElem?_eq_getElem hi]; rfl)
theorem MRk.setOther {w : World} {b : Nat} {xss : List (List Int)} {Bf : Nat → Nat} {k : Nat} (h : MRk w b xss Bf k) {p : Addr} (hp : p.block < b) (v : Value) : MRk (w.setCell p v) b xss Bf k :=
  ⟨World.rowIs.setOther h.1 (by omega) v, fun j hj => ⟨(h.2 j hj).1, World.rowIs.setOther (h.2 j hj).2.1 (by have := (h.2 j hj).1; omega) v, (h.2 j hj).2.2⟩⟩
theorem MR.lt {w : World} {b : Nat} {xss : List (List Int)} {Bf : Nat → Nat} (h : MR w b xss Bf) : ∀ j, j < xss.length → Bf j < w.heap.size := fun j hj => World.rowIs.lt (h.2 j hj).2.1

end Go.Proofs.YtknhgfmjchfnjaaDoor
