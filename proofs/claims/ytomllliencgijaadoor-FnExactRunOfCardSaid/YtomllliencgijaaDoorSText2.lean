/- Pieces of a text: l19Cut, l19Dec, l2Parse. -/
import Derived.Test.YtomllliencgijaaDoorSText
import Derived.Test.YtomllliencgijaaDoorRestrict
import Derived.Test.YtomllliencgijaaDoorWithin
namespace Go.Proofs.YtomllliencgijaaDoor
open Go.RowKit
set_option linter.unusedVariables false
set_option linter.unusedSimpArgs false
set_option maxRecDepth 100000

theorem Tryd.infoStr : (Tryd.prog.info? 9).map (fun i => (i.zero, i.size, i.bytes)) = some (some (.string ByteArray.empty), 1, 16) := by kernel_rfl
/-- An owned slice of strings. -/
def SOwn (B : Nat) (w : World) (v : Value) (ss : List ByteArray) : Prop := w.ownsRow B 9 1 v ss.length (ss.map Value.string)
theorem SOwn.below {B : Nat} {w w' : World} {v : Value} {ss : List ByteArray} (h : SOwn B w v ss) (hb : Below w.heap.size w w') : SOwn B w' v ss := ownsRow_below h hb
theorem SOwn.empty (B : Nat) (w : World) (hb : B ≤ w.heap.size) : SOwn B (w.alloc (.cells #[] 9)) (.slice (some ⟨w.heap.size, 0, none⟩) 0 0) [] := World.ownsRow_made w #[] 0 hb (by decide) rfl
theorem SOwn.at {B : Nat} {w : World} {ao : Option Addr} {n cap : Nat} {ss : List ByteArray} (h : SOwn B w (.slice ao n cap) ss) (h0 : 0 < n) : n = ss.length ∧ n ≤ cap ∧ cap ≤ maxLen ∧ ∃ g, ao = some ⟨g, 0, none⟩ ∧ B ≤ g ∧ g < w.heap.size ∧ ∀ j, j < n → w.cell? ⟨g, j, none⟩ = some (.string (ss[j]?.getD ByteArray.empty)) := by
  rcases h.2 with ⟨h1, h2⟩ | ⟨g, c, cur, hv, hB, hg, hc, hm, hs, ht⟩
  · injection h1 with e1 e2 e3
    omega
  · injection hv with e1 e2 e3
    subst e1; subst e2; subst e3
    refine ⟨rfl, hc, hm, g, rfl, hB, (Array.getElem?_eq_some_iff.1 hg).1, fun j hj => ?_⟩
    rw [World.ownsRow.cellAt h j (by omega)]
    simp [List.getElem?_eq_getElem hj]
def CutRel (s : ByteArray) (w : World) (v5 v6 v7 : Value) (wr : World) : Prop :=
  ∃ (k f n cap : Nat) (ao : Option Addr) (ss : List ByteArray), v7 = .int .i64 k ∧ v6 = .int .i64 f ∧ v5 = .slice ao n cap ∧ k ≤ s.size + 1 ∧ f ≤ k ∧ n = ss.length ∧ n ≤ k ∧ SOwn w.heap.size wr (.slice ao n cap) ss ∧ (∀ x ∈ ss, x.size ≤ s.size) ∧ Below w.heap.size w wr
def CutRes (s : ByteArray) (w : World) (e : Ending) (w' : World) : Prop :=
  ∃ (n cap : Nat) (ao : Option Addr) (ss : List ByteArray), e = .returned (.slice ao n cap) ∧ n = ss.length ∧ n ≤ s.size + 1 ∧ SOwn w.heap.size w' (.slice ao n cap) ss ∧ (∀ x ∈ ss, x.size ≤ s.size) ∧ Below w.heap.size w w'
def DecRes (w : World) (e : Ending) (w' : World) : Prop := ∃ r : ByteArray, e = .returned (.string r) ∧ r.size ≤ 1001 ∧ Below w.heap.size w w'
theorem rowIs_set3 {w : World} {b : Nat} {t : TypeId} {f : Nat → Value} (h : w.rowIs b t 3 f) (v0 v1 v2 : Value) : (((w.setCell ⟨b, 0, none⟩ v0).setCell ⟨b, 1, none⟩ v1).setCell ⟨b, 2, none⟩ v2).rowIs b t 3 (fun i => #[v0, v1, v2][i]?.getD undef) :=
  (((h.set 0 v0).set 1 v1).set 2 v2).congr (fun j hj => by
    obtain rfl | rfl | rfl : j = 0 ∨ j = 1 ∨ j = 2 := by omega
    all_goals rfl)
def ParseERes (w : World) (e : Ending) (w' : World) : Prop := ∃ (f l t : Int) (b : Bool), e = .returned (.tuple #[.agg #[.int .i64 f, .int .i64 l, .int .i64 t], .bool b]) ∧ Below w.heap.size w w'
end Go.Proofs.YtomllliencgijaaDoor
