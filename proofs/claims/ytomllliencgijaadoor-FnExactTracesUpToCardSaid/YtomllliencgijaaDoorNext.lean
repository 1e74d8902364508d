/- NextWord on both sides. -/
import Derived.Test.YtomllliencgijaaDoorBefore
import Derived.Test.YtomllliencgijaaDoorOrder
import Derived.Deep.QuietTactic
import Derived.BigQuiet
import Derived.Deep.RegionWith
namespace Go.Proofs.YtomllliencgijaaDoor
open Go.RowKit
set_option linter.unusedVariables false
set_option linter.unusedSimpArgs false
set_option maxRecDepth 100000

theorem quiet_ret {P : Program} {f : FuncId} {args : Array Value} {w : World} {n : Nat} {v : Value} (h : Calls P f args (w.drewN n) (Ret v (w.drewN n))) :
    Calls P f args (w.drewN n) fun e w'' => e = .returned v ∧ ∃ m, w'' = w.drewN m := h.mono fun _ _ ⟨he, hm⟩ => ⟨he, n, hm.symm⟩

/-- A row of bytes that a conversion has laid: its cells read, and may be written. -/
def CRow (B : Nat) (w : World) (g n cap : Nat) (xs : List UInt8) : Prop :=
  xs.length = n ∧ B ≤ g ∧ n ≤ cap ∧ cap ≤ maxLen ∧ g < w.heap.size ∧ (∀ j, j < n → w.cell? ⟨g, j, none⟩ = some (.int .u8 ((xs[j]?.getD 0).toNat : Int))) ∧ (∀ j, j < cap → (w.cell? ⟨g, j, none⟩).isSome = true ∧ w.frozen? ⟨g, j, none⟩ = false)

theorem CRow.stored {B : Nat} {w : World} {g n cap : Nat} {xs : List UInt8} (h : CRow B w g n cap xs) (j : Nat) (hj : j < n) (c : UInt8) (u : Int) (hu : u = (c.toNat : Int)) :
    CRow B (w.setCell ⟨g, j, none⟩ (.int .u8 u)) g n cap (xs.set j c) ∧ w.grownBy (w.setCell ⟨g, j, none⟩ (.int .u8 u)) (some g) := by
  subst hu
  obtain ⟨h1, h2, h3, h4, h5, h6, h7⟩ := h
  refine ⟨⟨by simpa using h1, h2, h3, h4, by simpa using h5, fun i hi => ?_, fun i hi => ⟨?_, ?_⟩⟩, ⟨rfl, rfl, rfl, by simp, fun k _ hk => heap_setCell_other w ⟨g, j, none⟩ k _ (fun e => hk (by simp [e]))⟩⟩
  · by_cases hij : j = i
    · subst hij
      rw [World.cell?_setCell_same w _ _ (h6 j hi), List.getElem?_set_self (by omega)]; rfl
    · rw [World.cell?_setCell_other w _ _ _ (by intro e; injection e with _ h; exact hij h), h6 i hi, List.getElem?_set_ne hij]
  · by_cases hij : j = i
    · subst hij
      rw [World.cell?_setCell_same' _ _ _ (h7 j hi).1]; rfl
    · rw [World.cell?_setCell_other w _ _ _ (by intro e; injection e with _ h; exact hij h)]; exact (h7 i hi).1
  · rw [World.frozen?_setCell]; exact (h7 i hi).2

theorem CRow.below {B : Nat} {w w' : World} {g n cap : Nat} {xs : List UInt8} (h : CRow B w g n cap xs) (hb : Below w.heap.size w w') : CRow B w' g n cap xs := by
  obtain ⟨h1, h2, h3, h4, h5, h6, h7⟩ := h
  refine ⟨h1, h2, h3, h4, Nat.lt_of_lt_of_le h5 hb.size, fun j hj => ?_, fun j hj => ⟨?_, ?_⟩⟩
  · rw [hb.cell (p := ⟨g, j, none⟩) h5]; exact h6 j hj
  · rw [hb.cell (p := ⟨g, j, none⟩) h5]; exact (h7 j hj).1
  · rw [hb.frozen (p := ⟨g, j, none⟩) h5]; exact (h7 j hj).2

theorem sum_bd {s r2 : ByteArray} {x : UInt8} {xs : List UInt8} (h : r2.data.toList = [x]) (h2 : xs.length = s.data.toList.length) (h3 : s.size ≤ 50000) : (r2.size : Int) + (xs.length : Int) ≤ 9223372036854775807 := by
  have := size_of h
  rw [data_len] at h2
  simp at this
  omega

def NxtRel (a : Int) (l : List UInt8) (B n cap : Nat) (wb : World) (i : Value) (wr : World) : Prop :=
  ∃ (k : Nat) (xs : List UInt8), k ≤ n ∧ i = .int .i64 ((n : Int) - 1 - (k : Int)) ∧ CRow B wr B n cap xs ∧ NState a l k xs ∧ Below B wb wr

theorem CRow.kept {B : Nat} {w w' wb : World} {g : Nat} (hg : w.grownBy w' (some g)) (hb : Below B wb w) (hB : B ≤ g) (hs : B ≤ w.heap.size) : Below B wb w' :=
  hb.grown hg hs (fun k hk => by injection hk with hk; omega)

theorem nextW_no (a : Int) (l : List UInt8) (h : ¬ (within l a = true ∧ a ≠ 0)) : nextW a l = none := by
  unfold nextW; rw [if_neg (fun hh => h ⟨hh.1, hh.2.1⟩)]

end Go.Proofs.YtomllliencgijaaDoor
