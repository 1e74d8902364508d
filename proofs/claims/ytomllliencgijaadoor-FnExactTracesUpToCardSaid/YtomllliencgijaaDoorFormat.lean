/- FormatAlphabet on both sides: the text of an alphabet. -/
import Derived.Test.YtomllliencgijaaDoorRestrict
namespace Go.Proofs.YtomllliencgijaaDoor
open Go.RowKit
set_option linter.unusedVariables false
set_option linter.unusedSimpArgs false
set_option maxRecDepth 100000

theorem IRow.ne {B : Nat} {w : World} {ao : Option Addr} {n cap : Nat} {xs : List Int} (h : IRow B w (.slice ao n cap) xs) (hx : xs.length ≠ 0) :
    ∃ g, ao = some ⟨g, 0, none⟩ ∧ n = xs.length ∧ B ≤ g ∧ g < w.heap.size ∧ n ≤ cap ∧ cap ≤ maxLen ∧ ∀ j, j < xs.length → w.cell? ⟨g, j, none⟩ = some (.int .i64 (xs[j]?.getD 0)) := by
  rcases h.shape with ⟨h1, h2⟩ | ⟨g, c, h1, h2, h3, h4, h5, h6, _⟩
  · rw [h2] at hx; simp at hx
  · simp at h1; obtain ⟨rfl, rfl, rfl⟩ := h1
    exact ⟨g, rfl, rfl, h2, h3, h4, h5, h6⟩
theorem BRow.ne {B : Nat} {w : World} {ao : Option Addr} {n cap : Nat} {xs : List UInt8} (h : BRow B w (.slice ao n cap) xs) (hx : xs.length ≠ 0) :
    ∃ g, ao = some ⟨g, 0, none⟩ ∧ n = xs.length ∧ B ≤ g ∧ g < w.heap.size ∧ n ≤ cap ∧ cap ≤ maxLen ∧ (∀ j, j < xs.length → w.cell? ⟨g, j, none⟩ = some (.int .u8 ((xs[j]?.getD 0).toNat : Int))) ∧ ∀ j, w.frozen? ⟨g, j, none⟩ = false := by
  rcases h.shape with ⟨h1, h2⟩ | ⟨g, c, h1, h2, h3, h4, h5, h6, h7⟩
  · rw [h2] at hx; simp at hx
  · simp at h1; obtain ⟨rfl, rfl, rfl⟩ := h1
    exact ⟨g, rfl, rfl, h2, h3, h4, h5, h6, h7⟩
theorem IRow.len {B : Nat} {w : World} {ao : Option Addr} {n cap : Nat} {xs : List Int} (h : IRow B w (.slice ao n cap) xs) : n = xs.length := by
  rcases h.shape with ⟨h1, h2⟩ | ⟨g, c, h1, _⟩
  · simp at h1; rw [h2]; exact h1.2.1
  · simp at h1; exact h1.2.1
theorem BRow.len {B : Nat} {w : World} {ao : Option Addr} {n cap : Nat} {xs : List UInt8} (h : BRow B w (.slice ao n cap) xs) : n = xs.length := by
  rcases h.shape with ⟨h1, h2⟩ | ⟨g, c, h1, _⟩
  · simp at h1; rw [h2]; exact h1.2.1
  · simp at h1; exact h1.2.1

theorem lets_getD (a : Int) (k : Nat) (h : k < (lets a).length) : 0 ≤ (lets a)[k]?.getD 0 ∧ (lets a)[k]?.getD 0 < 6 := by
  rw [List.getElem?_eq_getElem h]; exact lets_at a k h
/-- The letters of an alphabet as bytes. -/
def lbs (a : Int) : List UInt8 := (lets a).map lb
theorem lbs_len (a : Int) : (lbs a).length = (lets a).length := by simp [lbs]
theorem lbs_snoc (a : Int) (k : Nat) (h : k < (lets a).length) : (lbs a).take (k + 1) = (lbs a).take k ++ [lb ((lets a)[k]?.getD 0)] := by
  rw [List.take_succ_eq_append_getElem (by rw [lbs_len]; exact h), List.getElem?_eq_getElem h]; simp [lbs]
theorem lbs_take_len (a : Int) (k : Nat) (h : k ≤ (lets a).length) : ((lbs a).take k).length = k := by rw [List.length_take, lbs_len]; omega
theorem lbs_all (a : Int) : (lbs a).take (lets a).length = lbs a := by rw [← lbs_len, List.take_length]

def FmtRel (a : Int) (w2 : World) (v i : Value) (wr : World) : Prop :=
  ∃ k : Nat, k ≤ (lets a).length ∧ i = .int .i64 k ∧ (∃ ao n cap, v = .slice ao n cap ∧ BRow w2.heap.size wr (.slice ao n cap) ((lbs a).take k)) ∧ Below w2.heap.size w2 wr

theorem data_append (a b : ByteArray) : (a ++ b).data.toList = a.data.toList ++ b.data.toList := by
  simp [ByteArray.data_append]

def SFmtRel (a : Int) (w2 : World) (v i : Value) (wr : World) : Prop :=
  ∃ k : Nat, k ≤ (lets a).length ∧ i = .int .i64 k ∧ (∃ r : ByteArray, v = .string r ∧ r.data.toList = (lbs a).take k) ∧ Below w2.heap.size w2 wr

end Go.Proofs.YtomllliencgijaaDoor
