/- CountAccepted: what it computes. -/
import Derived.Test.YtagegbhchljggaaRun
namespace Go.Proofs.Ytagegbhchljggaa
open Go.RowKit
set_option linter.unusedVariables false
set_option linter.unusedSimpArgs false
set_option maxRecDepth 100000

def updC (g : Nat → Int) (t : Nat) (c : Int) : Nat → Int := fun j => if j = t then wrap64 (g t + c) else g j
def stepRow (c : Int) (g : Nat → Int) (l : List Int) : Nat → (Nat → Int)
  | 0 => g
  | j + 1 => updC (stepRow c g l j) (l[j]?.getD 0).toNat c
def stepAll (xss : List (List Int)) (f : Nat → Int) : Nat → (Nat → Int)
  | 0 => fun _ => 0
  | k + 1 => stepRow (f k) (stepAll xss f k) (xss[k]?.getD []) (xss[k]?.getD []).length
def totC (bs : List Bool) (f : Nat → Int) (t : Int) : Nat → Int
  | 0 => t
  | k + 1 => if bs[k]?.getD false = true then wrap64 (totC bs f t k + f k) else totC bs f t k
def cntA (xss : List (List Int)) : Nat → (Nat → Int)
  | 0 => fun j => if j = 0 then 1 else 0
  | m + 1 => stepAll xss (cntA xss m) xss.length
def ttlA (xss : List (List Int)) (bs : List Bool) : Nat → Int
  | 0 => 0
  | m + 1 => totC bs (cntA xss m) (ttlA xss bs m) xss.length
/-- What CountAccepted computes. -/
def countA (al : Int) (xss : List (List Int)) (bs : List Bool) (n : Int) : Int := if autV al xss bs = true ∧ 0 ≤ n ∧ n ≤ 7 then ttlA xss bs (n.toNat + 1) else -1
theorem countA_no (al : Int) (xss : List (List Int)) (bs : List Bool) (n : Int) (h : ¬ (autV al xss bs = true ∧ 0 ≤ n ∧ n ≤ 7)) : countA al xss bs n = -1 := if_neg h
theorem countA_yes (al : Int) (xss : List (List Int)) (bs : List Bool) (n : Nat) (h : autV al xss bs = true) (hn : n ≤ 7) : countA al xss bs (n : Int) = ttlA xss bs (n + 1) := by
  unfold countA
  rw [if_pos ⟨h, by omega, by omega⟩]
  rfl
theorem made_set0 (w : World) (t : TypeId) (n : Nat) (hn : 0 < n) : (w.alloc (.cells ((madeCells #[.int .i64 0] n).setIfInBounds 0 (.int .i64 1)) t)).rowIs w.heap.size t n (fun j => .int .i64 (if j = 0 then 1 else 0)) := by
  have := World.rowIs_alloc w ((madeCells #[.int .i64 0] n).setIfInBounds 0 (.int .i64 1)) t (fun j => .int .i64 (if j = 0 then 1 else 0)) (fun i hi => by
    simp [size_madeCells] at hi
    rw [Array.getElem?_setIfInBounds]
    by_cases e : 0 = i
    · subst e
      simp [size_madeCells, hi]
    · have e' : ¬ i = 0 := by omega
      rw [if_neg e, if_neg e']
      simp [madeCells, hi, Nat.mod_one])
  simpa [size_madeCells] using this
theorem upd_set {w : World} {b : Nat} {t : TypeId} {n : Nat} {g : Nat → Int} (h : w.rowIs b t n (fun j => .int .i64 (g j))) (i : Nat) (c : Int) : (w.setCell ⟨b, i, none⟩ (.int .i64 (wrap64 (g i + c)))).rowIs b t n (fun j => .int .i64 (updC g i c j)) :=
  (h.set i _).congr (fun j _ => by
    unfold updC
    by_cases e : j = i
    · rw [if_pos e, if_pos e]
    · rw [if_neg e, if_neg e])
/-- The cells of a matrix, and of the rows in it. -/
theorem MV.row {w : World} {a : Option Addr} {n c : Nat} {xss : List (List Int)} (h : MV w (.slice a n c) xss) (k : Nat) (hk : k < n) :
    ∃ b off ao m cap, a = some ⟨b, off, none⟩ ∧ b < w.heap.size ∧ w.cell? ⟨b, off + k, none⟩ = some (.slice ao m cap) ∧ m = (xss[k]?.getD []).length ∧ m ≤ cap ∧ cap ≤ 9223372036854775807 ∧
      ∀ j, j < m → ∃ b2 off2, ao = some ⟨b2, off2, none⟩ ∧ b2 < w.heap.size ∧ w.cell? ⟨b2, off2 + j, none⟩ = some (.int .i64 ((xss[k]?.getD [])[j]?.getD 0)) := by
  obtain ⟨hn, hcap, hmax, hcell⟩ := SV.at h
  rcases hcell with h0 | ⟨b, off, rfl, hb, hc⟩
  · omega
  obtain ⟨u, hu, hv⟩ := hc k hk
  obtain ⟨ao, m, cap, rfl⟩ : ∃ a n c, u = .slice a n c := by obtain ⟨a, c, e, -⟩ := hv; exact ⟨a, _, c, e⟩
  obtain ⟨h1, h2, h3, h4⟩ := SV.at hv
  refine ⟨b, off, ao, m, cap, rfl, hb, hu, h1, h2, h3, fun j hj => ?_⟩
  rcases h4 with h0 | ⟨b2, off2, rfl, hb2, hc2⟩
  · omega
  obtain ⟨u, hu2, rfl⟩ := hc2 j hj
  exact ⟨b2, off2, rfl, hb2, hu2⟩
theorem BV.row {w : World} {a : Option Addr} {n c : Nat} {bs : List Bool} (h : BV w (.slice a n c) bs) (k : Nat) (hk : k < n) :
    ∃ b off, a = some ⟨b, off, none⟩ ∧ b < w.heap.size ∧ w.cell? ⟨b, off + k, none⟩ = some (.bool (bs[k]?.getD false)) := by
  obtain ⟨hn, hcap, hmax, hcell⟩ := SV.at h
  rcases hcell with h0 | ⟨b, off, rfl, hb, hc⟩
  · omega
  obtain ⟨u, hu, rfl⟩ := hc k hk
  exact ⟨b, off, rfl, hb, hu⟩

end Go.Proofs.Ytagegbhchljggaa
