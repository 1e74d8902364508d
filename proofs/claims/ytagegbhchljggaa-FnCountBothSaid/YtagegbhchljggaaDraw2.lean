/- The reference's drawing of words: what is drawn lies in its bounds. -/
import Derived.Test.YtagegbhchljggaaDraw
namespace Go.Proofs.Ytagegbhchljggaa
open Go.RowKit
set_option linter.unusedVariables false
set_option linter.unusedSimpArgs false
set_option maxRecDepth 100000

def WordRel (R p most : Nat) (w2 : World) (v8 v9 : Value) (wr : World) : Prop :=
  ∃ (k : Nat) (s : ByteArray) (p' : Nat), v9 = .int .i64 k ∧ v8 = .string s ∧ s.size + k ≤ most ∧ p' ≤ p + 1 + s.size ∧ RdOk R p' wr ∧ w2.grownBy wr (some R)

/-- What the walk is told of a slice of bytes that came in. -/
def IsRow (w : World) (a : Option Addr) (len cap : Nat) (zs : List Int) : Prop :=
  (a = none ∧ len = 0 ∧ cap = 0 ∧ zs = []) ∨
  ∃ x, a = some x ∧ len ≤ cap ∧ cap ≤ maxLen ∧ zs.length = cap ∧ (∀ i, i < zs.length → w.cell? (x.add i) = some (.int .u8 (zs.getD i 0))) ∧ ∀ n ∈ zs, (Lit.int .u8 n).wf = true
theorem IsRow.below {w w' : World} {a : Option Addr} {len cap : Nat} {zs : List Int} (h : IsRow w a len cap zs) (hb : Below w.heap.size w w') : IsRow w' a len cap zs := by
  rcases h with h | ⟨x, h1, h2, h3, h4, h5, h6⟩
  · exact .inl h
  · refine .inr ⟨x, h1, h2, h3, h4, fun i hi => ?_, h6⟩
    have hc := h5 i hi
    rw [hb.cell (p := x.add i) (World.block_lt_of_cell? w _ hc)]; exact hc
theorem wf_u8 (n : Int) (h : (Lit.int .u8 n).wf = true) : 0 ≤ n ∧ n ≤ 255 := by
  simp [Lit.wf, IntKind.min, IntKind.max, IntKind.bits, IntKind.signed] at h
  omega

/-- The reader is opened: block R. -/
def OpenRet (w : World) (e : Ending) (w' : World) : Prop := ∃ R, e = .returned (.pointer (some ⟨R, 0, none⟩)) ∧ RdOk R 0 w' ∧ w.heap.size ≤ R ∧ Below w.heap.size w w'

theorem rd_start (w : World) (bo : Option Addr) (n cap : Nat) (T : TypeId) (h : n = 0 ∨ ∃ b off, bo = some ⟨b, off, none⟩ ∧ b < w.heap.size ∧ n ≤ cap ∧ cap ≤ maxLen ∧ n ≤ 2000 ∧ ∀ j, j < n → ∃ z : Nat, z < 256 ∧ w.cell? ⟨b, off + j, none⟩ = some (.int .u8 (z : Int))) :
    RdOk w.heap.size 0 (w.alloc (.cells #[.slice bo n cap, .int .i64 0] T)) := by
  refine ⟨bo, n, cap, by simp, ?_, ?_, ?_, ?_⟩
  · have := World.cell?_alloc_mark w #[.slice bo n cap, .int .i64 0] T (0, 0) 0
    rw [this]; rfl
  · have := World.cell?_alloc_mark w #[.slice bo n cap, .int .i64 0] T (0, 0) 1
    rw [this]; rfl
  · have := World.frozen?_alloc_mark w #[.slice bo n cap, .int .i64 0] T 0 0 1
    rw [this]; rfl
  · rcases h with h | ⟨b, off, h6, h7, h8, h9, h10, h11⟩
    · exact .inl h
    · refine .inr ⟨b, off, h6, h7, h8, h9, h10, fun j hj => ?_⟩
      obtain ⟨z, hz, hc⟩ := h11 j hj
      exact ⟨z, hz, by rw [World.cell?_alloc_lt _ _ _ h7]; exact hc⟩

set_option maxHeartbeats 400000 in
theorem l19Open_any (a : Option Addr) (len cap : Nat) (zs : List Int) (w : World) (h : IsRow w a len cap zs) : Calls Try.prog 56 #[.slice a len cap] w (OpenRet w) := by
  rcases h with ⟨rfl, rfl, rfl, rfl⟩ | ⟨x, rfl, hl, hm, hz, hcell, hwz⟩
  · go_enter Try.func56, Try.ntmps56
    go_wp2
    go_ret
    exact ⟨_, rfl, rd_start w none 0 0 _ (.inl rfl), Nat.le_refl _, (Below.refl _ _).alloc (Nat.le_refl _) _⟩
  · by_cases h0 : len = 0
    · subst h0
      clear hcell hwz hz
      go_enter Try.func56, Try.ntmps56
      go_wp2
      go_ret
      exact ⟨_, rfl, rd_start w _ 0 cap _ (.inl rfl), Nat.le_refl _, (Below.refl _ _).alloc (Nat.le_refl _) _⟩
    · have hc0 := hcell 0 (by omega)
      obtain ⟨b, off, spot⟩ := x
      have hspot : spot = none := by simpa [Addr.add] using World.cell?_spot hc0
      subst hspot
      have hb : b < w.heap.size := by have := World.block_lt_of_cell? w _ hc0; rw [Addr.add_lit] at this; exact this
      have hcells : ∀ j, j < len → ∃ z : Nat, z < 256 ∧ w.cell? ⟨b, off + j, none⟩ = some (.int .u8 (z : Int)) := by
        intro j hj
        have hc := hcell j (by omega)
        rw [Addr.add_lit] at hc
        have hmem : zs.getD j 0 ∈ zs := by
          rw [List.getD_eq_getElem?_getD, List.getElem?_eq_getElem (by omega)]; exact List.getElem_mem _
        have hbd := wf_u8 _ (hwz _ hmem)
        obtain ⟨z, hz⟩ := Int.eq_ofNat_of_zero_le hbd.1
        exact ⟨z, by omega, by rw [hc, hz]⟩
      have HC := Lib.hid hcells
      clear hcells hcell hwz hz hc0 h0
      by_cases h2 : 2000 < len
      · have h2' : (2000 : Int) < (len : Int) := by omega
        have h2c : 2000 ≤ cap := by omega
        unfold maxLen at hm
        go_enter Try.func56, Try.ntmps56
        go_wp2
        go_ret
        exact ⟨_, rfl, rd_start w _ 2000 cap _ (.inr ⟨b, off, rfl, hb, h2c, hm, by omega, fun j hj => HC.out j (by omega)⟩), Nat.le_refl _, (Below.refl _ _).alloc (Nat.le_refl _) _⟩
      · have h2' : (len : Int) ≤ 2000 := by omega
        go_enter Try.func56, Try.ntmps56
        go_wp2
        go_ret
        exact ⟨_, rfl, rd_start w _ len cap _ (.inr ⟨b, off, rfl, hb, hl, hm, by omega, fun j hj => HC.out j hj⟩), Nat.le_refl _, (Below.refl _ _).alloc (Nat.le_refl _) _⟩

end Go.Proofs.Ytagegbhchljggaa
