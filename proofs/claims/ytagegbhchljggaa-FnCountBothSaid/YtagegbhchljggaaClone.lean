/- slices.Clone at []int and []bool; appending a row to a slice of rows. -/
import Derived.Test.YtagegbhchljggaaBut
import Derived.Test.YtagegbhchljggaaRun
import Derived.Lib.BufferMore
namespace Go.Proofs.Ytagegbhchljggaa
open Go.RowKit
set_option linter.unusedVariables false
set_option linter.unusedSimpArgs false
set_option maxRecDepth 100000

/-- An owned slice of truth values. -/
def TRow (B : Nat) (w : World) (v : Value) (xs : List Bool) : Prop := w.ownsRow B 4 1 v xs.length (xs.map Value.bool)
theorem TRow.below {B : Nat} {w w' : World} {v : Value} {xs : List Bool} (h : TRow B w v xs) (hb : Below w.heap.size w w') : TRow B w' v xs := ownsRow_below h hb
theorem app_ints {P : Program} {ops : Array Oper} {rest : List Oper} {o : Oper} {a : Act} {Q : Exit → Act → World → Prop} (wr : World) (xs : List Int) (B : Nat) (hP : P = Try.prog) (hg : o.guard = none) (s y : Operand)
    (ho : o.op = .call { callee := .builtin .append, args := #[s, y], argTypes := #[44, 44] }) (v : Value) (hs : a.eval s = v) (hown : IRow B wr v [])
    (ad : Addr) (n cap : Nat) (hy : a.eval y = .slice (some ad) n cap) (hn : n = xs.length) (hc : ∀ j, j < n → wr.cell? (ad.add j) = some (.int .i64 (xs[j]?.getD 0))) (hb : xs.length ≤ 1048576) (hB : B ≤ wr.heap.size)
    (h : ∀ ao cap w1, IRow B w1 (.slice ao n cap) xs → (∀ w0, Below B w0 wr → Below B w0 w1) → wpList P ops Q rest (a.put o.dst (.slice ao n cap)) w1) :
    wpList P ops Q (o :: rest) a wr := by
  subst hP
  obtain ⟨i0, hi, hz0, hz1, hz2⟩ := info_parts Try.infoInt
  subst hn
  refine wpList_append_own _ hg s y 44 ho B 3 i0 _ 1 8 Try.underlying44 hi hz0 hz1 hz2 rfl (by decide) v 0 [] hs hown ad xs.length cap (xs.map (Value.int .i64)) hy (by simp) (fun j u hu => ?_) (fun u hu => ?_) (by unfold maxLen; omega) (by omega) hB ?_
  · simp only [List.getElem?_map] at hu
    cases hx : xs[j]? with
    | none => rw [hx] at hu; cases hu
    | some x =>
      rw [hx] at hu
      have hj : j < xs.length := (List.getElem?_eq_some_iff.1 hx).1
      have := hc j hj
      rw [hx] at this
      rw [this]
      simpa using hu
  · simp only [List.mem_map] at hu
    obtain ⟨x, -, rfl⟩ := hu
    rfl
  intro v' w1 hown' hgrow _
  have hown2 : IRow B w1 v' xs := by unfold IRow; simpa using hown'
  have hK : ∀ w0, Below B w0 wr → Below B w0 w1 := fun w0 h0 => h0.grown hgrow hB (fun k hk => (World.ownsRow.lt hown k hk).1)
  rcases hown2.2 with ⟨rfl, h0⟩ | ⟨g, c, cur, rfl, _⟩
  · have := h none 0 w1
    rw [h0] at this
    exact this hown2 hK
  · exact h _ _ w1 hown2 hK
theorem app_bools {P : Program} {ops : Array Oper} {rest : List Oper} {o : Oper} {a : Act} {Q : Exit → Act → World → Prop} (wr : World) (xs : List Bool) (B : Nat) (hP : P = Try.prog) (hg : o.guard = none) (s y : Operand)
    (ho : o.op = .call { callee := .builtin .append, args := #[s, y], argTypes := #[23, 23] }) (v : Value) (hs : a.eval s = v) (hown : TRow B wr v [])
    (ad : Addr) (n cap : Nat) (hy : a.eval y = .slice (some ad) n cap) (hn : n = xs.length) (hc : ∀ j, j < n → wr.cell? (ad.add j) = some (.bool (xs[j]?.getD false))) (hb : xs.length ≤ 1048576) (hB : B ≤ wr.heap.size)
    (h : ∀ ao cap w1, TRow B w1 (.slice ao n cap) xs → (∀ w0, Below B w0 wr → Below B w0 w1) → wpList P ops Q rest (a.put o.dst (.slice ao n cap)) w1) :
    wpList P ops Q (o :: rest) a wr := by
  subst hP
  obtain ⟨i0, hi, hz0, hz1, hz2⟩ := info_parts Try.infoBool
  subst hn
  refine wpList_append_own _ hg s y 23 ho B 4 i0 _ 1 1 Try.underlying23 hi hz0 hz1 hz2 rfl (by decide) v 0 [] hs hown ad xs.length cap (xs.map Value.bool) hy (by simp) (fun j u hu => ?_) (fun u hu => ?_) (by unfold maxLen; omega) (by omega) hB ?_
  · simp only [List.getElem?_map] at hu
    cases hx : xs[j]? with
    | none => rw [hx] at hu; cases hu
    | some x =>
      rw [hx] at hu
      have hj : j < xs.length := (List.getElem?_eq_some_iff.1 hx).1
      have := hc j hj
      rw [hx] at this
      rw [this]
      simpa using hu
  · simp only [List.mem_map] at hu
    obtain ⟨x, -, rfl⟩ := hu
    rfl
  intro v' w1 hown' hgrow _
  have hown2 : TRow B w1 v' xs := by unfold TRow; simpa using hown'
  have hK : ∀ w0, Below B w0 wr → Below B w0 w1 := fun w0 h0 => h0.grown hgrow hB (fun k hk => (World.ownsRow.lt hown k hk).1)
  rcases hown2.2 with ⟨rfl, h0⟩ | ⟨g, c, cur, rfl, _⟩
  · have := h none 0 w1
    rw [h0] at this
    exact this hown2 hK
  · exact h _ _ w1 hown2 hK
set_option maxHeartbeats 1000000 in
theorem cloneInt_any (ad : Addr) (n cap : Nat) (xs : List Int) (w : World) (hn : n = xs.length) (hm : xs.length ≤ 1048576) (hc0 : ∀ j, j < n → w.cell? (ad.add j) = some (.int .i64 (xs[j]?.getD 0))) :
    Calls Try.prog 66 #[.slice (some ad) n cap] w (fun e w' => ∃ ao c, e = .returned (.slice ao n c) ∧ IRow w.heap.size w' (.slice ao n c) xs ∧ Below w.heap.size w w') := by
  have HCA := Lib.hid (fun (j : Nat) (hj : j < n) => (show (w.alloc (.cells #[] 3)).cell? (ad.add j) = some (.int .i64 (xs[j]?.getD 0)) by rw [World.cell?_of_block (w := w) ((below_new w _ _).block _ (cell_spot (hc0 j hj)).2)]; exact hc0 j hj))
  have HN := Lib.hid hn; clear hn
  clear hc0
  have hnil : ∀ w : World, (binOp .eql 44 (.slice (some ad) n cap) (.slice none 0 0)).run Try.prog w = .ok (.bool false) w := by
    intro w
    exact Lib.run_eql_slice_some_nil w _ _ _ Try.underlying44
  go_enter Try.func66, Try.ntmps66
  go_wp2_with (at_builtin; refine app_ints _ xs w.heap.size rfl rfl _ _ rfl _ rfl (IRow.empty _ _ (Nat.le_refl _)) ad n cap rfl HN.out HCA.out hm ?_ ?_)
  · simp
  intro ao c w1 hown hk
  have hb := hk w (below_new w _ _)
  clear HCA hnil
  go_wp2
  go_ret
  exact ⟨ao, c, rfl, hown, hb⟩
set_option maxHeartbeats 1000000 in
theorem cloneBool_any (ad : Addr) (n cap : Nat) (xs : List Bool) (w : World) (hn : n = xs.length) (hm : xs.length ≤ 1048576) (hc0 : ∀ j, j < n → w.cell? (ad.add j) = some (.bool (xs[j]?.getD false))) :
    Calls Try.prog 55 #[.slice (some ad) n cap] w (fun e w' => ∃ ao c, e = .returned (.slice ao n c) ∧ TRow w.heap.size w' (.slice ao n c) xs ∧ Below w.heap.size w w') := by
  have HCA := Lib.hid (fun (j : Nat) (hj : j < n) => (show (w.alloc (.cells #[] 4)).cell? (ad.add j) = some (.bool (xs[j]?.getD false)) by rw [World.cell?_of_block (w := w) ((below_new w _ _).block _ (cell_spot (hc0 j hj)).2)]; exact hc0 j hj))
  have HN := Lib.hid hn; clear hn
  clear hc0
  have hnil : ∀ w : World, (binOp .eql 23 (.slice (some ad) n cap) (.slice none 0 0)).run Try.prog w = .ok (.bool false) w := by
    intro w
    exact Lib.run_eql_slice_some_nil w _ _ _ Try.underlying23
  go_enter Try.func55, Try.ntmps55
  go_wp2_with (at_builtin; refine app_bools _ xs w.heap.size rfl rfl _ _ rfl _ rfl (World.ownsRow_made w #[] 0 (Nat.le_refl _) (by decide) rfl) ad n cap rfl HN.out HCA.out hm ?_ ?_)
  · simp
  intro ao c w1 hown hk
  have hb := hk w (below_new w _ _)
  clear HCA hnil
  go_wp2
  go_ret
  exact ⟨ao, c, rfl, hown, hb⟩
theorem cloneInt_nil (cap : Nat) (w : World) : Calls Try.prog 66 #[.slice none 0 cap] w (fun e w' => e = .returned (.slice none 0 0) ∧ w' = w) := by
  have hnil : ∀ w : World, (binOp .eql 44 (.slice none 0 cap) (.slice none 0 0)).run Try.prog w = .ok (.bool true) w := by
    intro w
    show (do pure (.bool (← Op.equal 44 (.slice none 0 cap) (.slice none 0 0))) : Sem Value).run Try.prog w = _
    simp [Sem.run_bind, run_equal_slice_nil w _ _ _ _ _ Try.underlying44]
  go_enter Try.func66, Try.ntmps66
  go_wp2
  go_ret
  exact ⟨rfl, rfl⟩
theorem cloneRow_any (ar : Option Addr) (m c : Nat) (x : List Int) (w : World) (hm : m = x.length) (hx : x.length ≤ 1048576) (hc : ∀ j, j < m → ∃ b off, ar = some ⟨b, off, none⟩ ∧ w.cell? ⟨b, off + j, none⟩ = some (.int .i64 (x[j]?.getD 0))) :
    Calls Try.prog 66 #[.slice ar m c] w (fun e w' => ∃ ao cc, e = .returned (.slice ao m cc) ∧ IRow w.heap.size w' (.slice ao m cc) x ∧ Below w.heap.size w w') := by
  cases ar with
  | none =>
    have h0 : m = 0 := by
      by_cases h : m = 0
      · exact h
      · obtain ⟨b, off, q, -⟩ := hc 0 (by omega)
        cases q
    subst h0
    obtain rfl := List.eq_nil_of_length_eq_zero hm.symm
    exact (cloneInt_nil c w).mono (fun e w' ⟨q1, q2⟩ => ⟨none, 0, q1, IRow.nil _ _, by rw [q2]; exact Below.refl _ _⟩)
  | some ad =>
    refine cloneInt_any ad m c x w hm hx (fun j hj => ?_)
    obtain ⟨b, off, q, r⟩ := hc j hj
    cases q
    rw [add_at]
    exact r
end Go.Proofs.Ytagegbhchljggaa
