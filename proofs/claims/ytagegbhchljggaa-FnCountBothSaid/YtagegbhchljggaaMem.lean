/- Slices that a call itself makes: the arms for an append of one element, what is owned, and what stays. For every world. -/
import Derived.Test.YtagegbhchljggaaBits
namespace Go.Proofs.Ytagegbhchljggaa
open Go.RowKit
set_option linter.unusedVariables false
set_option linter.unusedSimpArgs false

theorem Try.infoInt : (Try.prog.info? 3).map (fun i => (i.zero, i.size, i.bytes)) = some (some (.int .i64 0), 1, 8) := by kernel_rfl
theorem Try.infoByte : (Try.prog.info? 5).map (fun i => (i.zero, i.size, i.bytes)) = some (some (.int .u8 0), 1, 1) := by kernel_rfl

/-- What is owned stays owned where nothing old is written. -/
theorem ownsRow_below {w w' : World} {base e size n : Nat} {v : Value} {xs : List Value} (h : w.ownsRow base e size v n xs) (hb : Below w.heap.size w w') : w'.ownsRow base e size v n xs :=
  h.kept (row := none) ⟨hb.os, hb.tape, hb.output, hb.size, fun k hk _ => hb.block k hk⟩ (by cases v.ownBlock <;> simp)

theorem ownsRow_base {w : World} {base base' e size n : Nat} {v : Value} {xs : List Value} (h : w.ownsRow base e size v n xs) (hb : base' ≤ base) : w.ownsRow base' e size v n xs := by
  refine ⟨h.1, ?_⟩
  rcases h.2 with h | ⟨g, cap, cur, h1, h2, h3⟩
  · exact .inl h
  · exact .inr ⟨g, cap, cur, h1, by omega, h3⟩

def IRow (B : Nat) (w : World) (v : Value) (xs : List Int) : Prop := w.ownsRow B 3 1 v xs.length (xs.map (Value.int .i64))
def BRow (B : Nat) (w : World) (v : Value) (xs : List UInt8) : Prop := w.ownsRow B 5 1 v xs.length (xs.map (fun c => Value.int .u8 (c.toNat : Int)))

theorem IRow.nil (B : Nat) (w : World) : IRow B w (.slice none 0 0) [] := World.ownsRow_nil _ _ _ _
theorem BRow.nil (B : Nat) (w : World) : BRow B w (.slice none 0 0) [] := World.ownsRow_nil _ _ _ _
theorem IRow.below {B : Nat} {w w' : World} {v : Value} {xs : List Int} (h : IRow B w v xs) (hb : Below w.heap.size w w') : IRow B w' v xs := ownsRow_below h hb
theorem BRow.below {B : Nat} {w w' : World} {v : Value} {xs : List UInt8} (h : BRow B w v xs) (hb : Below w.heap.size w w') : BRow B w' v xs := ownsRow_below h hb
theorem IRow.base {B B' : Nat} {w : World} {v : Value} {xs : List Int} (h : IRow B w v xs) (hb : B' ≤ B) : IRow B' w v xs := ownsRow_base h hb
theorem BRow.base {B B' : Nat} {w : World} {v : Value} {xs : List UInt8} (h : BRow B w v xs) (hb : B' ≤ B) : BRow B' w v xs := ownsRow_base h hb
theorem IRow.empty (B : Nat) (w : World) (hb : B ≤ w.heap.size) : IRow B (w.alloc (.cells #[] 3)) (.slice (some ⟨w.heap.size, 0, none⟩) 0 0) [] :=
  World.ownsRow_made w #[] 0 hb (by decide) rfl
theorem BRow.empty (B : Nat) (w : World) (hb : B ≤ w.heap.size) : BRow B (w.alloc (.cells #[] 5)) (.slice (some ⟨w.heap.size, 0, none⟩) 0 0) [] :=
  World.ownsRow_made w #[] 0 hb (by decide) rfl

/-- The shape of an owned slice of ints: nil, or a row whose cells read. -/
theorem IRow.shape {B : Nat} {w : World} {v : Value} {xs : List Int} (h : IRow B w v xs) :
    (v = .slice none 0 0 ∧ xs = []) ∨ ∃ g cap, v = .slice (some ⟨g, 0, none⟩) xs.length cap ∧ B ≤ g ∧ g < w.heap.size ∧ xs.length ≤ cap ∧ cap ≤ maxLen ∧ (∀ j, j < xs.length → w.cell? ⟨g, j, none⟩ = some (.int .i64 (xs[j]?.getD 0))) ∧ ∀ j, w.frozen? ⟨g, j, none⟩ = false := by
  rcases h.2 with ⟨h1, h2⟩ | ⟨g, cap, cur, rfl, hB, hg, hc, hm, hs, ht⟩
  · exact .inl ⟨h1, List.eq_nil_of_length_eq_zero h2⟩
  · refine .inr ⟨g, cap, rfl, hB, (Array.getElem?_eq_some_iff.1 hg).1, hc, hm, fun j hj => ?_, fun j => World.ownsRow.frozenAt h j⟩
    rw [World.ownsRow.cellAt h j (by omega)]
    simp [List.getElem?_eq_getElem hj]
theorem BRow.shape {B : Nat} {w : World} {v : Value} {xs : List UInt8} (h : BRow B w v xs) :
    (v = .slice none 0 0 ∧ xs = []) ∨ ∃ g cap, v = .slice (some ⟨g, 0, none⟩) xs.length cap ∧ B ≤ g ∧ g < w.heap.size ∧ xs.length ≤ cap ∧ cap ≤ maxLen ∧ (∀ j, j < xs.length → w.cell? ⟨g, j, none⟩ = some (.int .u8 ((xs[j]?.getD 0).toNat : Int))) ∧ ∀ j, w.frozen? ⟨g, j, none⟩ = false := by
  rcases h.2 with ⟨h1, h2⟩ | ⟨g, cap, cur, rfl, hB, hg, hc, hm, hs, ht⟩
  · exact .inl ⟨h1, List.eq_nil_of_length_eq_zero h2⟩
  · refine .inr ⟨g, cap, rfl, hB, (Array.getElem?_eq_some_iff.1 hg).1, hc, hm, fun j hj => ?_, fun j => World.ownsRow.frozenAt h j⟩
    rw [World.ownsRow.cellAt h j (by omega)]
    simp [List.getElem?_eq_getElem hj]

/-- What an append of the call's own leaves of the rest of memory. -/
def Kept (B : Nat) (wr w1 : World) (v : Value) : Prop := (∀ w0, Below B w0 wr → Below B w0 w1) ∧ wr.grownBy w1 v.ownBlock

theorem app_int {P : Program} {ops : Array Oper} {rest : List Oper} {o : Oper} {a : Act} {Q : Exit → Act → World → Prop} (wr : World) (x : Int) (B : Nat) (hP : P = Try.prog) (hg : o.guard = none) (s y : Operand)
    (ho : o.op = .call { callee := .builtin .append, args := #[s, y], argTypes := #[44, 44] }) (v : Value) (xs : List Int) (hs : a.eval s = v) (hown : IRow B wr v xs)
    (hy : a.eval y = .slice (some ⟨wr.heap.size, 0, none⟩) 1 1) (hb : (xs.length + 1) * 8 ≤ 140737488355328) (hB : B ≤ wr.heap.size)
    (h : ∀ ao n cap w1, n = xs.length + 1 → IRow B w1 (.slice ao n cap) (xs ++ [x]) → Kept B wr w1 v → wpList P ops Q rest (a.put o.dst (.slice ao n cap)) w1) :
    wpList P ops Q (o :: rest) a (wr.alloc (.cells #[.int .i64 x] 3)) := by
  subst hP
  obtain ⟨i0, hi, hz0, hz1, hz2⟩ := info_parts Try.infoInt
  refine wpList_append_own _ hg s y 44 ho B 3 i0 (.int .i64 0) 1 8 Try.underlying44 hi hz0 hz1 hz2 rfl (by decide) v xs.length (xs.map (Value.int .i64)) hs (World.ownsRow.alloc hown _) ⟨wr.heap.size, 0, none⟩ 1 1 [.int .i64 x] hy rfl (cell_one_new _ _ _) (by intro u hu; simp at hu; subst hu; rfl) (by unfold maxLen; omega) hb (by simp; omega) ?_
  intro v' w1 hown' hgrow _
  have hg2 : wr.grownBy w1 v.ownBlock := by
    refine ⟨hgrow.os, hgrow.tape, hgrow.output, ?_, fun k hk hne => ?_⟩
    · have := hgrow.size; simp at this; omega
    · rw [hgrow.block k (by simp; omega) hne]; exact Below.heap_alloc wr _ k hk
  have hown2 : IRow B w1 v' (xs ++ [x]) := by unfold IRow; simpa using hown'
  have hK : Kept B wr w1 v := ⟨fun w0 h0 => h0.grown hg2 hB (fun k hk => (World.ownsRow.lt hown k hk).1), hg2⟩
  rcases hown'.2 with ⟨rfl, h0⟩ | ⟨g, cap, cur, rfl, _⟩
  · omega
  · exact h _ _ _ w1 rfl hown2 hK

theorem app_byte {P : Program} {ops : Array Oper} {rest : List Oper} {o : Oper} {a : Act} {Q : Exit → Act → World → Prop} (wr : World) (x : UInt8) (xi : Int) (hx : xi = (x.toNat : Int)) (B : Nat) (hP : P = Try.prog) (hg : o.guard = none) (s y : Operand)
    (ho : o.op = .call { callee := .builtin .append, args := #[s, y], argTypes := #[40, 40] }) (v : Value) (xs : List UInt8) (hs : a.eval s = v) (hown : BRow B wr v xs)
    (hy : a.eval y = .slice (some ⟨wr.heap.size, 0, none⟩) 1 1) (hb : xs.length + 1 ≤ 140737488355328) (hB : B ≤ wr.heap.size)
    (h : ∀ ao n cap w1, n = xs.length + 1 → BRow B w1 (.slice ao n cap) (xs ++ [x]) → Kept B wr w1 v → wpList P ops Q rest (a.put o.dst (.slice ao n cap)) w1) :
    wpList P ops Q (o :: rest) a (wr.alloc (.cells #[.int .u8 xi] 5)) := by
  subst hP
  subst hx
  obtain ⟨i0, hi, hz0, hz1, hz2⟩ := info_parts Try.infoByte
  refine wpList_append_own _ hg s y 40 ho B 5 i0 (.int .u8 0) 1 1 Try.underlying40 hi hz0 hz1 hz2 rfl (by decide) v xs.length (xs.map (fun c => Value.int .u8 (c.toNat : Int))) hs (World.ownsRow.alloc hown _) ⟨wr.heap.size, 0, none⟩ 1 1 [.int .u8 (x.toNat : Int)] hy rfl (cell_one_new _ _ _) (by intro u hu; simp at hu; subst hu; rfl) (by unfold maxLen; omega) (by omega) (by simp; omega) ?_
  intro v' w1 hown' hgrow _
  have hg2 : wr.grownBy w1 v.ownBlock := by
    refine ⟨hgrow.os, hgrow.tape, hgrow.output, ?_, fun k hk hne => ?_⟩
    · have := hgrow.size; simp at this; omega
    · rw [hgrow.block k (by simp; omega) hne]; exact Below.heap_alloc wr _ k hk
  have hown2 : BRow B w1 v' (xs ++ [x]) := by unfold BRow; simpa using hown'
  have hK : Kept B wr w1 v := ⟨fun w0 h0 => h0.grown hg2 hB (fun k hk => (World.ownsRow.lt hown k hk).1), hg2⟩
  rcases hown'.2 with ⟨rfl, h0⟩ | ⟨g, cap, cur, rfl, _⟩
  · omega
  · exact h _ _ _ w1 rfl hown2 hK

/-- 'string(b)' of an owned row of bytes. -/
theorem run_string_of_row {B : Nat} {w : World} {v : Value} {xs : List UInt8} (h : BRow B w v xs) : (convert 40 9 v).run Try.prog w = .ok (.string ⟨xs.toArray⟩) w := by
  rcases h.shape with ⟨rfl, rfl⟩ | ⟨g, cap, rfl, _, _, _, _, hc, _⟩
  · exact run_convert_bytes_nil (P := Try.prog) w 40 5 Try.underlying40 Try.underlying5 0 0 9 Try.underlying9
  · refine run_convert_bytes_back w 40 9 5 ⟨g, 0, none⟩ cap xs Try.underlying40 Try.underlying5 Try.underlying9 (fun j hj => ?_)
    have := hc j hj
    rw [Addr.add_lit]
    simpa [List.getElem?_eq_getElem hj] using this

/-- 'string([]byte{c})': a row of one byte that has just been laid. -/
theorem run_string_of_one (w : World) (x : UInt8) (xi : Int) (hx : xi = (x.toNat : Int)) : (convert 40 9 (.slice (some ⟨w.heap.size, 0, none⟩) 1 1)).run Try.prog (w.alloc (.cells #[.int .u8 xi] 5)) = .ok (.string ⟨#[x]⟩) (w.alloc (.cells #[.int .u8 xi] 5)) := by
  subst hx
  refine run_convert_bytes_back _ 40 9 5 ⟨w.heap.size, 0, none⟩ 1 [x] Try.underlying40 Try.underlying5 Try.underlying9 (fun j hj => ?_)
  have h0 : j = 0 := by simp at hj; exact hj
  subst h0
  simp [Addr.add]

end Go.Proofs.Ytagegbhchljggaa
