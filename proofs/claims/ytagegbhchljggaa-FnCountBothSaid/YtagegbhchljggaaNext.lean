/- NextWord on both sides. -/
import Derived.Test.YtagegbhchljggaaBefore
import Derived.Test.YtagegbhchljggaaOrder
import Derived.Deep.QuietTactic
import Derived.BigQuiet
import Derived.Deep.RegionWith
namespace Go.Proofs.Ytagegbhchljggaa
open Go.RowKit
set_option linter.unusedVariables false
set_option linter.unusedSimpArgs false
set_option maxRecDepth 100000

theorem quiet_ret {P : Program} {f : FuncId} {args : Array Value} {w : World} {n : Nat} {v : Value} (h : Calls P f args (w.drewN n) (Ret v (w.drewN n))) :
    Calls P f args (w.drewN n) fun e w'' => e = .returned v ∧ ∃ m, w'' = w.drewN m := h.mono fun _ _ ⟨he, hm⟩ => ⟨he, n, hm.symm⟩

/-- A row of bytes that a conversion has laid: its cells read, and may be written. -/
def CRow (B : Nat) (w : World) (g n cap : Nat) (xs : List UInt8) : Prop :=
  xs.length = n ∧ B ≤ g ∧ n ≤ cap ∧ cap ≤ maxLen ∧ g < w.heap.size ∧ (∀ j, j < n → w.cell? ⟨g, j, none⟩ = some (.int .u8 ((xs[j]?.getD 0).toNat : Int))) ∧ (∀ j, j < cap → (w.cell? ⟨g, j, none⟩).isSome = true ∧ w.frozen? ⟨g, j, none⟩ = false)

theorem conv_bytes (s : ByteArray) (w : World) (hs : s.size ≤ maxLen) : ∃ cap wc, (convert 9 40 (.string s)).run Try.prog w = .ok (.slice (some ⟨w.heap.size, 0, none⟩) s.size cap) wc ∧
    CRow w.heap.size wc w.heap.size s.size cap s.data.toList ∧ Below w.heap.size w wc := by
  have hrun := run_bytes_of_string (P := Try.prog) w 9 40 5 s Try.underlying9 Try.underlying40 Try.underlying5
  have hge := grownCap_ge w s.size 0 5
  have hle := grownCap_le_maxLen w s.size 0 5 hs
  generalize grownCap w s.size 0 5 = cap at *
  have hsz : (bytesRow s cap).size = cap := by
    have : s.data.size = s.size := rfl
    simp [bytesRow, this]; omega
  refine ⟨cap, _, hrun, ⟨rfl, Nat.le_refl _, hge, hle, by simp, fun j hj => ?_, fun j hj => ⟨?_, ?_⟩⟩, ((Below.refl _ _).drew).alloc (by simp) _⟩
  · have h1 := World.cell?_alloc_mark w.drew (bytesRow s cap) 5 ((bytesRow s cap).size, (bytesRow s cap).size + 1) j
    have h2 := bytesRow_at s cap j hj
    rw [show (w.heap.size) = w.drew.heap.size from rfl, h1, h2]
    have h3 : s.data.toList[j]? = some s.data[j] := by rw [Array.getElem?_toList, Array.getElem?_eq_getElem hj]
    rw [h3]; rfl
  · have h1 := World.cell?_alloc_mark w.drew (bytesRow s cap) 5 ((bytesRow s cap).size, (bytesRow s cap).size + 1) j
    rw [show (w.heap.size) = w.drew.heap.size from rfl, h1, Array.getElem?_eq_getElem (by omega)]; rfl
  · have h1 := World.frozen?_alloc_mark w.drew (bytesRow s cap) 5 (bytesRow s cap).size ((bytesRow s cap).size + 1) j
    rw [show (w.heap.size) = w.drew.heap.size from rfl, h1, hsz]
    have : ¬ cap ≤ j := by omega
    simp [this]

theorem CRow.stored {B : Nat} {w : World} {g n cap : Nat} {xs : List UInt8} (h : CRow B w g n cap xs) (j : Nat) (hj : j < n) (c : UInt8) (u : Int) (hu : u = (c.toNat : Int)) :
    CRow B (w.setCell ⟨g, j, none⟩ (.int .u8 u)) g n cap (xs.set j c) ∧ w.grownBy (w.setCell ⟨g, j, none⟩ (.int .u8 u)) (some g) := by
  subst hu
  obtain ⟨h1, h2, h3, h4, h5, h6, h7⟩ := h
  refine ⟨⟨by simpa using h1, h2, h3, h4, by simpa using h5, fun i hi => ?_, fun i hi => ⟨?_, ?_⟩⟩, ⟨rfl, rfl, rfl, by simp, fun k _ hk => heap_setCell_other w ⟨g, j, none⟩ k _ (fun e => hk (by simp [e]))⟩⟩
  · by_cases hij : j = i
    · subst hij
      rw [World.cell?_setCell_same w _ _ (h6 j hi), List.getElem?_set_self (by omega)]; rfl
    · rw [World.cell?_setCell_other w _ _ _ (by intro e; injection e with _ h; exact hij h), h6 i hi, List.getElem?_set_ne hij]
  · by_cases hij : j = i
    · subst hij
      rw [World.cell?_setCell_same' _ _ _ (h7 j hi).1]; rfl
    · rw [World.cell?_setCell_other w _ _ _ (by intro e; injection e with _ h; exact hij h)]; exact (h7 i hi).1
  · rw [World.frozen?_setCell]; exact (h7 i hi).2

theorem CRow.string {B : Nat} {w : World} {g n cap : Nat} {xs : List UInt8} (h : CRow B w g n cap xs) : (convert 40 9 (.slice (some ⟨g, 0, none⟩) n cap)).run Try.prog w = .ok (.string ⟨xs.toArray⟩) w := by
  obtain ⟨rfl, h2, h3, h4, h5, h6, h7⟩ := h
  refine run_convert_bytes_back w 40 9 5 ⟨g, 0, none⟩ cap xs Try.underlying40 Try.underlying5 Try.underlying9 (fun j hj => ?_)
  have := h6 j hj
  rw [Addr.add_lit]
  simpa [List.getElem?_eq_getElem hj] using this

theorem CRow.below {B : Nat} {w w' : World} {g n cap : Nat} {xs : List UInt8} (h : CRow B w g n cap xs) (hb : Below w.heap.size w w') : CRow B w' g n cap xs := by
  obtain ⟨h1, h2, h3, h4, h5, h6, h7⟩ := h
  refine ⟨h1, h2, h3, h4, Nat.lt_of_lt_of_le h5 hb.size, fun j hj => ?_, fun j hj => ⟨?_, ?_⟩⟩
  · rw [hb.cell (p := ⟨g, j, none⟩) h5]; exact h6 j hj
  · rw [hb.cell (p := ⟨g, j, none⟩) h5]; exact (h7 j hj).1
  · rw [hb.frozen (p := ⟨g, j, none⟩) h5]; exact (h7 j hj).2

/-- An append of one byte onto such a row: what the conversion back gives. -/
theorem app_conv {P : Program} {ops : Array Oper} {rest : List Oper} {o : Oper} {a : Act} {Q : Exit → Act → World → Prop} (wr : World) (x : UInt8) (xi : Int) (hx : xi = (x.toNat : Int)) (B : Nat) (hP : P = Try.prog) (hg : o.guard = none) (s y : Operand)
    (ho : o.op = .call { callee := .builtin .append, args := #[s, y], argTypes := #[40, 40] }) (g n cap : Nat) (xs : List UInt8) (hs : a.eval s = .slice (some ⟨g, 0, none⟩) n cap) (hown : CRow B wr g n cap xs)
    (hy : a.eval y = .slice (some ⟨wr.heap.size, 0, none⟩) 1 1) (hb : n + 1 ≤ 140737488355328) (hB : B ≤ wr.heap.size)
    (h : ∀ ao n' cap' w1, (convert 40 9 (.slice ao n' cap')).run Try.prog w1 = .ok (.string ⟨(xs ++ [x]).toArray⟩) w1 → (∀ w0, Below B w0 wr → Below B w0 w1) → wpList P ops Q rest (a.put o.dst (.slice ao n' cap')) w1) :
    wpList P ops Q (o :: rest) a (wr.alloc (.cells #[.int .u8 xi] 5)) := by
  subst hP
  subst hx
  obtain ⟨i0, hi, hz0, hz1, hz2⟩ := info_parts Try.infoByte
  have hB2 : Below wr.heap.size wr (wr.alloc (.cells #[.int .u8 (x.toNat : Int)] 5)) := (Below.refl _ _).alloc (Nat.le_refl _) _
  have hrow := hown.below hB2
  obtain ⟨h1, h2, h3, h4, h5, h6, h7⟩ := hrow
  refine wpList_append_arg _ hg s y 40 ho 5 i0 (.int .u8 0) 1 1 Try.underlying40 hi hz0 hz1 hz2 rfl (by decide) g 0 n cap (xs.map (fun c => Value.int .u8 (c.toNat : Int))) hs (by simpa using h1) (fun j u hj => ?_) ⟨wr.heap.size, 0, none⟩ 1 1 [.int .u8 (x.toNat : Int)] hy rfl (cell_one_new _ _ _) (by intro u hu; simp at hu; subst hu; rfl)
    (fun hr j hj => ?_) (by unfold maxLen; omega) (by omega) (fun hr => ?_) (fun hr v' w' hown' hgr => ?_)
  · have hjl : j < xs.length := by have := (List.getElem?_eq_some_iff.1 hj).1; simpa using this
    rw [Nat.zero_add, h6 j (by omega)]
    simp [List.getElem?_eq_getElem hjl] at hj
    subst hj
    simp [List.getElem?_eq_getElem hjl]
  · have hj0 : j = 0 := by simp at hj; exact hj
    subst hj0
    have := h7 n (by omega)
    simpa using this
  · have hc : CRow B ((wr.alloc (.cells #[.int .u8 (x.toNat : Int)] 5)).setCells g (0 + n * 1) [.int .u8 (x.toNat : Int)]) g (n + 1) cap (xs ++ [x]) := by
      refine ⟨by simp [h1], h2, hr, h4, by simpa [World.setCells] using h5, fun j hj => ?_, fun j hj => ⟨?_, ?_⟩⟩
      · by_cases hjn : j = n
        · subst hjn
          have := World.cell?_setCells_in g [.int .u8 (x.toNat : Int)] (0 + j * 1) (wr.alloc (.cells #[.int .u8 (x.toNat : Int)] 5)) (fun i hi => by
            have hi0 : i = 0 := by simp at hi; exact hi
            subst hi0
            have := (h7 j (by omega)).1
            simpa using this) 0 (by simp)
          simp only [Nat.zero_add, Nat.mul_one, Nat.add_zero, List.getElem_cons_zero] at this
          rw [Nat.zero_add, Nat.mul_one, this]
          simp [← h1]
        · rw [World.cell?_setCells_out g _ _ _ _ (fun _ _ => by simp; omega), h6 j (by omega), List.getElem?_append_left (by omega)]
      · by_cases hjn : j = n
        · subst hjn
          have := World.cell?_setCells_in g [.int .u8 (x.toNat : Int)] (0 + j * 1) (wr.alloc (.cells #[.int .u8 (x.toNat : Int)] 5)) (fun i hi => by
            have hi0 : i = 0 := by simp at hi; exact hi
            subst hi0
            have := (h7 j (by omega)).1
            simpa using this) 0 (by simp)
          simp only [Nat.zero_add, Nat.mul_one, Nat.add_zero, List.getElem_cons_zero] at this
          rw [Nat.zero_add, Nat.mul_one, this]; rfl
        · rw [World.cell?_setCells_out g _ _ _ _ (fun _ _ => by simp; omega)]; exact (h7 j hj).1
      · rw [World.frozen?_setCells]; exact (h7 j hj).2
    refine h _ _ _ _ hc.string (fun w0 h0 => ?_)
    have hb0 := h0.alloc hB (.cells #[.int .u8 (x.toNat : Int)] 5)
    simp only [World.setCells]
    exact hb0.setCell h2 _
  · have hbr : BRow wr.heap.size w' v' (xs ++ [x]) := by
      unfold BRow
      have hh := ownsRow_base hown' (base' := wr.heap.size) (by simp)
      simpa [h1] using hh
    have hcv := run_string_of_row hbr
    rcases hown'.2 with ⟨rfl, h0⟩ | ⟨g', cap', cur, rfl, _⟩
    · omega
    · refine h _ _ _ _ hcv (fun w0 h0 => ?_)
      exact (h0.alloc hB _).grown hgr (by simp; omega) (by intro k hk; cases hk)

theorem sum_bd {s r2 : ByteArray} {x : UInt8} {xs : List UInt8} (h : r2.data.toList = [x]) (h2 : xs.length = s.data.toList.length) (h3 : s.size ≤ 50000) : (r2.size : Int) + (xs.length : Int) ≤ 9223372036854775807 := by
  have := size_of h
  rw [data_len] at h2
  simp at this
  omega

def NxtRel (a : Int) (l : List UInt8) (B n cap : Nat) (wb : World) (i : Value) (wr : World) : Prop :=
  ∃ (k : Nat) (xs : List UInt8), k ≤ n ∧ i = .int .i64 ((n : Int) - 1 - (k : Int)) ∧ CRow B wr B n cap xs ∧ NState a l k xs ∧ Below B wb wr

theorem CRow.kept {B : Nat} {w w' wb : World} {g : Nat} (hg : w.grownBy w' (some g)) (hb : Below B wb w) (hB : B ≤ g) (hs : B ≤ w.heap.size) : Below B wb w' :=
  hb.grown hg hs (fun k hk => by injection hk with hk; omega)

theorem nextW_no (a : Int) (l : List UInt8) (h : ¬ (within l a = true ∧ a ≠ 0)) : nextW a l = none := by
  unfold nextW; rw [if_neg (fun hh => h ⟨hh.1, hh.2.1⟩)]

end Go.Proofs.Ytagegbhchljggaa
