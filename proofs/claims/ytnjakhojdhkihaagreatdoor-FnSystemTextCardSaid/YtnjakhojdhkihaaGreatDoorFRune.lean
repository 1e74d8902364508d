/- strings.IndexRune on the six letters, at every rune that a string gives; strings.IndexAny at short words. -/
import Derived.Test.YtnjakhojdhkihaaGreatDoorBits
import Derived.Test.YtnjakhojdhkihaaGreatDoorShelf
import Derived.Laws.RangeString
import Derived.Laws.Runes
import Derived.Laws.Strings3
import Derived.Deep.LoopGhost
import Derived.BigQuiet
import Derived.WalkMore
namespace Go.Proofs.YtnjakhojdhkihaaGreatDoor
open Go.RowKit
set_option linter.unusedVariables false
set_option linter.unusedSimpArgs false
set_option maxRecDepth 100000

def abc : ByteArray := ⟨#[97, 98, 99, 100, 101, 102]⟩
theorem decode_facts (s : ByteArray) (pos : Nat) (h : pos < s.size) : 1 ≤ (Utf8.decode s pos).2 ∧ ((Utf8.decode s pos).1 < 128 ∨ (128 ≤ (Utf8.decode s pos).1 ∧ Utf8.valid ((Utf8.decode s pos).1 : Int) = true)) := by
  have hv : Utf8.valid ((65533 : Nat) : Int) = true := by decide
  unfold Utf8.decode
  simp only [Utf8.runeError]
  split
  · rename_i h1; exact ⟨Nat.le_refl _, .inl h1⟩
  · split
    · split
      · rename_i h1 h2 h3
        refine ⟨by show 1 ≤ 2; omega, .inr ⟨h3, ?_⟩⟩
        rw [validRune_eq]
        unfold validRune
        rw [decide_eq_true_eq]
        left
        omega
      · exact ⟨by decide, .inr ⟨by decide, hv⟩⟩
    · split
      · split
        · rename_i h1 h2 h3 h4
          simp only [Bool.and_eq_true, decide_eq_true_eq] at h4
          exact ⟨by show 1 ≤ 3; omega, .inr ⟨by show 128 ≤ _; omega, h4.2⟩⟩
        · exact ⟨by decide, .inr ⟨by decide, hv⟩⟩
      · split
        · split
          · rename_i h1 h2 h3 h4 h5
            simp only [Bool.and_eq_true, decide_eq_true_eq] at h5
            exact ⟨by show 1 ≤ 4; omega, .inr ⟨by show 128 ≤ _; omega, h5.2⟩⟩
          · exact ⟨by decide, .inr ⟨by decide, hv⟩⟩
        · exact ⟨by decide, .inr ⟨by decide, hv⟩⟩
theorem run_next_any {P : Program} (w : World) (s : ByteArray) (pos : Nat) (ty : TypeId) (h : pos < s.size) :
    (Instr.next (.pointer (some ⟨w.heap.size, 0, none⟩)) true ty).run P (w.iter s pos) =
      .ok (.tuple #[.bool true, .int .i64 pos, .int .i32 (Utf8.decode s pos).1]) (w.iter s (pos + (Utf8.decode s pos).2)) := by
  simp only [Instr.next, getObj, setObj, Sem.run_bind, Sem.run, World.iter_heap, Result.andThen, h, if_true, World.iter_set]
  simp [goInt, Sem.run, World.iter_heap, World.iter_set]
theorem abc_size : abc.size = 6 := rfl
theorem abc_at (i : Nat) (h : i < abc.size) : (abc[i]'h).toNat = 97 + i := by
  have h6 : i < 6 := h
  match i, h6 with
  | 0, _ => rfl
  | 1, _ => rfl
  | 2, _ => rfl
  | 3, _ => rfl
  | 4, _ => rfl
  | 5, _ => rfl
def IdxR (w : World) (e : Ending) (w' : World) : Prop := (∃ i : Int, e = .returned (.int .i64 i)) ∧ Below w.heap.size w w'
set_option maxHeartbeats 2000000 in
theorem idxRune_bad (w : World) : Calls Tryz.prog 52 #[.string ⟨#[97, 98, 99, 100, 101, 102]⟩, .int .i32 65533] w (IdxR w) := by
  have hA : (⟨#[97, 98, 99, 100, 101, 102]⟩ : ByteArray) = abc := rfl
  rw [hA]
  clear hA
  go_enter Tryz.func52, Tryz.ntmps52
  go_wp2_with fail
  go_loopg [5, 6] 6 (fun g _ _ wx => ∃ i : Nat, i + g = 6 ∧ wx = w.iter abc i)
  case atStart => exact ⟨0, rfl, rfl⟩
  case round =>
    obtain ⟨i, hig, rfl⟩ := hrel
    cases gk with
    | zero =>
      obtain rfl : i = 6 := by omega
      have hnx := fun ty => run_next_end (P := Tryz.prog) w abc 6 ty (by rw [abc_size]; omega)
      go_wp2
      go_ret
      exact ⟨⟨_, rfl⟩, (Below.refl _ _).alloc (Nat.le_refl _) _⟩
    | succ g =>
      have hi : i < abc.size := by rw [abc_size]; omega
      have hat := abc_at i hi
      have hnx := fun ty => run_next_ascii (P := Tryz.prog) w abc i ty hi (by omega)
      rw [hat] at hnx
      have hne : ¬ (((97 + i : Nat) : Int) = 65533) := by omega
      go_wp2
      go_roundg g
      case measure => omega
      case rel => exact ⟨i + 1, by omega, rfl⟩
theorem valid_same (r : Int) : Lib.validRune r = Utf8.valid r := by
  rw [validRune_eq]
  rfl
theorem idx_none : ∀ (l : List UInt8) (c : UInt8), (∀ b ∈ l, b ≠ c) → Lib.indexByte l c = -1
  | [], _, _ => rfl
  | b :: l, c, h => by
    have h1 := idx_none l c (fun x hx => h x (by simp [hx]))
    have h2 : (b == c) = false := by simpa using h b (by simp)
    unfold Lib.indexByte
    rw [h2, h1]
    rfl
theorem quiet_plus' {P : Program} {f : FuncId} {args : Array Value} {w : World} {q n : Nat} {v : Value} (h : Calls P f args (w.drewN (q + n)) (Ret v (w.drewN (q + n)))) :
    Calls P f args (w.drewN (q + n)) (fun e w' => e = .returned v ∧ ∃ m, w' = w.drewN (q + m)) := h.mono fun e w' ⟨h1, h2⟩ => ⟨h1, n, h2.symm⟩
theorem quiet_n' {P : Program} {f : FuncId} {args : Array Value} {w : World} {n : Nat} {v : Value} (h : Calls P f args (w.drewN n) (Ret v (w.drewN n))) :
    Calls P f args (w.drewN n) (fun e w' => e = .returned v ∧ ∃ m, w' = w.drewN m) := h.mono fun e w' ⟨h1, h2⟩ => ⟨h1, n, h2.symm⟩
theorem idxB (s : ByteArray) (c : UInt8) (h : ∀ b ∈ s.data.toList, b ≠ c) (w : World) : Calls Tryz.prog 80 #[.string s, .int .u8 (c.toNat : Int)] w (Ret (.int .i64 (-1)) w) := by
  refine (Tryz.strings_IndexByte s (c.toNat : Int) w).mono ?_
  rintro e w' ⟨rfl, rfl⟩
  have hback : ((c.toNat : Int)).toNat.toUInt8 = c := by simp
  rw [hback, idx_none _ c h]
  exact ⟨rfl, rfl⟩
set_option maxHeartbeats 2000000 in
theorem idxRune_hi (r : Int) (hv : Utf8.valid r = true) (h128 : 128 ≤ r) (hne : r ≠ 65533) (w : World) : Calls Tryz.prog 52 #[.string ⟨#[97, 98, 99, 100, 101, 102]⟩, .int .i32 r] w (IdxR w) := by
  have hA : (⟨#[97, 98, 99, 100, 101, 102]⟩ : ByteArray) = abc := rfl
  rw [hA]
  clear hA
  obtain ⟨f1, f2, f3⟩ := encode_facts r hv h128
  obtain ⟨t, ht⟩ : ∃ t, Utf8.encode r = t := ⟨_, rfl⟩
  rw [ht] at f1 f2
  have f3' : ∀ h : t.size - 1 < t.size, 128 ≤ (t[t.size - 1]'h).toNat := by rw [← ht]; exact f3
  clear f3
  have hvr := valid_same r
  rw [hv] at hvr
  have hne' : ¬ (r = 65533) := hne
  have hr0 : ¬ (r < 128) := by omega
  have hr1 : (0 : Int) ≤ r := by omega
  have hl : t.size - 1 < t.size := by omega
  obtain ⟨c, hc⟩ : ∃ c, t[t.size - 1]'hl = c := ⟨_, rfl⟩
  have hc128 := f3' hl
  rw [hc] at hc128
  have hl6 : t.size - 1 < 6 := by omega
  have ha := abc_at (t.size - 1) (by rw [abc_size]; omega)
  obtain ⟨b, hb⟩ : ∃ b, abc[t.size - 1]'(by rw [abc_size]; omega) = b := ⟨_, rfl⟩
  rw [hb] at ha
  have hbc : ¬ ((b.toNat : Int) = (c.toNat : Int)) := by omega
  obtain ⟨q, hq⟩ : ∃ q, t.size - 1 = q := ⟨_, rfl⟩
  have hts : (t.size : Int) - 1 = (q : Int) := by omega
  have hq6 : q < 6 := by omega
  have hq6' : (q : Int) < (abc.size : Int) := by rw [abc_size]; omega
  have hcx : t[q]'(by omega) = c := by subst hq; exact hc
  have hbx : abc[q]'(by rw [abc_size]; omega) = b := by subst hq; exact hb
  have hqt : q < t.size := by omega
  clear hc hb hl hl6 f3' hv hne
  have HQ := Lib.hid hq
  clear hq ha
  have HIX := Lib.hid (fun wq => idxB (abc.extract (q + 1) abc.size) c (fun b hb => by
    have hm := mem_extract hb
    intro e
    rw [e] at hm
    have : ∀ x ∈ abc.data.toList, x.toNat < 128 := by decide
    have := this c hm
    omega) wq)
  go_enter Tryz.func52, Tryz.ntmps52
  go_wp2_with (go_at_call 81; refine (Tryz.utf8_ValidRune _ _).mono ?_; rintro e w' ⟨rfl, rfl⟩; rw [hvr])
  go_step3
  go_wp2_with fail
  go_loopw [9, 10, 11, 12] (fun v9 v10 v11 v12 wx => v9 = .int .i64 q ∧ wx = w') (fun _ _ _ _ _ => 0)
  case atStart => exact ⟨rfl, rfl⟩
  case round =>
    obtain ⟨rfl, rfl⟩ := hrel
    go_wp2_with fail
    go_step3
    go_wp2_with fail
    go_quiet (fail)
    rename_i nq
    go_wp2_with fail
    go_quiet ((go_at_call 80; first | exact quiet_plus' (HIX.out _) | exact quiet_n' (HIX.out _)))
    go_wp2
    go_ret
    exact ⟨⟨_, rfl⟩, rfl, rfl, rfl, Nat.le_refl _, fun _ _ => rfl⟩
theorem idxRune_any (s : ByteArray) (pos : Nat) (h : pos < s.size) (w : World) : Calls Tryz.prog 52 #[.string ⟨#[97, 98, 99, 100, 101, 102]⟩, .int .i32 (Utf8.decode s pos).1] w (IdxR w) := by
  obtain ⟨-, h1 | ⟨h1, h2⟩⟩ := decode_facts s pos h
  · refine (Tryz.strings_IndexRune_ascii _ _ w (by omega) (by omega)).mono ?_
    rintro e w' ⟨rfl, rfl⟩
    exact ⟨⟨_, rfl⟩, Below.refl _ _⟩
  · by_cases h3 : (Utf8.decode s pos).1 = 65533
    · rw [h3]; exact idxRune_bad w
    · exact idxRune_hi _ h2 (by omega) (by omega) w
def setIter (w : World) (b : Nat) (s : ByteArray) (i : Nat) : World := { w with heap := w.heap.setIfInBounds b (.stringIter s i) }
theorem run_next_at {P : Program} {w : World} {b : Nat} {s : ByteArray} {pos : Nat} (hw : w.heap[b]? = some (.stringIter s pos)) (ty : TypeId) (h : pos < s.size) :
    (Instr.next (.pointer (some ⟨b, 0, none⟩)) true ty).run P w =
      .ok (.tuple #[.bool true, .int .i64 pos, .int .i32 (Utf8.decode s pos).1]) (setIter w b s (pos + (Utf8.decode s pos).2)) := by
  simp only [Instr.next, getObj, setObj, Sem.run_bind, Sem.run, hw, Result.andThen, h, if_true]
  simp [goInt, Sem.run, setIter]
theorem run_next_stop {P : Program} {w : World} {b : Nat} {s : ByteArray} {pos : Nat} (hw : w.heap[b]? = some (.stringIter s pos)) (ty : TypeId) (h : ¬ pos < s.size) :
    (Instr.next (.pointer (some ⟨b, 0, none⟩)) true ty).run P w = .ok (.tuple #[.bool false]) w := by
  simp [Instr.next, getObj, Sem.run, hw, h]
theorem setIter_at {w : World} {b : Nat} {s : ByteArray} {i : Nat} (h : b < w.heap.size) : (setIter w b s i).heap[b]? = some (.stringIter s i) ∧ (setIter w b s i).heap.size = w.heap.size := by
  unfold setIter
  refine ⟨?_, by simp⟩
  simp [h]
theorem setIter_below {w0 w : World} {b : Nat} {s : ByteArray} {i : Nat} (h : Below w0.heap.size w0 w) (hb : w0.heap.size ≤ b) : Below w0.heap.size w0 (setIter w b s i) := by
  refine ⟨h.os, h.tape, h.output, by unfold setIter; simpa using h.size, fun k hk => ?_⟩
  have : (setIter w b s i).heap[k]? = w.heap[k]? := by
    unfold setIter
    simp only [Array.getElem?_setIfInBounds]
    rw [if_neg (by omega)]
  rw [this]
  exact h.block k hk
/-- Where a letter lies in a word, or -1. -/
def IdxA (n : Nat) (w : World) (e : Ending) (w' : World) : Prop := (∃ i : Int, e = .returned (.int .i64 i) ∧ -1 ≤ i ∧ i < n) ∧ Below w.heap.size w w'
set_option maxHeartbeats 2000000 in
theorem idxAny_short (s : ByteArray) (h8 : s.size ≤ 8) (w : World) : Calls Tryz.prog 24 #[.string s, .string ⟨#[97, 98, 99, 100, 101, 102]⟩] w (IdxA s.size w) := by
  have h8z : decide ((8 : Int) < (s.size : Int)) = false := decide_eq_false (by omega)
  have hit := World.iter_heap w s 0
  have hib : Below w.heap.size w (w.iter s 0) := (Below.refl _ _).alloc (Nat.le_refl _) _
  obtain ⟨b, hb⟩ : ∃ b, w.heap.size = b := ⟨_, rfl⟩
  obtain ⟨w0, hw0⟩ : ∃ w0, w.iter s 0 = w0 := ⟨_, rfl⟩
  have hwb : w.heap.size ≤ b := by omega
  rw [hb, hw0] at hit
  rw [hw0] at hib
  have HIT := Lib.hid hit
  have HIB := Lib.hid hib
  clear hit hib
  go_enter Tryz.func24, Tryz.ntmps24
  go_wp2_with (go_at_call 53; refine (Tryz.strings_shouldUseASCIISet _ _).mono ?_; rintro e w' ⟨rfl, rfl⟩; rw [h8z])
  go_loopg [9, 10] s.size (fun g _ _ wx => ∃ i : Nat, s.size ≤ i + g ∧ Hid (wx.heap[b]? = some (.stringIter s i)) ∧ Hid (Below w'.heap.size w' wx))
  case atStart => exact ⟨0, by omega, HIT, HIB⟩
  case round =>
    obtain ⟨i, hig, HI, HBW⟩ := hrel
    by_cases hi : i < s.size
    · have hnx := fun ty => run_next_at (P := Tryz.prog) HI.out ty hi
      have HIR := Lib.hid (fun wq => idxRune_any s i hi wq)
      have hd1 := (decode_facts s i hi).1
      obtain ⟨r, hr⟩ : ∃ r, (Utf8.decode s i).1 = r := ⟨_, rfl⟩
      obtain ⟨d, hd⟩ : ∃ d, (Utf8.decode s i).2 = d := ⟨_, rfl⟩
      rw [hr, hd] at hnx
      rw [hr] at HIR
      rw [hd] at hd1
      have hbl : b < wr.heap.size := (Array.getElem?_eq_some_iff.1 HI.out).1
      have HS := Lib.hid (setIter_at (s := s) (i := i + d) hbl)
      have HSB := Lib.hid (setIter_below (s := s) (i := i + d) HBW.out hwb)
      obtain ⟨w1, hw1⟩ : ∃ w1, setIter wr b s (i + d) = w1 := ⟨_, rfl⟩
      rw [hw1] at hnx HS HSB
      clear hr hd hw1
      go_wp2_with fail
      refine (HIR.out _).mono ?_
      rintro e w5 ⟨⟨q, rfl⟩, hb5⟩
      have HI5 := Lib.hid ((hb5.block b (by rw [HS.out.2]; exact hbl)).trans HS.out.1)
      have HB5 := Lib.hid (HSB.out.trans (hb5.mono HSB.out.size))
      clear hb5
      by_cases hq : 0 ≤ q
      · go_wp2
        go_ret
        exact ⟨⟨_, rfl, by omega, by omega⟩, HB5.out⟩
      · go_wp2
        go_roundg (gk - 1)
        case measure => omega
        case rel => exact ⟨i + d, by omega, HI5, HB5⟩
    · have hnx := fun ty => run_next_stop (P := Tryz.prog) HI.out ty hi
      go_wp2
      go_ret
      exact ⟨⟨_, rfl, by omega, by omega⟩, HBW.out⟩
end Go.Proofs.YtnjakhojdhkihaaGreatDoor
