/- The library's functions that ParseSystem of the program calls: what they give back. -/
import Derived.Test.YtnjakhojdhkihaaGreatDoorFRune
import Derived.Test.YtnjakhojdhkihaaGreatDoorFCut
namespace Go.Proofs.YtnjakhojdhkihaaGreatDoor
open Go.RowKit
set_option linter.unusedVariables false
set_option linter.unusedSimpArgs false
set_option maxRecDepth 100000

theorem index_sp : ∀ {p : List UInt8} (r : List UInt8), noSp p → Lib.index (p ++ 32 :: r) [32] = (p.length : Int)
  | [], r, _ => by rw [List.nil_append, Lib.index]; simp [List.isPrefixOf]
  | b :: p, r, h => by
    have h1 : b ≠ 32 := h b (by simp)
    have h2 := index_sp (p := p) r (fun x hx => h x (by simp [hx]))
    have hp : ([32] : List UInt8).isPrefixOf (b :: (p ++ 32 :: r)) = false := by simp [List.isPrefixOf, Ne.symm h1]
    rw [List.cons_append, Lib.index, hp, h2]
    have : ¬ ((p.length : Int) == -1) = true := by simp
    simp only [this, if_false, Bool.false_eq_true]
    simp
theorem index_nosp : ∀ {p : List UInt8}, noSp p → Lib.index p [32] = -1
  | [], _ => by simp [Lib.index]
  | b :: p, h => by
    have h1 : b ≠ 32 := h b (by simp)
    have h2 := index_nosp (p := p) (fun x hx => h x (by simp [hx]))
    have hp : ([32] : List UInt8).isPrefixOf (b :: p) = false := by simp [List.isPrefixOf, Ne.symm h1]
    rw [Lib.index, hp, h2]
    simp
theorem sp_cases (l : List UInt8) : noSp l ∨ ∃ p r, l = p ++ 32 :: r ∧ noSp p := by
  induction l with
  | nil => left; intro b hb; cases hb
  | cons b l ih =>
    by_cases h : b = 32
    · subst h; right; exact ⟨[], l, rfl, by intro b hb; cases hb⟩
    · rcases ih with ih | ⟨p, r, rfl, hp⟩
      · left
        intro x hx
        rcases List.mem_cons.1 hx with rfl | hx
        · exact h
        · exact ih x hx
      · right
        refine ⟨b :: p, r, rfl, ?_⟩
        intro x hx
        rcases List.mem_cons.1 hx with rfl | hx
        · exact h
        · exact hp x hx
theorem split_cut : ∀ (n : Nat) (l : List UInt8), l.length ≤ n → Lib.splitK [32] 0 (l.count 32) l = cutL l := by
  intro n
  induction n with
  | zero =>
    intro l hl
    obtain rfl : l = [] := List.eq_nil_of_length_eq_zero (by omega)
    rfl
  | succ n ih =>
    intro l hl
    rcases sp_cases l with h | ⟨p, r, rfl, hp⟩
    · have h0 : l.count 32 = 0 := List.count_eq_zero.2 (fun hm => h 32 hm rfl)
      rw [h0, cutL_no h]
      rfl
    · have h0 : p.count 32 = 0 := List.count_eq_zero.2 (fun hm => hp 32 hm rfl)
      have hc : (p ++ 32 :: r).count 32 = r.count 32 + 1 := by rw [List.count_append, h0, List.count_cons_self]; omega
      have hr : r.length ≤ n := by simp at hl; omega
      rw [hc, cutL_app _ hp, ← ih r hr]
      rw [show ∀ (k : Nat) (s : List UInt8), Lib.splitK [32] 0 (k + 1) s = if Lib.index s [32] == -1 then [s] else s.take ((Lib.index s [32]).toNat + 0) :: Lib.splitK [32] 0 k (s.drop ((Lib.index s [32]).toNat + ([32] : List UInt8).length)) from fun _ _ => rfl]
      rw [index_sp r hp]
      have hm : ¬ ((p.length : Int) == -1) = true := by simp
      rw [if_neg hm]
      congr 1
      · simp
      · have hd : (p ++ 32 :: r).drop ((p.length : Int).toNat + ([32] : List UInt8).length) = r := by
          rw [show (p.length : Int).toNat + ([32] : List UInt8).length = p.length + 1 from rfl, List.drop_append, List.drop_of_length_le (by omega)]
          simp
        rw [hd]
/-- What the library's own variables hold: a number, and errors. -/
def Vars (w : World) : Prop := (∃ m, w.cell? ⟨2, 0, none⟩ = some (.int .i64 m)) ∧
  (∃ ev, w.cell? ⟨0, 0, none⟩ = some ev ∧ (ev = .nilIface ∨ ∃ te pe, ev = .iface te pe)) ∧ (∃ ev, w.cell? ⟨1, 0, none⟩ = some ev ∧ (ev = .nilIface ∨ ∃ te pe, ev = .iface te pe))
theorem Vars.below {w w' : World} (h : Vars w) (hb : Below w.heap.size w w') : Vars w' := by
  obtain ⟨⟨m, h1⟩, ⟨e1, h2, h3⟩, e2, h4, h5⟩ := h
  exact ⟨⟨m, keep_cell hb h1⟩, ⟨e1, keep_cell hb h2, h3⟩, e2, keep_cell hb h4, h5⟩
def SplitRes (s : ByteArray) (w : World) (e : Ending) (w' : World) : Prop :=
  ∃ ss : List ByteArray, e = .returned (.slice (some ⟨w.heap.size, 0, none⟩) ss.length ss.length) ∧ ss.map (·.data.toList) = cutL s.data.toList ∧ w' = w.alloc (.cells (ss.map Value.string).toArray 9)
theorem split_tx (s : ByteArray) (hs : s.size ≤ 2000000) (w : World) (hv : Vars w) : Calls Tryz.prog 21 #[.string s, .string ⟨#[32]⟩] w (SplitRes s w) := by
  obtain ⟨⟨m, hm⟩, -⟩ := hv
  refine (Tryz.strings_Split s ⟨#[32]⟩ m w (by omega) hm (by decide)).mono ?_
  rintro e w' ⟨rfl, rfl⟩
  have hl := Lib.splitB_all ⟨#[32]⟩ (by decide) 0 _ s rfl
  refine ⟨Lib.splitB ⟨#[32]⟩ 0 (Lib.countB s ⟨#[32]⟩) s, by rw [hl], ?_, rfl⟩
  rw [Lib.splitB_data]
  have hc : Lib.countB s ⟨#[32]⟩ = s.data.toList.count 32 := by
    rw [← Lib.count_one]
  rw [hc]
  exact split_cut _ _ (Nat.le_refl _)
/-- A number and an error, if any. -/
def AtoiRes (w : World) (e : Ending) (w' : World) : Prop := ∃ (v : Int) (ev : Value), e = .returned (.tuple #[.int .i64 v, ev]) ∧ (ev = .nilIface ∨ ∃ te pe, ev = .iface te pe) ∧ Below w.heap.size w w'
theorem atoi_any (s : ByteArray) (hs : s.size ≤ 2000000) (w : World) (hv : Vars w) : Calls Tryz.prog 23 #[.string s] w (AtoiRes w) := by
  obtain ⟨-, ⟨e1, h2, h3⟩, e2, h4, h5⟩ := hv
  cases h : Lib.atoiAll s.data.toList with
  | ok v =>
    refine (Tryz.strconv_Atoi_ok s (by omega) v h w).mono ?_
    rintro e w' ⟨rfl, hw⟩
    refine ⟨_, _, rfl, .inl rfl, ?_⟩
    rcases hw with rfl | ⟨t, rfl⟩
    · exact Below.refl _ _
    · exact Lib.bytesWorld_below _ _ _
  | «syntax» =>
    refine (Tryz.strconv_Atoi_syntax s (by omega) h e1 w h2 h3).mono ?_
    rintro e w' ⟨N, rfl, -, -, hb⟩
    exact ⟨_, _, rfl, .inr ⟨_, _, rfl⟩, hb⟩
  | range =>
    refine (Tryz.strconv_Atoi_range s (by omega) h e2 w h4 h5).mono ?_
    rintro e w' ⟨N, rfl, -, -, hb⟩
    exact ⟨_, _, rfl, .inr ⟨_, _, rfl⟩, hb⟩
def AtoiIs (n : Int) (w : World) (e : Ending) (w' : World) : Prop := e = .returned (.tuple #[.int .i64 n, .nilIface]) ∧ Below w.heap.size w w'
theorem atoi_tx (n : Nat) (hn : n < 100) (s : ByteArray) (hs : s.data.toList = dg n) (w : World) : Calls Tryz.prog 23 #[.string s] w (AtoiIs n w) := by
  have hz : s.size ≤ 2 := by have := dg_len hn; rw [size_of hs]; omega
  refine (Tryz.strconv_Atoi_ok s (by omega) n (by rw [hs]; exact atoi_dg hn) w).mono ?_
  rintro e w' ⟨rfl, hw⟩
  refine ⟨rfl, ?_⟩
  rcases hw with rfl | ⟨t, rfl⟩
  · exact Below.refl _ _
  · exact Lib.bytesWorld_below _ _ _
theorem indexAny_lt (cs : List UInt8) : ∀ l : List UInt8, Lib.indexAny l cs < l.length
  | [] => by simp [Lib.indexAny]
  | b :: l => by
    have ih := indexAny_lt cs l
    unfold Lib.indexAny
    split
    · simp <;> omega
    · split
      · simp <;> omega
      · simp <;> omega
theorem idxAny_any (s : ByteArray) (hs : s.size ≤ 2000000) (w : World) : Calls Tryz.prog 24 #[.string s, .string ⟨#[97, 98, 99, 100, 101, 102]⟩] w (IdxA s.size w) := by
  by_cases h8 : s.size ≤ 8
  · exact idxAny_short s h8 w
  · refine (Tryz.strings_IndexAny_long (zero_of_info (n := 256) (by kernel_rfl)).1 s ⟨#[97, 98, 99, 100, 101, 102]⟩ w (by decide) (by omega) (by omega) (by decide) ?_).mono ?_
    · intro j b hb
      have hm : b ∈ ([97, 98, 99, 100, 101, 102] : List UInt8) := List.mem_of_getElem? hb
      have : ∀ b ∈ ([97, 98, 99, 100, 101, 102] : List UInt8), b.toNat < 128 := by decide
      exact this b hm
    · rintro e w' ⟨rfl, rfl⟩
      refine ⟨⟨_, rfl, Lib.indexAny_ge _ _, ?_⟩, ((Below.refl _ _).alloc (Nat.le_refl _) _).alloc (by simp) _⟩
      have := indexAny_lt [97, 98, 99, 100, 101, 102] s.data.toList
      rw [data_len] at this
      exact this
theorem abc_mem (b : UInt8) : ([97, 98, 99, 100, 101, 102] : List UInt8).contains b = decide (97 ≤ b.toNat ∧ b.toNat < 103) := by
  have key : ∀ n : Fin 256, ([97, 98, 99, 100, 101, 102] : List UInt8).contains (UInt8.ofNat n.val) = decide (97 ≤ n.val ∧ n.val < 103) := by decide +kernel
  have := key ⟨b.toNat, b.toNat_lt⟩
  simpa using this
def IdxIs (n : Int) (w : World) (e : Ending) (w' : World) : Prop := e = .returned (.int .i64 n) ∧ Below w.heap.size w w'
theorem idxAny_edge (f t : Nat) (l : Int) (hf : f < 100) (ht : t < 100) (h0 : 0 ≤ l) (h1 : l < 6) (s : ByteArray) (hs : s.data.toList = edgT ((f : Int), l, (t : Int))) (w : World) :
    Calls Tryz.prog 24 #[.string s, .string ⟨#[97, 98, 99, 100, 101, 102]⟩] w (IdxIs ((dg f).length : Nat) w) := by
  have hl : (edgT ((f : Int), l, (t : Int))) = dg f ++ lb l :: dg t := by simp [edgT]
  have hz : s.size ≤ 5 := by
    have a := dg_len hf
    have b := dg_len ht
    rw [size_of hs, hl]
    simp only [List.length_append, List.length_cons]
    omega
  have hlb := lb_ge l h0 h1
  refine (Tryz.strings_IndexAny_laid s ⟨#[97, 98, 99, 100, 101, 102]⟩ w (by omega) (by decide) ?_ ?_).mono ?_
  · intro j b hb
    have hm : b ∈ s.data.toList := List.mem_of_getElem? hb
    rw [hs, hl] at hm
    rcases List.mem_append.1 hm with hm | hm
    · have := dg_digit hf b hm; omega
    · rcases List.mem_cons.1 hm with rfl | hm
      · omega
      · have := dg_digit ht b hm; omega
  · intro j b hb
    have hm : b ∈ ([97, 98, 99, 100, 101, 102] : List UInt8) := List.mem_of_getElem? hb
    have : ∀ b ∈ ([97, 98, 99, 100, 101, 102] : List UInt8), b.toNat < 128 := by decide
    exact this b hm
  · rintro e w' ⟨rfl, hb⟩
    have hix : Lib.indexAny s.data.toList [97, 98, 99, 100, 101, 102] = ((dg f).length : Nat) := by
      refine Lib.indexAny_hit (i := (dg f).length) (x := lb l) (fun j b hj hb => ?_) ?_ ?_
      · rw [hs, hl, List.getElem?_append_left hj] at hb
        have hm := List.mem_of_getElem? hb
        have := dg_digit hf b hm
        rw [abc_mem]
        simp
        omega
      · rw [hs, hl, List.getElem?_append_right (Nat.le_refl _)]
        simp
      · rw [abc_mem]
        simp
        omega
    exact ⟨by rw [← hix], hb⟩
end Go.Proofs.YtnjakhojdhkihaaGreatDoor
