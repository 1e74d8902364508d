/- The text of a system, in plain Lean: what both sides write, and that it is read back. -/
import Derived.Test.YtnjakhojdhkihaaGreatDoorSysPlain
import Derived.Lib.ItoaNum
import Derived.Lib.Join
import Derived.Lib.SplitLaws
import Derived.Lib.IndexAny
import Derived.Lib.AtoiAll
namespace Go.Proofs.YtnjakhojdhkihaaGreatDoor
open Go.RowKit
set_option linter.unusedVariables false
set_option linter.unusedSimpArgs false

abbrev dg (n : Nat) : List UInt8 := Lib.decDigits n
theorem dg_one {n : Nat} (h : n < 10) : dg n = [UInt8.ofNat (48 + n)] := Lib.decDigits_one h
theorem dg_two {n : Nat} (h : ¬ n < 10) (h2 : n < 100) : dg n = [UInt8.ofNat (48 + n / 10), UInt8.ofNat (48 + n % 10)] := Lib.decDigits_two h h2
theorem dg_len {n : Nat} (h : n < 100) : (dg n).length = 1 ∨ (dg n).length = 2 := by
  by_cases h1 : n < 10
  · left; rw [dg_one h1]; rfl
  · right; rw [dg_two h1 h]; rfl
theorem dgb (d : Nat) (h : d < 10) : (UInt8.ofNat (48 + d)).toNat = 48 + d := by
  rw [UInt8.toNat_ofNat']; omega
/-- Each byte of a numeral is a digit. -/
theorem dg_digit {n : Nat} (h : n < 100) : ∀ b ∈ dg n, 48 ≤ b.toNat ∧ b.toNat < 58 := by
  intro b hb
  by_cases h1 : n < 10
  · rw [dg_one h1] at hb
    have : b = UInt8.ofNat (48 + n) := by simpa using hb
    rw [this, dgb n h1]; omega
  · rw [dg_two h1 h] at hb
    have : b = UInt8.ofNat (48 + n / 10) ∨ b = UInt8.ofNat (48 + n % 10) := by simpa using hb
    rcases this with h2 | h2
    · rw [h2, dgb _ (by omega)]; omega
    · rw [h2, dgb _ (by omega)]; omega
/-- The text of an edge. -/
def edgT (e : Edg) : List UInt8 := dg e.1.toNat ++ [lb e.2.1] ++ dg e.2.2.toNat
def sysParts (al st : Int) (es : List Edg) : List (List UInt8) := fmtA al :: dg st.toNat :: es.map edgT
/-- The text of a valid system. -/
def sysT (al st : Int) (es : List Edg) : List UInt8 := Lib.join (sysParts al st es) [32]
/-- What FormatSystem writes. -/
def fmtS (al st : Int) (es : List Edg) : List UInt8 := if sysV al st es = true then sysT al st es else []
theorem join_snoc (x : List UInt8) (r : List (List UInt8)) (y : List UInt8) : Lib.join (x :: r ++ [y]) [32] = Lib.join (x :: r) [32] ++ [32] ++ y := by
  rw [List.cons_append, Lib.join_cons, Lib.join_cons]
  simp [Lib.joinTail, List.map_append, List.flatten_append]
theorem sysT_snoc (al st : Int) (es : List Edg) (e : Edg) : sysT al st (es ++ [e]) = sysT al st es ++ [32] ++ edgT e := by
  unfold sysT sysParts
  rw [List.map_append]
  exact join_snoc (fmtA al) (dg st.toNat :: es.map edgT) (edgT e)
theorem sysT_nil (al st : Int) : sysT al st [] = fmtA al ++ [32] ++ dg st.toNat := by
  unfold sysT sysParts
  rw [Lib.join_cons]; simp [Lib.joinTail]
theorem edgT_len {e : Edg} (h1 : e.1 < 16) (h2 : e.2.2 < 16) : (edgT e).length ≤ 5 := by
  have a := dg_len (n := e.1.toNat) (by omega)
  have b := dg_len (n := e.2.2.toNat) (by omega)
  simp only [edgT, List.length_append, List.length_cons, List.length_nil]
  omega
theorem fmtA_le6 (a : Int) : (fmtA a).length ≤ 6 := by
  unfold fmtA
  split
  · simp
  · split
    · simp
    · rw [List.length_map]; exact lets_len a
theorem lens_edg : ∀ {es : List Edg}, OkE es → Lib.lens (es.map edgT) ≤ es.length * 5
  | [], _ => Nat.le_refl _
  | e :: r, h => by
    have hr := lens_edg (es := r) (fun x hx => h x (by simp [hx]))
    have he := h e (by simp)
    have a := edgT_len (e := e) he.1.2 he.2.2.2
    simp only [Lib.lens, List.map_cons, List.sum_cons, List.length_cons] at hr ⊢
    omega
theorem sysT_len {st : Int} (al : Int) (hs : st < 100) {es : List Edg} (h : OkE es) : (sysT al st es).length ≤ 9 + es.length * 6 := by
  unfold sysT sysParts
  rw [Lib.join_cons, List.length_append, Lib.joinTail_length]
  have h1 := lens_edg h
  have a := dg_len (n := st.toNat) (by omega)
  have b := fmtA_le6 al
  simp only [Lib.lens, List.map_cons, List.sum_cons, List.length_cons, List.length_nil, List.length_map] at h1 ⊢
  omega

/-- No part holds a blank. -/
def noSp (l : List UInt8) : Prop := ∀ b ∈ l, b ≠ 32
theorem lb_ge (n : Int) (h0 : 0 ≤ n) (h1 : n < 6) : 97 ≤ (lb n).toNat ∧ (lb n).toNat < 103 := by
  have := lb_nat n h0 h1
  omega
theorem fmtA_noSp (al : Int) : noSp (fmtA al) := by
  intro b hb
  unfold fmtA at hb
  split at hb
  · cases hb
  · split at hb
    · have : b = 45 := by simpa using hb
      rw [this]; decide
    · obtain ⟨x, hx, rfl⟩ := List.mem_map.1 hb
      obtain ⟨j, hj, rfl⟩ := List.mem_iff_getElem.1 hx
      have h := lets_at al j hj
      have h2 := lb_ge _ h.1 h.2
      intro e
      rw [e] at h2
      have : (32 : UInt8).toNat = 32 := rfl
      omega
theorem dg_noSp {n : Nat} (h : n < 100) : noSp (dg n) := by
  intro b hb e
  have := dg_digit h b hb
  rw [e] at this
  have : (32 : UInt8).toNat = 32 := rfl
  omega
theorem edgT_noSp {e : Edg} (h : (0 ≤ e.1 ∧ e.1 < 16) ∧ (0 ≤ e.2.1 ∧ e.2.1 < 6) ∧ 0 ≤ e.2.2 ∧ e.2.2 < 16) : noSp (edgT e) := by
  intro b hb
  simp only [edgT, List.mem_append, List.mem_cons, List.not_mem_nil, or_false] at hb
  rcases hb with (hb | hb) | hb
  · exact dg_noSp (by omega) b hb
  · have h2 := lb_ge e.2.1 h.2.1.1 h.2.1.2
    intro e'
    rw [← hb, e'] at h2
    have : (32 : UInt8).toNat = 32 := rfl
    omega
  · exact dg_noSp (by omega) b hb
theorem parts_noSp {al st : Int} {es : List Edg} (hs : 0 ≤ st ∧ st < 100) (h : OkE es) : ∀ p ∈ sysParts al st es, noSp p := by
  intro p hp
  simp only [sysParts, List.mem_cons, List.mem_map] at hp
  rcases hp with rfl | rfl | ⟨e, he, rfl⟩
  · exact fmtA_noSp al
  · exact dg_noSp (by omega)
  · exact edgT_noSp (h e he)

/-- A text cut at its blanks. -/
def cutL : List UInt8 → List (List UInt8)
  | [] => [[]]
  | b :: r => if b = 32 then [] :: cutL r else match cutL r with
    | [] => [[b]]
    | p :: q => (b :: p) :: q
theorem cutL_ne (l : List UInt8) : cutL l ≠ [] := by
  cases l with
  | nil => simp [cutL]
  | cons b r => unfold cutL; split; · simp
                split <;> simp
theorem cutL_no : ∀ {l : List UInt8}, noSp l → cutL l = [l]
  | [], _ => rfl
  | b :: r, h => by
    have h1 : b ≠ 32 := h b (by simp)
    have h2 := cutL_no (l := r) (fun x hx => h x (by simp [hx]))
    unfold cutL
    rw [if_neg h1, h2]
theorem cutL_app : ∀ {a : List UInt8} (b : List UInt8), noSp a → cutL (a ++ 32 :: b) = a :: cutL b
  | [], b, _ => by simp [cutL]
  | c :: r, b, h => by
    have h1 : c ≠ 32 := h c (by simp)
    have h2 := cutL_app (a := r) b (fun x hx => h x (by simp [hx]))
    rw [List.cons_append, cutL, if_neg h1, h2]
theorem cutL_join : ∀ (x : List UInt8) (r : List (List UInt8)), noSp x → (∀ p ∈ r, noSp p) → cutL (Lib.join (x :: r) [32]) = x :: r
  | x, [], h, _ => by rw [Lib.join_one]; exact cutL_no h
  | x, y :: r, h, h2 => by
    have e : Lib.join (x :: y :: r) [32] = x ++ 32 :: Lib.join (y :: r) [32] := by
      rw [Lib.join_cons, Lib.join_cons]; simp [Lib.joinTail]
    rw [e, cutL_app _ h, cutL_join y r (h2 y (by simp)) (fun p hp => h2 p (by simp [hp]))]
theorem cut_sysT {al st : Int} {es : List Edg} (hs : 0 ≤ st ∧ st < 100) (h : OkE es) : cutL (sysT al st es) = sysParts al st es := by
  have hp := parts_noSp (al := al) hs h
  exact cutL_join _ _ (hp _ (by simp [sysParts])) (fun p hp' => hp p (by simp only [sysParts, List.mem_cons] at hp' ⊢; exact .inr hp'))
theorem cutL_len (l : List UInt8) : (cutL l).length ≤ l.length + 1 := by
  induction l with
  | nil => simp [cutL]
  | cons b r ih =>
    unfold cutL
    split
    · simp; exact ih
    · split
      · simp
      · rename_i p q hq
        rw [hq] at ih
        simp at ih ⊢
        omega
theorem cutL_all : ∀ (l : List UInt8), ∀ p ∈ cutL l, p.length ≤ l.length := by
  intro l
  induction l with
  | nil => intro p hp; simp [cutL] at hp; simp [hp]
  | cons b r ih =>
    intro p hp
    unfold cutL at hp
    split at hp
    · rcases List.mem_cons.1 hp with rfl | hp
      · simp
      · have := ih p hp; simp; omega
    · split at hp
      · simp at hp; simp [hp]
      · rename_i x q hq
        rw [hq] at ih
        rcases List.mem_cons.1 hp with rfl | hp
        · have := ih x (by simp); simp; exact this
        · have := ih p (by simp [hp]); simp; omega

/-- A system is told by its text. -/
def Canon (l : List UInt8) (al st : Int) (es : List Edg) : Prop := sysV al st es = true ∧ sysT al st es = l
theorem fmtS_canon {al st : Int} {es : List Edg} {l : List UInt8} (h : fmtS al st es = l) (hl : l ≠ []) : Canon l al st es := by
  unfold fmtS at h
  split at h
  · rename_i hv; exact ⟨hv, h⟩
  · exact absurd h.symm hl
theorem Canon.fmt {al st : Int} {es : List Edg} {l : List UInt8} (h : Canon l al st es) : fmtS al st es = l := by
  unfold fmtS; rw [if_pos h.1]; exact h.2
theorem fmtS_ne {al st : Int} {es : List Edg} {l : List UInt8} (h : ∀ al st es, ¬ Canon l al st es) (hl : l ≠ []) : fmtS al st es ≠ l := fun e => h _ _ _ (fmtS_canon e hl)
theorem sysT_ne (al st : Int) (es : List Edg) : sysT al st es ≠ [] := by
  unfold sysT sysParts
  rw [Lib.join_cons]
  simp [Lib.joinTail]
theorem parse_fmt {al : Int} (h : isA al = true) : parseB (fmtA al) = true ∧ ((parseN (fmtA al) : Nat) : Int) = al := by
  obtain ⟨h0, h1⟩ := (isA_iff al).1 h
  obtain ⟨n, rfl⟩ := Int.eq_ofNat_of_zero_le h0
  have e := alphS_fmt n (by omega)
  have hp : parseB (fmtA (n : Int)) = true := by unfold parseB; rw [e]; simp
  refine ⟨hp, ?_⟩
  unfold parseN
  rw [if_pos hp, e]

/-- strconv.Atoi reads a numeral back. -/
theorem atoi_one (d : Nat) (h : d < 10) : Lib.atoiAll [UInt8.ofNat (48 + d)] = .ok (d : Int) := by
  have key : ∀ d : Fin 10, Lib.atoiAll [UInt8.ofNat (48 + d.val)] = .ok ((d.val : Nat) : Int) := by decide
  exact key ⟨d, h⟩
theorem atoi_two (d e : Nat) (h : d < 10) (h2 : e < 10) : Lib.atoiAll [UInt8.ofNat (48 + d), UInt8.ofNat (48 + e)] = .ok ((d * 10 + e : Nat) : Int) := by
  have key : ∀ d e : Fin 10, Lib.atoiAll [UInt8.ofNat (48 + d.val), UInt8.ofNat (48 + e.val)] = .ok ((d.val * 10 + e.val : Nat) : Int) := by decide
  exact key ⟨d, h⟩ ⟨e, h2⟩
theorem atoi_dg {n : Nat} (h : n < 100) : Lib.atoiAll (dg n) = .ok (n : Int) := by
  by_cases h1 : n < 10
  · rw [dg_one h1]; exact atoi_one n h1
  · rw [dg_two h1 h, atoi_two _ _ (by omega) (by omega)]
    congr 2
    omega
end Go.Proofs.YtnjakhojdhkihaaGreatDoor
