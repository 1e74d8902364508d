/- What slices of numbers, of truth values and of rows read as in a world, and that it stays so where nothing old is written; the sizes that a law first adds up. -/
import Derived.Test.YtagegbhchljggaaMem
namespace Go.Proofs.Ytagegbhchljggaa
open Go.RowKit
set_option linter.unusedVariables false
set_option linter.unusedSimpArgs false
set_option maxRecDepth 100000

/-- A slice's value reads as a list: each element's cell by R. -/
def SV {α : Type} (R : World → Value → α → Prop) (d : α) (w : World) (v : Value) (xs : List α) : Prop :=
  ∃ ao cap, v = .slice ao xs.length cap ∧ xs.length ≤ cap ∧ cap ≤ maxLen ∧
    (xs.length = 0 ∨ ∃ b off, ao = some ⟨b, off, none⟩ ∧ b < w.heap.size ∧ ∀ i, i < xs.length → ∃ u, w.cell? ⟨b, off + i, none⟩ = some u ∧ R w u (xs[i]?.getD d))
def IV : World → Value → List Int → Prop := SV (fun _ u x => u = .int .i64 x) 0
def BV : World → Value → List Bool → Prop := SV (fun _ u x => u = .bool x) false
def MV : World → Value → List (List Int) → Prop := SV IV []

theorem cell_below {w w' : World} (hb : Below w.heap.size w w') {b j : Nat} (h : b < w.heap.size) : w'.cell? ⟨b, j, none⟩ = w.cell? ⟨b, j, none⟩ := by
  unfold World.cell?; rw [hb.block b h]
theorem SV.below {α : Type} {R : World → Value → α → Prop} {d : α} {w w' : World} {v : Value} {xs : List α} (h : SV R d w v xs) (hb : Below w.heap.size w w') (hR : ∀ u x, R w u x → R w' u x) : SV R d w' v xs := by
  obtain ⟨ao, cap, rfl, h1, h2, h3⟩ := h
  refine ⟨ao, cap, rfl, h1, h2, ?_⟩
  rcases h3 with h3 | ⟨b, off, rfl, hlt, hc⟩
  · exact .inl h3
  · refine .inr ⟨b, off, rfl, Nat.lt_of_lt_of_le hlt hb.size, fun i hi => ?_⟩
    obtain ⟨u, hu, hr⟩ := hc i hi
    exact ⟨u, by rw [cell_below hb hlt]; exact hu, hR _ _ hr⟩
theorem IV.below {w w' : World} {v : Value} {xs : List Int} (h : IV w v xs) (hb : Below w.heap.size w w') : IV w' v xs := SV.below h hb (fun _ _ h => h)
theorem BV.below {w w' : World} {v : Value} {xs : List Bool} (h : BV w v xs) (hb : Below w.heap.size w w') : BV w' v xs := SV.below h hb (fun _ _ h => h)
theorem MV.below {w w' : World} {v : Value} {xs : List (List Int)} (h : MV w v xs) (hb : Below w.heap.size w w') : MV w' v xs := SV.below h hb (fun _ _ h => IV.below h hb)

/-- The cell of an element. -/
theorem SV.at {α : Type} {R : World → Value → α → Prop} {d : α} {w : World} {ao : Option Addr} {n cap : Nat} {xs : List α} (h : SV R d w (.slice ao n cap) xs) : n = xs.length ∧ n ≤ cap ∧ cap ≤ maxLen ∧
    (n = 0 ∨ ∃ b off, ao = some ⟨b, off, none⟩ ∧ b < w.heap.size ∧ ∀ i, i < n → ∃ u, w.cell? ⟨b, off + i, none⟩ = some u ∧ R w u (xs[i]?.getD d)) := by
  obtain ⟨ao', cap', he, h1, h2, h3⟩ := h
  injection he with e1 e2 e3
  subst e1; subst e2; subst e3
  exact ⟨rfl, h1, h2, h3⟩

def szR : List (List Int) → Int → Int
  | [], left => left
  | l :: r, left => if left - l.length < 0 then -1 else szR r (left - l.length)
theorem szR_facts : ∀ (xss : List (List Int)) (left : Int), szR xss left ≤ left ∨ left < 0
  | [], left => .inl (Int.le_refl _)
  | l :: r, left => by
    unfold szR
    split
    · omega
    · have := szR_facts r (left - l.length)
      omega
theorem szR_ok : ∀ (xss : List (List Int)) (left : Int), 0 ≤ left → 0 ≤ szR xss left → szR xss left ≤ left ∧ ∀ l ∈ xss, (l.length : Int) ≤ left
  | [], left, _, _ => ⟨Int.le_refl _, by simp⟩
  | l :: r, left, h0, h => by
    unfold szR at h ⊢
    split at h
    · omega
    · rename_i hh
      rw [if_neg hh]
      obtain ⟨h1, h2⟩ := szR_ok r (left - l.length) (by omega) h
      refine ⟨by omega, fun m hm => ?_⟩
      rcases List.mem_cons.1 hm with rfl | hm
      · omega
      · have := h2 m hm; omega

theorem szIntS_any (ao : Option Addr) (n cap : Nat) (left : Int) (hn : n ≤ maxLen) (h0 : 0 ≤ left) (h1 : left ≤ 1048576) (w : World) : Calls Try.prog 59 #[.slice ao n cap, .int .i64 left] w (Ret (.int .i64 (if left - (n : Int) < 0 then -1 else left - (n : Int))) w) := by
  unfold maxLen at hn
  go_enter Try.func59, Try.ntmps59
  by_cases h : left - (n : Int) < 0
  · rw [if_pos h]
    go_wp2
    go_ret
    exact ⟨rfl, rfl⟩
  · rw [if_neg h]
    go_wp2
    go_ret
    exact ⟨rfl, rfl⟩
theorem szBoolS_any (ao : Option Addr) (n cap : Nat) (left : Int) (hn : n ≤ maxLen) (h0 : 0 ≤ left) (h1 : left ≤ 1048576) (w : World) : Calls Try.prog 33 #[.slice ao n cap, .int .i64 left] w (Ret (.int .i64 (if left - (n : Int) < 0 then -1 else left - (n : Int))) w) := by
  unfold maxLen at hn
  go_enter Try.func33, Try.ntmps33
  by_cases h : left - (n : Int) < 0
  · rw [if_pos h]
    go_wp2
    go_ret
    exact ⟨rfl, rfl⟩
  · rw [if_neg h]
    go_wp2
    go_ret
    exact ⟨rfl, rfl⟩

set_option maxHeartbeats 400000 in
theorem szIntSS_any (ao : Option Addr) (n cap : Nat) (xss : List (List Int)) (left : Int) (w : World) (h : MV w (.slice ao n cap) xss) (h0 : 0 ≤ left) (h1 : left ≤ 1048576) :
    Calls Try.prog 32 #[.slice ao n cap, .int .i64 left] w (fun e w' => ∃ r : Int, e = .returned (.int .i64 r) ∧ r ≤ left ∧ -1 ≤ r ∧ (0 ≤ r → xss.length ≤ 1048576 ∧ ∀ l ∈ xss, l.length ≤ 1048576) ∧ w = w') := by
  obtain ⟨hn, hcap, hmax, hcell⟩ := h.at
  unfold maxLen at hmax
  go_enter Try.func32, Try.ntmps32
  by_cases hlt : left - (n : Int) < 0
  · go_wp2
    go_ret
    exact ⟨-1, rfl, by omega, by omega, fun h => by omega, rfl⟩
  · have HCELL := Lib.hid hcell
    have HN := Lib.hid hn
    clear hcell h hn
    have hk : 0 ≤ left - (n : Int) := by omega
    clear hlt
    go_wp2
    go_loop [1, 5] (fun lv i => ∃ (k : Nat) (l : Int), k ≤ n ∧ i = .int .i64 k ∧ lv = .int .i64 l ∧ 0 ≤ l ∧ l ≤ left ∧ ∀ j, j < k → (xss[j]?.getD []).length ≤ 1048576) (fun _ i => n - (intOf i).toNat)
    case atStart => exact ⟨0, left - n, by omega, rfl, rfl, by omega, by omega, fun j hj => by omega⟩
    case round =>
      obtain ⟨k, l, hkn, rfl, rfl, hl0, hl1, hall⟩ := hrel
      have HALL := Lib.hid hall; clear hall
      by_cases hlt : k < n
      · rcases HCELL.out with h0 | ⟨b, off, rfl, hb, hc⟩
        · omega
        · obtain ⟨u, hu, hr⟩ := hc k hlt
          obtain ⟨ao2, cap2, rfl, h2, h3, -⟩ := hr
          clear hc
          obtain ⟨m, hm⟩ : ∃ m, (xss[k]?.getD []).length = m := ⟨_, rfl⟩
          rw [hm] at hu h2
          have HM := Lib.hid hm; clear hm
          by_cases hs : l - (m : Int) < 0
          · go_wp2_with fail
            refine (szIntS_any ao2 m cap2 l (by omega) hl0 (by omega) _).mono ?_
            rintro e w' ⟨rfl, rfl⟩
            rw [if_pos hs]
            go_wp2
            go_ret
            exact ⟨-1, rfl, by omega, by omega, fun h => by omega, rfl⟩
          · have hs' : (m : Int) ≤ l := by omega
            go_wp2_with fail
            refine (szIntS_any ao2 m cap2 l (by omega) hl0 (by omega) _).mono ?_
            rintro e w' ⟨rfl, rfl⟩
            rw [if_neg (by omega)]
            clear hs
            go_wp2
            go_round
            case rel => exact ⟨k + 1, l - m, by omega, by go_num, rfl, by omega, by omega, fun j hj => by
              by_cases e : j = k
              · subst e; rw [HM.out]; omega
              · exact HALL.out j (by omega)⟩
            case measure => simp [intOf] <;> omega
      · go_wp2
        go_ret
        refine ⟨l, rfl, hl1, by omega, fun _ => ⟨by have := HN.out; omega, fun x hx => ?_⟩, rfl⟩
        obtain ⟨j, hj, rfl⟩ := List.getElem_of_mem hx
        have := HALL.out j (by have := HN.out; omega)
        rwa [List.getElem?_eq_getElem hj, Option.getD_some] at this

theorem szAut_any (al : Int) (a1 : Option Addr) (n1 c1 : Nat) (a2 : Option Addr) (n2 c2 : Nat) (xss : List (List Int)) (bs : List Bool) (left : Int) (w : World) (h : MV w (.slice a1 n1 c1) xss) (hb : BV w (.slice a2 n2 c2) bs) (h0 : 0 ≤ left) (h1 : left ≤ 1048576) :
    Calls Try.prog 12 #[.agg #[.int .i64 al, .slice a1 n1 c1, .slice a2 n2 c2], .int .i64 left] w (fun e w' => ∃ r : Int, e = .returned (.int .i64 r) ∧ -1 ≤ r ∧ (0 ≤ r → xss.length ≤ 1048576 ∧ (∀ l ∈ xss, l.length ≤ 1048576) ∧ bs.length ≤ 1048576) ∧ Below w.heap.size w w') := by
  obtain ⟨hn, hcap, hmax, -⟩ := hb.at
  have H := Lib.hid h; clear h
  have HB := Lib.hid hb; clear hb
  have HN := Lib.hid hn
  clear hn
  have hmx : n2 ≤ maxLen := by omega
  unfold maxLen at hmax
  go_enter Try.func12, Try.ntmps12
  go_wp2_with fail
  refine (szIntSS_any a1 n1 c1 xss left _ (H.out.below ((Below.refl _ _).alloc (Nat.le_refl _) _)) h0 h1).mono ?_
  rintro e w' ⟨r, rfl, hr, hr0, hall, rfl⟩
  have HALL := Lib.hid hall; clear hall
  by_cases hs : r < 0
  · go_wp2
    go_ret
    exact ⟨-1, rfl, by omega, fun h => by omega, (Below.refl _ _).alloc (Nat.le_refl _) _⟩
  · have hs0 : 0 ≤ r := by omega
    clear hs
    go_wp2_with fail
    refine (szBoolS_any a2 n2 c2 r hmx hs0 (by omega) _).mono ?_
    rintro e w' ⟨rfl, rfl⟩
    by_cases ht : r - (n2 : Int) < 0
    · rw [if_pos ht]
      go_wp2
      go_ret
      exact ⟨-1, rfl, by omega, fun h => by omega, (Below.refl _ _).alloc (Nat.le_refl _) _⟩
    · rw [if_neg ht]
      have ht' : 0 ≤ r - (n2 : Int) := by omega
      clear ht
      go_wp2
      go_ret
      refine ⟨r - n2, rfl, by omega, fun _ => ⟨(HALL.out hs0).1, (HALL.out hs0).2, ?_⟩, (Below.refl _ _).alloc (Nat.le_refl _) _⟩
      have := HN.out
      omega

end Go.Proofs.Ytagegbhchljggaa
