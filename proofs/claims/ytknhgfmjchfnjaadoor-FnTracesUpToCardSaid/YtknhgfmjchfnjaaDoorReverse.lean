/- slices.Reverse over bytes of the call's own. -/
import Derived.Test.YtknhgfmjchfnjaaDoorBefore
import Derived.RegionTactic
import Derived.ChangeAlike
namespace Go.Proofs.YtknhgfmjchfnjaaDoor
open Go.RowKit
set_option linter.unusedVariables false
set_option linter.unusedSimpArgs false
set_option maxRecDepth 100000

def RevAt (xs ys : List UInt8) (n i : Nat) : Prop := ys.length = n ∧ ∀ t, t < n → ys[t]? = if t < i ∨ n ≤ t + i then xs[n - 1 - t]? else xs[t]?
theorem RevAt.start (xs : List UInt8) : RevAt xs xs xs.length 0 := ⟨rfl, fun t ht => by rw [if_neg (by omega)]⟩
theorem RevAt.last {xs ys : List UInt8} {n i : Nat} (hx : xs.length = n) (h : RevAt xs ys n i) (h2 : n ≤ 2 * i + 1) (h3 : 2 * i ≤ n) : ys = xs.reverse := by
  apply List.ext_getElem?
  intro t
  by_cases ht : t < n
  · rw [h.2 t ht, List.getElem?_reverse (by omega), hx]
    split
    · rfl
    · have : n - 1 - t = t := by omega
      rw [this]
  · rw [List.getElem?_eq_none (by rw [h.1]; omega), List.getElem?_eq_none (by rw [List.length_reverse]; omega)]
theorem RevAt.step {xs ys : List UInt8} {n i j : Nat} (hx : xs.length = n) (h : RevAt xs ys n i) (hj : j + i + 1 = n) (hij : i < j) :
    RevAt xs ((ys.set i (ys[j]?.getD 0)).set j (ys[i]?.getD 0)) n (i + 1) := by
  refine ⟨by simp [h.1], fun t ht => ?_⟩
  have hyi := h.2 i (by omega)
  have hyj := h.2 j (by omega)
  rw [if_neg (by omega)] at hyi hyj
  rw [List.getElem?_set, List.getElem?_set]
  by_cases h1 : j = t
  · subst h1
    rw [if_pos rfl, if_pos (by rw [List.length_set, h.1]; omega), if_pos (by omega), hyi, show n - 1 - j = i from by omega]
    rw [List.getElem?_eq_getElem (by omega)]; rfl
  · rw [if_neg h1]
    by_cases h2 : i = t
    · subst h2
      rw [if_pos rfl, if_pos (by rw [h.1]; omega), if_pos (by omega), hyj, show n - 1 - i = j from by omega]
      rw [List.getElem?_eq_getElem (by omega)]; rfl
    · rw [if_neg h2, h.2 t ht]
      by_cases h3 : t < i ∨ n ≤ t + i
      · rw [if_pos h3, if_pos (by omega)]
      · rw [if_neg h3, if_neg (by omega)]

theorem BRow.stored {B : Nat} {w : World} {g n cap : Nat} {xs : List UInt8} (h : BRow B w (.slice (some ⟨g, 0, none⟩) n cap) xs) (j : Nat) (c : UInt8) (u : Int) (hu : u = (c.toNat : Int)) :
    BRow B (w.setCell ⟨g, j, none⟩ (.int .u8 u)) (.slice (some ⟨g, 0, none⟩) n cap) (xs.set j c) ∧ w.grownBy (w.setCell ⟨g, j, none⟩ (.int .u8 u)) (some g) := by
  subst hu
  have hl := h.len
  subst hl
  obtain ⟨h1, h2⟩ := World.ownsRow.stored h j (.int .u8 (c.toNat : Int))
  refine ⟨?_, h2⟩
  unfold BRow
  simpa [List.map_set] using h1

theorem BRow.drew {B : Nat} {w : World} {v : Value} {xs : List UInt8} (h : BRow B w v xs) : BRow B w.drew v xs := h

def RevRel (B g cap : Nat) (xs : List UInt8) (n : Nat) (w : World) (s2 s3 : Value) (wr : World) : Prop :=
  ∃ (i : Nat) (ys : List UInt8), s2 = .int .i64 i ∧ s3 = .int .i64 ((n : Int) - 1 - (i : Int)) ∧ 2 * i ≤ n ∧ BRow B wr (.slice (some ⟨g, 0, none⟩) n cap) ys ∧ RevAt xs ys n i ∧ ∀ w0, Below B w0 w → Below B w0 wr

set_option maxHeartbeats 400000 in
theorem reverse_any (B : Nat) (ao : Option Addr) (n cap : Nat) (xs : List UInt8) (w : World) (h : BRow B w (.slice ao n cap) xs) (hn : n ≤ 1000) :
    Calls Tryd.prog 55 #[.slice ao n cap] w fun e w' => e = .returned (.tuple #[]) ∧ BRow B w' (.slice ao n cap) xs.reverse ∧ ∀ w0, Below B w0 w → Below B w0 w' := by
  have hl := h.len
  by_cases hne : xs.length = 0
  · have hx : xs = [] := List.eq_nil_of_length_eq_zero hne
    subst hx
    have hn0 : n = 0 := hl
    clear hl hne
    subst hn0
    go_enter Tryd.func55, Tryd.ntmps55
    go_wp2
    refine wp_loop_rounds 1 ?_
    rw [rounds_succ]
    go_wp2
    go_end0
    exact ⟨rfl, h, fun _ h => h⟩
  · obtain ⟨g, rfl, -, hBg, hgs, hcap, hmax, -⟩ := h.ne hne
    have HL := Lib.hid hl
    have hn0 : 0 < n := by omega
    clear hl hne
    go_enter Tryd.func55, Tryd.ntmps55
    go_wp2
    go_loopw [2, 3] (fun s2 s3 wr => RevRel B g cap xs n w s2 s3 wr) (fun _ s3 _ => (intOf s3 + 1).toNat)
    case atStart => exact ⟨0, xs, rfl, by simp, by omega, h, by rw [HL.out]; exact RevAt.start xs, fun _ h => h⟩
    case round =>
      obtain ⟨i, ys, rfl, rfl, h2i, hrow, hrev, hbel⟩ := hrel
      have HR := Lib.hid hrev
      have HB := Lib.hid hbel
      clear hrev hbel
      by_cases hlt : 2 * i + 1 < n
      · obtain ⟨j, hj⟩ : ∃ j : Nat, j + i + 1 = n := ⟨n - 1 - i, by omega⟩
        have hji : (n : Int) - 1 - (i : Int) = (j : Int) := by omega
        have hij : (i : Int) < (j : Int) := by omega
        have hyl : ys.length = n := HR.out.1
        obtain ⟨g', hgg, -, -, -, -, -, hcells, hfz⟩ := hrow.ne (by rw [hyl]; omega)
        obtain rfl : g = g' := by simpa using hgg
        have hci := hcells i (by omega)
        have hcj := hcells j (by omega)
        have hfi := hfz i
        have hfj := hfz j
        have hst := HR.out.step HL.out.symm hj (by omega)
        have hs1 := BRow.stored hrow i (ys[j]?.getD 0) _ rfl
        have hs2 := BRow.stored hs1.1 j (ys[i]?.getD 0) _ rfl
        have HS1 := Lib.hid hs1
        have HS2 := Lib.hid hs2
        have HST := Lib.hid hst; clear hst
        obtain ⟨ci, hxi⟩ : ∃ c, ((ys[i]?.getD 0).toNat : Int) = c := ⟨_, rfl⟩
        obtain ⟨cj, hxj⟩ : ∃ c, ((ys[j]?.getD 0).toNat : Int) = c := ⟨_, rfl⟩
        rw [hxi] at hci HS2
        rw [hxj] at hcj HS1 HS2
        clear hs1 hs2 hcells hfz hgg hxi hxj
        have hjn : j < n := by omega
        have hin : i < n := by omega
        rw [hji]
        have HJ := Lib.hid hji
        have HJ2 := Lib.hid hj
        clear hji hj hyl
        go_wp2_with fail
        go_region
        go_wp2
        go_roundw
        case rel =>
          refine ⟨i + 1, _, by go_num, by have := HJ.out; go_num, by have := HJ2.out; omega, BRow.drew HS2.out.1, HST.out, fun w0 h0 => ?_⟩
          have hb0 := HB.out w0 h0
          have hsz := HS1.out.2.size
          have hg : g < wr.heap.size := World.block_lt_of_cell? wr _ hci
          exact ((hb0.grown HS1.out.2 (by omega) (by intro k hk; cases hk; exact hBg)).grown HS2.out.2 (by omega) (by intro k hk; cases hk; exact hBg)).drew
        case measure => simp [intOf] <;> omega
      · go_wp2
        go_end0
        exact ⟨rfl, by rw [← HR.out.last HL.out.symm (by omega) h2i]; exact hrow, HB.out⟩

end Go.Proofs.YtknhgfmjchfnjaaDoor
