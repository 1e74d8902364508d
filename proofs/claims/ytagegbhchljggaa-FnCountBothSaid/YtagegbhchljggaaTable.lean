/- tableOf: the table of an automaton: what each letter leads to, from each state. -/
import Derived.Test.YtagegbhchljggaaBut
import Derived.Test.YtagegbhchljggaaOrder
import Derived.Deep.RegionWith
namespace Go.Proofs.Ytagegbhchljggaa
open Go.RowKit
set_option linter.unusedVariables false
set_option linter.unusedSimpArgs false
set_option maxRecDepth 100000

/-- Where a letter leads from a state; a letter outside the alphabet stays. -/
def goA (al : Int) (xss : List (List Int)) (q : Nat) (x : Nat) : Int := if hasB al (x : Int) = true then (xss[q]?.getD [])[placeN al (x : Int)]?.getD 0 else (q : Int)

theorem Try.info6 : (Try.prog.info? 58).map (fun i => (i.zero, i.size, i.bytes)) = some (some (.agg #[.int .i64 0, .int .i64 0, .int .i64 0, .int .i64 0, .int .i64 0, .int .i64 0]), 6, 48) := by kernel_rfl

theorem made_same (z : Array Value) (v : Value) (n : Nat) (hz : ∀ i, i < z.size → z[i]? = some v) (h0 : 0 < z.size) (i : Nat) (hi : i < n) : (madeCells z n)[i]? = some v := by
  simp [madeCells, hi, getElem!_def, hz _ (Nat.mod_lt i h0)]
theorem run_make6 (n : Nat) (hn : n ≤ 1048576) (w : World) :
    (Instr.makeSlice 56 (.int .i64 (n : Int)) (.int .i64 (n : Int))).run Try.prog w = .ok (.slice (some ⟨w.heap.size, 0, none⟩) n n) (w.alloc (.cells (madeCells #[.int .i64 0, .int .i64 0, .int .i64 0, .int .i64 0, .int .i64 0, .int .i64 0] (n * 6)) 58)) := by
  obtain ⟨i, hi, hzz⟩ := Option.map_eq_some_iff.1 Try.info6
  simp only [Prod.mk.injEq] at hzz
  obtain ⟨hz, hs, hb⟩ := hzz
  have hr := run_make (P := Try.prog) w 56 58 i _ Try.underlying56 hi hz .i64 .i64 n n (by omega) (Int.le_refl _) (by rw [hb]; omega) (by omega)
  simp only [Int.toNat_natCast, hs, Value.cells] at hr
  exact hr
theorem made6 (n : Nat) (w : World) : (w.alloc (.cells (madeCells #[.int .i64 0, .int .i64 0, .int .i64 0, .int .i64 0, .int .i64 0, .int .i64 0] (n * 6)) 58)).rowIs w.heap.size 58 (n * 6) (fun _ => .int .i64 0) := by
  have := World.rowIs_alloc w (madeCells #[.int .i64 0, .int .i64 0, .int .i64 0, .int .i64 0, .int .i64 0, .int .i64 0] (n * 6)) 58 (fun _ => .int .i64 0) (fun i hi => made_same _ _ _ (by
    intro i hi
    simp at hi
    obtain rfl | rfl | rfl | rfl | rfl | rfl : i = 0 ∨ i = 1 ∨ i = 2 ∨ i = 3 ∨ i = 4 ∨ i = 5 := by omega
    all_goals rfl) (by decide) i (by simpa [size_madeCells] using hi))
  rwa [size_madeCells] at this

theorem hasB_ge (a : Int) (n : Nat) (ha : isA a = true) (h : 6 ≤ n) : hasB a (n : Int) = false := by
  obtain ⟨h0, h1⟩ := (isA_iff a).1 ha
  obtain ⟨m, rfl⟩ := Int.eq_ofNat_of_zero_le h0
  rw [hasB_nat]
  exact Nat.testBit_lt_two_pow (Nat.lt_of_lt_of_le (by omega : m < 2 ^ 6) (Nat.pow_le_pow_right (by decide) h))
/-- The table while it is filled: rows below k are done, row k holds g, the others are zero. -/
def tabF (al : Int) (xss : List (List Int)) (k : Nat) (g : Nat → Int) (j : Nat) : Value := .int .i64 (if j / 6 < k then goA al xss (j / 6) (j % 6) else if j / 6 = k then g (j % 6) else 0)
theorem tabF_set (al : Int) (xss : List (List Int)) (k : Nat) (g : Nat → Int) (l : Nat) (v : Int) (hl : l < 6) (j : Nat) :
    (if j = k * 6 + l then .int .i64 v else tabF al xss k g j) = tabF al xss k (fun m => if m = l then v else g m) j := by
  unfold tabF
  by_cases e : j = k * 6 + l
  · have h1 : j / 6 = k := by omega
    have h2 : j % 6 = l := by omega
    rw [if_pos e, h1, h2]
    simp
  · rw [if_neg e]
    by_cases h1 : j / 6 = k
    · have h2 : j % 6 ≠ l := by omega
      simp [h1, h2]
    · simp [h1]
theorem tabF_next (al : Int) (xss : List (List Int)) (k : Nat) (g : Nat → Int) (h : ∀ m, m < 6 → g m = goA al xss k m) (j : Nat) : tabF al xss k g j = tabF al xss (k + 1) (fun _ => 0) j := by
  unfold tabF
  by_cases h1 : j / 6 < k
  · rw [if_pos h1, if_pos (by omega)]
  · rw [if_neg h1]
    by_cases h2 : j / 6 = k
    · rw [if_pos h2, if_pos (by omega), h _ (by omega), h2]
    · rw [if_neg h2, if_neg (by omega)]
      simp

set_option maxHeartbeats 4000000 in
theorem tableOf_any (al : Int) (a1 : Option Addr) (n1 c1 : Nat) (a2 : Option Addr) (n2 c2 : Nat) (xss : List (List Int)) (w : World) (ha : isA al = true) (h : MV w (.slice a1 n1 c1) xss) (hm : n1 ≤ 12) (hrow : ∀ l ∈ xss, l.length = (lets al).length) :
    Calls Try.prog 46 #[.agg #[.int .i64 al, .slice a1 n1 c1, .slice a2 n2 c2]] w (fun e w' => ∃ b, e = .returned (.slice (some ⟨b, 0, none⟩) n1 n1) ∧ w'.rowIs b 58 (n1 * 6) (fun j => .int .i64 (goA al xss (j / 6) (j % 6))) ∧ w.heap.size ≤ b ∧ Below w.heap.size w w') := by
  obtain ⟨h0, h1⟩ := (isA_iff al).1 ha
  obtain ⟨hn, hcap, hmax, hcell⟩ := SV.at h
  have hmk := run_make6 n1 (by omega)
  have H := Lib.hid h; clear h
  have HC := Lib.hid hcell; clear hcell
  have HN := Lib.hid hn; clear hn
  have HROWS := Lib.hid hrow; clear hrow
  have HA := Lib.hid ha; clear ha
  clear hmax
  go_enter Try.func46, Try.ntmps46
  go_wp2_with fail
  obtain ⟨w1, hw1⟩ : ∃ w1, ((w.alloc (.cells #[.int .i64 al, .slice a1 n1 c1, .slice a2 n2 c2] 28)).alloc (.cells (madeCells #[.int .i64 0, .int .i64 0, .int .i64 0, .int .i64 0, .int .i64 0, .int .i64 0] (n1 * 6)) 58)) = w1 := ⟨_, rfl⟩
  have hb1 : Below w.heap.size w w1 := by rw [← hw1]; exact ((Below.refl _ _).alloc (Nat.le_refl _) _).alloc (by simp) _
  have hr1 : w1.rowIs w.heap.size 28 3 (fun i => #[.int .i64 al, .slice a1 n1 c1, .slice a2 n2 c2][i]?.getD undef) := by rw [← hw1]; exact (own_cells w _ _ 3 rfl).alloc _
  have ho1 : w1.rowIs (w.heap.size + 1) 58 (n1 * 6) (fun _ => .int .i64 0) := by
    rw [← hw1]
    have := made6 n1 (w.alloc (.cells #[.int .i64 al, .slice a1 n1 c1, .slice a2 n2 c2] 28))
    simpa using this
  have hs1 : w1.heap.size = w.heap.size + 2 := by rw [← hw1]; simp
  rw [hw1]
  clear hw1
  refine (lettersOf_any al h0 (by omega) _).mono ?_
  rintro e w2 ⟨ao5, cap5, rfl, hlet, hb2⟩
  have hbel2 := hb1.trans (hb2.mono hb1.size)
  have hr2 := rowIs_below hr1 hb2
  have ho2 := rowIs_below ho1 hb2
  have e1 : w2.cell? ⟨w.heap.size, 1, none⟩ = some (.slice a1 n1 c1) := hr2.cell (by decide)
  obtain ⟨nl, hnl⟩ : ∃ nl, (lets al).length = nl := ⟨_, rfl⟩
  have hshape := hlet.shape
  rw [hnl] at hshape ⊢
  have hnl6 : nl ≤ 6 := by rw [← hnl]; exact lets_len al
  have HNL := Lib.hid hnl
  have HSH := Lib.hid hshape
  have HB2 := Lib.hid hbel2
  have HO2 := Lib.hid ho2
  have hs2 := hb2.size
  clear hshape hnl hlet hr1 hr2 hb1 hb2 ho1 ho2 hbel2
  go_wp2
  go_loopw [20] (fun i wr => ∃ k : Nat, k ≤ n1 ∧ i = .int .i64 k ∧ wr.rowIs (w.heap.size + 1) 58 (n1 * 6) (tabF al xss k (fun _ => 0)) ∧ But (w.heap.size + 1) w2 wr) (fun i _ => n1 - (intOf i).toNat)
  case atStart => exact ⟨0, by omega, rfl, HO2.out.congr (fun j _ => by simp [tabF]), But.refl _ _⟩
  case round =>
    obtain ⟨k, hk, rfl, hrow, hbut⟩ := hrel
    by_cases hlt : k < n1
    · rcases HC.out with h0 | ⟨b, off, rfl, hb, hc⟩
      · omega
      · obtain ⟨u, hu, hv⟩ := hc k hlt
        clear hc
        obtain ⟨x, hx⟩ : ∃ x, xss[k]?.getD [] = x := ⟨_, rfl⟩
        rw [hx] at hv
        obtain ⟨a3, n3, c3, rfl⟩ : ∃ a n c, u = .slice a n c := by obtain ⟨a, c, e, -⟩ := hv; exact ⟨a, _, c, e⟩
        have hxl : x.length = nl := by
          rw [← HNL.out, ← hx]
          exact HROWS.out _ (by rw [List.getElem?_eq_getElem (by rw [← HN.out]; exact hlt), Option.getD_some]; exact List.getElem_mem _)
        have HX := Lib.hid hx; clear hx
        have hbelr := hbut.below HB2.out (by omega) (by omega)
        have e2 : wr.cell? ⟨b, off + k, none⟩ = some (.slice a3 n3 c3) := by rw [cell_below hbelr hb]; exact hu
        obtain ⟨hn3, hcap3, hmax3, hcell3⟩ := SV.at hv
        unfold maxLen at hmax3
        obtain rfl : n3 = nl := by omega
        have HC3 := Lib.hid hcell3
        have HXL := Lib.hid hxl
        have HROW := Lib.hid hrow
        have HBUT := Lib.hid hbut
        clear hu hv hcell3 hxl hrow hbut hbelr hn3
        go_wp2
        obtain ⟨wo, rfl⟩ : ∃ wo : World, wo = wr := ⟨_, rfl⟩
        go_loopw [25] (fun i wr => ∃ l : Nat, l ≤ 6 ∧ i = .int .i64 l ∧ wr.rowIs (w.heap.size + 1) 58 (n1 * 6) (tabF al xss k (fun m => if m < l then (k : Int) else 0)) ∧ But (w.heap.size + 1) w2 wr) (fun i _ => 6 - (intOf i).toNat)
        case atStart => exact ⟨0, by omega, rfl, HROW.out.congr (fun j _ => by simp), HBUT.out⟩
        case round =>
          obtain ⟨l, hl, rfl, hrow, hbut⟩ := hrel
          by_cases hll : l < 6
          · have hci := hrow.cell (i := k * 6 + l) (by omega)
            have hfi := hrow.frozen (k * 6 + l)
            have HROW2 := Lib.hid hrow
            have HBUT2 := Lib.hid hbut
            clear hrow hbut
            go_wp2
            go_roundw
            case rel => exact ⟨l + 1, by omega, by go_num, (HROW2.out.set (k * 6 + l) (.int .i64 (k : Int))).congr (fun j _ => by
              rw [tabF_set al xss k _ l _ hll j]
              congr 1
              funext m
              by_cases e : m = l
              · subst e; simp
              · have : (m < l + 1) = (m < l) := by simp only [eq_iff_iff]; omega
                simp only [if_neg e, this]), HBUT2.out.set _ _⟩
            case measure => simp [intOf] <;> omega
          · have HROW2 := Lib.hid hrow
            have HBUT2 := Lib.hid hbut
            clear hrow hbut
            go_wp2
            go_loopw [37] (fun i wr => ∃ m : Nat, m ≤ n3 ∧ i = .int .i64 m ∧ wr.rowIs (w.heap.size + 1) 58 (n1 * 6) (tabF al xss k (fun y => if hasB al (y : Int) = true ∧ placeN al (y : Int) < m then x[placeN al (y : Int)]?.getD 0 else (k : Int))) ∧ But (w.heap.size + 1) w2 wr) (fun i _ => n3 - (intOf i).toNat)
            case atStart => exact ⟨0, by omega, rfl, HROW2.out.congr (fun j _ => by
              unfold tabF
              have : j % 6 < l := by omega
              simp [this]), HBUT2.out⟩
            case round =>
              obtain ⟨m, hm', rfl, hrow, hbut⟩ := hrel
              by_cases hmn : m < n3
              · rcases HSH.out with ⟨-, h0⟩ | ⟨g, capg, hvg, hg1, hg2, hgc, hgm, hgcell, -⟩
                · exfalso
                  have := HNL.out
                  rw [h0] at this
                  simp at this
                  omega
                · have hgm' := hgcell m hmn
                  obtain ⟨y, hy⟩ : ∃ y, (lets al)[m]?.getD 0 = y := ⟨_, rfl⟩
                  rw [hy] at hgm'
                  have hpl := place_at al HA.out m (by rw [HNL.out]; exact hmn)
                  rw [hy] at hpl
                  have hy06 : 0 ≤ y ∧ y < 6 := by
                    have := lets_at al m (by rw [HNL.out]; exact hmn)
                    rw [← hy, List.getElem?_eq_getElem (by rw [HNL.out]; exact hmn)]
                    exact this
                  obtain ⟨hy0, hy6⟩ := hy06
                  obtain ⟨y, rfl⟩ := Int.eq_ofNat_of_zero_le hy0
                  have hvg' := hvg
                  injection hvg' with hv1 hv2 hv3
                  rcases HC3.out with h0 | ⟨b3, off3, rfl, hb3, hc3⟩
                  · omega
                  · obtain ⟨u, hu, rfl⟩ := hc3 m hmn
                    obtain ⟨z, hz⟩ : ∃ z, x[m]?.getD 0 = z := ⟨_, rfl⟩
                    rw [hz] at hu
                    have hbelr := hbut.below HB2.out (by omega) (by omega)
                    have d1 : wr.cell? ⟨b3, off3 + m, none⟩ = some (.int .i64 z) := by rw [cell_below hbelr hb3]; exact hu
                    have d2 : wr.cell? ⟨g, m, none⟩ = some (.int .i64 (y : Int)) := hbut.cell (by omega) hgm'
                    have hci := hrow.cell (i := k * 6 + y) (by omega)
                    have hfi := hrow.frozen (k * 6 + y)
                    have HROW3 := Lib.hid hrow
                    have HBUT3 := Lib.hid hbut
                    have HPL := Lib.hid hpl
                    have HZ := Lib.hid hz
                    have HY := Lib.hid hy
                    subst hv1
                    clear hrow hbut hpl hz hy hbelr hu hgm' hgcell hvg hc3 hv3 hv2
                    go_wp2_with fail
                    go_region_with (fail)
                    go_wp2
                    go_roundw
                    case rel => exact ⟨m + 1, by omega, by go_num, (HROW3.out.set (k * 6 + y) (.int .i64 z)).congr (fun j _ => by
                      rw [tabF_set al xss k _ y _ (by omega) j]
                      congr 1
                      funext t
                      by_cases e : t = y
                      · subst e
                        rw [if_pos rfl, if_pos ⟨HPL.out.2, by rw [HPL.out.1]; omega⟩, HPL.out.1, HZ.out]
                      · rw [if_neg e]
                        by_cases ht : hasB al (t : Int) = true
                        · by_cases ht6 : t < 6
                          · have hp := (idx_place al (t : Int) HA.out (by omega) (by omega) ht).2.2
                            have hne : placeN al (t : Int) ≠ m := by
                              intro h
                              rw [h, HY.out] at hp
                              omega
                            have : (placeN al (t : Int) < m + 1) = (placeN al (t : Int) < m) := by simp only [eq_iff_iff]; omega
                            simp only [this]
                          · exfalso
                            have hb6 : hasB al (t : Int) = true := ht
                            exact absurd hb6 (by rw [hasB_ge al t HA.out (by omega)]; decide)
                        · rw [if_neg (fun h => ht h.1), if_neg (fun h => ht h.1)]), HBUT3.out.set _ _⟩
                    case measure => simp [intOf] <;> omega
              · obtain rfl : m = n3 := by omega
                go_wp2
                go_roundw
                case rel => exact ⟨k + 1, by omega, by go_num, hrow.congr (fun j _ => by
                  refine tabF_next al xss k _ (fun t ht => ?_) j
                  unfold goA
                  rw [HX.out]
                  by_cases hh : hasB al (t : Int) = true
                  · rw [if_pos hh, if_pos ⟨hh, by have := (idx_place al (t : Int) HA.out (by omega) (by omega) hh).2.1; rwa [HNL.out] at this⟩]
                  · rw [if_neg hh, if_neg (fun h => hh h.1)]), hbut⟩
                case measure => simp [intOf] <;> omega
    · go_wp2
      go_ret
      obtain rfl : k = n1 := by omega
      exact ⟨_, rfl, hrow.congr (fun j hj => by unfold tabF; rw [if_pos (by omega)]), by omega, hbut.below HB2.out (by omega) (by omega)⟩
end Go.Proofs.Ytagegbhchljggaa
