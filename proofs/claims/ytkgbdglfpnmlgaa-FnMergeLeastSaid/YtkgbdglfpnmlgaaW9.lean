/- The walks of the laws on the order of words. -/
import Derived.Test.YtkgbdglfpnmlgaaW7
import Derived.Test.YtkgbdglfpnmlgaaLaw3
namespace Go.Proofs.Ytkgbdglfpnmlgaa
open Go.RowKit
set_option linter.unusedVariables false
set_option linter.unusedSimpArgs false
set_option maxRecDepth 100000


theorem toList_ne {a b : ByteArray} {l m : List UInt8} (h1 : a.data.toList = l) (h2 : b.data.toList = m) (h : l ≠ m) : (a.toList == b.toList) = false := by
  rw [ByteArray.toList_eq, ByteArray.toList_eq, h1, h2]; simpa using h

set_option maxHeartbeats 1000000 in
theorem fnWordOrder_walk (a0 : Option Addr) (len0 cap0 : Nat) (z0 : List Int) (w : World) (hrow : IsRow w a0 len0 cap0 z0) : Calls Try.prog 11 #[.slice a0 len0 cap0] w fun e w' => e = .returned (.bool true) ∧ Below w.heap.size w w' := by
  by_cases hl : 1048576 < len0
  · have hl' : (1048576 : Int) < (len0 : Int) := by omega
    go_enter Try.func11, Try.ntmps11
    go_wp2
    go_ret
    exact ⟨rfl, Below.refl _ _⟩
  have hl' : (len0 : Int) ≤ 1048576 := by omega
  clear hl
  go_enter Try.func11, Try.ntmps11
  go_wp2_with fail
  refine (drawBefore_any _ _ _ _ _ hrow).mono ?_
  rintro e w1 ⟨s, t, rfl, hs, ht, hbel1⟩
  have hs' : (s.size : Int) ≤ 60000 := by omega
  have ht' : (t.size : Int) ≤ 60000 := by omega
  obtain ⟨l, hl⟩ : ∃ l, s.data.toList = l := ⟨_, rfl⟩
  obtain ⟨m, hm⟩ : ∃ m, t.data.toList = m := ⟨_, rfl⟩
  cases hv : wvalid l with
  | false =>
    have hb := before_bad hl hm (.inl hv)
    have HB := Lib.hid hb; clear hb
    have HL := Lib.hid hl; clear hl
    clear hm
    go_wp2_with fail
    refine (implBefore_any s t (by omega) (by omega) _).mono ?_
    rintro e w2 ⟨rfl, hb⟩
    have hbel2 := hbel1.trans (hb.mono hbel1.size)
    clear hb hbel1
    rw [HB.out]
    go_wp2_with fail
    refine (specBefore_any s t (by omega) (by omega) _).mono ?_
    rintro e w3 ⟨rfl, hb⟩
    have hbel3 := hbel2.trans (hb.mono hbel2.size)
    clear hb hbel2
    rw [HB.out]
    go_wp2_with fail
    refine (implValid_any s (by omega) _).mono ?_
    rintro e w' ⟨rfl, rfl⟩
    rw [HL.out]
    go_wp2_with fail
    refine (specBefore_any s t (by omega) (by omega) _).mono ?_
    rintro e w4 ⟨rfl, hb⟩
    have hbel4 := hbel3.trans (hb.mono hbel3.size)
    clear hb hbel3
    rw [HB.out]
    go_wp2
    go_ret
    exact ⟨rfl, hbel4⟩
  | true =>
    cases hw : wvalid m with
    | false =>
      have hb := before_bad hl hm (.inr hw)
      have HB := Lib.hid hb; clear hb
      have HL := Lib.hid hl; clear hl
      have HM := Lib.hid hm; clear hm
      go_wp2_with fail
      refine (implBefore_any s t (by omega) (by omega) _).mono ?_
      rintro e w2 ⟨rfl, hb⟩
      have hbel2 := hbel1.trans (hb.mono hbel1.size)
      clear hb hbel1
      rw [HB.out]
      go_wp2_with fail
      refine (specBefore_any s t (by omega) (by omega) _).mono ?_
      rintro e w3 ⟨rfl, hb⟩
      have hbel3 := hbel2.trans (hb.mono hbel2.size)
      clear hb hbel2
      rw [HB.out]
      go_wp2_with fail
      refine (implValid_any s (by omega) _).mono ?_
      rintro e w' ⟨rfl, rfl⟩
      rw [HL.out]
      go_wp2_with fail
      refine (implValid_any t (by omega) _).mono ?_
      rintro e w' ⟨rfl, rfl⟩
      rw [HM.out]
      go_wp2_with fail
      refine (specBefore_any s t (by omega) (by omega) _).mono ?_
      rintro e w4 ⟨rfl, hb⟩
      have hbel4 := hbel3.trans (hb.mono hbel3.size)
      clear hb hbel3
      rw [HB.out]
      go_wp2
      go_ret
      exact ⟨rfl, hbel4⟩
    | true =>
      have hb := before_less hl hm hv hw
      have hb2 := before_less hm hl hw hv
      have key : (((s.toList == t.toList) = true ∧ beforeB s t = false ∧ beforeB t s = false) ∨ ((s.toList == t.toList) = false ∧ beforeB s t = true ∧ beforeB t s = false) ∨ ((s.toList == t.toList) = false ∧ beforeB s t = false ∧ beforeB t s = true)) := by
        rw [hb, hb2]
        rcases order_cases hv hw with ⟨h1, h2, h3⟩ | ⟨h1, h2, h3⟩ | ⟨h1, h2, h3⟩
        · exact .inl ⟨eq_toList hl (hm.trans h1.symm), h2, h3⟩
        · exact .inr (.inl ⟨toList_ne hl hm h1, h2, h3⟩)
        · exact .inr (.inr ⟨toList_ne hl hm h1, h2, h3⟩)
      have HL := Lib.hid hl; clear hl
      have HM := Lib.hid hm; clear hm
      clear hb hb2
      rcases key with ⟨hq, h1, h2⟩ | ⟨hq, h1, h2⟩ | ⟨hq, h1, h2⟩
      all_goals
        have H1 := Lib.hid h1; clear h1
        have H2 := Lib.hid h2; clear h2
        go_wp2_with fail
        refine (implBefore_any s t (by omega) (by omega) _).mono ?_
        rintro e w2 ⟨rfl, hb⟩
        have hbel2 := hbel1.trans (hb.mono hbel1.size)
        clear hb hbel1
        rw [H1.out]
        go_wp2_with fail
        refine (specBefore_any s t (by omega) (by omega) _).mono ?_
        rintro e w3 ⟨rfl, hb⟩
        have hbel3 := hbel2.trans (hb.mono hbel2.size)
        clear hb hbel2
        rw [H1.out]
        go_wp2_with fail
        refine (implValid_any s (by omega) _).mono ?_
        rintro e w' ⟨rfl, rfl⟩
        rw [HL.out]
        go_wp2_with fail
        refine (implValid_any t (by omega) _).mono ?_
        rintro e w' ⟨rfl, rfl⟩
        rw [HM.out]
        go_wp2_with fail
        refine (implBefore_any t s (by omega) (by omega) _).mono ?_
        rintro e w4 ⟨rfl, hb⟩
        have hbel4 := hbel3.trans (hb.mono hbel3.size)
        clear hb hbel3
        rw [H2.out]
        go_wp2
        go_ret
        exact ⟨rfl, hbel4⟩

end Go.Proofs.Ytkgbdglfpnmlgaa
