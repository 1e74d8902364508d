/- The walks of the laws on restrictions. -/
import Derived.Test.YtkgbdglfpnmlgaaDraw3
import Derived.Test.YtkgbdglfpnmlgaaRestrict
import Derived.Test.YtkgbdglfpnmlgaaLaw
namespace Go.Proofs.Ytkgbdglfpnmlgaa
open Go.RowKit
set_option linter.unusedVariables false
set_option linter.unusedSimpArgs false
set_option maxRecDepth 100000


theorem agAlph_any (n : Int) (w : World) : Calls Try.prog 23 #[.int .i64 n] w (Ret (.bool (isA n)) w) := by
  go_enter Try.func23, Try.ntmps23
  go_wp2
  · go_ret
    exact ⟨ret_bool (by simp [isA]; omega), rfl⟩
  · go_ret
    exact ⟨ret_bool (by simp [isA]; omega), rfl⟩
theorem restrW_good {a : Int} {l : List UInt8} (h : wvalid l = true) (h2 : isA a = true) : restrW a l = restrL a l := if_pos ⟨h, h2⟩
theorem toList_nil {r : ByteArray} (h : r.data.toList = []) : r.toList = [] := by rw [ByteArray.toList_eq]; exact h
theorem toList_cons {r : ByteArray} (h : r.data.toList ≠ []) : r.toList.isEmpty = false := by rw [ByteArray.toList_eq]; simpa using h

set_option maxHeartbeats 1000000 in
theorem fnRestrictSides_walk (a0 : Option Addr) (len0 cap0 : Nat) (z0 : List Int) (w : World) (hrow : IsRow w a0 len0 cap0 z0) : Calls Try.prog 6 #[.slice a0 len0 cap0] w fun e w' => e = .returned (.bool true) ∧ Below w.heap.size w w' := by
  by_cases hl : 1048576 < len0
  · have hl' : (1048576 : Int) < (len0 : Int) := by omega
    go_enter Try.func6, Try.ntmps6
    go_wp2
    go_ret
    exact ⟨rfl, Below.refl _ _⟩
  have hl' : (len0 : Int) ≤ 1048576 := by omega
  clear hl
  go_enter Try.func6, Try.ntmps6
  go_wp2_with fail
  refine (drawRestrict_any _ _ _ _ _ hrow).mono ?_
  rintro e w1 ⟨s, a, rfl, hs, ha0, ha1, hbel1⟩
  have hs' : (s.size : Int) ≤ 60000 := by omega
  obtain ⟨l, hl⟩ : ∃ l, s.data.toList = l := ⟨_, rfl⟩
  have hlen : l.length = s.size := by rw [← hl]; rfl
  have HL := Lib.hid hl; clear hl
  go_wp2_with fail
  refine (implRestrict_any s a (by omega) _).mono ?_
  rintro e w2 ⟨r2, rfl, hr2, hb⟩
  have hbel2 := hbel1.trans (hb.mono hbel1.size)
  have HR2 := Lib.hid hr2; clear hr2
  clear hb hbel1
  go_wp2_with fail
  refine (specRestrict_any s a (by omega) _).mono ?_
  rintro e w3 ⟨r3, rfl, hr3, hb⟩
  have hbel3 := hbel2.trans (hb.mono hbel2.size)
  have HR3 := Lib.hid hr3; clear hr3
  clear hb hbel2
  have heq := eq_toList HR2.out HR3.out
  cases hv : wvalid l with
  | false =>
    go_wp2_with fail
    refine (implValid_any s (by omega) _).mono ?_
    rintro e w' ⟨rfl, rfl⟩
    rw [HL.out]
    go_wp2_with fail
    refine (specRestrict_any s a (by omega) _).mono ?_
    rintro e w4 ⟨r4, rfl, hr4, hb⟩
    have hbel4 := hbel3.trans (hb.mono hbel3.size)
    have HR4 := Lib.hid hr4; clear hr4
    clear hb hbel3
    have heq4 := eq_toList HR2.out HR4.out
    go_wp2
    go_ret
    exact ⟨rfl, hbel4⟩
  | true =>
    cases hA : isA a with
    | false =>
      go_wp2_with fail
      refine (implValid_any s (by omega) _).mono ?_
      rintro e w' ⟨rfl, rfl⟩
      rw [HL.out]
      go_wp2_with fail
      refine (agAlph_any a _).mono ?_
      rintro e w' ⟨rfl, rfl⟩
      go_wp2_with fail
      refine (specRestrict_any s a (by omega) _).mono ?_
      rintro e w4 ⟨r4, rfl, hr4, hb⟩
      have hbel4 := hbel3.trans (hb.mono hbel3.size)
      have HR4 := Lib.hid hr4; clear hr4
      clear hb hbel3
      have heq4 := eq_toList HR2.out HR4.out
      go_wp2
      go_ret
      exact ⟨rfl, hbel4⟩
    | true =>
      have hr2 : r2.data.toList = restrL a l := by rw [HR2.out, HL.out, restrW_good hv hA]
      obtain ⟨hA0, hA1⟩ := (isA_iff a).1 hA
      obtain ⟨hc1, hc2⟩ := restr_comp a hA l (wvalid_all hv)
      have hA' : isA (63 - a) = true := (isA_iff _).2 ⟨by omega, by omega⟩
      have hsz2 := size_of hr2
      clear hr2
      go_wp2_with fail
      refine (implValid_any s (by omega) _).mono ?_
      rintro e w' ⟨rfl, rfl⟩
      rw [HL.out]
      go_wp2_with fail
      refine (agAlph_any a _).mono ?_
      rintro e w' ⟨rfl, rfl⟩
      go_wp2_with fail
      refine (implRestrict_any s (63 - a) (by omega) _).mono ?_
      rintro e w4 ⟨r4, rfl, hr4, hb⟩
      have hbel4 := hbel3.trans (hb.mono hbel3.size)
      have HR4 := Lib.hid hr4; clear hr4
      clear hb hbel3
      have hr4 : r4.data.toList = restrL (63 - a) l := by rw [HR4.out, HL.out, restrW_good hv hA']
      have hsum : (r2.size : Int) + (r4.size : Int) = (s.size : Int) := by rw [hsz2, size_of hr4, ← hlen]; omega
      have hw : within l a = l.all (okL a) := by simp [within, hA, wvalid_len hv]
      clear hA hA' hv hc1 hsz2
      cases hall : l.all (okL a) with
      | true =>
        have he := toList_nil (hr4.trans (hc2.1 hall))
        rw [hall] at hw
        clear hr4 hc2 hall hlen
        go_wp2_with fail
        refine (implWithin_any s a (by omega) _).mono ?_
        rintro e w' ⟨rfl, rfl⟩
        rw [HL.out]
        go_wp2
        go_ret
        exact ⟨rfl, hbel4⟩
      | false =>
        have he := toList_cons (r := r4) (by rw [hr4]; intro h; rw [hc2.2 h] at hall; cases hall)
        rw [hall] at hw
        clear hr4 hc2 hall hlen
        go_wp2_with fail
        refine (implWithin_any s a (by omega) _).mono ?_
        rintro e w' ⟨rfl, rfl⟩
        rw [HL.out]
        go_wp2
        go_ret
        exact ⟨rfl, hbel4⟩

end Go.Proofs.Ytkgbdglfpnmlgaa
