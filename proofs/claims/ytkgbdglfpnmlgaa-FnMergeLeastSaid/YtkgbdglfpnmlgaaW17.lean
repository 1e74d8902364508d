/- The walk of the law on the least merged word. -/
import Derived.Test.YtkgbdglfpnmlgaaW9
import Derived.Test.YtkgbdglfpnmlgaaLaw4
import Derived.Test.YtkgbdglfpnmlgaaDraw4
import Derived.Test.YtkgbdglfpnmlgaaSMerge2
namespace Go.Proofs.Ytkgbdglfpnmlgaa
open Go.RowKit
set_option linter.unusedVariables false
set_option linter.unusedSimpArgs false
set_option maxRecDepth 100000


set_option maxHeartbeats 2000000 in
theorem fnMergeLeast_walk (a0 : Option Addr) (len0 cap0 : Nat) (z0 : List Int) (w : World) (hrow : IsRow w a0 len0 cap0 z0) : Calls Try.prog 14 #[.slice a0 len0 cap0] w fun e w' => e = .returned (.bool true) ∧ Below w.heap.size w w' := by
  by_cases hl : 1048576 < len0
  · have hl' : (1048576 : Int) < (len0 : Int) := by omega
    go_enter Try.func14, Try.ntmps14
    go_wp2
    go_ret
    exact ⟨rfl, Below.refl _ _⟩
  have hl' : (len0 : Int) ≤ 1048576 := by omega
  clear hl
  go_enter Try.func14, Try.ntmps14
  go_wp2_with fail
  refine (drawRestrict_any _ _ _ _ _ hrow).mono ?_
  rintro e w1 ⟨s, a, rfl, hs, ha0, ha1, hbel1⟩
  have hs' : (s.size : Int) ≤ 60000 := by omega
  clear hrow
  obtain ⟨l, hl⟩ : ∃ l, s.data.toList = l := ⟨_, rfl⟩
  have hlen : l.length = s.size := by rw [← hl]; rfl
  have HL := Lib.hid hl; clear hl
  go_wp2_with fail
  refine (implRestrict_any s a (by omega) _).mono ?_
  rintro e w2 ⟨r2, rfl, hr2, hb⟩
  have hbel2 := hbel1.trans (hb.mono hbel1.size)
  have HR2 := Lib.hid hr2; clear hr2
  clear hb hbel1
  go_wp2_with fail
  refine (specRestrict_any s a (by omega) _).mono ?_
  rintro e w3 ⟨r3, rfl, hr3, hb⟩
  have hbel3 := hbel2.trans (hb.mono hbel2.size)
  have HR3 := Lib.hid hr3; clear hr3
  clear hb hbel2
  have heq := eq_toList HR2.out HR3.out
  cases hv : wvalid l with
  | false =>
    go_wp2_with fail
    refine (implValid_any s (by omega) _).mono ?_
    rintro e w' ⟨rfl, rfl⟩
    rw [HL.out]
    go_wp2_with fail
    refine (specRestrict_any s a (by omega) _).mono ?_
    rintro e w4 ⟨r4, rfl, hr4, hb⟩
    have hbel4 := hbel3.trans (hb.mono hbel3.size)
    have HR4 := Lib.hid hr4; clear hr4
    clear hb hbel3
    have heqz := eq_toList HR2.out HR4.out
    go_wp2
    go_ret
    exact ⟨rfl, hbel4⟩
  | true =>
    cases hA : isA a with
    | false =>
      go_wp2_with fail
      refine (implValid_any s (by omega) _).mono ?_
      rintro e w' ⟨rfl, rfl⟩
      rw [HL.out]
      go_wp2_with fail
      refine (agAlph_any a _).mono ?_
      rintro e w' ⟨rfl, rfl⟩
      go_wp2_with fail
      refine (specRestrict_any s a (by omega) _).mono ?_
      rintro e w4 ⟨r4, rfl, hr4, hb⟩
      have hbel4 := hbel3.trans (hb.mono hbel3.size)
      have HR4 := Lib.hid hr4; clear hr4
      clear hb hbel3
      have heqz := eq_toList HR2.out HR4.out
      go_wp2
      go_ret
      exact ⟨rfl, hbel4⟩
    | true =>
      obtain ⟨hA0, hA1⟩ := (isA_iff a).1 hA
      obtain ⟨x, rfl⟩ := Int.eq_ofNat_of_zero_le hA0
      obtain ⟨k, hk, hkl, hkv, hkless⟩ := merge_least (a := x) (by omega) hv
      have hB := rest_isA x (by omega)
      have hand : bits .and .i64 (x : Int) 9 = ((x &&& 9 : Nat) : Int) := and_i64 _ _ (by omega) (by omega) (by omega) (by omega)
      have hxl : x &&& 9 ≤ 9 := Nat.and_le_right
      have hbe : (63 : Int) - (x : Int) + bits .and .i64 (x : Int) 9 = ((63 - x + (x &&& 9) : Nat) : Int) := by rw [hand]; omega
      have hb0 : (0 : Int) ≤ bits .and .i64 (x : Int) 9 := by rw [hand]; omega
      have hb1 : bits .and .i64 (x : Int) 9 ≤ 9 := by rw [hand]; omega
      have hr2 : r2.data.toList = restrL (x : Int) l := by rw [HR2.out, HL.out, restrW_good hv hA]
      have hsz2 : r2.size ≤ 60000 := by rw [size_of hr2]; have := restrL_len (x : Int) l; omega
      have hl5 := wvalid_len hv
      have HRR2 := Lib.hid hr2
      have HV := Lib.hid hv
      have HK := Lib.hid hk; clear hk
      have HKV := Lib.hid hkv; clear hkv
      have HKLESS := Lib.hid hkless; clear hkless
      have HB := Lib.hid hB; clear hB
      have HBE := Lib.hid hbe; clear hbe
      clear hr2 hv hand hxl
      generalize hy : (63 - x + (x &&& 9)) = y at *
      clear hy
      go_wp2_with fail
      refine (implValid_any s (by omega) _).mono ?_
      rintro e w' ⟨rfl, rfl⟩
      rw [HL.out, HV.out]
      go_wp2_with fail
      refine (agAlph_any (x : Int) _).mono ?_
      rintro e w' ⟨rfl, rfl⟩
      go_wp2_with fail
      refine (implRestrict_any s _ (by omega) _).mono ?_
      rintro e w4 ⟨r4, rfl, hr4, hb⟩
      have hbel4 := hbel3.trans (hb.mono hbel3.size)
      have HR4 := Lib.hid hr4; clear hr4
      clear hb hbel3
      have hr4 : r4.data.toList = restrL (y : Int) l := by rw [HR4.out, HL.out, HBE.out, restrW_good HV.out HB.out]
      have hsz4 : r4.size ≤ 60000 := by rw [size_of hr4]; have := restrL_len (y : Int) l; omega
      have HRR4 := Lib.hid hr4; clear hr4
      go_wp2_with fail
      refine (implMerge_any r2 r4 (x : Int) _ (by omega) (by omega) _).mono ?_
      rintro e w5 ⟨r5, rfl, hr5, hb⟩
      have hbel5 := hbel4.trans (hb.mono hbel4.size)
      have HR5 := Lib.hid hr5; clear hr5
      clear hb hbel4
      rw [HRR2.out, HRR4.out, HBE.out, HK.out]
      have e5 : r5.data.toList = k := by rw [HR5.out, HRR2.out, HRR4.out, HBE.out, HK.out]; rfl
      have s5 : r5.size = s.size := by rw [size_of e5, hkl, hlen]
      have hbf := (before_less HL.out e5 HV.out HKV.out).trans HKLESS.out
      have HBF := Lib.hid hbf; clear hbf
      have s5' : (r5.size : Int) = (s.size : Int) := by omega
      have s5q : (s.size : Int) ≤ 50000 := by omega
      clear e5 s5 hkl hlen hl5
      go_wp2_with fail
      refine (implBefore_any s r5 (by omega) (by omega) _).mono ?_
      rintro e w6 ⟨rfl, hb⟩
      have hbel6 := hbel5.trans (hb.mono hbel5.size)
      clear hb hbel5
      rw [HBF.out]
      go_wp2
      go_ret
      exact ⟨rfl, hbel6⟩

end Go.Proofs.Ytkgbdglfpnmlgaa
