/- The walks of the laws on the numbers of two words and on the next word. -/
import Derived.Test.YtkgbdglfpnmlgaaW9
namespace Go.Proofs.Ytkgbdglfpnmlgaa
open Go.RowKit
set_option linter.unusedVariables false
set_option linter.unusedSimpArgs false
set_option maxRecDepth 100000


set_option maxHeartbeats 1000000 in
theorem fnNumberOrder_walk (a0 : Option Addr) (len0 cap0 : Nat) (z0 : List Int) (a1 : Option Addr) (len1 cap1 : Nat) (z1 : List Int) (w : World) (hrow : IsRow w a0 len0 cap0 z0) (hrow1 : IsRow w a1 len1 cap1 z1) : Calls Try.prog 12 #[.slice a0 len0 cap0, .slice a1 len1 cap1] w fun e w' => e = .returned (.bool true) ∧ Below w.heap.size w w' := by
  by_cases hl : 1048576 < len0
  · have hl' : (1048576 : Int) < (len0 : Int) := by omega
    go_enter Try.func12, Try.ntmps12
    go_wp2
    go_ret
    exact ⟨rfl, Below.refl _ _⟩
  have hl' : (len0 : Int) ≤ 1048576 := by omega
  clear hl
  by_cases hm : 1048576 < len1
  · have hm' : (1048576 : Int) < (len1 : Int) := by omega
    go_enter Try.func12, Try.ntmps12
    go_wp2
    go_ret
    exact ⟨rfl, Below.refl _ _⟩
  have hm' : (len1 : Int) ≤ 1048576 := by omega
  clear hm
  go_enter Try.func12, Try.ntmps12
  go_wp2_with fail
  refine (drawAt_any _ _ _ _ _ hrow).mono ?_
  rintro e w1 ⟨n, a, rfl, hn0, hn1, ha0, ha1, hbel1⟩
  go_wp2_with fail
  refine (drawAt_any _ _ _ _ _ (hrow1.below hbel1)).mono ?_
  rintro e w2 ⟨m, a', rfl, hm0, hm1, ha0', ha1', hb⟩
  have hbel2 := hbel1.trans (hb.mono hbel1.size)
  clear hb hbel1 hrow hrow1 ha0' ha1'
  cases ho : wordAt n a with
  | none =>
    have HO := Lib.hid ho; clear ho
    cases hp : wordAt m a with
    | none =>
      have HP := Lib.hid hp; clear hp
      go_wp2_with fail
      refine (implAt_any n a hn1 _).mono ?_
      rintro e w3 ⟨r3, rfl, hr3, hb⟩
      have hbel3 := hbel2.trans (hb.mono hbel2.size)
      have HR3 := Lib.hid hr3; clear hr3
      clear hb hbel2
      rw [HO.out]
      go_wp2_with fail
      refine (implAt_any m a hm1 _).mono ?_
      rintro e w4 ⟨r4, rfl, hr4, hb⟩
      have hbel4 := hbel3.trans (hb.mono hbel3.size)
      have HR4 := Lib.hid hr4; clear hr4
      clear hb hbel3
      rw [HP.out]
      go_wp2_with fail
      refine (specAt_any n a hn1 _).mono ?_
      rintro e w5 ⟨r5, rfl, hr5, hb⟩
      have hbel5 := hbel4.trans (hb.mono hbel4.size)
      have HR5 := Lib.hid hr5; clear hr5
      clear hb hbel4
      rw [HO.out]
      have heq := eq_toList HR3.out HR5.out
      go_wp2
      go_ret
      exact ⟨rfl, hbel5⟩
    | some k =>
      have HP := Lib.hid hp; clear hp
      go_wp2_with fail
      refine (implAt_any n a hn1 _).mono ?_
      rintro e w3 ⟨r3, rfl, hr3, hb⟩
      have hbel3 := hbel2.trans (hb.mono hbel2.size)
      have HR3 := Lib.hid hr3; clear hr3
      clear hb hbel2
      rw [HO.out]
      go_wp2_with fail
      refine (implAt_any m a hm1 _).mono ?_
      rintro e w4 ⟨r4, rfl, hr4, hb⟩
      have hbel4 := hbel3.trans (hb.mono hbel3.size)
      have HR4 := Lib.hid hr4; clear hr4
      clear hb hbel3
      rw [HP.out]
      go_wp2_with fail
      refine (specAt_any n a hn1 _).mono ?_
      rintro e w5 ⟨r5, rfl, hr5, hb⟩
      have hbel5 := hbel4.trans (hb.mono hbel4.size)
      have HR5 := Lib.hid hr5; clear hr5
      clear hb hbel4
      rw [HO.out]
      have heq := eq_toList HR3.out HR5.out
      go_wp2
      go_ret
      exact ⟨rfl, hbel5⟩
  | some l =>
    cases hp : wordAt m a with
    | none =>
      have HO := Lib.hid ho; clear ho
      have HP := Lib.hid hp; clear hp
      go_wp2_with fail
      refine (implAt_any n a hn1 _).mono ?_
      rintro e w3 ⟨r3, rfl, hr3, hb⟩
      have hbel3 := hbel2.trans (hb.mono hbel2.size)
      have HR3 := Lib.hid hr3; clear hr3
      clear hb hbel2
      rw [HO.out]
      go_wp2_with fail
      refine (implAt_any m a hm1 _).mono ?_
      rintro e w4 ⟨r4, rfl, hr4, hb⟩
      have hbel4 := hbel3.trans (hb.mono hbel3.size)
      have HR4 := Lib.hid hr4; clear hr4
      clear hb hbel3
      rw [HP.out]
      go_wp2_with fail
      refine (specAt_any n a hn1 _).mono ?_
      rintro e w5 ⟨r5, rfl, hr5, hb⟩
      have hbel5 := hbel4.trans (hb.mono hbel4.size)
      have HR5 := Lib.hid hr5; clear hr5
      clear hb hbel4
      rw [HO.out]
      have heq := eq_toList HR3.out HR5.out
      go_wp2
      go_ret
      exact ⟨rfl, hbel5⟩
    | some k =>
      obtain ⟨h1, h2, h3⟩ := at_less ho hp
      have hl7 := (wordAt_some ho).2.2.2.1
      have hk7 := (wordAt_some hp).2.2.2.1
      have HO := Lib.hid ho; clear ho
      have HP := Lib.hid hp; clear hp
      have H1 := Lib.hid h1; clear h1
      have H2 := Lib.hid h2; clear h2
      have H3 := Lib.hid h3; clear h3
      have HL7 := Lib.hid hl7; clear hl7
      have HK7 := Lib.hid hk7; clear hk7
      go_wp2_with fail
      refine (implAt_any n a hn1 _).mono ?_
      rintro e w3 ⟨r3, rfl, hr3, hb⟩
      have hbel3 := hbel2.trans (hb.mono hbel2.size)
      have HR3 := Lib.hid hr3; clear hr3
      clear hb hbel2
      rw [HO.out]
      go_wp2_with fail
      refine (implAt_any m a hm1 _).mono ?_
      rintro e w4 ⟨r4, rfl, hr4, hb⟩
      have hbel4 := hbel3.trans (hb.mono hbel3.size)
      have HR4 := Lib.hid hr4; clear hr4
      clear hb hbel3
      rw [HP.out]
      go_wp2_with fail
      refine (specAt_any n a hn1 _).mono ?_
      rintro e w5 ⟨r5, rfl, hr5, hb⟩
      have hbel5 := hbel4.trans (hb.mono hbel4.size)
      have HR5 := Lib.hid hr5; clear hr5
      clear hb hbel4
      rw [HO.out]
      have heq := eq_toList HR3.out HR5.out
      have e3 : r3.data.toList = l := by rw [HR3.out, HO.out]; rfl
      have e4 : r4.data.toList = k := by rw [HR4.out, HP.out]; rfl
      have s3 : r3.size ≤ 7 := by rw [size_of e3]; exact HL7.out
      have s4 : r4.size ≤ 7 := by rw [size_of e4]; exact HK7.out
      have hb := (before_less e3 e4 H2.out H3.out).trans H1.out
      have HB := Lib.hid hb; clear hb
      clear e3 e4
      by_cases hlt : n < m
      · go_wp2_with fail
        refine (implBefore_any r3 r4 (by omega) (by omega) _).mono ?_
        rintro e w6 ⟨rfl, hb⟩
        have hbel6 := hbel5.trans (hb.mono hbel5.size)
        clear hb hbel5
        rw [HB.out]
        go_wp2
        go_ret
        exact ⟨rfl, hbel6⟩
      · have hlt' : m ≤ n := by omega
        go_wp2_with fail
        refine (implBefore_any r3 r4 (by omega) (by omega) _).mono ?_
        rintro e w6 ⟨rfl, hb⟩
        have hbel6 := hbel5.trans (hb.mono hbel5.size)
        clear hb hbel5
        rw [HB.out]
        go_wp2
        go_ret
        exact ⟨rfl, hbel6⟩

end Go.Proofs.Ytkgbdglfpnmlgaa
