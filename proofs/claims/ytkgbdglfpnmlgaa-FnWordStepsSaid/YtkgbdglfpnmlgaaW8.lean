/- The walk of the law on steps from word to word. -/
import Derived.Test.YtkgbdglfpnmlgaaW7
namespace Go.Proofs.Ytkgbdglfpnmlgaa
open Go.RowKit
set_option linter.unusedVariables false
set_option linter.unusedSimpArgs false
set_option maxRecDepth 100000


set_option maxHeartbeats 1000000 in
theorem fnWordSteps_walk (a0 : Option Addr) (len0 cap0 : Nat) (z0 : List Int) (w : World) (hrow : IsRow w a0 len0 cap0 z0) : Calls Try.prog 8 #[.slice a0 len0 cap0] w fun e w' => e = .returned (.bool true) ∧ Below w.heap.size w w' := by
  by_cases hl : 1048576 < len0
  · have hl' : (1048576 : Int) < (len0 : Int) := by omega
    go_enter Try.func8, Try.ntmps8
    go_wp2
    go_ret
    exact ⟨rfl, Below.refl _ _⟩
  have hl' : (len0 : Int) ≤ 1048576 := by omega
  clear hl
  go_enter Try.func8, Try.ntmps8
  go_wp2_with fail
  refine (drawAt_any _ _ _ _ _ hrow).mono ?_
  rintro e w1 ⟨n, a, rfl, hn0, hn1, ha0, ha1, hbel1⟩
  cases ho : wordAt n a with
  | none =>
    have HO := Lib.hid ho; clear ho
    go_wp2_with fail
    refine (implAt_any n a hn1 _).mono ?_
    rintro e w2 ⟨r2, rfl, hr2, hb⟩
    have hbel2 := hbel1.trans (hb.mono hbel1.size)
    have HR2 := Lib.hid hr2; clear hr2
    clear hb hbel1
    rw [HO.out]
    go_wp2_with fail
    refine (specAt_any n a hn1 _).mono ?_
    rintro e w3 ⟨r3, rfl, hr3, hb⟩
    have hbel3 := hbel2.trans (hb.mono hbel2.size)
    have HR3 := Lib.hid hr3; clear hr3
    clear hb hbel2
    rw [HO.out]
    have he := empty_of (r := r2) (by rw [HR2.out, HO.out]; rfl)
    have he3 := empty_of (r := r3) (by rw [HR3.out, HO.out]; rfl)
    go_wp2
    go_ret
    exact ⟨rfl, hbel3⟩
  | some l =>
    by_cases hz : n = 0
    · subst hz
      have hln : l = [] := at_zero ho
      have HLN := Lib.hid hln; clear hln
      have HO := Lib.hid ho; clear ho
      clear hn0 hn1
      go_wp2_with fail
      refine (implAt_any 0 a (by omega) _).mono ?_
      rintro e w2 ⟨r2, rfl, hr2, hb⟩
      have hbel2 := hbel1.trans (hb.mono hbel1.size)
      have HR2 := Lib.hid hr2; clear hr2
      clear hb hbel1
      rw [HO.out]
      go_wp2_with fail
      refine (specAt_any 0 a (by omega) _).mono ?_
      rintro e w3 ⟨r3, rfl, hr3, hb⟩
      have hbel3 := hbel2.trans (hb.mono hbel2.size)
      have HR3 := Lib.hid hr3; clear hr3
      clear hb hbel2
      rw [HO.out]
      have he := empty_of (r := r2) (by rw [HR2.out, HO.out, HLN.out]; rfl)
      have he3 := empty_of (r := r3) (by rw [HR3.out, HO.out, HLN.out]; rfl)
      go_wp2
      go_ret
      exact ⟨rfl, hbel3⟩
    · have hzb : (n == 0) = false := by simpa using hz
      obtain ⟨l', hp, hx⟩ := at_prev ho hz
      obtain ⟨-, hn, -, -, -⟩ := wordAt_some ho
      obtain ⟨-, -, -, hlen', -⟩ := wordAt_some hp
      have HLEN := Lib.hid hlen'
      clear hlen'
      have HO := Lib.hid ho; clear ho
      have HP := Lib.hid hp; clear hp
      have HX := Lib.hid hx; clear hx
      have hn' : 1 ≤ n := by omega
      clear hz hn0
      go_wp2_with fail
      refine (implAt_any n a hn1 _).mono ?_
      rintro e w2 ⟨r2, rfl, hr2, hb⟩
      have hbel2 := hbel1.trans (hb.mono hbel1.size)
      have HR2 := Lib.hid hr2; clear hr2
      clear hb hbel1
      rw [HO.out]
      go_wp2_with fail
      refine (specAt_any n a hn1 _).mono ?_
      rintro e w3 ⟨r3, rfl, hr3, hb⟩
      have hbel3 := hbel2.trans (hb.mono hbel2.size)
      have HR3 := Lib.hid hr3; clear hr3
      clear hb hbel2
      rw [HO.out]
      have heq := eq_toList HR2.out HR3.out
      go_wp2_with fail
      refine (implAt_any (n - 1) a (by omega) _).mono ?_
      rintro e w4 ⟨r4, rfl, hr4, hb⟩
      have hbel4 := hbel3.trans (hb.mono hbel3.size)
      have HR4 := Lib.hid hr4; clear hr4
      clear hb hbel3
      rw [HP.out]
      have h4 : r4.data.toList = l' := by rw [HR4.out, HP.out]; rfl
      have hsz : r4.size ≤ 7 := by rw [size_of h4]; exact HLEN.out
      have H4 := Lib.hid h4; clear h4
      go_wp2_with fail
      refine (implNext_any r4 a (by omega) _).mono ?_
      rintro e w5 ⟨r5, rfl, hr5, hb⟩
      have hbel5 := hbel4.trans (hb.mono hbel4.size)
      have HR5 := Lib.hid hr5; clear hr5
      clear hb hbel4
      rw [H4.out, HX.out]
      have heq5 := eq_toList (a := r5) (b := r2) (l := l) (by rw [HR5.out, H4.out, HX.out]; rfl) (by rw [HR2.out, HO.out]; rfl)
      go_wp2
      go_ret
      exact ⟨rfl, hbel5⟩

end Go.Proofs.Ytkgbdglfpnmlgaa
