/- The walks of the laws on alphabets, restrictions and numbers of words. -/
import Derived.Test.YtkgbdglfpnmlgaaDraw3
import Derived.Test.YtkgbdglfpnmlgaaAt
import Derived.Test.YtkgbdglfpnmlgaaParse
namespace Go.Proofs.Ytkgbdglfpnmlgaa
open Go.RowKit
set_option linter.unusedVariables false
set_option linter.unusedSimpArgs false
set_option maxRecDepth 100000


theorem empty_of {r : ByteArray} (h : r.data.toList = []) : r.toList = [] := by rw [ByteArray.toList_eq]; exact h

set_option maxHeartbeats 1000000 in
theorem fnWordAt_walk (a0 : Option Addr) (len0 cap0 : Nat) (z0 : List Int) (w : World) (hrow : IsRow w a0 len0 cap0 z0) : Calls Try.prog 5 #[.slice a0 len0 cap0] w fun e w' => e = .returned (.bool true) ∧ Below w.heap.size w w' := by
  by_cases hl : 1048576 < len0
  · have hl' : (1048576 : Int) < (len0 : Int) := by omega
    go_enter Try.func5, Try.ntmps5
    go_wp2
    go_ret
    exact ⟨rfl, Below.refl _ _⟩
  have hl' : (len0 : Int) ≤ 1048576 := by omega
  clear hl
  go_enter Try.func5, Try.ntmps5
  go_wp2_with fail
  refine (drawAt_any _ _ _ _ _ hrow).mono ?_
  rintro e w1 ⟨n, a, rfl, hn0, hn1, ha0, ha1, hbel1⟩
  cases ho : wordAt n a with
  | none =>
    have HO := Lib.hid ho; clear ho
    go_wp2_with fail
    refine (implAt_any n a hn1 _).mono ?_
    rintro e w2 ⟨r2, rfl, hr2, hb⟩
    have hbel2 := hbel1.trans (hb.mono hbel1.size)
    have HR2 := Lib.hid hr2; clear hr2
    clear hb
    rw [HO.out]
    go_wp2_with fail
    refine (specAt_any n a hn1 _).mono ?_
    rintro e w3 ⟨r3, rfl, hr3, hb⟩
    have hbel3 := hbel2.trans (hb.mono hbel2.size)
    have HR3 := Lib.hid hr3; clear hr3
    clear hb
    rw [HO.out]
    have he := empty_of (r := r2) (by rw [HR2.out, HO.out]; rfl)
    have he3 := empty_of (r := r3) (by rw [HR3.out, HO.out]; rfl)
    go_wp2
    go_ret
    exact ⟨rfl, hbel3⟩
  | some l =>
    obtain ⟨hA, hn, hall, hlen, hnum⟩ := wordAt_some ho
    have hw : wordNum a l = n := by
      have : within l a = true := by
        simp only [within, hA, hall, Bool.true_and, Bool.and_true, decide_eq_true_eq]; omega
      simp [wordNum, this, hlen, hnum]
    have HO := Lib.hid ho; clear ho
    have HW := Lib.hid hw; clear hw
    clear hA hall hnum
    go_wp2_with fail
    refine (implAt_any n a hn1 _).mono ?_
    rintro e w2 ⟨r2, rfl, hr2, hb⟩
    have hbel2 := hbel1.trans (hb.mono hbel1.size)
    have HR2 := Lib.hid hr2; clear hr2
    clear hb
    rw [HO.out]
    go_wp2_with fail
    refine (specAt_any n a hn1 _).mono ?_
    rintro e w3 ⟨r3, rfl, hr3, hb⟩
    have hbel3 := hbel2.trans (hb.mono hbel2.size)
    have HR3 := Lib.hid hr3; clear hr3
    clear hb
    rw [HO.out]
    have heq := eq_toList HR2.out HR3.out
    have hd : r2.data.toList = l := by rw [HR2.out, HO.out]; rfl
    have hsz : r2.size ≤ 7 := by rw [size_of hd]; exact hlen
    have hsz' : (r2.size : Int) ≤ 7 := by omega
    have HD := Lib.hid hd; clear hd
    clear hlen
    go_wp2_with fail
    refine (implNum_any r2 a (by omega) _).mono ?_
    rintro e w4 ⟨rfl, hb⟩
    have hbel4 := hbel3.trans (hb.mono hbel3.size)
    clear hb
    rw [HD.out, HW.out]
    go_wp2
    go_ret
    exact ⟨rfl, hbel4⟩

end Go.Proofs.Ytkgbdglfpnmlgaa
