/- The walks of the laws on the numbers of words. -/
import Derived.Test.YtkgbdglfpnmlgaaW3
import Derived.Test.YtkgbdglfpnmlgaaLaw2
import Derived.Test.YtkgbdglfpnmlgaaW2
import Derived.Test.YtkgbdglfpnmlgaaNext
import Derived.Test.YtkgbdglfpnmlgaaNumber
import Derived.Test.YtkgbdglfpnmlgaaBefore
namespace Go.Proofs.Ytkgbdglfpnmlgaa
open Go.RowKit
set_option linter.unusedVariables false
set_option linter.unusedSimpArgs false
set_option maxRecDepth 100000


theorem before_less {x y : ByteArray} {l m : List UInt8} (hx : x.data.toList = l) (hy : y.data.toList = m) (hv : wvalid l = true) (hw : wvalid m = true) : beforeB x y = lessL l m := by
  unfold beforeB lessL
  rw [ByteArray.toList_eq, ByteArray.toList_eq, hx, hy, hv, hw, size_of hx, size_of hy]
  rfl
theorem before_bad {x y : ByteArray} {l m : List UInt8} (hx : x.data.toList = l) (hy : y.data.toList = m) (h : wvalid l = false ∨ wvalid m = false) : beforeB x y = false := by
  unfold beforeB
  rw [hx, hy]
  rcases h with h | h <;> rw [h] <;> simp

set_option maxHeartbeats 1000000 in
theorem fnWordNumber_walk (a0 : Option Addr) (len0 cap0 : Nat) (z0 : List Int) (w : World) (hrow : IsRow w a0 len0 cap0 z0) : Calls Try.prog 13 #[.slice a0 len0 cap0] w fun e w' => e = .returned (.bool true) ∧ Below w.heap.size w w' := by
  by_cases hl : 1048576 < len0
  · have hl' : (1048576 : Int) < (len0 : Int) := by omega
    go_enter Try.func13, Try.ntmps13
    go_wp2
    go_ret
    exact ⟨rfl, Below.refl _ _⟩
  have hl' : (len0 : Int) ≤ 1048576 := by omega
  clear hl
  go_enter Try.func13, Try.ntmps13
  go_wp2_with fail
  refine (drawNumber_any _ _ _ _ _ hrow).mono ?_
  rintro e w1 ⟨s, a, rfl, hs, ha0, ha1, hbel1⟩
  have hs' : (s.size : Int) ≤ 60000 := by omega
  obtain ⟨l, hl⟩ : ∃ l, s.data.toList = l := ⟨_, rfl⟩
  have hlen : l.length = s.size := by rw [← hl]; rfl
  have HL := Lib.hid hl; clear hl
  cases hW : within l a with
  | false =>
    have hn := wordNum_out hW
    have HN := Lib.hid hn; clear hn
    go_wp2_with fail
    refine (implNum_any s a (by omega) _).mono ?_
    rintro e w2 ⟨rfl, hb⟩
    have hbel2 := hbel1.trans (hb.mono hbel1.size)
    clear hb hbel1
    rw [HL.out, HN.out]
    go_wp2_with fail
    refine (specNum_any s a (by omega) _).mono ?_
    rintro e w3 ⟨rfl, hb⟩
    have hbel3 := hbel2.trans (hb.mono hbel2.size)
    clear hb hbel2
    rw [HL.out, HN.out]
    go_wp2_with fail
    refine (implWithin_any s a (by omega) _).mono ?_
    rintro e w' ⟨rfl, rfl⟩
    rw [HL.out]
    go_wp2
    go_ret
    exact ⟨rfl, hbel3⟩
  | true =>
    by_cases hsz : s.size ≤ 7
    · have hsz' : (s.size : Int) ≤ 7 := by omega
      obtain ⟨z, hz, hn, hwa⟩ := word_in hW (by omega)
      have HN := Lib.hid hn; clear hn
      have HWA := Lib.hid hwa; clear hwa
      go_wp2_with fail
      refine (implNum_any s a (by omega) _).mono ?_
      rintro e w2 ⟨rfl, hb⟩
      have hbel2 := hbel1.trans (hb.mono hbel1.size)
      clear hb hbel1
      rw [HL.out, HN.out]
      go_wp2_with fail
      refine (specNum_any s a (by omega) _).mono ?_
      rintro e w3 ⟨rfl, hb⟩
      have hbel3 := hbel2.trans (hb.mono hbel2.size)
      clear hb hbel2
      rw [HL.out, HN.out]
      go_wp2_with fail
      refine (implWithin_any s a (by omega) _).mono ?_
      rintro e w' ⟨rfl, rfl⟩
      rw [HL.out]
      go_wp2_with fail
      refine (implAt_any (z : Int) a (by omega) _).mono ?_
      rintro e w4 ⟨r4, rfl, hr4, hb⟩
      have hbel4 := hbel3.trans (hb.mono hbel3.size)
      have HR4 := Lib.hid hr4; clear hr4
      clear hb hbel3
      rw [HWA.out]
      have heq := eq_toList (a := r4) (b := s) (by rw [HR4.out, HWA.out]; rfl) HL.out
      go_wp2
      go_ret
      exact ⟨rfl, hbel4⟩
    · have hsz' : (7 : Int) < (s.size : Int) := by omega
      have hn := wordNum_long (a := a) (l := l) (by omega)
      have HN := Lib.hid hn; clear hn
      clear hsz
      go_wp2_with fail
      refine (implNum_any s a (by omega) _).mono ?_
      rintro e w2 ⟨rfl, hb⟩
      have hbel2 := hbel1.trans (hb.mono hbel1.size)
      clear hb hbel1
      rw [HL.out, HN.out]
      go_wp2_with fail
      refine (specNum_any s a (by omega) _).mono ?_
      rintro e w3 ⟨rfl, hb⟩
      have hbel3 := hbel2.trans (hb.mono hbel2.size)
      clear hb hbel2
      rw [HL.out, HN.out]
      go_wp2_with fail
      refine (implWithin_any s a (by omega) _).mono ?_
      rintro e w' ⟨rfl, rfl⟩
      rw [HL.out]
      go_wp2
      go_ret
      exact ⟨rfl, hbel3⟩

end Go.Proofs.Ytkgbdglfpnmlgaa
