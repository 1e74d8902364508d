/- The walks of the laws on the next word. -/
import Derived.Test.YtkgbdglfpnmlgaaW9
namespace Go.Proofs.Ytkgbdglfpnmlgaa
open Go.RowKit
set_option linter.unusedVariables false
set_option linter.unusedSimpArgs false
set_option maxRecDepth 100000


set_option maxHeartbeats 1000000 in
theorem fnNextWord_walk (a0 : Option Addr) (len0 cap0 : Nat) (z0 : List Int) (w : World) (hrow : IsRow w a0 len0 cap0 z0) : Calls Try.prog 19 #[.slice a0 len0 cap0] w fun e w' => e = .returned (.bool true) ∧ Below w.heap.size w w' := by
  by_cases hl : 1048576 < len0
  · have hl' : (1048576 : Int) < (len0 : Int) := by omega
    go_enter Try.func19, Try.ntmps19
    go_wp2
    go_ret
    exact ⟨rfl, Below.refl _ _⟩
  have hl' : (len0 : Int) ≤ 1048576 := by omega
  clear hl
  go_enter Try.func19, Try.ntmps19
  go_wp2_with fail
  refine (drawNext_any _ _ _ _ _ hrow).mono ?_
  rintro e w1 ⟨s, a, rfl, hs, ha0, ha1, hbel1⟩
  have hs' : (s.size : Int) ≤ 60000 := by omega
  clear hrow
  obtain ⟨l, hl⟩ : ∃ l, s.data.toList = l := ⟨_, rfl⟩
  have hsl : l.length = s.size := by rw [← hl]; rfl
  have HL := Lib.hid hl; clear hl
  cases ho : nextW a l with
  | none =>
    have HO := Lib.hid ho; clear ho
    go_wp2_with fail
    refine (implNext_any s a (by omega) _).mono ?_
    rintro e w2 ⟨r2, rfl, hr2, hb⟩
    have hbel2 := hbel1.trans (hb.mono hbel1.size)
    have HR2 := Lib.hid hr2; clear hr2
    clear hb hbel1
    rw [HL.out, HO.out]
    go_wp2_with fail
    refine (specNext_any s a (by omega) _).mono ?_
    rintro e w3 ⟨r3, rfl, hr3, hb⟩
    have hbel3 := hbel2.trans (hb.mono hbel2.size)
    have HR3 := Lib.hid hr3; clear hr3
    clear hb hbel2
    rw [HL.out, HO.out]
    have heq := eq_toList HR2.out HR3.out
    go_wp2
    go_ret
    exact ⟨rfl, hbel3⟩
  | some k =>
    obtain ⟨hW, -, -, -⟩ := nextW_some ho
    obtain ⟨hWk, hless, hnum, hk1, hk2, -⟩ := next_facts ho
    obtain ⟨-, hv, hall, hlen⟩ := within_valid hW
    obtain ⟨-, hvk, hallk, hlenk⟩ := within_valid hWk
    have key : (k.length ≤ 7 ∧ ∃ z : Nat, z ≤ 823542 ∧ wordNum a l = (z : Int) ∧ wordNum a k = ((z + 1 : Nat) : Int)) ∨ (7 < k.length ∧ ∃ z : Int, -1 ≤ z ∧ z ≤ 823542 ∧ wordNum a l = z) := by
      by_cases h : k.length ≤ 7
      · exact .inl ⟨h, numN a l, numN_small a l (by omega), wordNum_good hW (by omega), by rw [wordNum_good hWk h, hnum]⟩
      · refine .inr ⟨by omega, ?_⟩
        by_cases h2 : l.length ≤ 7
        · exact ⟨numN a l, by omega, by have := numN_small a l h2; omega, wordNum_good hW h2⟩
        · exact ⟨-1, by omega, by omega, wordNum_long (by omega)⟩
    clear hnum hk1 hk2 hall hallk hW
    have HO := Lib.hid ho; clear ho
    have HV := Lib.hid hv; clear hv
    have HVK := Lib.hid hvk; clear hvk
    have HLESS := Lib.hid hless; clear hless
    have HWK := Lib.hid hWk; clear hWk
    go_wp2_with fail
    refine (implNext_any s a (by omega) _).mono ?_
    rintro e w2 ⟨r2, rfl, hr2, hb⟩
    have hbel2 := hbel1.trans (hb.mono hbel1.size)
    have HR2 := Lib.hid hr2; clear hr2
    clear hb hbel1
    rw [HL.out, HO.out]
    go_wp2_with fail
    refine (specNext_any s a (by omega) _).mono ?_
    rintro e w3 ⟨r3, rfl, hr3, hb⟩
    have hbel3 := hbel2.trans (hb.mono hbel2.size)
    have HR3 := Lib.hid hr3; clear hr3
    clear hb hbel2
    rw [HL.out, HO.out]
    have heq := eq_toList HR2.out HR3.out
    have e2 : r2.data.toList = k := by rw [HR2.out, HL.out, HO.out]; rfl
    have s2 : r2.size = k.length := size_of e2
    have hb := (before_less HL.out e2 HV.out HVK.out).trans HLESS.out
    have HB := Lib.hid hb; clear hb
    have E2 := Lib.hid e2; clear e2
    rcases key with ⟨h7, z, hz, hn1, hn2⟩ | ⟨h7, z, hz0, hz1, hn1⟩
    · have h7' : (r2.size : Int) ≤ 7 := by omega
      have HN1 := Lib.hid hn1; clear hn1
      have HN2 := Lib.hid hn2; clear hn2
      clear s2 h7 hlen hlenk
      go_wp2_with fail
      refine (implNum_any s a (by omega) _).mono ?_
      rintro e w4 ⟨rfl, hb⟩
      have hbel4 := hbel3.trans (hb.mono hbel3.size)
      clear hb hbel3
      rw [HL.out, HN1.out]
      go_wp2_with fail
      refine (implWithin_any r2 a (by omega) _).mono ?_
      rintro e w' ⟨rfl, rfl⟩
      rw [E2.out, HWK.out]
      go_wp2_with fail
      refine (implBefore_any s r2 (by omega) (by omega) _).mono ?_
      rintro e w5 ⟨rfl, hb⟩
      have hbel5 := hbel4.trans (hb.mono hbel4.size)
      clear hb hbel4
      rw [HB.out]
      go_wp2_with fail
      refine (implNum_any r2 a (by omega) _).mono ?_
      rintro e w6 ⟨rfl, hb⟩
      have hbel6 := hbel5.trans (hb.mono hbel5.size)
      clear hb hbel5
      rw [E2.out, HN2.out]
      go_wp2
      go_ret
      exact ⟨rfl, hbel6⟩
    · have h7' : (7 : Int) < (r2.size : Int) := by omega
      have hr50 : (r2.size : Int) ≤ 50000 := by omega
      have HN1 := Lib.hid hn1; clear hn1
      clear s2 h7 hlen hlenk
      go_wp2_with fail
      refine (implNum_any s a (by omega) _).mono ?_
      rintro e w4 ⟨rfl, hb⟩
      have hbel4 := hbel3.trans (hb.mono hbel3.size)
      clear hb hbel3
      rw [HL.out, HN1.out]
      go_wp2_with fail
      refine (implWithin_any r2 a (by omega) _).mono ?_
      rintro e w' ⟨rfl, rfl⟩
      rw [E2.out, HWK.out]
      go_wp2_with fail
      refine (implBefore_any s r2 (by omega) (by omega) _).mono ?_
      rintro e w5 ⟨rfl, hb⟩
      have hbel5 := hbel4.trans (hb.mono hbel4.size)
      clear hb hbel4
      rw [HB.out]
      go_wp2
      go_ret
      exact ⟨rfl, hbel5⟩

end Go.Proofs.Ytkgbdglfpnmlgaa
