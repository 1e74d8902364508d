/- The walk of the law on the least greater word. -/
import Derived.Test.YtkgbdglfpnmlgaaW9
namespace Go.Proofs.Ytkgbdglfpnmlgaa
open Go.RowKit
set_option linter.unusedVariables false
set_option linter.unusedSimpArgs false
set_option maxRecDepth 100000



set_option maxHeartbeats 1000000 in
theorem fnNextLeast_walk (a0 : Option Addr) (len0 cap0 : Nat) (z0 : List Int) (a1 : Option Addr) (len1 cap1 : Nat) (z1 : List Int) (w : World) (hrow : IsRow w a0 len0 cap0 z0) (hrow1 : IsRow w a1 len1 cap1 z1) : Calls Try.prog 18 #[.slice a0 len0 cap0, .slice a1 len1 cap1] w fun e w' => e = .returned (.bool true) ∧ Below w.heap.size w w' := by
  by_cases hl : 1048576 < len0
  · have hl' : (1048576 : Int) < (len0 : Int) := by omega
    go_enter Try.func18, Try.ntmps18
    go_wp2
    go_ret
    exact ⟨rfl, Below.refl _ _⟩
  have hl' : (len0 : Int) ≤ 1048576 := by omega
  clear hl
  by_cases hm : 1048576 < len1
  · have hm' : (1048576 : Int) < (len1 : Int) := by omega
    go_enter Try.func18, Try.ntmps18
    go_wp2
    go_ret
    exact ⟨rfl, Below.refl _ _⟩
  have hm' : (len1 : Int) ≤ 1048576 := by omega
  clear hm
  go_enter Try.func18, Try.ntmps18
  go_wp2_with fail
  refine (drawNext_any _ _ _ _ _ hrow).mono ?_
  rintro e w1 ⟨s, a, rfl, hs, ha0, ha1, hbel1⟩
  have hs' : (s.size : Int) ≤ 60000 := by omega
  clear hrow
  obtain ⟨l, hl⟩ : ∃ l, s.data.toList = l := ⟨_, rfl⟩
  have HL := Lib.hid hl; clear hl
  cases ho : nextW a l with
  | none =>
    have HO := Lib.hid ho; clear ho
    go_wp2_with fail
    refine (implNext_any s a (by omega) _).mono ?_
    rintro e w2 ⟨r2, rfl, hr2, hb⟩
    have hbel2 := hbel1.trans (hb.mono hbel1.size)
    have HR2 := Lib.hid hr2; clear hr2
    clear hb hbel1
    rw [HL.out, HO.out]
    go_wp2_with fail
    refine (specNext_any s a (by omega) _).mono ?_
    rintro e w3 ⟨r3, rfl, hr3, hb⟩
    have hbel3 := hbel2.trans (hb.mono hbel2.size)
    have HR3 := Lib.hid hr3; clear hr3
    clear hb hbel2
    rw [HL.out, HO.out]
    have heq := eq_toList HR2.out HR3.out
    go_wp2_with fail
    refine (drawValid_any _ _ _ _ _ (hrow1.below hbel3)).mono ?_
    rintro e w4 ⟨t, rfl, ht, hb⟩
    have hbel4 := hbel3.trans (hb.mono hbel3.size)
    have ht' : (t.size : Int) ≤ 60000 := by omega
    clear hb hbel3 hrow1
    go_wp2
    go_ret
    exact ⟨rfl, hbel4⟩
  | some k =>
    obtain ⟨hW, -, -, -⟩ := nextW_some ho
    obtain ⟨hWk, -, -, -, -, hbet⟩ := next_facts ho
    obtain ⟨-, hv, -, hlen⟩ := within_valid hW
    obtain ⟨-, hvk, -, hlenk⟩ := within_valid hWk
    have HO := Lib.hid ho; clear ho
    have HV := Lib.hid hv; clear hv
    have HVK := Lib.hid hvk; clear hvk
    have HLENK := Lib.hid hlenk; clear hlenk
    have HBET := Lib.hid hbet; clear hbet
    clear hW hWk hlen
    go_wp2_with fail
    refine (implNext_any s a (by omega) _).mono ?_
    rintro e w2 ⟨r2, rfl, hr2, hb⟩
    have hbel2 := hbel1.trans (hb.mono hbel1.size)
    have HR2 := Lib.hid hr2; clear hr2
    clear hb hbel1
    rw [HL.out, HO.out]
    go_wp2_with fail
    refine (specNext_any s a (by omega) _).mono ?_
    rintro e w3 ⟨r3, rfl, hr3, hb⟩
    have hbel3 := hbel2.trans (hb.mono hbel2.size)
    have HR3 := Lib.hid hr3; clear hr3
    clear hb hbel2
    rw [HL.out, HO.out]
    have heq := eq_toList HR2.out HR3.out
    go_wp2_with fail
    refine (drawValid_any _ _ _ _ _ (hrow1.below hbel3)).mono ?_
    rintro e w4 ⟨t, rfl, ht, hb⟩
    have hbel4 := hbel3.trans (hb.mono hbel3.size)
    have ht' : (t.size : Int) ≤ 60000 := by omega
    clear hb hbel3 hrow1
    have e2 : r2.data.toList = k := by rw [HR2.out, HL.out, HO.out]; rfl
    have s2 : r2.size ≤ 50000 := by rw [size_of e2]; exact HLENK.out
    have E2 := Lib.hid e2; clear e2
    obtain ⟨m, hm⟩ : ∃ m, t.data.toList = m := ⟨_, rfl⟩
    have HM := Lib.hid hm; clear hm
    cases hw : within m a with
    | false =>
      go_wp2_with fail
      refine (implWithin_any t a (by omega) _).mono ?_
      rintro e w' ⟨rfl, rfl⟩
      rw [HM.out]
      go_wp2
      go_ret
      exact ⟨rfl, hbel4⟩
    | true =>
      obtain ⟨-, hvm, -, -⟩ := within_valid hw
      have hb1 := before_less HL.out HM.out HV.out hvm
      have hb2 := before_less HM.out E2.out hvm HVK.out
      have hcase := HBET.out m hw
      rw [← hb1, ← hb2] at hcase
      have HW := Lib.hid hw
      clear hw hb1 hb2 hvm
      cases hc : beforeB s t with
      | false =>
        have HC := Lib.hid hc; clear hc
        clear hcase
        go_wp2_with fail
        refine (implWithin_any t a (by omega) _).mono ?_
        rintro e w' ⟨rfl, rfl⟩
        rw [HM.out, HW.out]
        go_wp2_with fail
        refine (implBefore_any s t (by omega) (by omega) _).mono ?_
        rintro e w5 ⟨rfl, hb⟩
        have hbel5 := hbel4.trans (hb.mono hbel4.size)
        clear hb hbel4
        rw [HC.out]
        go_wp2
        go_ret
        exact ⟨rfl, hbel5⟩
      | true =>
        have hd : beforeB t r2 = false := by rcases hcase with h | h; rw [hc] at h; cases h; exact h
        have HC := Lib.hid hc; clear hc
        have HD := Lib.hid hd; clear hd
        clear hcase
        go_wp2_with fail
        refine (implWithin_any t a (by omega) _).mono ?_
        rintro e w' ⟨rfl, rfl⟩
        rw [HM.out, HW.out]
        go_wp2_with fail
        refine (implBefore_any s t (by omega) (by omega) _).mono ?_
        rintro e w5 ⟨rfl, hb⟩
        have hbel5 := hbel4.trans (hb.mono hbel4.size)
        clear hb hbel4
        rw [HC.out]
        go_wp2_with fail
        refine (implBefore_any t r2 (by omega) (by omega) _).mono ?_
        rintro e w6 ⟨rfl, hb⟩
        have hbel6 := hbel5.trans (hb.mono hbel5.size)
        clear hb hbel5
        rw [HD.out]
        go_wp2
        go_ret
        exact ⟨rfl, hbel6⟩

end Go.Proofs.Ytkgbdglfpnmlgaa
