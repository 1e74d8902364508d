/- The walk of the law on merged words: what their restrictions are. -/
import Derived.Test.YtkgbdglfpnmlgaaW9
import Derived.Test.YtkgbdglfpnmlgaaLaw4
import Derived.Test.YtkgbdglfpnmlgaaDraw4
import Derived.Test.YtkgbdglfpnmlgaaSMerge2
namespace Go.Proofs.Ytkgbdglfpnmlgaa
open Go.RowKit
set_option linter.unusedVariables false
set_option linter.unusedSimpArgs false
set_option maxRecDepth 100000


set_option maxHeartbeats 2000000 in
theorem fnMergeWords_walk (a0 : Option Addr) (len0 cap0 : Nat) (z0 : List Int) (w : World) (hrow : IsRow w a0 len0 cap0 z0) : Calls Try.prog 16 #[.slice a0 len0 cap0] w fun e w' => e = .returned (.bool true) ∧ Below w.heap.size w w' := by
  by_cases hl : 1048576 < len0
  · have hl' : (1048576 : Int) < (len0 : Int) := by omega
    go_enter Try.func16, Try.ntmps16
    go_wp2
    go_ret
    exact ⟨rfl, Below.refl _ _⟩
  have hl' : (len0 : Int) ≤ 1048576 := by omega
  clear hl
  go_enter Try.func16, Try.ntmps16
  go_wp2_with fail
  refine (drawMerge_any _ _ _ _ _ hrow).mono ?_
  rintro e w1 ⟨s, t, a, b, rfl, hs, ht, ha0, ha1, hb0, hb1, hbel1⟩
  have hs' : (s.size : Int) ≤ 60000 := by omega
  have ht' : (t.size : Int) ≤ 60000 := by omega
  clear hrow
  obtain ⟨l, hl⟩ : ∃ l, s.data.toList = l := ⟨_, rfl⟩
  have hsl : l.length = s.size := by rw [← hl]; rfl
  have HL := Lib.hid hl; clear hl
  obtain ⟨m, hm⟩ : ∃ m, t.data.toList = m := ⟨_, rfl⟩
  have hsm : m.length = t.size := by rw [← hm]; rfl
  have HM := Lib.hid hm; clear hm
  cases hv : within l a with
  | false =>
    have ho := merge_out (a := a) (b := b) (w := m) (.inl hv)
    have HO := Lib.hid ho; clear ho
    go_wp2_with fail
    refine (implMerge_any s t a b (by omega) (by omega) _).mono ?_
    rintro e w2 ⟨r2, rfl, hr2, hb⟩
    have hbel2 := hbel1.trans (hb.mono hbel1.size)
    have HR2 := Lib.hid hr2; clear hr2
    clear hb hbel1
    rw [HL.out, HM.out, HO.out]
    go_wp2_with fail
    refine (specMerge_any s t a b (by omega) (by omega) _).mono ?_
    rintro e w3 ⟨r3, rfl, hr3, hb⟩
    have hbel3 := hbel2.trans (hb.mono hbel2.size)
    have HR3 := Lib.hid hr3; clear hr3
    clear hb hbel2
    rw [HL.out, HM.out, HO.out]
    have heq := eq_toList HR2.out HR3.out
    go_wp2_with fail
    refine (implWithin_any s a (by omega) _).mono ?_
    rintro e w' ⟨rfl, rfl⟩
    rw [HL.out, hv]
    go_wp2
    go_ret
    exact ⟨rfl, hbel3⟩
  | true =>
    cases hw : within m b with
    | false =>
      have ho := merge_out (a := a) (v := l) (.inr hw)
      have HO := Lib.hid ho; clear ho
      go_wp2_with fail
      refine (implMerge_any s t a b (by omega) (by omega) _).mono ?_
      rintro e w2 ⟨r2, rfl, hr2, hb⟩
      have hbel2 := hbel1.trans (hb.mono hbel1.size)
      have HR2 := Lib.hid hr2; clear hr2
      clear hb hbel1
      rw [HL.out, HM.out, HO.out]
      go_wp2_with fail
      refine (specMerge_any s t a b (by omega) (by omega) _).mono ?_
      rintro e w3 ⟨r3, rfl, hr3, hb⟩
      have hbel3 := hbel2.trans (hb.mono hbel2.size)
      have HR3 := Lib.hid hr3; clear hr3
      clear hb hbel2
      rw [HL.out, HM.out, HO.out]
      have heq := eq_toList HR2.out HR3.out
      go_wp2_with fail
      refine (implWithin_any s a (by omega) _).mono ?_
      rintro e w' ⟨rfl, rfl⟩
      rw [HL.out, hv]
      go_wp2_with fail
      refine (implWithin_any t b (by omega) _).mono ?_
      rintro e w' ⟨rfl, rfl⟩
      rw [HM.out, hw]
      go_wp2
      go_ret
      exact ⟨rfl, hbel3⟩
    | true =>
      obtain ⟨hA, hvv, -, hlv⟩ := within_valid hv
      obtain ⟨hB, hvw, -, hlw⟩ := within_valid hw
      have hr1 : restrW b l = restrL b l := restrW_good hvv hB
      have hr2 : restrW a m = restrL a m := restrW_good hvw hA
      have hlc := restrL_len b l
      have HR1 := Lib.hid hr1; clear hr1
      have HR2' := Lib.hid hr2; clear hr2
      cases ho : mergeW a b l m with
      | none =>
        rcases merge_no ho hv hw with hne | ⟨he, hlen⟩
        · have HO := Lib.hid ho; clear ho
          have HV := Lib.hid hv
          have HW := Lib.hid hw
          have HNE := Lib.hid hne
          clear hv hw hne hA hB hvv hvw
          go_wp2_with fail
          refine (implMerge_any s t a b (by omega) (by omega) _).mono ?_
          rintro e w2 ⟨r2, rfl, hr2, hb⟩
          have hbel2 := hbel1.trans (hb.mono hbel1.size)
          have HR2 := Lib.hid hr2; clear hr2
          clear hb hbel1
          rw [HL.out, HM.out, HO.out]
          go_wp2_with fail
          refine (specMerge_any s t a b (by omega) (by omega) _).mono ?_
          rintro e w3 ⟨r3, rfl, hr3, hb⟩
          have hbel3 := hbel2.trans (hb.mono hbel2.size)
          have HR3 := Lib.hid hr3; clear hr3
          clear hb hbel2
          rw [HL.out, HM.out, HO.out]
          have heq := eq_toList HR2.out HR3.out
          go_wp2_with fail
          refine (implWithin_any s a (by omega) _).mono ?_
          rintro e w' ⟨rfl, rfl⟩
          rw [HL.out, HV.out]
          go_wp2_with fail
          refine (implWithin_any t b (by omega) _).mono ?_
          rintro e w' ⟨rfl, rfl⟩
          rw [HM.out, HW.out]
          go_wp2_with fail
          refine (implRestrict_any s b (by omega) _).mono ?_
          rintro e w4 ⟨r4, rfl, hr4, hb⟩
          have hbel4 := hbel3.trans (hb.mono hbel3.size)
          have HR4 := Lib.hid hr4; clear hr4
          clear hb hbel3
          go_wp2_with fail
          refine (implRestrict_any t a (by omega) _).mono ?_
          rintro e w5 ⟨r5, rfl, hr5, hb⟩
          have hbel5 := hbel4.trans (hb.mono hbel4.size)
          have HR5 := Lib.hid hr5; clear hr5
          clear hb hbel4
          have hq := toList_ne (a := r4) (b := r5) (l := restrL b l) (m := restrL a m) (by rw [HR4.out, HL.out, HR1.out]) (by rw [HR5.out, HM.out, HR2'.out]) HNE.out
          go_wp2
          go_ret
          exact ⟨rfl, hbel5⟩
        · have hc4 : (restrL b l).length = (restrL a m).length := by rw [he]
          have HO := Lib.hid ho; clear ho
          have HV := Lib.hid hv
          have HW := Lib.hid hw
          have HE := Lib.hid he; clear he
          clear hv hw hA hB hvv hvw hc4
          go_wp2_with fail
          refine (implMerge_any s t a b (by omega) (by omega) _).mono ?_
          rintro e w2 ⟨r2, rfl, hr2, hb⟩
          have hbel2 := hbel1.trans (hb.mono hbel1.size)
          have HR2 := Lib.hid hr2; clear hr2
          clear hb hbel1
          rw [HL.out, HM.out, HO.out]
          go_wp2_with fail
          refine (specMerge_any s t a b (by omega) (by omega) _).mono ?_
          rintro e w3 ⟨r3, rfl, hr3, hb⟩
          have hbel3 := hbel2.trans (hb.mono hbel2.size)
          have HR3 := Lib.hid hr3; clear hr3
          clear hb hbel2
          rw [HL.out, HM.out, HO.out]
          have heq := eq_toList HR2.out HR3.out
          go_wp2_with fail
          refine (implWithin_any s a (by omega) _).mono ?_
          rintro e w' ⟨rfl, rfl⟩
          rw [HL.out, HV.out]
          go_wp2_with fail
          refine (implWithin_any t b (by omega) _).mono ?_
          rintro e w' ⟨rfl, rfl⟩
          rw [HM.out, HW.out]
          go_wp2_with fail
          refine (implRestrict_any s b (by omega) _).mono ?_
          rintro e w4 ⟨r4, rfl, hr4, hb⟩
          have hbel4 := hbel3.trans (hb.mono hbel3.size)
          have HR4 := Lib.hid hr4; clear hr4
          clear hb hbel3
          have s4 : r4.size = (restrL b l).length := size_of (by rw [HR4.out, HL.out, HR1.out])
          go_wp2_with fail
          refine (implRestrict_any t a (by omega) _).mono ?_
          rintro e w5 ⟨r5, rfl, hr5, hb⟩
          have hbel5 := hbel4.trans (hb.mono hbel4.size)
          have HR5 := Lib.hid hr5; clear hr5
          clear hb hbel4
          have hq := eq_toList (a := r4) (b := r5) (l := restrL b l) (by rw [HR4.out, HL.out, HR1.out]) (by rw [HR5.out, HM.out, HR2'.out, HE.out])
          have hbig : (50000 : Int) < (s.size : Int) + (t.size : Int) - (r4.size : Int) := by omega
          have hr4 : (r4.size : Int) ≤ (s.size : Int) := by omega
          clear s4 hlen hlc
          go_wp2
          go_ret
          exact ⟨rfl, hbel5⟩
      | some k =>
        obtain ⟨he, hkw, hkv, hka, hkb, hkl, hk5⟩ := merge_some ho hv hw
        obtain ⟨hA0, hA1⟩ := (isA_iff a).1 hA
        obtain ⟨hB0, hB1⟩ := (isA_iff b).1 hB
        have hor := or_i64 a b hA0 hB0 (by omega) (by omega)
        have ha3 : restrW a k = restrL a k := restrW_good hkv hA
        have hb3 : restrW b k = restrL b k := restrW_good hkv hB
        have HO := Lib.hid ho; clear ho
        have HV := Lib.hid hv
        have HW := Lib.hid hw
        have HE := Lib.hid he; clear he
        have HKW := Lib.hid hkw
        have HKA := Lib.hid hka; clear hka
        have HKB := Lib.hid hkb; clear hkb
        have HA3 := Lib.hid ha3; clear ha3
        have HB3 := Lib.hid hb3; clear hb3
        have HOR := Lib.hid hor; clear hor
        clear hv hw hA hB hvv hvw hkw hkv
        go_wp2_with fail
        refine (implMerge_any s t a b (by omega) (by omega) _).mono ?_
        rintro e w2 ⟨r2, rfl, hr2, hb⟩
        have hbel2 := hbel1.trans (hb.mono hbel1.size)
        have HR2 := Lib.hid hr2; clear hr2
        clear hb hbel1
        rw [HL.out, HM.out, HO.out]
        go_wp2_with fail
        refine (specMerge_any s t a b (by omega) (by omega) _).mono ?_
        rintro e w3 ⟨r3, rfl, hr3, hb⟩
        have hbel3 := hbel2.trans (hb.mono hbel2.size)
        have HR3 := Lib.hid hr3; clear hr3
        clear hb hbel2
        rw [HL.out, HM.out, HO.out]
        have heq := eq_toList HR2.out HR3.out
        have e2 : r2.data.toList = k := by rw [HR2.out, HL.out, HM.out, HO.out]; rfl
        have s2 : r2.size = k.length := size_of e2
        have E2 := Lib.hid e2; clear e2
        go_wp2_with fail
        refine (implWithin_any s a (by omega) _).mono ?_
        rintro e w' ⟨rfl, rfl⟩
        rw [HL.out, HV.out]
        go_wp2_with fail
        refine (implWithin_any t b (by omega) _).mono ?_
        rintro e w' ⟨rfl, rfl⟩
        rw [HM.out, HW.out]
        go_wp2_with fail
        refine (implRestrict_any s b (by omega) _).mono ?_
        rintro e w4 ⟨r4, rfl, hr4, hb⟩
        have hbel4 := hbel3.trans (hb.mono hbel3.size)
        have HR4 := Lib.hid hr4; clear hr4
        clear hb hbel3
        have s4 : r4.size = (restrL b l).length := size_of (by rw [HR4.out, HL.out, HR1.out])
        go_wp2_with fail
        refine (implRestrict_any t a (by omega) _).mono ?_
        rintro e w5 ⟨r5, rfl, hr5, hb⟩
        have hbel5 := hbel4.trans (hb.mono hbel4.size)
        have HR5 := Lib.hid hr5; clear hr5
        clear hb hbel4
        have hq := eq_toList (a := r4) (b := r5) (l := restrL b l) (by rw [HR4.out, HL.out, HR1.out]) (by rw [HR5.out, HM.out, HR2'.out, HE.out])
        have hbig : (s.size : Int) + (t.size : Int) - (r4.size : Int) = (r2.size : Int) := by omega
        have hr4 : (r4.size : Int) ≤ (s.size : Int) := by omega
        have hr2s : (r2.size : Int) ≤ 50000 := by omega
        clear s4 s2 hkl hk5 hlc
        go_wp2_with fail
        refine (implWithin_any r2 _ (by omega) _).mono ?_
        rintro e w' ⟨rfl, rfl⟩
        rw [E2.out, HOR.out, HKW.out]
        go_wp2_with fail
        refine (implRestrict_any r2 a (by omega) _).mono ?_
        rintro e w6 ⟨r6, rfl, hr6, hb⟩
        have hbel6 := hbel5.trans (hb.mono hbel5.size)
        have HR6 := Lib.hid hr6; clear hr6
        clear hb hbel5
        have h6 := eq_toList (a := r6) (b := s) (l := l) (by rw [HR6.out, E2.out, HA3.out, HKA.out]) HL.out
        go_wp2_with fail
        refine (implRestrict_any r2 b (by omega) _).mono ?_
        rintro e w7 ⟨r7, rfl, hr7, hb⟩
        have hbel7 := hbel6.trans (hb.mono hbel6.size)
        have HR7 := Lib.hid hr7; clear hr7
        clear hb hbel6
        have h7 := eq_toList (a := r7) (b := t) (l := m) (by rw [HR7.out, E2.out, HB3.out, HKB.out]) HM.out
        go_wp2
        go_ret
        exact ⟨rfl, hbel7⟩

end Go.Proofs.Ytkgbdglfpnmlgaa
