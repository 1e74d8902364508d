/- The walk of the law on a word merged with the empty word. -/
import Derived.Test.YtkgbdglfpnmlgaaW9
import Derived.Test.YtkgbdglfpnmlgaaLaw4
import Derived.Test.YtkgbdglfpnmlgaaDraw4
import Derived.Test.YtkgbdglfpnmlgaaSMerge2
namespace Go.Proofs.Ytkgbdglfpnmlgaa
open Go.RowKit
set_option linter.unusedVariables false
set_option linter.unusedSimpArgs false
set_option maxRecDepth 100000



set_option maxHeartbeats 1000000 in
theorem fnMergeNone_walk (a0 : Option Addr) (len0 cap0 : Nat) (z0 : List Int) (w : World) (hrow : IsRow w a0 len0 cap0 z0) : Calls Try.prog 17 #[.slice a0 len0 cap0] w fun e w' => e = .returned (.bool true) ∧ Below w.heap.size w w' := by
  by_cases hl : 1048576 < len0
  · have hl' : (1048576 : Int) < (len0 : Int) := by omega
    go_enter Try.func17, Try.ntmps17
    go_wp2
    go_ret
    exact ⟨rfl, Below.refl _ _⟩
  have hl' : (len0 : Int) ≤ 1048576 := by omega
  clear hl
  go_enter Try.func17, Try.ntmps17
  go_wp2_with fail
  refine (drawMerge_any _ _ _ _ _ hrow).mono ?_
  rintro e w1 ⟨s, t, a, b, rfl, hs, ht, ha0, ha1, hb0, hb1, hbel1⟩
  have hs' : (s.size : Int) ≤ 60000 := by omega
  have ht' : (t.size : Int) ≤ 60000 := by omega
  clear hrow
  obtain ⟨l, hl⟩ : ∃ l, s.data.toList = l := ⟨_, rfl⟩
  have hsl : l.length = s.size := by rw [← hl]; rfl
  have HL := Lib.hid hl; clear hl
  obtain ⟨m, hm⟩ : ∃ m, t.data.toList = m := ⟨_, rfl⟩
  have hsm : m.length = t.size := by rw [← hm]; rfl
  have HM := Lib.hid hm; clear hm
  cases ho : mergeW a b l m with
  | none =>
    have HO := Lib.hid ho; clear ho
    go_wp2_with fail
    refine (implMerge_any s t a b (by omega) (by omega) _).mono ?_
    rintro e w2 ⟨r2, rfl, hr2, hb⟩
    have hbel2 := hbel1.trans (hb.mono hbel1.size)
    have HR2 := Lib.hid hr2; clear hr2
    clear hb hbel1
    rw [HL.out, HM.out, HO.out]
    go_wp2_with fail
    refine (specMerge_any s t a b (by omega) (by omega) _).mono ?_
    rintro e w3 ⟨r3, rfl, hr3, hb⟩
    have hbel3 := hbel2.trans (hb.mono hbel2.size)
    have HR3 := Lib.hid hr3; clear hr3
    clear hb hbel2
    rw [HL.out, HM.out, HO.out]
    have heq := eq_toList HR2.out HR3.out
    cases hv : within l a with
    | false =>
      go_wp2_with fail
      refine (implWithin_any s a (by omega) _).mono ?_
      rintro e w' ⟨rfl, rfl⟩
      rw [HL.out, hv]
      go_wp2
      go_ret
      exact ⟨rfl, hbel3⟩
    | true =>
      cases hB : isA b with
      | false =>
        go_wp2_with fail
        refine (implWithin_any s a (by omega) _).mono ?_
        rintro e w' ⟨rfl, rfl⟩
        rw [HL.out, hv]
        go_wp2_with fail
        refine (agAlph_any b _).mono ?_
        rintro e w' ⟨rfl, rfl⟩
        go_wp2
        go_ret
        exact ⟨rfl, hbel3⟩
      | true =>
        have hmn := merge_none hv hB
        have hvv := (within_valid hv).2.1
        have hrr : restrW b l = restrL b l := restrW_good hvv hB
        have HRR := Lib.hid hrr; clear hrr
        go_wp2_with fail
        refine (implWithin_any s a (by omega) _).mono ?_
        rintro e w' ⟨rfl, rfl⟩
        rw [HL.out, hv]
        go_wp2_with fail
        refine (agAlph_any b _).mono ?_
        rintro e w' ⟨rfl, rfl⟩
        by_cases hz : restrL b l = []
        · rw [if_pos hz] at hmn
          have HZ := Lib.hid hz; clear hz
          have HMN := Lib.hid hmn; clear hmn
          clear hv hvv
          go_wp2_with fail
          refine (implMerge_any s ⟨#[]⟩ a b (by omega) (by show 0 ≤ 1048576; omega) _).mono ?_
          rintro e w4 ⟨r4, rfl, hr4, hb⟩
          have hbel4 := hbel3.trans (hb.mono hbel3.size)
          have HR4 := Lib.hid hr4; clear hr4
          clear hb hbel3
          rw [show (ByteArray.mk #[]).data.toList = [] from rfl, HL.out, HMN.out]
          have h4 := eq_toList (a := r4) (b := s) (l := l) (by rw [HR4.out, show (ByteArray.mk #[]).data.toList = [] from rfl, HL.out, HMN.out]; rfl) HL.out
          go_wp2_with fail
          refine (implRestrict_any s b (by omega) _).mono ?_
          rintro e w5 ⟨r5, rfl, hr5, hb⟩
          have hbel5 := hbel4.trans (hb.mono hbel4.size)
          have HR5 := Lib.hid hr5; clear hr5
          clear hb hbel4
          have h5 := toList_nil (r := r5) (by rw [HR5.out, HL.out, HRR.out, HZ.out])
          go_wp2
          go_ret
          exact ⟨rfl, hbel5⟩
        · rw [if_neg hz] at hmn
          have HZ := Lib.hid hz
          have HMN := Lib.hid hmn; clear hmn
          clear hv hvv hz
          go_wp2_with fail
          refine (implMerge_any s ⟨#[]⟩ a b (by omega) (by show 0 ≤ 1048576; omega) _).mono ?_
          rintro e w4 ⟨r4, rfl, hr4, hb⟩
          have hbel4 := hbel3.trans (hb.mono hbel3.size)
          have HR4 := Lib.hid hr4; clear hr4
          clear hb hbel3
          rw [show (ByteArray.mk #[]).data.toList = [] from rfl, HL.out, HMN.out]
          go_wp2_with fail
          refine (implRestrict_any s b (by omega) _).mono ?_
          rintro e w5 ⟨r5, rfl, hr5, hb⟩
          have hbel5 := hbel4.trans (hb.mono hbel4.size)
          have HR5 := Lib.hid hr5; clear hr5
          clear hb hbel4
          have h5 := toList_cons (r := r5) (by rw [HR5.out, HL.out, HRR.out]; exact HZ.out)
          go_wp2
          go_ret
          exact ⟨rfl, hbel5⟩
  | some k =>
    have HO := Lib.hid ho; clear ho
    go_wp2_with fail
    refine (implMerge_any s t a b (by omega) (by omega) _).mono ?_
    rintro e w2 ⟨r2, rfl, hr2, hb⟩
    have hbel2 := hbel1.trans (hb.mono hbel1.size)
    have HR2 := Lib.hid hr2; clear hr2
    clear hb hbel1
    rw [HL.out, HM.out, HO.out]
    go_wp2_with fail
    refine (specMerge_any s t a b (by omega) (by omega) _).mono ?_
    rintro e w3 ⟨r3, rfl, hr3, hb⟩
    have hbel3 := hbel2.trans (hb.mono hbel2.size)
    have HR3 := Lib.hid hr3; clear hr3
    clear hb hbel2
    rw [HL.out, HM.out, HO.out]
    have heq := eq_toList HR2.out HR3.out
    cases hv : within l a with
    | false =>
      go_wp2_with fail
      refine (implWithin_any s a (by omega) _).mono ?_
      rintro e w' ⟨rfl, rfl⟩
      rw [HL.out, hv]
      go_wp2
      go_ret
      exact ⟨rfl, hbel3⟩
    | true =>
      cases hB : isA b with
      | false =>
        go_wp2_with fail
        refine (implWithin_any s a (by omega) _).mono ?_
        rintro e w' ⟨rfl, rfl⟩
        rw [HL.out, hv]
        go_wp2_with fail
        refine (agAlph_any b _).mono ?_
        rintro e w' ⟨rfl, rfl⟩
        go_wp2
        go_ret
        exact ⟨rfl, hbel3⟩
      | true =>
        have hmn := merge_none hv hB
        have hvv := (within_valid hv).2.1
        have hrr : restrW b l = restrL b l := restrW_good hvv hB
        have HRR := Lib.hid hrr; clear hrr
        go_wp2_with fail
        refine (implWithin_any s a (by omega) _).mono ?_
        rintro e w' ⟨rfl, rfl⟩
        rw [HL.out, hv]
        go_wp2_with fail
        refine (agAlph_any b _).mono ?_
        rintro e w' ⟨rfl, rfl⟩
        by_cases hz : restrL b l = []
        · rw [if_pos hz] at hmn
          have HZ := Lib.hid hz; clear hz
          have HMN := Lib.hid hmn; clear hmn
          clear hv hvv
          go_wp2_with fail
          refine (implMerge_any s ⟨#[]⟩ a b (by omega) (by show 0 ≤ 1048576; omega) _).mono ?_
          rintro e w4 ⟨r4, rfl, hr4, hb⟩
          have hbel4 := hbel3.trans (hb.mono hbel3.size)
          have HR4 := Lib.hid hr4; clear hr4
          clear hb hbel3
          rw [show (ByteArray.mk #[]).data.toList = [] from rfl, HL.out, HMN.out]
          have h4 := eq_toList (a := r4) (b := s) (l := l) (by rw [HR4.out, show (ByteArray.mk #[]).data.toList = [] from rfl, HL.out, HMN.out]; rfl) HL.out
          go_wp2_with fail
          refine (implRestrict_any s b (by omega) _).mono ?_
          rintro e w5 ⟨r5, rfl, hr5, hb⟩
          have hbel5 := hbel4.trans (hb.mono hbel4.size)
          have HR5 := Lib.hid hr5; clear hr5
          clear hb hbel4
          have h5 := toList_nil (r := r5) (by rw [HR5.out, HL.out, HRR.out, HZ.out])
          go_wp2
          go_ret
          exact ⟨rfl, hbel5⟩
        · rw [if_neg hz] at hmn
          have HZ := Lib.hid hz
          have HMN := Lib.hid hmn; clear hmn
          clear hv hvv hz
          go_wp2_with fail
          refine (implMerge_any s ⟨#[]⟩ a b (by omega) (by show 0 ≤ 1048576; omega) _).mono ?_
          rintro e w4 ⟨r4, rfl, hr4, hb⟩
          have hbel4 := hbel3.trans (hb.mono hbel3.size)
          have HR4 := Lib.hid hr4; clear hr4
          clear hb hbel3
          rw [show (ByteArray.mk #[]).data.toList = [] from rfl, HL.out, HMN.out]
          go_wp2_with fail
          refine (implRestrict_any s b (by omega) _).mono ?_
          rintro e w5 ⟨r5, rfl, hr5, hb⟩
          have hbel5 := hbel4.trans (hb.mono hbel4.size)
          have HR5 := Lib.hid hr5; clear hr5
          clear hb hbel4
          have h5 := toList_cons (r := r5) (by rw [HR5.out, HL.out, HRR.out]; exact HZ.out)
          go_wp2
          go_ret
          exact ⟨rfl, hbel5⟩

end Go.Proofs.Ytkgbdglfpnmlgaa
