/- The walk of the law on what stands before and behind two words. -/
import Derived.Test.YtkgbdglfpnmlgaaW9
import Derived.Test.YtkgbdglfpnmlgaaW4
namespace Go.Proofs.Ytkgbdglfpnmlgaa
open Go.RowKit
set_option linter.unusedVariables false
set_option linter.unusedSimpArgs false
set_option maxRecDepth 100000



set_option maxHeartbeats 1000000 in
theorem fnWordBehind_walk (a0 : Option Addr) (len0 cap0 : Nat) (z0 : List Int) (w : World) (hrow : IsRow w a0 len0 cap0 z0) : Calls Try.prog 10 #[.slice a0 len0 cap0] w fun e w' => e = .returned (.bool true) ∧ Below w.heap.size w w' := by
  by_cases hl : 1048576 < len0
  · have hl' : (1048576 : Int) < (len0 : Int) := by omega
    go_enter Try.func10, Try.ntmps10
    go_wp2
    go_ret
    exact ⟨rfl, Below.refl _ _⟩
  have hl' : (len0 : Int) ≤ 1048576 := by omega
  clear hl
  go_enter Try.func10, Try.ntmps10
  go_wp2_with fail
  refine (drawBefore_any _ _ _ _ _ hrow).mono ?_
  rintro e w1 ⟨s, t, rfl, hs, ht, hbel1⟩
  have hs' : (s.size : Int) ≤ 60000 := by omega
  have ht' : (t.size : Int) ≤ 60000 := by omega
  obtain ⟨l, hl⟩ : ∃ l, s.data.toList = l := ⟨_, rfl⟩
  obtain ⟨m, hm⟩ : ∃ m, t.data.toList = m := ⟨_, rfl⟩
  have hsl : l.length = s.size := by rw [← hl]; rfl
  have hsm : m.length = t.size := by rw [← hm]; rfl
  cases hv : wvalid l with
  | false =>
    have hb := before_bad hl hm (.inl hv)
    have HB := Lib.hid hb; clear hb
    have HL := Lib.hid hl; clear hl
    clear hm
    go_wp2_with fail
    refine (implBefore_any s t (by omega) (by omega) _).mono ?_
    rintro e w2 ⟨rfl, hb⟩
    have hbel2 := hbel1.trans (hb.mono hbel1.size)
    clear hb hbel1
    rw [HB.out]
    go_wp2_with fail
    refine (specBefore_any s t (by omega) (by omega) _).mono ?_
    rintro e w3 ⟨rfl, hb⟩
    have hbel3 := hbel2.trans (hb.mono hbel2.size)
    clear hb hbel2
    rw [HB.out]
    go_wp2_with fail
    refine (implValid_any s (by omega) _).mono ?_
    rintro e w' ⟨rfl, rfl⟩
    rw [HL.out]
    go_wp2_with fail
    refine (specBefore_any s t (by omega) (by omega) _).mono ?_
    rintro e w4 ⟨rfl, hb⟩
    have hbel4 := hbel3.trans (hb.mono hbel3.size)
    clear hb hbel3
    rw [HB.out]
    go_wp2
    go_ret
    exact ⟨rfl, hbel4⟩
  | true =>
    cases hw : wvalid m with
    | false =>
      have hb := before_bad hl hm (.inr hw)
      have HB := Lib.hid hb; clear hb
      have HL := Lib.hid hl; clear hl
      have HM := Lib.hid hm; clear hm
      go_wp2_with fail
      refine (implBefore_any s t (by omega) (by omega) _).mono ?_
      rintro e w2 ⟨rfl, hb⟩
      have hbel2 := hbel1.trans (hb.mono hbel1.size)
      clear hb hbel1
      rw [HB.out]
      go_wp2_with fail
      refine (specBefore_any s t (by omega) (by omega) _).mono ?_
      rintro e w3 ⟨rfl, hb⟩
      have hbel3 := hbel2.trans (hb.mono hbel2.size)
      clear hb hbel2
      rw [HB.out]
      go_wp2_with fail
      refine (implValid_any s (by omega) _).mono ?_
      rintro e w' ⟨rfl, rfl⟩
      rw [HL.out]
      go_wp2_with fail
      refine (implValid_any t (by omega) _).mono ?_
      rintro e w' ⟨rfl, rfl⟩
      rw [HM.out]
      go_wp2_with fail
      refine (specBefore_any s t (by omega) (by omega) _).mono ?_
      rintro e w4 ⟨rfl, hb⟩
      have hbel4 := hbel3.trans (hb.mono hbel3.size)
      clear hb hbel3
      rw [HB.out]
      go_wp2
      go_ret
      exact ⟨rfl, hbel4⟩
    | true =>
      have hls := wvalid_len hv
      have hlm := wvalid_len hw
      obtain ⟨b, hb⟩ : ∃ b, beforeB s t = b := ⟨_, rfl⟩
      by_cases h1 : s.size = 50000
      · have hq : ((s.size : Int) == 50000) = true := by simp; omega
        have HB := Lib.hid hb
        have HL := Lib.hid hl; clear hl
        have HM := Lib.hid hm; clear hm
        clear h1 hb
        go_wp2_with fail
        refine (implBefore_any s t (by omega) (by omega) _).mono ?_
        rintro e w2 ⟨rfl, hb⟩
        have hbel2 := hbel1.trans (hb.mono hbel1.size)
        clear hb hbel1
        rw [HB.out]
        go_wp2_with fail
        refine (specBefore_any s t (by omega) (by omega) _).mono ?_
        rintro e w3 ⟨rfl, hb⟩
        have hbel3 := hbel2.trans (hb.mono hbel2.size)
        clear hb hbel2
        rw [HB.out]
        go_wp2_with fail
        refine (implValid_any s (by omega) _).mono ?_
        rintro e w' ⟨rfl, rfl⟩
        rw [HL.out]
        go_wp2_with fail
        refine (implValid_any t (by omega) _).mono ?_
        rintro e w' ⟨rfl, rfl⟩
        rw [HM.out]
        go_wp2_with fail
        refine (specBefore_any s t (by omega) (by omega) _).mono ?_
        rintro e w4 ⟨rfl, hb⟩
        have hbel4 := hbel3.trans (hb.mono hbel3.size)
        clear hb hbel3
        rw [HB.out]
        go_wp2
        go_ret
        exact ⟨rfl, hbel4⟩
      · have hq : ((s.size : Int) == 50000) = false := by simp; omega
        by_cases h2 : t.size = 50000
        · have hq2 : ((t.size : Int) == 50000) = true := by simp; omega
          have HB := Lib.hid hb
          have HL := Lib.hid hl; clear hl
          have HM := Lib.hid hm; clear hm
          clear h1 hb h2
          go_wp2_with fail
          refine (implBefore_any s t (by omega) (by omega) _).mono ?_
          rintro e w2 ⟨rfl, hb⟩
          have hbel2 := hbel1.trans (hb.mono hbel1.size)
          clear hb hbel1
          rw [HB.out]
          go_wp2_with fail
          refine (specBefore_any s t (by omega) (by omega) _).mono ?_
          rintro e w3 ⟨rfl, hb⟩
          have hbel3 := hbel2.trans (hb.mono hbel2.size)
          clear hb hbel2
          rw [HB.out]
          go_wp2_with fail
          refine (implValid_any s (by omega) _).mono ?_
          rintro e w' ⟨rfl, rfl⟩
          rw [HL.out]
          go_wp2_with fail
          refine (implValid_any t (by omega) _).mono ?_
          rintro e w' ⟨rfl, rfl⟩
          rw [HM.out]
          go_wp2_with fail
          refine (specBefore_any s t (by omega) (by omega) _).mono ?_
          rintro e w4 ⟨rfl, hb⟩
          have hbel4 := hbel3.trans (hb.mono hbel3.size)
          clear hb hbel3
          rw [HB.out]
          go_wp2
          go_ret
          exact ⟨rfl, hbel4⟩
        · have hq2 : ((t.size : Int) == 50000) = false := by simp; omega
          have hls' : l.length < 50000 := by omega
          have hlm' : m.length < 50000 := by omega
          have hb0 := before_less hl hm hv hw
          have e1 : beforeB (⟨#[99]⟩ ++ s) (⟨#[99]⟩ ++ t) = b := by
            rw [before_less (l := 99 :: l) (m := 99 :: m) (by rw [data_append, hl]; rfl) (by rw [data_append, hm]; rfl) (valid_front okL_letter.1 hv hls') (valid_front okL_letter.1 hw hlm'), less_front, ← hb0, hb]
          have e2 : beforeB (s ++ ⟨#[99]⟩) (t ++ ⟨#[99]⟩) = b := by
            rw [before_less (l := l ++ [99]) (m := m ++ [99]) (by rw [data_append, hl]) (by rw [data_append, hm]) (valid_back okL_letter.1 hv hls') (valid_back okL_letter.1 hw hlm'), less_back 99 okL_letter.1 hv hw, ← hb0, hb]
          have e3 : beforeB s (s ++ ⟨#[97]⟩) = true := by
            rw [before_less (l := l) (m := l ++ [97]) hl (by rw [data_append, hl]) hv (valid_back okL_letter.2 hv hls'), less_more]
          have hz : s.size ≤ 50000 := by omega
          have hz2 : t.size ≤ 50000 := by omega
          have hap1 := append_size ⟨#[99]⟩ s
          have hap2 := append_size ⟨#[99]⟩ t
          have hap3 := append_size s ⟨#[99]⟩
          have hap4 := append_size t ⟨#[99]⟩
          have hap5 := append_size s ⟨#[97]⟩
          have k1 : (⟨#[99]⟩ : ByteArray).size = 1 := rfl
          have k2 : (⟨#[97]⟩ : ByteArray).size = 1 := rfl
          rw [k1] at hap1 hap2 hap3 hap4
          rw [k2] at hap5
          have HSS : Hid (s.size ≤ 9223372036854775807) := Lib.hid (by omega)
          have HB := Lib.hid hb
          have HL := Lib.hid hl; clear hl
          have HM := Lib.hid hm; clear hm
          have E1 := Lib.hid e1; clear e1
          have E2 := Lib.hid e2; clear e2
          have E3 := Lib.hid e3; clear e3
          have HAP1 : Hid ((⟨#[99]⟩ ++ s : ByteArray).size ≤ 9223372036854775807) := Lib.hid (by omega)
          have HAP2 : Hid ((⟨#[99]⟩ ++ t : ByteArray).size ≤ 9223372036854775807) := Lib.hid (by omega)
          have HAP3 : Hid ((s ++ ⟨#[99]⟩ : ByteArray).size ≤ 9223372036854775807) := Lib.hid (by omega)
          have HAP4 : Hid ((t ++ ⟨#[99]⟩ : ByteArray).size ≤ 9223372036854775807) := Lib.hid (by omega)
          have HAP5 : Hid ((s ++ ⟨#[97]⟩ : ByteArray).size ≤ 9223372036854775807) := Lib.hid (by omega)
          clear hap1 hap2 hap3 hap4 hap5
          clear h1 hb h2 hls hlm k1 k2 hb0 hls' hlm'
          go_wp2_with fail
          refine (implBefore_any s t (by omega) (by omega) _).mono ?_
          rintro e w2 ⟨rfl, hb⟩
          have hbel2 := hbel1.trans (hb.mono hbel1.size)
          clear hb hbel1
          rw [HB.out]
          go_wp2_with fail
          refine (specBefore_any s t (by omega) (by omega) _).mono ?_
          rintro e w3 ⟨rfl, hb⟩
          have hbel3 := hbel2.trans (hb.mono hbel2.size)
          clear hb hbel2
          rw [HB.out]
          go_wp2_with fail
          refine (implValid_any s (by omega) _).mono ?_
          rintro e w' ⟨rfl, rfl⟩
          rw [HL.out]
          go_wp2_with fail
          refine (implValid_any t (by omega) _).mono ?_
          rintro e w' ⟨rfl, rfl⟩
          rw [HM.out]
          go_wp2_with fail
          refine (implBefore_any _ _ HAP1.out HAP2.out _).mono ?_
          rintro e w4 ⟨rfl, hb⟩
          have hbel4 := hbel3.trans (hb.mono hbel3.size)
          clear hb hbel3
          rw [E1.out]
          go_wp2_with fail
          refine (implBefore_any _ _ HAP3.out HAP4.out _).mono ?_
          rintro e w5 ⟨rfl, hb⟩
          have hbel5 := hbel4.trans (hb.mono hbel4.size)
          clear hb hbel4
          rw [E2.out]
          go_wp2_with fail
          refine (implBefore_any _ _ HSS.out HAP5.out _).mono ?_
          rintro e w6 ⟨rfl, hb⟩
          have hbel6 := hbel5.trans (hb.mono hbel5.size)
          clear hb hbel5
          rw [E3.out]
          go_wp2
          go_ret
          exact ⟨rfl, hbel6⟩

end Go.Proofs.Ytkgbdglfpnmlgaa
