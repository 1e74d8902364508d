/- The walk of the law on restrictions of a restricted word. -/
import Derived.Test.YtkgbdglfpnmlgaaW3
namespace Go.Proofs.Ytkgbdglfpnmlgaa
open Go.RowKit
set_option linter.unusedVariables false
set_option linter.unusedSimpArgs false
set_option maxRecDepth 100000


set_option maxHeartbeats 1000000 in
theorem fnRestrictTwice_walk (a0 : Option Addr) (len0 cap0 : Nat) (z0 : List Int) (w : World) (hrow : IsRow w a0 len0 cap0 z0) : Calls Try.prog 7 #[.slice a0 len0 cap0] w fun e w' => e = .returned (.bool true) ∧ Below w.heap.size w w' := by
  by_cases hl : 1048576 < len0
  · have hl' : (1048576 : Int) < (len0 : Int) := by omega
    go_enter Try.func7, Try.ntmps7
    go_wp2
    go_ret
    exact ⟨rfl, Below.refl _ _⟩
  have hl' : (len0 : Int) ≤ 1048576 := by omega
  clear hl
  go_enter Try.func7, Try.ntmps7
  go_wp2_with fail
  refine (drawRestrict_any _ _ _ _ _ hrow).mono ?_
  rintro e w1 ⟨s, a, rfl, hs, ha0, ha1, hbel1⟩
  have hs' : (s.size : Int) ≤ 60000 := by omega
  obtain ⟨l, hl⟩ : ∃ l, s.data.toList = l := ⟨_, rfl⟩
  have hlen : l.length = s.size := by rw [← hl]; rfl
  have HL := Lib.hid hl; clear hl
  go_wp2_with fail
  refine (implRestrict_any s a (by omega) _).mono ?_
  rintro e w2 ⟨r2, rfl, hr2, hb⟩
  have hbel2 := hbel1.trans (hb.mono hbel1.size)
  have HR2 := Lib.hid hr2; clear hr2
  clear hb hbel1
  go_wp2_with fail
  refine (specRestrict_any s a (by omega) _).mono ?_
  rintro e w3 ⟨r3, rfl, hr3, hb⟩
  have hbel3 := hbel2.trans (hb.mono hbel2.size)
  have HR3 := Lib.hid hr3; clear hr3
  clear hb hbel2
  have heq := eq_toList HR2.out HR3.out
  cases hv : wvalid l with
  | false =>
    go_wp2_with fail
    refine (implValid_any s (by omega) _).mono ?_
    rintro e w' ⟨rfl, rfl⟩
    rw [HL.out]
    go_wp2_with fail
    refine (specRestrict_any s a (by omega) _).mono ?_
    rintro e w4 ⟨r4, rfl, hr4, hb⟩
    have hbel4 := hbel3.trans (hb.mono hbel3.size)
    have HR4 := Lib.hid hr4; clear hr4
    clear hb hbel3
    have heqz := eq_toList HR2.out HR4.out
    go_wp2
    go_ret
    exact ⟨rfl, hbel4⟩
  | true =>
    cases hA : isA a with
    | false =>
      go_wp2_with fail
      refine (implValid_any s (by omega) _).mono ?_
      rintro e w' ⟨rfl, rfl⟩
      rw [HL.out]
      go_wp2_with fail
      refine (agAlph_any a _).mono ?_
      rintro e w' ⟨rfl, rfl⟩
      go_wp2_with fail
      refine (specRestrict_any s a (by omega) _).mono ?_
      rintro e w4 ⟨r4, rfl, hr4, hb⟩
      have hbel4 := hbel3.trans (hb.mono hbel3.size)
      have HR4 := Lib.hid hr4; clear hr4
      clear hb hbel3
      have heqz := eq_toList HR2.out HR4.out
      go_wp2
      go_ret
      exact ⟨rfl, hbel4⟩
    | true =>
      have hr2 : r2.data.toList = restrL a l := by rw [HR2.out, HL.out, restrW_good hv hA]
      have hwi := restr_within a hA l hv
      have hwv := restr_wvalid a l hv
      have hsz2 : r2.size ≤ 60000 := by rw [size_of hr2]; have := restrL_len a l; omega
      have HWV := Lib.hid hwv
      have HV := Lib.hid hv
      have HRR2 := Lib.hid hr2
      clear hr2 hwv
      go_wp2_with fail
      refine (implValid_any s (by omega) _).mono ?_
      rintro e w' ⟨rfl, rfl⟩
      rw [HL.out]
      go_wp2_with fail
      refine (agAlph_any a _).mono ?_
      rintro e w' ⟨rfl, rfl⟩
      go_wp2_with fail
      refine (implWithin_any r2 a (by omega) _).mono ?_
      rintro e w' ⟨rfl, rfl⟩
      rw [HRR2.out]
      go_wp2_with fail
      refine (implRestrict_any r2 a (by omega) _).mono ?_
      rintro e w4 ⟨r4, rfl, hr4, hb⟩
      have hbel4 := hbel3.trans (hb.mono hbel3.size)
      have HR4 := Lib.hid hr4; clear hr4
      clear hb hbel3
      have h4 : r4.data.toList = restrL a l := by rw [HR4.out, HRR2.out, restrW_good HWV.out hA, restr_self]
      have heq4 := eq_toList h4 HRR2.out
      clear h4 hwi hv
      obtain ⟨hA0, hA1⟩ := (isA_iff a).1 hA
      have HA := Lib.hid hA; clear hA
      clear heq
      go_wp2
      clear heq4 hrow hlen
      go_loopw [6] (fun b wr => ∃ k : Nat, k ≤ 13 ∧ b = .int .i64 ((5 * k : Nat) : Int) ∧ Below w.heap.size w wr) (fun b _ => 70 - (intOf b).toNat)
      case atStart => exact ⟨0, by omega, rfl, hbel4⟩
      case round =>
        obtain ⟨k, hk, rfl, hbelr⟩ := hrel
        by_cases hlt : ((5 * k : Nat) : Int) ≤ 63
        · have hB : isA ((5 * k : Nat) : Int) = true := (isA_iff _).2 ⟨by omega, hlt⟩
          have hand : bits .and .i64 a ((5 * k : Nat) : Int) = ((a.toNat &&& (5 * k) : Nat) : Int) := and_i64 _ _ hA0 (by omega) (by omega) (by omega)
          have hC : isA ((a.toNat &&& (5 * k) : Nat) : Int) = true := and_isA _ _ (by omega)
          have haa : ((a.toNat : Nat) : Int) = a := by omega
          have hAN := Lib.hid hand
          have HB := Lib.hid hB
          have HC := Lib.hid hC
          have HAA := Lib.hid haa
          clear hand hB hC haa
          go_wp2_with fail
          refine (implRestrict_any r2 ((5 * k : Nat) : Int) (by omega) _).mono ?_
          rintro e w5 ⟨r5, rfl, hr5, hb⟩
          have hbel5 := hbelr.trans (hb.mono hbelr.size)
          have HR5 := Lib.hid hr5; clear hr5
          clear hb hbelr
          go_wp2_with fail
          refine (implRestrict_any s (bits .and .i64 a ((5 * k : Nat) : Int)) (by omega) _).mono ?_
          rintro e w6 ⟨r6, rfl, hr6, hb⟩
          have hbel6 := hbel5.trans (hb.mono hbel5.size)
          have HR6 := Lib.hid hr6; clear hr6
          clear hb hbel5
          have h5 : r5.data.toList = restrL ((5 * k : Nat) : Int) (restrL a l) := by rw [HR5.out, HRR2.out, restrW_good HWV.out HB.out]
          have h6 : r6.data.toList = restrL ((5 * k : Nat) : Int) (restrL a l) := by
            rw [HR6.out, HL.out, hAN.out, restrW_good HV.out HC.out]
            have := restr_restr a.toNat (5 * k) l
            rw [HAA.out] at this
            exact this.symm
          have heqq := eq_toList h5 h6
          clear h5 h6
          go_wp2
          go_roundw
          case rel => exact ⟨k + 1, by omega, by go_num, hbel6⟩
          case measure => simp [intOf] <;> omega
        · go_wp2
          go_ret
          exact ⟨rfl, hbelr⟩

end Go.Proofs.Ytkgbdglfpnmlgaa
