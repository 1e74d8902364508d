/- The walk of the law on restrictions of joined words. -/
import Derived.Test.YtkgbdglfpnmlgaaW3
namespace Go.Proofs.Ytkgbdglfpnmlgaa
open Go.RowKit
set_option linter.unusedVariables false
set_option linter.unusedSimpArgs false
set_option maxRecDepth 100000


theorem restrW_app (a : Int) (l m : List UInt8) (hl : wvalid l = true) (hm : wvalid m = true) (h : l.length + m.length ≤ 50000) : restrW a (l ++ m) = restrW a l ++ restrW a m := by
  have hv : wvalid (l ++ m) = true := wvalid_of (by simp; omega) (by simp [List.all_append, wvalid_all hl, wvalid_all hm])
  unfold restrW
  rw [hl, hm, hv]
  cases isA a <;> simp [restrL]

set_option maxHeartbeats 1000000 in
theorem fnRestrictJoin_walk (a0 : Option Addr) (len0 cap0 : Nat) (z0 : List Int) (a1 : Option Addr) (len1 cap1 : Nat) (z1 : List Int) (w : World) (hrow : IsRow w a0 len0 cap0 z0) (hrow1 : IsRow w a1 len1 cap1 z1) : Calls Try.prog 9 #[.slice a0 len0 cap0, .slice a1 len1 cap1] w fun e w' => e = .returned (.bool true) ∧ Below w.heap.size w w' := by
  by_cases hl : 1048576 < len0
  · have hl' : (1048576 : Int) < (len0 : Int) := by omega
    go_enter Try.func9, Try.ntmps9
    go_wp2
    go_ret
    exact ⟨rfl, Below.refl _ _⟩
  have hl' : (len0 : Int) ≤ 1048576 := by omega
  clear hl
  by_cases hm : 1048576 < len1
  · have hm' : (1048576 : Int) < (len1 : Int) := by omega
    go_enter Try.func9, Try.ntmps9
    go_wp2
    go_ret
    exact ⟨rfl, Below.refl _ _⟩
  have hm' : (len1 : Int) ≤ 1048576 := by omega
  clear hm
  go_enter Try.func9, Try.ntmps9
  go_wp2_with fail
  refine (drawRestrict_any _ _ _ _ _ hrow).mono ?_
  rintro e w1 ⟨s, a, rfl, hs, ha0, ha1, hbel1⟩
  have hs' : (s.size : Int) ≤ 60000 := by omega
  go_wp2_with fail
  refine (drawValid_any _ _ _ _ _ (hrow1.below hbel1)).mono ?_
  rintro e w2 ⟨t, rfl, ht, hb⟩
  have hbel2 := hbel1.trans (hb.mono hbel1.size)
  have ht' : (t.size : Int) ≤ 60000 := by omega
  clear hb hbel1
  obtain ⟨l, hl⟩ : ∃ l, s.data.toList = l := ⟨_, rfl⟩
  have hlen : l.length = s.size := by rw [← hl]; rfl
  obtain ⟨m, hm⟩ : ∃ m, t.data.toList = m := ⟨_, rfl⟩
  have hmen : m.length = t.size := by rw [← hm]; rfl
  have HL := Lib.hid hl; clear hl
  have HM := Lib.hid hm; clear hm
  go_wp2_with fail
  refine (implRestrict_any s a (by omega) _).mono ?_
  rintro e w3 ⟨r3, rfl, hr3, hb⟩
  have hbel3 := hbel2.trans (hb.mono hbel2.size)
  have HR3 := Lib.hid hr3; clear hr3
  clear hb hbel2
  go_wp2_with fail
  refine (specRestrict_any s a (by omega) _).mono ?_
  rintro e w4 ⟨r4, rfl, hr4, hb⟩
  have hbel4 := hbel3.trans (hb.mono hbel3.size)
  have HR4 := Lib.hid hr4; clear hr4
  clear hb hbel3
  have heq := eq_toList HR3.out HR4.out
  cases hv : wvalid m with
  | false =>
    go_wp2_with fail
    refine (implValid_any t (by omega) _).mono ?_
    rintro e w' ⟨rfl, rfl⟩
    rw [HM.out]
    go_wp2_with fail
    refine (specRestrict_any s a (by omega) _).mono ?_
    rintro e w5 ⟨r5, rfl, hr5, hb⟩
    have hbel5 := hbel4.trans (hb.mono hbel4.size)
    have HR5 := Lib.hid hr5; clear hr5
    clear hb hbel4
    have heqz := eq_toList HR3.out HR5.out
    go_wp2
    go_ret
    exact ⟨rfl, hbel5⟩
  | true =>
    cases hw : wvalid l with
    | false =>
      go_wp2_with fail
      refine (implValid_any t (by omega) _).mono ?_
      rintro e w' ⟨rfl, rfl⟩
      rw [HM.out]
      go_wp2_with fail
      refine (implValid_any s (by omega) _).mono ?_
      rintro e w' ⟨rfl, rfl⟩
      rw [HL.out]
      go_wp2_with fail
      refine (specRestrict_any s a (by omega) _).mono ?_
      rintro e w5 ⟨r5, rfl, hr5, hb⟩
      have hbel5 := hbel4.trans (hb.mono hbel4.size)
      have HR5 := Lib.hid hr5; clear hr5
      clear hb hbel4
      have heqz := eq_toList HR3.out HR5.out
      go_wp2
      go_ret
      exact ⟨rfl, hbel5⟩
    | true =>
      go_wp2_with fail
      refine (implValid_any t (by omega) _).mono ?_
      rintro e w' ⟨rfl, rfl⟩
      rw [HM.out]
      go_wp2_with fail
      refine (implValid_any s (by omega) _).mono ?_
      rintro e w' ⟨rfl, rfl⟩
      rw [HL.out]
      by_cases hsz : 50000 < t.size + s.size
      · have hsz' : (50000 : Int) < (t.size : Int) + (s.size : Int) := by omega
        clear hsz
        go_wp2_with fail
        refine (specRestrict_any s a (by omega) _).mono ?_
        rintro e w5 ⟨r5, rfl, hr5, hb⟩
        have hbel5 := hbel4.trans (hb.mono hbel4.size)
        have HR5 := Lib.hid hr5; clear hr5
        clear hb hbel4
        have heqz := eq_toList HR3.out HR5.out
        go_wp2
        go_ret
        exact ⟨rfl, hbel5⟩
      · have hsz' : (t.size : Int) + (s.size : Int) ≤ 50000 := by omega
        have hap := append_size t s
        have HAP := Lib.hid hap
        clear hap
        have hres := restrW_app a m l hv hw (by omega)
        have HRES := Lib.hid hres; clear hres
        clear hsz
        go_wp2_with fail
        refine (implRestrict_any (t ++ s) a (by rw [HAP.out]; omega) _).mono ?_
        rintro e w5 ⟨r5, rfl, hr5, hb⟩
        have hbel5 := hbel4.trans (hb.mono hbel4.size)
        have HR5 := Lib.hid hr5; clear hr5
        clear hb hbel4
        go_wp2_with fail
        refine (implRestrict_any t a (by omega) _).mono ?_
        rintro e w6 ⟨r6, rfl, hr6, hb⟩
        have hbel6 := hbel5.trans (hb.mono hbel5.size)
        have HR6 := Lib.hid hr6; clear hr6
        clear hb hbel5
        have h5 : r5.data.toList = restrW a m ++ restrW a l := by rw [HR5.out, data_append, HL.out, HM.out, HRES.out]
        have h6 : (r6 ++ r3).data.toList = restrW a m ++ restrW a l := by rw [data_append, HR6.out, HR3.out, HL.out, HM.out]
        have hlt : r6.size ≤ t.size := by rw [size_of HR6.out, ← data_len t]; unfold restrW; split; exact restrL_len _ _; simp
        have hls : r3.size ≤ s.size := by rw [size_of HR3.out, ← data_len s]; unfold restrW; split; exact restrL_len _ _; simp
        have hsum : (r6.size : Int) + (r3.size : Int) ≤ 9223372036854775807 := by omega
        have heqz := eq_toList h5 h6
        clear h5 h6
        go_wp2
        go_ret
        exact ⟨rfl, hbel6⟩

end Go.Proofs.Ytkgbdglfpnmlgaa
