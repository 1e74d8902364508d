/- The walk of the law on the texts of alphabets. -/
import Derived.Test.YtkgbdglfpnmlgaaDraw5
import Derived.Test.YtkgbdglfpnmlgaaW3
import Derived.Test.YtkgbdglfpnmlgaaParse
namespace Go.Proofs.Ytkgbdglfpnmlgaa
open Go.RowKit
set_option linter.unusedVariables false
set_option linter.unusedSimpArgs false
set_option maxRecDepth 100000


theorem parse_fmt {n : Int} (h : isA n = true) : ParseRet (fmtA n) = .tuple #[.int .i64 n, .bool true] := by
  obtain ⟨h0, h1⟩ := (isA_iff n).1 h
  obtain ⟨x, rfl⟩ := Int.eq_ofNat_of_zero_le h0
  have h2 := alphS_fmt x (by omega)
  have h3 : parseB (fmtA (x : Int)) = true := by unfold parseB; rw [h2]; simp
  unfold ParseRet parseN
  rw [h3, if_pos rfl, h2]
theorem fmt_parse {l : List UInt8} (h : parseB l = true) : fmtA ((parseN l : Nat) : Int) = l := by
  unfold parseN; rw [if_pos h]
  unfold parseB at h
  exact of_decide_eq_true h


set_option maxHeartbeats 2000000 in
theorem fnAlphabetText_walk (a0 : Option Addr) (len0 cap0 : Nat) (z0 : List Int) (a1 : Option Addr) (len1 cap1 : Nat) (z1 : List Int) (w : World) (hrow : IsRow w a0 len0 cap0 z0) (hrow1 : IsRow w a1 len1 cap1 z1) : Calls Try.prog 3 #[.slice a0 len0 cap0, .slice a1 len1 cap1] w fun e w' => e = .returned (.bool true) ∧ Below w.heap.size w w' := by
  by_cases hl : 1048576 < len0
  · have hl' : (1048576 : Int) < (len0 : Int) := by omega
    go_enter Try.func3, Try.ntmps3
    go_wp2
    go_ret
    exact ⟨rfl, Below.refl _ _⟩
  have hl' : (len0 : Int) ≤ 1048576 := by omega
  clear hl
  by_cases hm : 1048576 < len1
  · have hm' : (1048576 : Int) < (len1 : Int) := by omega
    go_enter Try.func3, Try.ntmps3
    go_wp2
    go_ret
    exact ⟨rfl, Below.refl _ _⟩
  have hm' : (len1 : Int) ≤ 1048576 := by omega
  clear hm
  go_enter Try.func3, Try.ntmps3
  go_wp2_with fail
  refine (drawFmt_any _ _ _ _ _ hrow).mono ?_
  rintro e w1 ⟨n, rfl, hn0, hn1, hbel1⟩
  clear hrow
  go_wp2_with fail
  refine (implFmt_any n _).mono ?_
  rintro e w2 ⟨r2, rfl, hr2, hb⟩
  have hbel2 := hbel1.trans (hb.mono hbel1.size)
  have HR2 := Lib.hid hr2; clear hr2
  clear hb hbel1
  go_wp2_with fail
  refine (specFmt_any n _).mono ?_
  rintro e w3 ⟨r3, rfl, hr3, hb⟩
  have hbel3 := hbel2.trans (hb.mono hbel2.size)
  have HR3 := Lib.hid hr3; clear hr3
  clear hb hbel2
  have heq := eq_toList HR2.out HR3.out
  cases hA : isA n with
  | false =>
    have hf : fmtA n = [] := by unfold fmtA; rw [if_pos hA]
    have he2 := toList_nil (r := r2) (by rw [HR2.out, hf])
    have he3 := toList_nil (r := r3) (by rw [HR3.out, hf])
    clear hf heq
    go_wp2_with fail
    refine (agAlph_any n _).mono ?_
    rintro e w' ⟨rfl, rfl⟩
    go_wp2_with fail
    refine (drawParse_any _ _ _ _ _ (hrow1.below hbel3)).mono ?_
    rintro e w5 ⟨t, rfl, ht, hb⟩
    have hbel5 := hbel3.trans (hb.mono hbel3.size)
    have ht' : (t.size : Int) ≤ 100 := by omega
    clear hb hbel3 hrow1
    obtain ⟨l, hl⟩ : ∃ l, t.data.toList = l := ⟨_, rfl⟩
    have HL := Lib.hid hl; clear hl
    cases hp : parseB l with
    | false =>
      have hr : ParseRet t.data.toList = .tuple #[.int .i64 (parseN l : Int), .bool false] := by rw [HL.out]; unfold ParseRet; rw [hp]
      have HR := Lib.hid hr; clear hr
      clear hp
      go_wp2_with fail
      refine (implParse_any t (by omega) _).mono ?_
      rintro e w6 ⟨rfl, hb⟩
      have hbel6 := hbel5.trans (hb.mono hbel5.size)
      clear hb hbel5
      rw [HR.out]
      go_wp2_with fail
      refine (specParse_any t (by omega) _).mono ?_
      rintro e w7 ⟨rfl, hb⟩
      have hbel7 := hbel6.trans (hb.mono hbel6.size)
      clear hb hbel6
      rw [HR.out]
      go_wp2
      go_ret
      exact ⟨rfl, hbel7⟩
    | true =>
      have hr : ParseRet t.data.toList = .tuple #[.int .i64 (parseN l : Int), .bool true] := by rw [HL.out]; unfold ParseRet; rw [hp]
      have hf := fmt_parse hp
      have HR := Lib.hid hr; clear hr
      have HF := Lib.hid hf; clear hf
      clear hp
      go_wp2_with fail
      refine (implParse_any t (by omega) _).mono ?_
      rintro e w6 ⟨rfl, hb⟩
      have hbel6 := hbel5.trans (hb.mono hbel5.size)
      clear hb hbel5
      rw [HR.out]
      go_wp2_with fail
      refine (specParse_any t (by omega) _).mono ?_
      rintro e w7 ⟨rfl, hb⟩
      have hbel7 := hbel6.trans (hb.mono hbel6.size)
      clear hb hbel6
      rw [HR.out]
      go_wp2_with fail
      refine (implFmt_any (parseN l : Int) _).mono ?_
      rintro e w8 ⟨r8, rfl, hr8, hb⟩
      have hbel8 := hbel7.trans (hb.mono hbel7.size)
      have HR8 := Lib.hid hr8; clear hr8
      clear hb hbel7
      have hq := eq_toList (a := r8) (b := t) (l := l) (by rw [HR8.out, HF.out]) HL.out
      go_wp2
      go_ret
      exact ⟨rfl, hbel8⟩
  | true =>
    have hl := fmtA_len n hA
    have hsz := size_of HR2.out
    have he2 := toList_cons (r := r2) (by rw [HR2.out]; intro h; rw [h] at hl; simp at hl)
    have hs6 : r2.size ≤ 6 := by omega
    have hpf : ParseRet r2.data.toList = .tuple #[.int .i64 n, .bool true] := by rw [HR2.out]; exact parse_fmt hA
    have HPF := Lib.hid hpf; clear hpf
    clear hl hsz
    go_wp2_with fail
    refine (agAlph_any n _).mono ?_
    rintro e w' ⟨rfl, rfl⟩
    go_wp2_with fail
    refine (implParse_any r2 (by omega) _).mono ?_
    rintro e w4 ⟨rfl, hb⟩
    have hbel4 := hbel3.trans (hb.mono hbel3.size)
    clear hb hbel3
    rw [HPF.out]
    go_wp2_with fail
    refine (drawParse_any _ _ _ _ _ (hrow1.below hbel4)).mono ?_
    rintro e w5 ⟨t, rfl, ht, hb⟩
    have hbel5 := hbel4.trans (hb.mono hbel4.size)
    have ht' : (t.size : Int) ≤ 100 := by omega
    clear hb hbel4 hrow1
    obtain ⟨l, hl⟩ : ∃ l, t.data.toList = l := ⟨_, rfl⟩
    have HL := Lib.hid hl; clear hl
    cases hp : parseB l with
    | false =>
      have hr : ParseRet t.data.toList = .tuple #[.int .i64 (parseN l : Int), .bool false] := by rw [HL.out]; unfold ParseRet; rw [hp]
      have HR := Lib.hid hr; clear hr
      clear hp
      go_wp2_with fail
      refine (implParse_any t (by omega) _).mono ?_
      rintro e w6 ⟨rfl, hb⟩
      have hbel6 := hbel5.trans (hb.mono hbel5.size)
      clear hb hbel5
      rw [HR.out]
      go_wp2_with fail
      refine (specParse_any t (by omega) _).mono ?_
      rintro e w7 ⟨rfl, hb⟩
      have hbel7 := hbel6.trans (hb.mono hbel6.size)
      clear hb hbel6
      rw [HR.out]
      go_wp2
      go_ret
      exact ⟨rfl, hbel7⟩
    | true =>
      have hr : ParseRet t.data.toList = .tuple #[.int .i64 (parseN l : Int), .bool true] := by rw [HL.out]; unfold ParseRet; rw [hp]
      have hf := fmt_parse hp
      have HR := Lib.hid hr; clear hr
      have HF := Lib.hid hf; clear hf
      clear hp
      go_wp2_with fail
      refine (implParse_any t (by omega) _).mono ?_
      rintro e w6 ⟨rfl, hb⟩
      have hbel6 := hbel5.trans (hb.mono hbel5.size)
      clear hb hbel5
      rw [HR.out]
      go_wp2_with fail
      refine (specParse_any t (by omega) _).mono ?_
      rintro e w7 ⟨rfl, hb⟩
      have hbel7 := hbel6.trans (hb.mono hbel6.size)
      clear hb hbel6
      rw [HR.out]
      go_wp2_with fail
      refine (implFmt_any (parseN l : Int) _).mono ?_
      rintro e w8 ⟨r8, rfl, hr8, hb⟩
      have hbel8 := hbel7.trans (hb.mono hbel7.size)
      have HR8 := Lib.hid hr8; clear hr8
      clear hb hbel7
      have hq := eq_toList (a := r8) (b := t) (l := l) (by rw [HR8.out, HF.out]) HL.out
      go_wp2
      go_ret
      exact ⟨rfl, hbel8⟩

end Go.Proofs.Ytkgbdglfpnmlgaa
