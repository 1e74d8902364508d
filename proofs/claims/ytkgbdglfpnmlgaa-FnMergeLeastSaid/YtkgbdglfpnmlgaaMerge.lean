/- MergeWords on both sides. -/
import Derived.Test.YtkgbdglfpnmlgaaNext
import Derived.Test.YtkgbdglfpnmlgaaMrg
namespace Go.Proofs.Ytkgbdglfpnmlgaa
open Go.RowKit
set_option linter.unusedVariables false
set_option linter.unusedSimpArgs false
set_option maxRecDepth 100000


def MrgRel (a b : Int) (s t : ByteArray) (B : Nat) (wb : World) (v10 v11 v12 : Value) (wr : World) : Prop :=
  ∃ (i k : Nat) (out : List UInt8) (ao : Option Addr) (n cap : Nat), i ≤ s.size ∧ k ≤ t.size ∧ v11 = .int .i64 i ∧ v12 = .int .i64 k ∧ v10 = .slice ao n cap ∧ BRow B wr (.slice ao n cap) out ∧ out.length ≤ i + k ∧
    agree a b (s.data.toList.drop i) (t.data.toList.drop k) ∧ out ++ mrgL a b (s.data.toList.drop i) (t.data.toList.drop k) = mrgL a b s.data.toList t.data.toList ∧ Below B wb wr

set_option maxHeartbeats 4000000 in
theorem implMerge_in (s t : ByteArray) (a b : Int) (hs : s.size ≤ 1048576) (ht : t.size ≤ 1048576) (w : World) (hv : within s.data.toList a = true) (hw : within t.data.toList b = true) (hag : agree a b s.data.toList t.data.toList) :
    Calls Try.prog 46 #[.string s, .int .i64 a, .string t, .int .i64 b] w (RetStr2 ((mergeW a b s.data.toList t.data.toList).getD []) (mergeW a b s.data.toList t.data.toList).isSome w) := by
  have hv2 := hv
  have hw2 := hw
  simp only [within, Bool.and_eq_true] at hv2 hw2
  obtain ⟨⟨ha, _⟩, hsall⟩ := hv2
  obtain ⟨⟨hb, _⟩, htall⟩ := hw2
  obtain ⟨h0, h1⟩ := (isA_iff a).1 ha
  obtain ⟨h0b, h1b⟩ := (isA_iff b).1 hb
  have hmw : mergeW a b s.data.toList t.data.toList = if (mrgL a b s.data.toList t.data.toList).length ≤ 50000 then some (mrgL a b s.data.toList t.data.toList) else none := by
    have : restrL b s.data.toList = restrL a t.data.toList := hag
    simp [mergeW, hv, hw, this]
  have HMW := Lib.hid hmw; clear hmw
  have HV := Lib.hid hv; clear hv
  have HW := Lib.hid hw; clear hw
  have HA := Lib.hid ha; clear ha
  have HB := Lib.hid hb; clear hb
  have HS := Lib.hid hsall; clear hsall
  have HT := Lib.hid htall; clear htall
  have HAG := Lib.hid hag; clear hag
  obtain ⟨i0, hi0, hz0, hz1, hz2⟩ := info_parts Try.infoByte
  have HI0 := Lib.hid hi0
  have HZ0 := Lib.hid hz0
  have HZ1 := Lib.hid hz1
  have HZ2 := Lib.hid hz2
  clear hi0 hz0 hz1 hz2
  go_enter Try.func46, Try.ntmps46
  go_wp2_with fail
  refine (implWithin_any s a (by omega) _).mono ?_
  rintro e w' ⟨rfl, rfl⟩
  rw [HV.out]
  go_wp2_with fail
  refine (implWithin_any t b (by omega) _).mono ?_
  rintro e w' ⟨rfl, rfl⟩
  rw [HW.out]
  go_wp2_with fail
  refine (restrict_any s b (by omega) h0b (by omega) _).mono ?_
  rintro e w1 ⟨r1, rfl, hr1, hb1⟩
  have HR1 := Lib.hid hr1; clear hr1
  go_wp2_with fail
  refine (restrict_any t a (by omega) h0 (by omega) _).mono ?_
  rintro e w2 ⟨r2, rfl, hr2, hb2⟩
  have heq := eq_toList HR1.out (hr2.trans HAG.out.symm)
  clear hr2
  have hbel : Below w.heap.size w w2 := hb1.trans (hb2.mono hb1.size)
  clear hb1 hb2
  go_wp2_with (at_make; refine wpList_make_own _ rfl _ _ 22 rfl w2.heap.size 5 i0 (.int .u8 0) 1 Try.underlying22 HI0.out HZ0.out HZ1.out .i64 .i64 _ (s.size + t.size) rfl rfl ?hC ?hb2 ?hb3 (Nat.le_refl _) ?_)
  case hC => omega
  case hb2 => rw [HZ2.out]; omega
  case hb3 => unfold maxLen; omega
  intro w3 hown hgrow
  have hrow3 : BRow w2.heap.size w3 (.slice (some ⟨w2.heap.size, 0, none⟩) 0 (s.size + t.size)) [] := hown
  have hb3 : Below w2.heap.size w2 w3 := (Below.refl _ _).grown hgrow (Nat.le_refl _) (by intro k hk; cases hk)
  clear hown hgrow heq
  have hwB : w.heap.size ≤ w2.heap.size := hbel.size
  generalize hB : w2.heap.size = B at *
  have HBQ := Lib.hid hB
  clear hB
  generalize hwb : w2 = wb at *
  clear hwb
  go_wp2
  go_loopw [10, 11, 12] (fun v10 v11 v12 wr => MrgRel a b s t B wb v10 v11 v12 wr) (fun _ i k _ => s.size + t.size - (intOf i).toNat - (intOf k).toNat)
  case atStart => exact ⟨0, 0, [], _, _, _, by omega, by omega, rfl, rfl, rfl, hrow3, by simp, HAG.out, rfl, hb3⟩
  case round =>
    clear hrow3 hb3
    obtain ⟨i, k, out, ao, n, cap, hi, hk, rfl, rfl, rfl, hrow, hol, hag, hm, hb3⟩ := hrel
    have HAG1 := Lib.hid hag
    have HM := Lib.hid hm
    clear hag hm
    have hws : B ≤ wr.heap.size := by have := hb3.size; rw [HBQ.out] at this; exact this
    by_cases hne : i < s.size ∨ k < t.size
    · have hr := mround a b s t i k HS.out HT.out HAG1.out hne
      have HR := Lib.hid hr
      clear hr hne
      cases HR.out with
      | left h1 hb hlt hag2 hst =>
        have HAG2 := Lib.hid hag2
        have HST := Lib.hid hst
        obtain ⟨c, hc⟩ : ∃ c, s[i] = c := ⟨_, rfl⟩
        have hb' := hb
        rw [hc] at hb'
        have hbx : hasB b (ltr c) = false := hb'
        have HC := Lib.hid hc; clear hc
        clear hag2 hst hb hb'
        by_cases h2 : k < t.size
        · have hlt2 := hlt h2
          obtain ⟨d, hd⟩ : ∃ d, t[k] = d := ⟨_, rfl⟩
          have HD := Lib.hid hd; clear hd
          cases hax : hasB a (ltr d) with
          | true =>
            clear hlt hlt2
            go_wp2_with (first | (go_at_call 61; (with_reducible refine (letterAt_c s i c h1 HC (by omega) _).mono ?_); rintro e w' ⟨rfl, rfl⟩) | (go_at_call 61; (with_reducible refine (letterAt_c t k d h2 HD (by omega) _).mono ?_); rintro e w' ⟨rfl, rfl⟩) | (go_at_call 66; (with_reducible refine (has_any _ _ (by omega) (by omega) _).mono ?_); rintro e w' ⟨rfl, rfl⟩))
            go_quiet (fail)
            rename_i nq
            have hrowq : BRow B (wr.drewN nq) (.slice ao n cap) out := hrow
            have hbq : Below B wb (wr.drewN nq) := below_drewN hb3 nq
            have hwsq : B ≤ (wr.drewN nq).heap.size := hws
            clear hrow hb3 hws
            generalize wr.drewN nq = wq at *
            go_wp2_with (at_builtin; refine app_byte wq s[i] _ rfl B rfl rfl _ _ rfl (.slice ao n cap) out rfl hrowq rfl ?_ hwsq ?_)
            · omega
            intro ao2 n2 cap2 w5 hn2 hrow5 hkept
            have HN2 := Lib.hid hn2; clear hn2
            have hb5 := hkept.1 wb hbq
            clear hkept
            go_wp2
            go_roundw
            case rel => exact ⟨i + 1, k, out ++ [s[i]], ao2, n2, cap2, by omega, hk, by go_num, rfl, rfl, hrow5, by rw [List.length_append]; simp; omega, HAG2.out, by rw [← HM.out, HST.out]; simp, hb5⟩
            case measure => simp [intOf] <;> omega
          | false =>
            have hcd : decide (s[i].toNat < t[k].toNat) = true := by
              rcases hlt2 with h3 | h3
              · exfalso; unfold okL at h3; rw [HD.out, hax] at h3; cases h3
              · rw [UInt8.lt_iff_toNat_lt] at h3; simp; exact h3
            clear hlt hlt2
            go_wp2_with (first | (go_at_call 61; (with_reducible refine (letterAt_c s i c h1 HC (by omega) _).mono ?_); rintro e w' ⟨rfl, rfl⟩) | (go_at_call 61; (with_reducible refine (letterAt_c t k d h2 HD (by omega) _).mono ?_); rintro e w' ⟨rfl, rfl⟩) | (go_at_call 66; (with_reducible refine (has_any _ _ (by omega) (by omega) _).mono ?_); rintro e w' ⟨rfl, rfl⟩))
            go_quiet (fail)
            rename_i nq
            have hrowq : BRow B (wr.drewN nq) (.slice ao n cap) out := hrow
            have hbq : Below B wb (wr.drewN nq) := below_drewN hb3 nq
            have hwsq : B ≤ (wr.drewN nq).heap.size := hws
            clear hrow hb3 hws
            generalize wr.drewN nq = wq at *
            go_wp2_with (at_builtin; refine app_byte wq s[i] _ rfl B rfl rfl _ _ rfl (.slice ao n cap) out rfl hrowq rfl ?_ hwsq ?_)
            · omega
            intro ao2 n2 cap2 w5 hn2 hrow5 hkept
            have HN2 := Lib.hid hn2; clear hn2
            have hb5 := hkept.1 wb hbq
            clear hkept
            go_wp2
            go_roundw
            case rel => exact ⟨i + 1, k, out ++ [s[i]], ao2, n2, cap2, by omega, hk, by go_num, rfl, rfl, hrow5, by rw [List.length_append]; simp; omega, HAG2.out, by rw [← HM.out, HST.out]; simp, hb5⟩
            case measure => simp [intOf] <;> omega
        · clear hlt
          go_wp2_with (first | (go_at_call 61; (with_reducible refine (letterAt_c s i c h1 HC (by omega) _).mono ?_); rintro e w' ⟨rfl, rfl⟩) | (go_at_call 61; (with_reducible refine (letterAt_c t k d h2 HD (by omega) _).mono ?_); rintro e w' ⟨rfl, rfl⟩) | (go_at_call 66; (with_reducible refine (has_any _ _ (by omega) (by omega) _).mono ?_); rintro e w' ⟨rfl, rfl⟩))
          go_quiet (fail)
          rename_i nq
          have hrowq : BRow B (wr.drewN nq) (.slice ao n cap) out := hrow
          have hbq : Below B wb (wr.drewN nq) := below_drewN hb3 nq
          have hwsq : B ≤ (wr.drewN nq).heap.size := hws
          clear hrow hb3 hws
          generalize wr.drewN nq = wq at *
          go_wp2_with (at_builtin; refine app_byte wq s[i] _ rfl B rfl rfl _ _ rfl (.slice ao n cap) out rfl hrowq rfl ?_ hwsq ?_)
          · omega
          intro ao2 n2 cap2 w5 hn2 hrow5 hkept
          have HN2 := Lib.hid hn2; clear hn2
          have hb5 := hkept.1 wb hbq
          clear hkept
          go_wp2
          go_roundw
          case rel => exact ⟨i + 1, k, out ++ [s[i]], ao2, n2, cap2, by omega, hk, by go_num, rfl, rfl, hrow5, by rw [List.length_append]; simp; omega, HAG2.out, by rw [← HM.out, HST.out]; simp, hb5⟩
          case measure => simp [intOf] <;> omega
      | right h2 hb hlt hag2 hst =>
        have HAG2 := Lib.hid hag2
        have HST := Lib.hid hst
        obtain ⟨d, hd⟩ : ∃ c, t[k] = c := ⟨_, rfl⟩
        have hb' := hb
        rw [hd] at hb'
        have hax : hasB a (ltr d) = false := hb'
        have HD := Lib.hid hd; clear hd
        clear hag2 hst hb hb'
        by_cases h1 : i < s.size
        · have hlt2 := hlt h1
          obtain ⟨c, hc⟩ : ∃ d, s[i] = d := ⟨_, rfl⟩
          have HC := Lib.hid hc; clear hc
          cases hbx : hasB b (ltr c) with
          | true =>
            clear hlt hlt2
            go_wp2_with (first | (go_at_call 61; (with_reducible refine (letterAt_c s i c h1 HC (by omega) _).mono ?_); rintro e w' ⟨rfl, rfl⟩) | (go_at_call 61; (with_reducible refine (letterAt_c t k d h2 HD (by omega) _).mono ?_); rintro e w' ⟨rfl, rfl⟩) | (go_at_call 66; (with_reducible refine (has_any _ _ (by omega) (by omega) _).mono ?_); rintro e w' ⟨rfl, rfl⟩))
            go_quiet (fail)
            rename_i nq
            have hrowq : BRow B (wr.drewN nq) (.slice ao n cap) out := hrow
            have hbq : Below B wb (wr.drewN nq) := below_drewN hb3 nq
            have hwsq : B ≤ (wr.drewN nq).heap.size := hws
            clear hrow hb3 hws
            generalize wr.drewN nq = wq at *
            go_wp2_with (at_builtin; refine app_byte wq t[k] _ rfl B rfl rfl _ _ rfl (.slice ao n cap) out rfl hrowq rfl ?_ hwsq ?_)
            · omega
            intro ao2 n2 cap2 w5 hn2 hrow5 hkept
            have HN2 := Lib.hid hn2; clear hn2
            have hb5 := hkept.1 wb hbq
            clear hkept
            go_wp2
            go_roundw
            case rel => exact ⟨i, k + 1, out ++ [t[k]], ao2, n2, cap2, hi, by omega, rfl, by go_num, rfl, hrow5, by rw [List.length_append]; simp; omega, HAG2.out, by rw [← HM.out, HST.out]; simp, hb5⟩
            case measure => simp [intOf] <;> omega
          | false =>
            have hcd : decide (s[i].toNat < t[k].toNat) = false := by
              rcases hlt2 with h3 | h3
              · exfalso; unfold okL at h3; rw [HC.out, hbx] at h3; cases h3
              · rw [UInt8.lt_iff_toNat_lt] at h3; simp; omega
            clear hlt hlt2
            go_wp2_with (first | (go_at_call 61; (with_reducible refine (letterAt_c s i c h1 HC (by omega) _).mono ?_); rintro e w' ⟨rfl, rfl⟩) | (go_at_call 61; (with_reducible refine (letterAt_c t k d h2 HD (by omega) _).mono ?_); rintro e w' ⟨rfl, rfl⟩) | (go_at_call 66; (with_reducible refine (has_any _ _ (by omega) (by omega) _).mono ?_); rintro e w' ⟨rfl, rfl⟩))
            go_quiet (fail)
            rename_i nq
            have hrowq : BRow B (wr.drewN nq) (.slice ao n cap) out := hrow
            have hbq : Below B wb (wr.drewN nq) := below_drewN hb3 nq
            have hwsq : B ≤ (wr.drewN nq).heap.size := hws
            clear hrow hb3 hws
            generalize wr.drewN nq = wq at *
            go_wp2_with (at_builtin; refine app_byte wq t[k] _ rfl B rfl rfl _ _ rfl (.slice ao n cap) out rfl hrowq rfl ?_ hwsq ?_)
            · omega
            intro ao2 n2 cap2 w5 hn2 hrow5 hkept
            have HN2 := Lib.hid hn2; clear hn2
            have hb5 := hkept.1 wb hbq
            clear hkept
            go_wp2
            go_roundw
            case rel => exact ⟨i, k + 1, out ++ [t[k]], ao2, n2, cap2, hi, by omega, rfl, by go_num, rfl, hrow5, by rw [List.length_append]; simp; omega, HAG2.out, by rw [← HM.out, HST.out]; simp, hb5⟩
            case measure => simp [intOf] <;> omega
        · clear hlt
          go_wp2_with (first | (go_at_call 61; (with_reducible refine (letterAt_c s i c h1 HC (by omega) _).mono ?_); rintro e w' ⟨rfl, rfl⟩) | (go_at_call 61; (with_reducible refine (letterAt_c t k d h2 HD (by omega) _).mono ?_); rintro e w' ⟨rfl, rfl⟩) | (go_at_call 66; (with_reducible refine (has_any _ _ (by omega) (by omega) _).mono ?_); rintro e w' ⟨rfl, rfl⟩))
          go_quiet (fail)
          rename_i nq
          have hrowq : BRow B (wr.drewN nq) (.slice ao n cap) out := hrow
          have hbq : Below B wb (wr.drewN nq) := below_drewN hb3 nq
          have hwsq : B ≤ (wr.drewN nq).heap.size := hws
          clear hrow hb3 hws
          generalize wr.drewN nq = wq at *
          go_wp2_with (at_builtin; refine app_byte wq t[k] _ rfl B rfl rfl _ _ rfl (.slice ao n cap) out rfl hrowq rfl ?_ hwsq ?_)
          · omega
          intro ao2 n2 cap2 w5 hn2 hrow5 hkept
          have HN2 := Lib.hid hn2; clear hn2
          have hb5 := hkept.1 wb hbq
          clear hkept
          go_wp2
          go_roundw
          case rel => exact ⟨i, k + 1, out ++ [t[k]], ao2, n2, cap2, hi, by omega, rfl, by go_num, rfl, hrow5, by rw [List.length_append]; simp; omega, HAG2.out, by rw [← HM.out, HST.out]; simp, hb5⟩
          case measure => simp [intOf] <;> omega
      | both h1 h2 heq ha2 hb2 hag2 hst =>
        have HAG2 := Lib.hid hag2
        have HST := Lib.hid hst
        obtain ⟨c, hc⟩ : ∃ d, s[i] = d := ⟨_, rfl⟩
        obtain ⟨d, hd⟩ : ∃ c, t[k] = c := ⟨_, rfl⟩
        rw [hd] at ha2
        rw [hc] at hb2
        have hax : hasB a (ltr d) = true := ha2
        have hbx : hasB b (ltr c) = true := hb2
        have HC := Lib.hid hc; clear hc
        have HD := Lib.hid hd; clear hd
        clear hag2 hst heq ha2 hb2
        go_wp2_with (first | (go_at_call 61; (with_reducible refine (letterAt_c s i c h1 HC (by omega) _).mono ?_); rintro e w' ⟨rfl, rfl⟩) | (go_at_call 61; (with_reducible refine (letterAt_c t k d h2 HD (by omega) _).mono ?_); rintro e w' ⟨rfl, rfl⟩) | (go_at_call 66; (with_reducible refine (has_any _ _ (by omega) (by omega) _).mono ?_); rintro e w' ⟨rfl, rfl⟩))
        go_quiet (fail)
        rename_i nq
        have hrowq : BRow B (wr.drewN nq) (.slice ao n cap) out := hrow
        have hbq : Below B wb (wr.drewN nq) := below_drewN hb3 nq
        have hwsq : B ≤ (wr.drewN nq).heap.size := hws
        clear hrow hb3 hws
        generalize wr.drewN nq = wq at *
        go_wp2_with (at_builtin; refine app_byte wq s[i] _ rfl B rfl rfl _ _ rfl (.slice ao n cap) out rfl hrowq rfl ?_ hwsq ?_)
        · omega
        intro ao2 n2 cap2 w5 hn2 hrow5 hkept
        have HN2 := Lib.hid hn2; clear hn2
        have hb5 := hkept.1 wb hbq
        clear hkept
        go_wp2
        go_roundw
        case rel => exact ⟨i + 1, k + 1, out ++ [s[i]], ao2, n2, cap2, by omega, by omega, by go_num, by go_num, rfl, hrow5, by rw [List.length_append]; simp; omega, HAG2.out, by rw [← HM.out, HST.out]; simp, hb5⟩
        case measure => simp [intOf] <;> omega
    · obtain rfl : i = s.size := by omega
      obtain rfl : k = t.size := by omega
      have hm := HM.out
      rw [drop_end s _ (by omega), drop_end t _ (by omega), mrgL_nil, List.append_nil] at hm
      have hln := hrow.len
      have HM2 := Lib.hid hm
      clear hm hne
      by_cases h5 : 50000 < n
      · have h5' : (50000 : Int) < (n : Int) := by omega
        have HLN := Lib.hid hln; clear hln
        go_wp2
        go_ret2
        rw [HMW.out, if_neg (by rw [← HM2.out, ← HLN.out]; omega)]
        exact ⟨_, rfl, rfl, hbel.trans (hb3.mono hwB)⟩
      · have h5' : (n : Int) ≤ 50000 := by omega
        have HLN := Lib.hid hln; clear hln
        have hcv := run_string_of_row hrow
        go_wp2
        go_ret2
        rw [HMW.out, if_pos (by rw [← HM2.out, ← HLN.out]; omega)]
        exact ⟨_, rfl, HM2.out, hbel.trans (hb3.mono hwB)⟩

set_option maxHeartbeats 400000 in
theorem implMerge_any (s t : ByteArray) (a b : Int) (hs : s.size ≤ 1048576) (ht : t.size ≤ 1048576) (w : World) :
    Calls Try.prog 46 #[.string s, .int .i64 a, .string t, .int .i64 b] w (RetStr2 ((mergeW a b s.data.toList t.data.toList).getD []) (mergeW a b s.data.toList t.data.toList).isSome w) := by
  cases hv : within s.data.toList a with
  | false =>
    have hr : mergeW a b s.data.toList t.data.toList = none := by simp [mergeW, hv]
    have HR := Lib.hid hr; clear hr
    have HV := Lib.hid hv; clear hv
    go_enter Try.func46, Try.ntmps46
    go_wp2_with (go_at_call 31; (with_reducible refine (implWithin_any s a (by omega) _).mono ?_); rintro e w' ⟨rfl, rfl⟩; rw [HV.out])
    go_ret2
    rw [HR.out]
    exact ⟨_, rfl, rfl, Below.refl _ _⟩
  | true =>
    cases hw : within t.data.toList b with
    | false =>
      have hr : mergeW a b s.data.toList t.data.toList = none := by simp [mergeW, hw]
      have HR := Lib.hid hr; clear hr
      have HV := Lib.hid hv; clear hv
      have HW := Lib.hid hw; clear hw
      go_enter Try.func46, Try.ntmps46
      go_wp2_with fail
      refine (implWithin_any s a (by omega) _).mono ?_
      rintro e w' ⟨rfl, rfl⟩
      rw [HV.out]
      go_wp2_with fail
      refine (implWithin_any t b (by omega) _).mono ?_
      rintro e w' ⟨rfl, rfl⟩
      rw [HW.out]
      go_wp2
      go_ret2
      rw [HR.out]
      exact ⟨_, rfl, rfl, Below.refl _ _⟩
    | true =>
      by_cases hag : agree a b s.data.toList t.data.toList
      · exact implMerge_in s t a b hs ht w hv hw hag
      · have hr : mergeW a b s.data.toList t.data.toList = none := by
          unfold mergeW; rw [if_neg]; rintro ⟨_, _, h, _⟩; exact hag h
        have hv2 := hv
        have hw2 := hw
        simp only [within, Bool.and_eq_true] at hv2 hw2
        obtain ⟨h0, h1⟩ := (isA_iff a).1 hv2.1.1
        obtain ⟨h0b, h1b⟩ := (isA_iff b).1 hw2.1.1
        clear hv2 hw2
        have HR := Lib.hid hr; clear hr
        have HV := Lib.hid hv; clear hv
        have HW := Lib.hid hw; clear hw
        go_enter Try.func46, Try.ntmps46
        go_wp2_with fail
        refine (implWithin_any s a (by omega) _).mono ?_
        rintro e w' ⟨rfl, rfl⟩
        rw [HV.out]
        go_wp2_with fail
        refine (implWithin_any t b (by omega) _).mono ?_
        rintro e w' ⟨rfl, rfl⟩
        rw [HW.out]
        go_wp2_with fail
        refine (restrict_any s b (by omega) h0b (by omega) _).mono ?_
        rintro e w1 ⟨r1, rfl, hr1, hb1⟩
        have HR1 := Lib.hid hr1; clear hr1
        go_wp2_with fail
        refine (restrict_any t a (by omega) h0 (by omega) _).mono ?_
        rintro e w2 ⟨r2, rfl, hr2, hb2⟩
        have heq : (r1.toList == r2.toList) = false := by
          rw [ByteArray.toList_eq, ByteArray.toList_eq, HR1.out, hr2]
          exact beq_eq_false_iff_ne.2 hag
        clear hr2
        go_wp2
        go_ret2
        rw [HR.out]
        exact ⟨_, rfl, rfl, hb1.trans (hb2.mono hb1.size)⟩

end Go.Proofs.Ytkgbdglfpnmlgaa
