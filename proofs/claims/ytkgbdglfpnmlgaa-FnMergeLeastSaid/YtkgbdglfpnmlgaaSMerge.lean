/- The reference's MergeWords, and the exact law. -/
import Derived.Test.YtkgbdglfpnmlgaaMerge
namespace Go.Proofs.Ytkgbdglfpnmlgaa
open Go.RowKit
set_option linter.unusedVariables false
set_option linter.unusedSimpArgs false
set_option maxRecDepth 100000

theorem l1At_0 (s : ByteArray) (x : Int) (h : 0 < s.size) (hx : Hid ((s[0].toNat : Int) - 97 = x)) (hs : s.size ≤ 9223372036854775807) (w : World) : Calls Try.prog 65 #[.string s, .int .i64 0] w (Ret (.int .i64 x) w) := by
  have := l1At_any s 0 h hs w
  rw [hx.out] at this
  exact this


theorem head_of {s : ByteArray} {c : UInt8} {l : List UInt8} (h : s.data.toList = c :: l) : ∃ h : 0 < s.size, s[0] = c := by
  have hs : 0 < s.size := by rw [← data_len, h]; simp
  refine ⟨hs, ?_⟩
  have h0 : s.data.toList[0]'(by rw [data_len]; exact hs) = s[0] := rfl
  rw [← h0]; simp [h]

set_option maxHeartbeats 4000000 in
theorem l1Merge_any (s t : ByteArray) (a b : Int) (ha0 : 0 ≤ a) (ha1 : a ≤ 63) (hb0 : 0 ≤ b) (hb1 : b ≤ 63) (hs : s.size ≤ 1048576) (ht : t.size ≤ 1048576) (hsa : s.data.toList.all (okL a) = true) (hta : t.data.toList.all (okL b) = true) (w : World) :
    Calls Try.prog 80 #[.string s, .int .i64 a, .string t, .int .i64 b] w (RetBel (.int .i64 (smerge a b s.data.toList t.data.toList)) w) := by
  cases hsl : s.data.toList with
  | nil =>
    have h1 : s.size = 0 := by rw [← data_len, hsl]; rfl
    have h1' : (s.size : Int) = 0 := by omega
    cases htl : t.data.toList with
    | nil =>
      have h2 : t.size = 0 := by rw [← data_len, htl]; rfl
      have h2' : (t.size : Int) = 0 := by omega
      have hr : smerge a b [] [] = -1 := rfl
      have HR := Lib.hid hr; clear hr
      clear hsa hta hsl htl h1 h2
      go_enter Try.func80, Try.ntmps80
      go_wp2_with fail
      go_quiet ((first | (go_at_call 65; exact quiet_ret (l1At_0 s x h1 HX (by omega) _)) | (go_at_call 65; exact quiet_ret (l1At_0 t y h2 HY (by omega) _)) | (go_at_call 73; exact quiet_ret (l1Has_any _ _ (by omega) (by omega) (by omega) (by omega) _))))
      rename_i nq
      go_wp2_with (first | (go_at_call 65; (with_reducible refine (l1At_0 s x h1 HX (by omega) _).mono ?_); rintro e w' ⟨rfl, rfl⟩) | (go_at_call 65; (with_reducible refine (l1At_0 t y h2 HY (by omega) _).mono ?_); rintro e w' ⟨rfl, rfl⟩) | (go_at_call 73; (with_reducible refine (l1Has_any _ _ (by omega) (by omega) (by omega) (by omega) _).mono ?_); rintro e w' ⟨rfl, rfl⟩))
      go_ret
      exact ⟨ret_int HR.out.symm, below_drewN (Below.refl _ _) nq⟩
    | cons d tl =>
      obtain ⟨h2, hd⟩ := head_of htl
      have h2' : (0 : Int) < (t.size : Int) := by omega
      rw [htl] at hta
      simp only [List.all_cons, Bool.and_eq_true] at hta
      have hd0 := okL_nonneg hta.1
      have hd1 := ltr_lt d
      have hy : (t[0].toNat : Int) - 97 = ltr d := by rw [hd]; exact ltr_of_ok hd0
      cases hax : okL a d with
      | true =>
        have hr : smerge a b [] (d :: tl) = -1 := by simp [smerge, sm1, hax]
        have hax2 : hasB a (ltr d) = true := hax
        generalize ltr d = y at *
        have HR := Lib.hid hr; clear hr
        have HY := Lib.hid hy; clear hy
        clear hsa hta hsl htl h1 hd hax
        go_enter Try.func80, Try.ntmps80
        go_wp2_with fail
        go_quiet ((first | (go_at_call 65; exact quiet_ret (l1At_0 s x h1 HX (by omega) _)) | (go_at_call 65; exact quiet_ret (l1At_0 t y h2 HY (by omega) _)) | (go_at_call 73; exact quiet_ret (l1Has_any _ _ (by omega) (by omega) (by omega) (by omega) _))))
        rename_i nq
        go_wp2_with (first | (go_at_call 65; (with_reducible refine (l1At_0 s x h1 HX (by omega) _).mono ?_); rintro e w' ⟨rfl, rfl⟩) | (go_at_call 65; (with_reducible refine (l1At_0 t y h2 HY (by omega) _).mono ?_); rintro e w' ⟨rfl, rfl⟩) | (go_at_call 73; (with_reducible refine (l1Has_any _ _ (by omega) (by omega) (by omega) (by omega) _).mono ?_); rintro e w' ⟨rfl, rfl⟩))
        go_ret
        exact ⟨ret_int HR.out.symm, below_drewN (Below.refl _ _) nq⟩
      | false =>
        have hr : smerge a b [] (d :: tl) = ltr d := by simp [smerge, sm1, hax]
        have hax2 : hasB a (ltr d) = false := hax
        generalize ltr d = y at *
        have HR := Lib.hid hr; clear hr
        have HY := Lib.hid hy; clear hy
        clear hsa hta hsl htl h1 hd hax
        go_enter Try.func80, Try.ntmps80
        go_wp2_with fail
        go_quiet ((first | (go_at_call 65; exact quiet_ret (l1At_0 s x h1 HX (by omega) _)) | (go_at_call 65; exact quiet_ret (l1At_0 t y h2 HY (by omega) _)) | (go_at_call 73; exact quiet_ret (l1Has_any _ _ (by omega) (by omega) (by omega) (by omega) _))))
        rename_i nq
        go_wp2_with (first | (go_at_call 65; (with_reducible refine (l1At_0 s x h1 HX (by omega) _).mono ?_); rintro e w' ⟨rfl, rfl⟩) | (go_at_call 65; (with_reducible refine (l1At_0 t y h2 HY (by omega) _).mono ?_); rintro e w' ⟨rfl, rfl⟩) | (go_at_call 73; (with_reducible refine (l1Has_any _ _ (by omega) (by omega) (by omega) (by omega) _).mono ?_); rintro e w' ⟨rfl, rfl⟩))
        go_ret
        exact ⟨ret_int HR.out.symm, below_drewN (Below.refl _ _) nq⟩
  | cons c sl =>
    obtain ⟨h1, hc⟩ := head_of hsl
    have h1' : (0 : Int) < (s.size : Int) := by omega
    rw [hsl] at hsa
    simp only [List.all_cons, Bool.and_eq_true] at hsa
    have hc0 := okL_nonneg hsa.1
    have hc1 := ltr_lt c
    have hx : (s[0].toNat : Int) - 97 = ltr c := by rw [hc]; exact ltr_of_ok hc0
    cases htl : t.data.toList with
    | nil =>
      have h2 : t.size = 0 := by rw [← data_len, htl]; rfl
      have h2' : (t.size : Int) = 0 := by omega
      cases hbx : okL b c with
      | true =>
        have hr : smerge a b (c :: sl) [] = -1 := by simp [smerge, sm1, hbx]
        have hbx2 : hasB b (ltr c) = true := hbx
        generalize ltr c = x at *
        have HR := Lib.hid hr; clear hr
        have HX := Lib.hid hx; clear hx
        clear hsa hta hsl htl h2 hc hbx
        go_enter Try.func80, Try.ntmps80
        go_wp2_with fail
        go_quiet ((first | (go_at_call 65; exact quiet_ret (l1At_0 s x h1 HX (by omega) _)) | (go_at_call 65; exact quiet_ret (l1At_0 t y h2 HY (by omega) _)) | (go_at_call 73; exact quiet_ret (l1Has_any _ _ (by omega) (by omega) (by omega) (by omega) _))))
        rename_i nq
        go_wp2_with (first | (go_at_call 65; (with_reducible refine (l1At_0 s x h1 HX (by omega) _).mono ?_); rintro e w' ⟨rfl, rfl⟩) | (go_at_call 65; (with_reducible refine (l1At_0 t y h2 HY (by omega) _).mono ?_); rintro e w' ⟨rfl, rfl⟩) | (go_at_call 73; (with_reducible refine (l1Has_any _ _ (by omega) (by omega) (by omega) (by omega) _).mono ?_); rintro e w' ⟨rfl, rfl⟩))
        go_ret
        exact ⟨ret_int HR.out.symm, below_drewN (Below.refl _ _) nq⟩
      | false =>
        have hr : smerge a b (c :: sl) [] = ltr c := by simp [smerge, sm1, hbx]
        have hbx2 : hasB b (ltr c) = false := hbx
        generalize ltr c = x at *
        have HR := Lib.hid hr; clear hr
        have HX := Lib.hid hx; clear hx
        clear hsa hta hsl htl h2 hc hbx
        go_enter Try.func80, Try.ntmps80
        go_wp2_with fail
        go_quiet ((first | (go_at_call 65; exact quiet_ret (l1At_0 s x h1 HX (by omega) _)) | (go_at_call 65; exact quiet_ret (l1At_0 t y h2 HY (by omega) _)) | (go_at_call 73; exact quiet_ret (l1Has_any _ _ (by omega) (by omega) (by omega) (by omega) _))))
        rename_i nq
        go_wp2_with (first | (go_at_call 65; (with_reducible refine (l1At_0 s x h1 HX (by omega) _).mono ?_); rintro e w' ⟨rfl, rfl⟩) | (go_at_call 65; (with_reducible refine (l1At_0 t y h2 HY (by omega) _).mono ?_); rintro e w' ⟨rfl, rfl⟩) | (go_at_call 73; (with_reducible refine (l1Has_any _ _ (by omega) (by omega) (by omega) (by omega) _).mono ?_); rintro e w' ⟨rfl, rfl⟩))
        go_ret
        exact ⟨ret_int HR.out.symm, below_drewN (Below.refl _ _) nq⟩
    | cons d tl =>
      obtain ⟨h2, hd⟩ := head_of htl
      have h2' : (0 : Int) < (t.size : Int) := by omega
      rw [htl] at hta
      simp only [List.all_cons, Bool.and_eq_true] at hta
      have hd0 := okL_nonneg hta.1
      have hd1 := ltr_lt d
      have hy : (t[0].toNat : Int) - 97 = ltr d := by rw [hd]; exact ltr_of_ok hd0
      have haxc : hasB a (ltr c) = true := hsa.1
      cases hbx : okL b c with
      | false =>
        have hs1 : sm1 b (c :: sl) (d :: tl) = ltr c := by simp [sm1, hbx]
        cases hax : okL a d with
        | true =>
          have hr : smerge a b (c :: sl) (d :: tl) = ltr c := by simp only [smerge, hs1]; rw [if_neg (by rw [hax]; simp)]
          have hax2 : hasB a (ltr d) = true := hax
          have hbx2 : hasB b (ltr c) = false := hbx
          generalize ltr c = x at *
          generalize ltr d = y at *
          have HR := Lib.hid hr; clear hr
          have HX := Lib.hid hx; clear hx
          have HY := Lib.hid hy; clear hy
          clear hsa hta hsl htl hd hc hbx hax hs1
          go_enter Try.func80, Try.ntmps80
          go_wp2_with fail
          go_quiet ((first | (go_at_call 65; exact quiet_ret (l1At_0 s x h1 HX (by omega) _)) | (go_at_call 65; exact quiet_ret (l1At_0 t y h2 HY (by omega) _)) | (go_at_call 73; exact quiet_ret (l1Has_any _ _ (by omega) (by omega) (by omega) (by omega) _))))
          rename_i nq
          go_wp2_with (first | (go_at_call 65; (with_reducible refine (l1At_0 s x h1 HX (by omega) _).mono ?_); rintro e w' ⟨rfl, rfl⟩) | (go_at_call 65; (with_reducible refine (l1At_0 t y h2 HY (by omega) _).mono ?_); rintro e w' ⟨rfl, rfl⟩) | (go_at_call 73; (with_reducible refine (l1Has_any _ _ (by omega) (by omega) (by omega) (by omega) _).mono ?_); rintro e w' ⟨rfl, rfl⟩))
          go_ret
          exact ⟨ret_int HR.out.symm, below_drewN (Below.refl _ _) nq⟩
        | false =>
          by_cases hlt : ltr d < ltr c
          · have hr : smerge a b (c :: sl) (d :: tl) = ltr d := by simp only [smerge, hs1]; rw [if_pos ⟨hax, .inr hlt⟩]
            have hax2 : hasB a (ltr d) = false := hax
            have hbx2 : hasB b (ltr c) = false := hbx
            generalize ltr c = x at *
            generalize ltr d = y at *
            have HR := Lib.hid hr; clear hr
            have HX := Lib.hid hx; clear hx
            have HY := Lib.hid hy; clear hy
            clear hsa hta hsl htl hd hc hbx hax hs1
            go_enter Try.func80, Try.ntmps80
            go_wp2_with fail
            go_quiet ((first | (go_at_call 65; exact quiet_ret (l1At_0 s x h1 HX (by omega) _)) | (go_at_call 65; exact quiet_ret (l1At_0 t y h2 HY (by omega) _)) | (go_at_call 73; exact quiet_ret (l1Has_any _ _ (by omega) (by omega) (by omega) (by omega) _))))
            rename_i nq
            go_wp2_with (first | (go_at_call 65; (with_reducible refine (l1At_0 s x h1 HX (by omega) _).mono ?_); rintro e w' ⟨rfl, rfl⟩) | (go_at_call 65; (with_reducible refine (l1At_0 t y h2 HY (by omega) _).mono ?_); rintro e w' ⟨rfl, rfl⟩) | (go_at_call 73; (with_reducible refine (l1Has_any _ _ (by omega) (by omega) (by omega) (by omega) _).mono ?_); rintro e w' ⟨rfl, rfl⟩))
            go_ret
            exact ⟨ret_int HR.out.symm, below_drewN (Below.refl _ _) nq⟩
          · have hr : smerge a b (c :: sl) (d :: tl) = ltr c := by simp only [smerge, hs1]; rw [if_neg (by rintro ⟨_, h | h⟩ <;> omega)]
            have hax2 : hasB a (ltr d) = false := hax
            have hbx2 : hasB b (ltr c) = false := hbx
            generalize ltr c = x at *
            generalize ltr d = y at *
            have HR := Lib.hid hr; clear hr
            have HX := Lib.hid hx; clear hx
            have HY := Lib.hid hy; clear hy
            clear hsa hta hsl htl hd hc hbx hax hs1
            go_enter Try.func80, Try.ntmps80
            go_wp2_with fail
            go_quiet ((first | (go_at_call 65; exact quiet_ret (l1At_0 s x h1 HX (by omega) _)) | (go_at_call 65; exact quiet_ret (l1At_0 t y h2 HY (by omega) _)) | (go_at_call 73; exact quiet_ret (l1Has_any _ _ (by omega) (by omega) (by omega) (by omega) _))))
            rename_i nq
            go_wp2_with (first | (go_at_call 65; (with_reducible refine (l1At_0 s x h1 HX (by omega) _).mono ?_); rintro e w' ⟨rfl, rfl⟩) | (go_at_call 65; (with_reducible refine (l1At_0 t y h2 HY (by omega) _).mono ?_); rintro e w' ⟨rfl, rfl⟩) | (go_at_call 73; (with_reducible refine (l1Has_any _ _ (by omega) (by omega) (by omega) (by omega) _).mono ?_); rintro e w' ⟨rfl, rfl⟩))
            go_ret
            exact ⟨ret_int HR.out.symm, below_drewN (Below.refl _ _) nq⟩
      | true =>
        by_cases he : d = c
        · have hs1 : sm1 b (c :: sl) (d :: tl) = ltr c := by simp [sm1, he]
          have hr : smerge a b (c :: sl) (d :: tl) = ltr c := by simp only [smerge, hs1]; rw [if_neg (by rw [he, hsa.1]; simp)]
          have hbeq : ((t[0].toNat : Int) == (s[0].toNat : Int)) = true := by rw [hd, hc, he]; simp
          have hax2 : hasB a (ltr d) = true := by rw [he]; exact haxc
          have hbx2 : hasB b (ltr c) = true := hbx
          generalize ltr c = x at *
          generalize ltr d = y at *
          have HR := Lib.hid hr; clear hr
          have HX := Lib.hid hx; clear hx
          have HY := Lib.hid hy; clear hy
          clear hsa hta hsl htl hd hc hbx he hs1
          go_enter Try.func80, Try.ntmps80
          go_wp2_with fail
          go_quiet ((first | (go_at_call 65; exact quiet_ret (l1At_0 s x h1 HX (by omega) _)) | (go_at_call 65; exact quiet_ret (l1At_0 t y h2 HY (by omega) _)) | (go_at_call 73; exact quiet_ret (l1Has_any _ _ (by omega) (by omega) (by omega) (by omega) _))))
          rename_i nq
          go_wp2_with (first | (go_at_call 65; (with_reducible refine (l1At_0 s x h1 HX (by omega) _).mono ?_); rintro e w' ⟨rfl, rfl⟩) | (go_at_call 65; (with_reducible refine (l1At_0 t y h2 HY (by omega) _).mono ?_); rintro e w' ⟨rfl, rfl⟩) | (go_at_call 73; (with_reducible refine (l1Has_any _ _ (by omega) (by omega) (by omega) (by omega) _).mono ?_); rintro e w' ⟨rfl, rfl⟩))
          go_ret
          exact ⟨ret_int HR.out.symm, below_drewN (Below.refl _ _) nq⟩
        · have hs1 : sm1 b (c :: sl) (d :: tl) = -1 := by simp [sm1, he, hbx]
          have hbeq : ((t[0].toNat : Int) == (s[0].toNat : Int)) = false := by
            rw [hd, hc, beq_eq_false_iff_ne]; intro h; exact he (UInt8.toNat_inj.1 (by omega))
          cases hax : okL a d with
          | true =>
            have hr : smerge a b (c :: sl) (d :: tl) = -1 := by simp only [smerge, hs1]; rw [if_neg (by rw [hax]; simp)]
            have hax2 : hasB a (ltr d) = true := hax
            have hbx2 : hasB b (ltr c) = true := hbx
            generalize ltr c = x at *
            generalize ltr d = y at *
            have HR := Lib.hid hr; clear hr
            have HX := Lib.hid hx; clear hx
            have HY := Lib.hid hy; clear hy
            clear hsa hta hsl htl hd hc hbx he hs1 hax
            go_enter Try.func80, Try.ntmps80
            go_wp2_with fail
            go_quiet ((first | (go_at_call 65; exact quiet_ret (l1At_0 s x h1 HX (by omega) _)) | (go_at_call 65; exact quiet_ret (l1At_0 t y h2 HY (by omega) _)) | (go_at_call 73; exact quiet_ret (l1Has_any _ _ (by omega) (by omega) (by omega) (by omega) _))))
            rename_i nq
            go_wp2_with (first | (go_at_call 65; (with_reducible refine (l1At_0 s x h1 HX (by omega) _).mono ?_); rintro e w' ⟨rfl, rfl⟩) | (go_at_call 65; (with_reducible refine (l1At_0 t y h2 HY (by omega) _).mono ?_); rintro e w' ⟨rfl, rfl⟩) | (go_at_call 73; (with_reducible refine (l1Has_any _ _ (by omega) (by omega) (by omega) (by omega) _).mono ?_); rintro e w' ⟨rfl, rfl⟩))
            go_ret
            exact ⟨ret_int HR.out.symm, below_drewN (Below.refl _ _) nq⟩
          | false =>
            have hr : smerge a b (c :: sl) (d :: tl) = ltr d := by simp only [smerge, hs1]; rw [if_pos ⟨hax, .inl (by omega)⟩]
            have hax2 : hasB a (ltr d) = false := hax
            have hbx2 : hasB b (ltr c) = true := hbx
            generalize ltr c = x at *
            generalize ltr d = y at *
            have HR := Lib.hid hr; clear hr
            have HX := Lib.hid hx; clear hx
            have HY := Lib.hid hy; clear hy
            clear hsa hta hsl htl hd hc hbx he hs1 hax
            go_enter Try.func80, Try.ntmps80
            go_wp2_with fail
            go_quiet ((first | (go_at_call 65; exact quiet_ret (l1At_0 s x h1 HX (by omega) _)) | (go_at_call 65; exact quiet_ret (l1At_0 t y h2 HY (by omega) _)) | (go_at_call 73; exact quiet_ret (l1Has_any _ _ (by omega) (by omega) (by omega) (by omega) _))))
            rename_i nq
            go_wp2_with (first | (go_at_call 65; (with_reducible refine (l1At_0 s x h1 HX (by omega) _).mono ?_); rintro e w' ⟨rfl, rfl⟩) | (go_at_call 65; (with_reducible refine (l1At_0 t y h2 HY (by omega) _).mono ?_); rintro e w' ⟨rfl, rfl⟩) | (go_at_call 73; (with_reducible refine (l1Has_any _ _ (by omega) (by omega) (by omega) (by omega) _).mono ?_); rintro e w' ⟨rfl, rfl⟩))
            go_ret
            exact ⟨ret_int HR.out.symm, below_drewN (Below.refl _ _) nq⟩

end Go.Proofs.Ytkgbdglfpnmlgaa
