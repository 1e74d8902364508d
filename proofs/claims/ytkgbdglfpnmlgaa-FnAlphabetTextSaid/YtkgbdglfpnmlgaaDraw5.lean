/- The drawn input of the law on the texts of alphabets. -/
import Derived.Test.YtkgbdglfpnmlgaaDraw3
import Derived.Test.YtkgbdglfpnmlgaaFormat
import Derived.Deep.RegionWith
namespace Go.Proofs.Ytkgbdglfpnmlgaa
open Go.RowKit
set_option linter.unusedVariables false
set_option linter.unusedSimpArgs false
set_option maxRecDepth 100000


theorem fmtA_len (a : Int) (h : isA a = true) : 1 ≤ (fmtA a).length ∧ (fmtA a).length ≤ 6 := by
  unfold fmtA
  rw [if_neg (by rw [h]; simp)]
  by_cases h0 : a = 0
  · rw [if_pos h0]; simp
  · rw [if_neg h0, List.length_map]
    have := lets_ne a h h0
    have := lets_len a
    omega

theorem ext_size (s : ByteArray) (a b : Nat) : (s.extract a b).size ≤ s.size := by
  rw [ByteArray.size_extract]; omega
theorem ext_le (s : ByteArray) (a N : Nat) (h : s.size ≤ N) : (s.extract a s.size).size ≤ N := Nat.le_trans (ext_size s _ _) h
theorem ext_le2 (s : ByteArray) (b N : Nat) (h : s.size ≤ N) : (s.extract 0 b).size ≤ N := Nat.le_trans (ext_size s _ _) h
theorem app_le (a b : ByteArray) (N M : Nat) (h : a.size ≤ N) (h2 : b.size ≤ M) : (a ++ b).size ≤ N + M := by rw [append_size]; omega
theorem app_sum (a b : ByteArray) (N M : Nat) (h : a.size ≤ N) (h2 : b.size ≤ M) (h3 : N + M ≤ 100) : (a.size : Int) + (b.size : Int) ≤ 9223372036854775807 := by omega
theorem at_next (j : Nat) (k : Int) (n : Nat) (h0 : 0 ≤ k) (h1 : k < 2) (hj : j < n) (hn : n ≤ 100) : ∃ m : Nat, IntKind.i64.wrap ((j : Int) + k) = (m : Int) ∧ m ≤ n ∧ (m : Int) ≤ (n : Int) :=
  ⟨j + k.toNat, by rw [IntKind.wrap_i64]; omega, by omega, by omega⟩
theorem of_lit_drew (R p : Nat) (xs : List ByteArray) (A : Array Value) (T : TypeId) (w : World) (hA : A = (xs.map Value.string).toArray) (h : RdOk R p w) (hp : p ≤ 1000000) (m : Nat) (hm : xs.length = m) (hm1 : 1 ≤ m) (hm2 : m ≤ 1000) :
    Calls Try.prog 62 #[.pointer (some ⟨R, 0, none⟩), .slice (some ⟨w.heap.size, 0, none⟩) m m] (w.alloc (.cells A T)).drew (OfLit R p xs w) := by
  refine Calls.mono (show Calls _ _ _ (w.drew.alloc (.cells A T)) (OfLit R p xs w.drew) from of_lit R p xs A T w.drew hA (h.drewN 1) hp m hm hm1 hm2) ?_
  rintro e w' ⟨j, x, hj, hx, he, p', hp', hr, hg⟩
  exact ⟨j, x, hj, hx, he, p', hp', hr, ⟨hg.os, hg.tape, hg.output, hg.size, hg.block⟩⟩

set_option maxHeartbeats 8000000 in
theorem drawParse_any (a : Option Addr) (len cap : Nat) (zs : List Int) (w : World) (hrow : IsRow w a len cap zs) : Calls Try.prog 25 #[.slice a len cap] w (DStr 100 w) := by
  go_enter Try.func25, Try.ntmps25
  go_wp2_with fail
  refine (l19Open_any _ _ _ _ _ hrow).mono ?_
  rintro e w1 ⟨R, rfl, hr0, hR, hbel⟩
  obtain ⟨p1, hp1, hr1⟩ : ∃ p1, p1 ≤ 0 ∧ RdOk R p1 w1 := ⟨0, Nat.le_refl _, hr0⟩
  have hg1 : w1.grownBy w1 (some R) := grown_refl _ _
  clear hr0
  go_wp2_with fail
  refine (pick_any R p1 64 _ hr1 (by omega)).mono ?_
  rintro e w2 ⟨k2, rfl, hk, -, hr, hgx⟩
  obtain ⟨hk20, hk21⟩ := hk (by omega)
  have hg2 := grown_trans hg1 hgx
  obtain ⟨p2, hp2, hr2⟩ : ∃ p', p' ≤ p1 + 1 ∧ RdOk R p' w2 := ⟨p1 + 1, Nat.le_refl _, hr⟩
  clear hk hr hgx hg1 hr1
  go_wp2_with fail
  refine (specFmt_any k2 _).mono ?_
  rintro e w3 ⟨s, rfl, hs, hb⟩
  have hl := fmtA_len k2 ((isA_iff _).2 ⟨hk20, by omega⟩)
  have hsz := size_of hs
  have hs1 : 1 ≤ s.size := by omega
  have hs6 : s.size ≤ 6 := by omega
  obtain ⟨p3, hp3, hr3⟩ : ∃ p', p' ≤ p2 ∧ RdOk R p' w3 := ⟨p2, Nat.le_refl _, hr2.below hb⟩
  have hg3 := grown_trans hg2 (grown_below (some R) hb)
  clear hs hl hsz hb hr2 hg2
  go_wp2_with fail
  refine (pick_any R p3 2 _ hr3 (by omega)).mono ?_
  rintro e w4 ⟨k4, rfl, hk, -, hr, hgx⟩
  obtain ⟨hk40, hk41⟩ := hk (by omega)
  have hg4 := grown_trans hg3 hgx
  obtain ⟨p4, hp4, hr4⟩ : ∃ p', p' ≤ p3 + 1 ∧ RdOk R p' w4 := ⟨p3 + 1, Nat.le_refl _, hr⟩
  clear hk hr hgx hg3 hr3
  by_cases hk : k4 = 0
  · subst hk
    go_wp2
    go_ret
    exact ⟨s, rfl, by omega, draw_below hbel hR hg4⟩
  · have hkb : (k4 == 0) = false := by simpa using hk
    clear hk
    go_wp2_with fail
    refine (pick_any R p4 (s.size : Int) _ hr4 (by omega)).mono ?_
    rintro e w5 ⟨k, rfl, hk, -, hr, hgx⟩
    obtain ⟨hk0, hk1⟩ := hk (by omega)
    have hg5 := grown_trans hg4 hgx
    obtain ⟨p5, hp5, hr5⟩ : ∃ p', p' ≤ p4 + 1 ∧ RdOk R p' w5 := ⟨p4 + 1, Nat.le_refl _, hr⟩
    clear hk hr hgx hg4 hr4
    obtain ⟨j, rfl⟩ := Int.eq_ofNat_of_zero_le hk0
    have hj : j < s.size := by omega
    have HEX := Lib.hid (ext_le2 s j 6 hs6)
    go_wp2_with fail
    go_region_with (first | (go_at_call 62; refine (of_lit_drew R p5 [⟨#[]⟩, ⟨#[97]⟩, ⟨#[45]⟩, ⟨#[103]⟩, ⟨#[98, 97]⟩] _ _ _ rfl hr5 (by omega) 5 rfl (by omega) (by omega)).mono ?_; rintro e w6 ⟨i, x, hi, hx, rfl, p6, hp6, hr6, hgx⟩; have hsx := getD_sz _ 2 (by decide) hi hx; have hapx := app_le (s.extract 0 j) x 6 2 HEX.out hsx; have HAPX := Lib.hid hapx; clear hapx; have HG6 := Lib.hid hgx; clear hgx hi hx) | (go_at_call 52; refine (pick_any R p6 2 _ hr6 (by omega)).mono ?_; rintro e w7 ⟨k7, rfl, hk7, -, hr7, hgx7⟩; obtain ⟨hk70, hk71⟩ := hk7 (by omega); have HG7 := Lib.hid hgx7; clear hgx7 hk7; obtain ⟨m, hm, hmle, hmi⟩ := at_next j k7 s.size hk70 hk71 hj (by omega); have hlast := app_le (s.extract 0 j ++ x) (s.extract m s.size) 8 6 HAPX.out (ext_le s m 6 hs6); have HLAST := Lib.hid hlast; clear hlast))
    all_goals
      go_wp2
      go_ret
      exact ⟨_, rfl, Nat.le_trans HLAST.out (by decide), draw_below hbel hR (grown_trans hg5 (grown_trans HG6.out HG7.out))⟩

end Go.Proofs.Ytkgbdglfpnmlgaa
