/- The drawn inputs of the laws on merged words. -/
import Derived.Test.YtkgbdglfpnmlgaaDraw3
import Derived.Test.YtkgbdglfpnmlgaaRestrict
import Derived.Test.YtkgbdglfpnmlgaaLaw
namespace Go.Proofs.Ytkgbdglfpnmlgaa
open Go.RowKit
set_option linter.unusedVariables false
set_option linter.unusedSimpArgs false
set_option maxRecDepth 100000


theorem results_four {fn : Func} {t u v x : Tmp} (h : fn.results = #[.tmp t, .tmp u, .tmp v, .tmp x]) (tmps : Array Value) (P : Program) (w : World) :
    (results fn tmps).run P w = .ok (.tuple #[tmps.getD t undef, tmps.getD u undef, tmps.getD v undef, tmps.getD x undef]) w := by
  simp [results, h]
macro "go_ret_four" : tactic => `(tactic|
  ((try simp only [Exit.inBlock, Exit.then]); refine bodyPost_ret (results_four rfl _ _ _) rfl ?_))

def PairRet (R p K N : Nat) (w : World) (e : Ending) (w' : World) : Prop := ∃ (s t : ByteArray) (a b : Int), e = .returned (.tuple #[.string s, .int .i64 a, .string t, .int .i64 b]) ∧ s.size ≤ N ∧ t.size ≤ N ∧ isA a = true ∧ isA b = true ∧ Adv R p K w w'
def D4 (w : World) (e : Ending) (w' : World) : Prop := ∃ (s t : ByteArray) (a b : Int), e = .returned (.tuple #[.string s, .int .i64 a, .string t, .int .i64 b]) ∧ s.size ≤ 60000 ∧ t.size ≤ 60000 ∧ -1 ≤ a ∧ a ≤ 64 ∧ -1 ≤ b ∧ b ≤ 64 ∧ Below w.heap.size w w'

theorem restrW_len (a : Int) (l : List UInt8) : (restrW a l).length ≤ l.length := by
  unfold restrW; split
  · exact restrL_len _ _
  · simp


set_option maxHeartbeats 1000000 in
theorem l1Pair_any (R p : Nat) (w : World) (h : RdOk R p w) (hp : p ≤ 500000) : Calls Try.prog 78 #[.pointer (some ⟨R, 0, none⟩)] w (PairRet R p 100 30 w) := by
  go_enter Try.func78, Try.ntmps78
  obtain ⟨p1, hp1, hr1⟩ : ∃ p1, p1 ≤ p ∧ RdOk R p1 w := ⟨p, Nat.le_refl _, h⟩
  obtain ⟨w1, rfl⟩ : ∃ w1, w1 = w := ⟨_, rfl⟩
  have hg1 : w1.grownBy w1 (some R) := grown_refl _ _
  clear h
  go_wp2_with fail
  refine (l1Some_any R p1 _ hr1 (by omega)).mono ?_
  rintro e w2 ⟨x2, rfl, hx2, p2, hp2, hr2, hgx⟩
  have hg2 := grown_trans hg1 hgx
  have HX2 : Hid (isA x2 = true) := hx2
  clear hx2 hgx hg1 hr1
  go_wp2_with fail
  refine (l1Some_any R p2 _ hr2 (by omega)).mono ?_
  rintro e w3 ⟨x3, rfl, hx3, p3, hp3, hr3, hgx⟩
  have hg3 := grown_trans hg2 hgx
  have HX3 : Hid (isA x3 = true) := hx3
  clear hx3 hgx hg2 hr2
  have hor : isA (bits .or .i64 x2 x3) = true := by
    obtain ⟨h0, h1⟩ := (isA_iff _).1 HX2.out
    obtain ⟨h2, h3⟩ := (isA_iff _).1 HX3.out
    rw [or_i64 _ _ h0 h2 (by omega) (by omega)]
    exact or_isA _ _ (by omega) (by omega)
  have HOR := Lib.hid hor; clear hor
  go_wp2_with fail
  refine (l1Word_any R p3 (bits .or .i64 x2 x3) 9 9 rfl HOR.out (by omega) _ hr3 (by omega)).mono ?_
  rintro e w4 ⟨s4, rfl, hs4, p4, hp4, hr4, hgx⟩
  have hg4 := grown_trans hg3 hgx
  clear hgx hg3 hr3
  go_wp2_with fail
  refine (specRestrict_any s4 x2 (by omega) _).mono ?_
  rintro e w5 ⟨s5, rfl, hr, hb⟩
  have hs5 : s5.size ≤ s4.size := by rw [size_of hr, ← data_len s4]; exact restrW_len _ _
  obtain ⟨p5, hp5, hr5⟩ : ∃ p', p' ≤ p4 ∧ RdOk R p' w5 := ⟨p4, Nat.le_refl _, hr4.below hb⟩
  have hg5 := grown_trans hg4 (grown_below (some R) hb)
  clear hr hb hr4 hg4
  go_wp2_with fail
  refine (specRestrict_any s4 x3 (by omega) _).mono ?_
  rintro e w6 ⟨s6, rfl, hr, hb⟩
  have hs6 : s6.size ≤ s4.size := by rw [size_of hr, ← data_len s4]; exact restrW_len _ _
  obtain ⟨p6, hp6, hr6⟩ : ∃ p', p' ≤ p5 ∧ RdOk R p' w6 := ⟨p5, Nat.le_refl _, hr5.below hb⟩
  have hg6 := grown_trans hg5 (grown_below (some R) hb)
  clear hr hb hr5 hg5
  go_wp2_with fail
  refine (pick_any R p6 8 _ hr6 (by omega)).mono ?_
  rintro e w7 ⟨k7, rfl, hk, -, hr, hgx⟩
  obtain ⟨hk70, hk71⟩ := hk (by omega)
  have hg7 := grown_trans hg6 hgx
  obtain ⟨p7, hp7, hr7⟩ : ∃ p', p' ≤ p6 + 1 ∧ RdOk R p' w7 := ⟨p6 + 1, Nat.le_refl _, hr⟩
  clear hk hr hgx hg6 hr6
  have hcase : k7 = 0 ∨ k7 = 1 ∨ 2 ≤ k7 := by omega
  rcases hcase with rfl | rfl | hk
  · go_wp2_with fail
    refine (l1Word_any R p7 x2 5 5 rfl HX2.out (by omega) _ hr7 (by omega)).mono ?_
    rintro e w8 ⟨s8, rfl, hs8, p8, hp8, hr8, hgx⟩
    have hg8 := grown_trans hg7 hgx
    clear hgx hg7 hr7
    go_wp2
    go_ret_four
    exact ⟨s8, s6, x2, x3, rfl, by omega, by omega, HX2.out, HX3.out, p8, by omega, hr8, hg8⟩
  · go_wp2_with fail
    refine (l1Word_any R p7 x3 3 3 rfl HX3.out (by omega) _ hr7 (by omega)).mono ?_
    rintro e w8 ⟨s8, rfl, hs8, p8, hp8, hr8, hgx⟩
    have hg8 := grown_trans hg7 hgx
    clear hgx hg7 hr7
    have hsum : (s6.size : Int) + (s8.size : Int) ≤ 9223372036854775807 := by omega
    have hap := append_size s6 s8
    have HAP := Lib.hid hap
    clear hap
    go_wp2
    go_ret_four
    exact ⟨s5, s6 ++ s8, x2, x3, rfl, by omega, by rw [HAP.out]; omega, HX2.out, HX3.out, p8, by omega, hr8, hg8⟩
  · have e0 : (k7 == 0) = false := by simp; omega
    have e1 : (k7 == 1) = false := by simp; omega
    go_wp2
    go_ret_four
    exact ⟨s5, s6, x2, x3, rfl, by omega, by omega, HX2.out, HX3.out, p7, by omega, hr7, hg7⟩

set_option maxHeartbeats 1000000 in
theorem drawMerge_any (a : Option Addr) (len cap : Nat) (zs : List Int) (w : World) (hrow : IsRow w a len cap zs) : Calls Try.prog 47 #[.slice a len cap] w (D4 w) := by
  go_enter Try.func47, Try.ntmps47
  go_wp2_with fail
  refine (l19Open_any _ _ _ _ _ hrow).mono ?_
  rintro e w1 ⟨R, rfl, hr0, hR, hbel⟩
  obtain ⟨p1, hp1, hr1⟩ : ∃ p1, p1 ≤ 0 ∧ RdOk R p1 w1 := ⟨0, Nat.le_refl _, hr0⟩
  have hg1 : w1.grownBy w1 (some R) := grown_refl _ _
  clear hr0
  go_wp2_with fail
  refine (l1Pair_any R p1 _ hr1 (by omega)).mono ?_
  rintro e w2 ⟨s, t, x, y, rfl, hs, ht, hx, hy, p2, hp2, hr2, hgx⟩
  have hg2 := grown_trans hg1 hgx
  have HX := Lib.hid hx; clear hx
  have HY := Lib.hid hy; clear hy
  clear hgx hg1 hr1
  go_wp2_with fail
  refine (pick_any R p2 40 _ hr2 (by omega)).mono ?_
  rintro e w3 ⟨k3, rfl, hk, -, hr, hgx⟩
  obtain ⟨hk30, hk31⟩ := hk (by omega)
  have hg3 := grown_trans hg2 hgx
  obtain ⟨p3, hp3, hr3⟩ : ∃ p', p' ≤ p2 + 1 ∧ RdOk R p' w3 := ⟨p2 + 1, Nat.le_refl _, hr⟩
  clear hk hr hgx hg2 hr2
  have hcase : k3 = 0 ∨ k3 = 1 ∨ 2 ≤ k3 := by omega
  rcases hcase with rfl | rfl | hk
  · go_wp2_with fail
    refine (l19Many_any _ 40000 rfl (by omega) (by omega) _).mono ?_
    rintro e w' ⟨r, rfl, hr, rfl⟩
    have hrs : r.size ≤ 40000 := by omega
    clear hr
    go_wp2_with fail
    refine (num_lit R p3 [10000, 10001] _ _ w3 rfl hr3 (by omega) 2 rfl (by omega) (by omega)).mono ?_
    rintro e w4 ⟨j, z, hj, hz, rfl, p4, hp4, hr4, hgx⟩
    obtain ⟨hz0, hz1⟩ := getD_bd _ (fun x => 0 ≤ x ∧ x ≤ 50001) (by decide) hj hz
    have hg4 := grown_trans hg3 hgx
    clear hgx hg3 hr3 hj hz
    go_wp2_with fail
    refine (l19Many_any _ z rfl hz0 (by omega) _).mono ?_
    rintro e w' ⟨r2, rfl, hr, rfl⟩
    have hrs2 : r2.size ≤ 50001 := by omega
    clear hr
    have H1 : Hid (isA 1 = true) := Lib.hid (by decide)
    have H2 : Hid (isA 2 = true) := Lib.hid (by decide)
    go_wp2_with fail
    refine (l1Wrong_any R p4 1 H1.out _ hr4 (by omega)).mono ?_
    rintro e w5 ⟨x5, rfl, ⟨hxl5, hxu5⟩, p5, hp5, hr5, hgx⟩
    have hg5 := grown_trans hg4 hgx
    clear hgx hg4 hr4
    go_wp2_with fail
    refine (l1Wrong_any R p5 2 H2.out _ hr5 (by omega)).mono ?_
    rintro e w6 ⟨x6, rfl, ⟨hxl6, hxu6⟩, p6, hp6, hr6, hgx⟩
    have hg6 := grown_trans hg5 hgx
    clear hgx hg5 hr5
    go_wp2
    go_ret_four
    exact ⟨r, r2, x5, x6, rfl, by omega, by omega, hxl5, hxu5, hxl6, hxu6, draw_below hbel hR hg6⟩
  · have hsum : (s.size : Int) + ((⟨#[103]⟩ : ByteArray).size : Int) ≤ 9223372036854775807 := by
      have : (⟨#[103]⟩ : ByteArray).size = 1 := rfl
      rw [this]; omega
    have hap : (s ++ ⟨#[103]⟩ : ByteArray).size ≤ 60000 := by
      rw [append_size]
      have : (⟨#[103]⟩ : ByteArray).size = 1 := rfl
      rw [this]; omega
    have HAP := Lib.hid hap
    clear hap
    go_wp2_with fail
    refine (l1Wrong_any R p3 x HX.out _ hr3 (by omega)).mono ?_
    rintro e w4 ⟨x4, rfl, ⟨hxl4, hxu4⟩, p4, hp4, hr4, hgx⟩
    have hg4 := grown_trans hg3 hgx
    clear hgx hg3 hr3
    go_wp2_with fail
    refine (l1Wrong_any R p4 y HY.out _ hr4 (by omega)).mono ?_
    rintro e w5 ⟨x5, rfl, ⟨hxl5, hxu5⟩, p5, hp5, hr5, hgx⟩
    have hg5 := grown_trans hg4 hgx
    clear hgx hg4 hr4
    go_wp2
    go_ret_four
    exact ⟨s ++ ⟨#[103]⟩, t, x4, x5, rfl, HAP.out, by omega, hxl4, hxu4, hxl5, hxu5, draw_below hbel hR hg5⟩
  · have e0 : (k3 == 0) = false := by simp; omega
    have e1 : (k3 == 1) = false := by simp; omega
    go_wp2_with fail
    refine (l1Wrong_any R p3 x HX.out _ hr3 (by omega)).mono ?_
    rintro e w4 ⟨x4, rfl, ⟨hxl4, hxu4⟩, p4, hp4, hr4, hgx⟩
    have hg4 := grown_trans hg3 hgx
    clear hgx hg3 hr3
    go_wp2_with fail
    refine (l1Wrong_any R p4 y HY.out _ hr4 (by omega)).mono ?_
    rintro e w5 ⟨x5, rfl, ⟨hxl5, hxu5⟩, p5, hp5, hr5, hgx⟩
    have hg5 := grown_trans hg4 hgx
    clear hgx hg4 hr4
    go_wp2
    go_ret_four
    exact ⟨s, t, x4, x5, rfl, by omega, by omega, hxl4, hxu4, hxl5, hxu5, draw_below hbel hR hg5⟩

end Go.Proofs.Ytkgbdglfpnmlgaa
