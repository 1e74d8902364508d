/- The drawn inputs of the laws on words. -/
import Derived.Test.YtkgbdglfpnmlgaaDraw2
import Derived.Deep.RegionWith
namespace Go.Proofs.Ytkgbdglfpnmlgaa
open Go.RowKit
set_option linter.unusedVariables false
set_option linter.unusedSimpArgs false
set_option maxRecDepth 100000

theorem draw_below {w w1 w2 : World} {R : Nat} (hb : Below w.heap.size w w1) (hR : w.heap.size ≤ R) (hg : w1.grownBy w2 (some R)) : Below w.heap.size w w2 :=
  hb.grown hg hb.size (fun k hk => by injection hk with hk; omega)


def DInt (lo hi : Int) (w : World) (e : Ending) (w' : World) : Prop := ∃ n, e = .returned (.int .i64 n) ∧ lo ≤ n ∧ n ≤ hi ∧ Below w.heap.size w w'
def DStr (N : Nat) (w : World) (e : Ending) (w' : World) : Prop := ∃ s : ByteArray, e = .returned (.string s) ∧ s.size ≤ N ∧ Below w.heap.size w w'
def DStrInt (N : Nat) (w : World) (e : Ending) (w' : World) : Prop := ∃ (s : ByteArray) (n : Int), e = .returned (.tuple #[.string s, .int .i64 n]) ∧ s.size ≤ N ∧ -1 ≤ n ∧ n ≤ 64 ∧ Below w.heap.size w w'
def DStrStr (N : Nat) (w : World) (e : Ending) (w' : World) : Prop := ∃ (s t : ByteArray), e = .returned (.tuple #[.string s, .string t]) ∧ s.size ≤ N ∧ t.size ≤ N ∧ Below w.heap.size w w'
def DIntInt (w : World) (e : Ending) (w' : World) : Prop := ∃ (m n : Int), e = .returned (.tuple #[.int .i64 m, .int .i64 n]) ∧ -1 ≤ m ∧ m ≤ 9223372036854775807 ∧ -1 ≤ n ∧ n ≤ 64 ∧ Below w.heap.size w w'

set_option maxHeartbeats 1000000 in
theorem drawFmt_any (a : Option Addr) (len cap : Nat) (zs : List Int) (w : World) (hrow : IsRow w a len cap zs) : Calls Try.prog 20 #[.slice a len cap] w (DInt (-1) 64 w) := by
  go_enter Try.func20, Try.ntmps20
  go_wp2_with fail
  refine (l19Open_any _ _ _ _ _ hrow).mono ?_
  rintro e w1 ⟨R, rfl, hr0, hR, hbel⟩
  obtain ⟨p1, hp1, hr1⟩ : ∃ p1, p1 ≤ 0 ∧ RdOk R p1 w1 := ⟨0, Nat.le_refl _, hr0⟩
  have hg1 : w1.grownBy w1 (some R) := grown_refl _ _
  clear hr0
  go_wp2_with fail
  refine (pick_any R p1 2 _ hr1 (by omega)).mono ?_
  rintro e w2 ⟨k2, rfl, hk, -, hr, hgx⟩
  obtain ⟨hk20, hk21⟩ := hk (by omega)
  have hg2 := grown_trans hg1 hgx
  obtain ⟨p2, hp2, hr2⟩ : ∃ p', p' ≤ p1 + 1 ∧ RdOk R p' w2 := ⟨p1 + 1, Nat.le_refl _, hr⟩
  clear hk hr hgx hg1 hr1
  by_cases hk : k2 = 0
  · subst hk
    go_wp2_with fail
    refine (pick_any R p2 64 _ hr2 (by omega)).mono ?_
    rintro e w3 ⟨k3, rfl, hk, -, hr, hgx⟩
    obtain ⟨hk30, hk31⟩ := hk (by omega)
    have hg3 := grown_trans hg2 hgx
    obtain ⟨p3, hp3, hr3⟩ : ∃ p', p' ≤ p2 + 1 ∧ RdOk R p' w3 := ⟨p2 + 1, Nat.le_refl _, hr⟩
    clear hk hr hgx hg2 hr2
    go_wp2
    go_ret
    exact ⟨k3, rfl, by omega, by omega, draw_below hbel hR hg3⟩
  · have hkb : (k2 == 0) = false := by simpa using hk
    clear hk
    go_wp2_with fail
    refine (l1Some_any R p2 _ hr2 (by omega)).mono ?_
    rintro e w3 ⟨x3, rfl, hx3, p3, hp3, hr3, hgx⟩
    have hg3 := grown_trans hg2 hgx
    have HX3 : Hid (isA x3 = true) := hx3
    clear hx3 hgx hg2 hr2
    go_wp2_with fail
    refine (l1Wrong_any R p3 x3 HX3.out _ hr3 (by omega)).mono ?_
    rintro e w4 ⟨x4, rfl, ⟨hxl4, hxu4⟩, p4, hp4, hr4, hgx⟩
    have hg4 := grown_trans hg3 hgx
    clear hgx hg3 hr3
    go_wp2
    go_ret
    exact ⟨x4, rfl, hxl4, hxu4, draw_below hbel hR hg4⟩

set_option maxHeartbeats 1000000 in
theorem drawValid_any (a : Option Addr) (len cap : Nat) (zs : List Int) (w : World) (hrow : IsRow w a len cap zs) : Calls Try.prog 40 #[.slice a len cap] w (DStr 60000 w) := by
  go_enter Try.func40, Try.ntmps40
  go_wp2_with fail
  refine (l19Open_any _ _ _ _ _ hrow).mono ?_
  rintro e w1 ⟨R, rfl, hr0, hR, hbel⟩
  obtain ⟨p1, hp1, hr1⟩ : ∃ p1, p1 ≤ 0 ∧ RdOk R p1 w1 := ⟨0, Nat.le_refl _, hr0⟩
  have hg1 : w1.grownBy w1 (some R) := grown_refl _ _
  clear hr0
  go_wp2_with fail
  refine (l1Some_any R p1 _ hr1 (by omega)).mono ?_
  rintro e w2 ⟨x2, rfl, hx2, p2, hp2, hr2, hgx⟩
  have hg2 := grown_trans hg1 hgx
  have HX2 : Hid (isA x2 = true) := hx2
  clear hx2 hgx hg1 hr1
  go_wp2_with fail
  refine (l1Word_any R p2 x2 8 8 rfl HX2.out (by omega) _ hr2 (by omega)).mono ?_
  rintro e w3 ⟨s3, rfl, hs3, p3, hp3, hr3, hgx⟩
  have hg3 := grown_trans hg2 hgx
  clear hgx hg2 hr2
  go_wp2_with fail
  refine (l1Bad_any R p3 8 s3 (by omega) (by omega) _ hr3 (by omega)).mono ?_
  rintro e w4 ⟨s4, rfl, hs4, p4, hp4, hr4, hgx⟩
  have hg4 := grown_trans hg3 hgx
  clear hgx hg3 hr3
  go_wp2
  go_ret
  exact ⟨s4, rfl, by omega, draw_below hbel hR hg4⟩

theorem drawAlph_any (a : Option Addr) (len cap : Nat) (zs : List Int) (w : World) (hrow : IsRow w a len cap zs) : Calls Try.prog 27 #[.slice a len cap] w (DStr 60000 w) := by
  go_enter Try.func27, Try.ntmps27
  go_wp2_with fail
  refine (drawValid_any _ _ _ _ _ hrow).mono ?_
  rintro e w' ⟨s, rfl, hs, hb⟩
  go_wp2
  go_ret
  exact ⟨s, rfl, hs, hb⟩

set_option maxHeartbeats 1000000 in
theorem drawRestrict_any (a : Option Addr) (len cap : Nat) (zs : List Int) (w : World) (hrow : IsRow w a len cap zs) : Calls Try.prog 36 #[.slice a len cap] w (DStrInt 60000 w) := by
  go_enter Try.func36, Try.ntmps36
  go_wp2_with fail
  refine (l19Open_any _ _ _ _ _ hrow).mono ?_
  rintro e w1 ⟨R, rfl, hr0, hR, hbel⟩
  obtain ⟨p1, hp1, hr1⟩ : ∃ p1, p1 ≤ 0 ∧ RdOk R p1 w1 := ⟨0, Nat.le_refl _, hr0⟩
  have hg1 : w1.grownBy w1 (some R) := grown_refl _ _
  clear hr0
  go_wp2_with fail
  refine (l1Some_any R p1 _ hr1 (by omega)).mono ?_
  rintro e w2 ⟨x2, rfl, hx2, p2, hp2, hr2, hgx⟩
  have hg2 := grown_trans hg1 hgx
  have HX2 : Hid (isA x2 = true) := hx2
  clear hx2 hgx hg1 hr1
  go_wp2_with fail
  refine (l1Word_any R p2 x2 10 10 rfl HX2.out (by omega) _ hr2 (by omega)).mono ?_
  rintro e w3 ⟨s3, rfl, hs3, p3, hp3, hr3, hgx⟩
  have hg3 := grown_trans hg2 hgx
  clear hgx hg2 hr2
  go_wp2_with fail
  refine (l1Bad_any R p3 10 s3 (by omega) (by omega) _ hr3 (by omega)).mono ?_
  rintro e w4 ⟨s4, rfl, hs4, p4, hp4, hr4, hgx⟩
  have hg4 := grown_trans hg3 hgx
  clear hgx hg3 hr3
  go_wp2_with fail
  refine (l1Some_any R p4 _ hr4 (by omega)).mono ?_
  rintro e w5 ⟨x5, rfl, hx5, p5, hp5, hr5, hgx⟩
  have hg5 := grown_trans hg4 hgx
  have HX5 : Hid (isA x5 = true) := hx5
  clear hx5 hgx hg4 hr4
  go_wp2_with fail
  refine (l1Wrong_any R p5 x5 HX5.out _ hr5 (by omega)).mono ?_
  rintro e w6 ⟨x6, rfl, ⟨hxl6, hxu6⟩, p6, hp6, hr6, hgx⟩
  have hg6 := grown_trans hg5 hgx
  clear hgx hg5 hr5
  go_wp2
  go_ret2
  exact ⟨s4, x6, rfl, by omega, hxl6, hxu6, draw_below hbel hR hg6⟩

set_option maxHeartbeats 1000000 in
theorem drawWithin_any (a : Option Addr) (len cap : Nat) (zs : List Int) (w : World) (hrow : IsRow w a len cap zs) : Calls Try.prog 75 #[.slice a len cap] w (DStrInt 60000 w) := by
  go_enter Try.func75, Try.ntmps75
  go_wp2_with fail
  refine (l19Open_any _ _ _ _ _ hrow).mono ?_
  rintro e w1 ⟨R, rfl, hr0, hR, hbel⟩
  obtain ⟨p1, hp1, hr1⟩ : ∃ p1, p1 ≤ 0 ∧ RdOk R p1 w1 := ⟨0, Nat.le_refl _, hr0⟩
  have hg1 : w1.grownBy w1 (some R) := grown_refl _ _
  clear hr0
  go_wp2_with fail
  refine (l1Some_any R p1 _ hr1 (by omega)).mono ?_
  rintro e w2 ⟨x2, rfl, hx2, p2, hp2, hr2, hgx⟩
  have hg2 := grown_trans hg1 hgx
  have HX2 : Hid (isA x2 = true) := hx2
  clear hx2 hgx hg1 hr1
  go_wp2_with fail
  refine (l1Word_any R p2 x2 8 8 rfl HX2.out (by omega) _ hr2 (by omega)).mono ?_
  rintro e w3 ⟨s3, rfl, hs3, p3, hp3, hr3, hgx⟩
  have hg3 := grown_trans hg2 hgx
  clear hgx hg2 hr2
  go_wp2_with fail
  refine (pick_any R p3 3 _ hr3 (by omega)).mono ?_
  rintro e w4 ⟨k4, rfl, hk, -, hr, hgx⟩
  obtain ⟨hk40, hk41⟩ := hk (by omega)
  have hg4 := grown_trans hg3 hgx
  obtain ⟨p4, hp4, hr4⟩ : ∃ p', p' ≤ p3 + 1 ∧ RdOk R p' w4 := ⟨p3 + 1, Nat.le_refl _, hr⟩
  clear hk hr hgx hg3 hr3
  by_cases hk : k4 = 0
  · subst hk
    go_wp2_with fail
    refine (l1Some_any R p4 _ hr4 (by omega)).mono ?_
    rintro e w5 ⟨x5, rfl, hx5, p5, hp5, hr5, hgx⟩
    have hg5 := grown_trans hg4 hgx
    have HX5 : Hid (isA x5 = true) := hx5
    clear hx5 hgx hg4 hr4
    go_wp2_with fail
    refine (l1Bad_any R p5 8 s3 (by omega) (by omega) _ hr5 (by omega)).mono ?_
    rintro e w6 ⟨s6, rfl, hs6, p6, hp6, hr6, hgx⟩
    have hg6 := grown_trans hg5 hgx
    clear hgx hg5 hr5
    go_wp2_with fail
    refine (l1Wrong_any R p6 x5 HX5.out _ hr6 (by omega)).mono ?_
    rintro e w7 ⟨x7, rfl, ⟨hxl7, hxu7⟩, p7, hp7, hr7, hgx⟩
    have hg7 := grown_trans hg6 hgx
    clear hgx hg6 hr6
    go_wp2
    go_ret2
    exact ⟨s6, x7, rfl, by omega, hxl7, hxu7, draw_below hbel hR hg7⟩
  · have hkb : (k4 == 0) = false := by simpa using hk
    clear hk
    go_wp2_with fail
    refine (l1Bad_any R p4 8 s3 (by omega) (by omega) _ hr4 (by omega)).mono ?_
    rintro e w6 ⟨s6, rfl, hs6, p6, hp6, hr6, hgx⟩
    have hg6 := grown_trans hg4 hgx
    clear hgx hg4 hr4
    go_wp2_with fail
    refine (l1Wrong_any R p6 x2 HX2.out _ hr6 (by omega)).mono ?_
    rintro e w7 ⟨x7, rfl, ⟨hxl7, hxu7⟩, p7, hp7, hr7, hgx⟩
    have hg7 := grown_trans hg6 hgx
    clear hgx hg6 hr6
    go_wp2
    go_ret2
    exact ⟨s6, x7, rfl, by omega, hxl7, hxu7, draw_below hbel hR hg7⟩
theorem drawNext_any (a : Option Addr) (len cap : Nat) (zs : List Int) (w : World) (hrow : IsRow w a len cap zs) : Calls Try.prog 49 #[.slice a len cap] w (DStrInt 60000 w) := by
  go_enter Try.func49, Try.ntmps49
  go_wp2_with fail
  refine (drawWithin_any _ _ _ _ _ hrow).mono ?_
  rintro e w' ⟨s, n, rfl, hs, hn1, hn2, hb⟩
  go_wp2
  go_ret2
  exact ⟨s, n, rfl, hs, hn1, hn2, hb⟩
theorem drawNumber_any (a : Option Addr) (len cap : Nat) (zs : List Int) (w : World) (hrow : IsRow w a len cap zs) : Calls Try.prog 44 #[.slice a len cap] w (DStrInt 60000 w) := by
  go_enter Try.func44, Try.ntmps44
  go_wp2_with fail
  refine (drawWithin_any _ _ _ _ _ hrow).mono ?_
  rintro e w' ⟨s, n, rfl, hs, hn1, hn2, hb⟩
  go_wp2
  go_ret2
  exact ⟨s, n, rfl, hs, hn1, hn2, hb⟩

set_option maxHeartbeats 1000000 in
theorem drawBefore_any (a : Option Addr) (len cap : Nat) (zs : List Int) (w : World) (hrow : IsRow w a len cap zs) : Calls Try.prog 41 #[.slice a len cap] w (DStrStr 60000 w) := by
  go_enter Try.func41, Try.ntmps41
  go_wp2_with fail
  refine (l19Open_any _ _ _ _ _ hrow).mono ?_
  rintro e w1 ⟨R, rfl, hr0, hR, hbel⟩
  obtain ⟨p1, hp1, hr1⟩ : ∃ p1, p1 ≤ 0 ∧ RdOk R p1 w1 := ⟨0, Nat.le_refl _, hr0⟩
  have hg1 : w1.grownBy w1 (some R) := grown_refl _ _
  clear hr0
  go_wp2_with fail
  refine (l1Some_any R p1 _ hr1 (by omega)).mono ?_
  rintro e w2 ⟨x2, rfl, hx2, p2, hp2, hr2, hgx⟩
  have hg2 := grown_trans hg1 hgx
  have HX2 : Hid (isA x2 = true) := hx2
  clear hx2 hgx hg1 hr1
  go_wp2_with fail
  refine (l1Word_any R p2 x2 5 5 rfl HX2.out (by omega) _ hr2 (by omega)).mono ?_
  rintro e w3 ⟨s3, rfl, hs3, p3, hp3, hr3, hgx⟩
  have hg3 := grown_trans hg2 hgx
  clear hgx hg2 hr2
  go_wp2_with fail
  refine (l1Some_any R p3 _ hr3 (by omega)).mono ?_
  rintro e w4 ⟨x4, rfl, hx4, p4, hp4, hr4, hgx⟩
  have hg4 := grown_trans hg3 hgx
  have HX4 : Hid (isA x4 = true) := hx4
  clear hx4 hgx hg3 hr3
  go_wp2_with fail
  refine (l1Word_any R p4 x4 5 5 rfl HX4.out (by omega) _ hr4 (by omega)).mono ?_
  rintro e w5 ⟨s5, rfl, hs5, p5, hp5, hr5, hgx⟩
  have hg5 := grown_trans hg4 hgx
  clear hgx hg4 hr4
  go_wp2_with fail
  refine (pick_any R p5 4 _ hr5 (by omega)).mono ?_
  rintro e w6 ⟨k6, rfl, hk, -, hr, hgx⟩
  obtain ⟨hk60, hk61⟩ := hk (by omega)
  have hg6 := grown_trans hg5 hgx
  obtain ⟨p6, hp6, hr6⟩ : ∃ p', p' ≤ p5 + 1 ∧ RdOk R p' w6 := ⟨p5 + 1, Nat.le_refl _, hr⟩
  clear hk hr hgx hg5 hr5
  have hcase : k6 = 0 ∨ k6 = 1 ∨ 2 ≤ k6 := by omega
  rcases hcase with rfl | rfl | hk
  · go_wp2_with fail
    refine (l1Bad_any R p6 5 s3 (by omega) (by omega) _ hr6 (by omega)).mono ?_
    rintro e w7 ⟨s7, rfl, hs7, p7, hp7, hr7, hgx⟩
    have hg7 := grown_trans hg6 hgx
    clear hgx hg6 hr6
    go_wp2_with fail
    refine (l1Bad_any R p7 5 s3 (by omega) (by omega) _ hr7 (by omega)).mono ?_
    rintro e w8 ⟨s8, rfl, hs8, p8, hp8, hr8, hgx⟩
    go_wp2
    go_ret2
    exact ⟨s7, s8, rfl, by omega, by omega, draw_below hbel hR (grown_trans hg7 hgx)⟩
  · have hsum : (s3.size : Int) + (s5.size : Int) ≤ 9223372036854775807 := by omega
    have hap := append_size s3 s5
    have HAP := Lib.hid hap
    clear hap
    go_wp2_with fail
    refine (l1Bad_any R p6 5 s3 (by omega) (by omega) _ hr6 (by omega)).mono ?_
    rintro e w7 ⟨s7, rfl, hs7, p7, hp7, hr7, hgx⟩
    have hg7 := grown_trans hg6 hgx
    clear hgx hg6 hr6
    go_wp2_with fail
    refine (l1Bad_any R p7 10 (s3 ++ s5) (by rw [HAP.out]; omega) (by omega) _ hr7 (by omega)).mono ?_
    rintro e w8 ⟨s8, rfl, hs8, p8, hp8, hr8, hgx⟩
    go_wp2
    go_ret2
    exact ⟨s7, s8, rfl, by omega, by omega, draw_below hbel hR (grown_trans hg7 hgx)⟩
  · have hk0 : (k6 == 0) = false := by simp; omega
    have hk1 : (k6 == 1) = false := by simp; omega
    go_wp2_with fail
    refine (l1Bad_any R p6 5 s3 (by omega) (by omega) _ hr6 (by omega)).mono ?_
    rintro e w7 ⟨s7, rfl, hs7, p7, hp7, hr7, hgx⟩
    have hg7 := grown_trans hg6 hgx
    clear hgx hg6 hr6
    go_wp2_with fail
    refine (l1Bad_any R p7 5 s5 (by omega) (by omega) _ hr7 (by omega)).mono ?_
    rintro e w8 ⟨s8, rfl, hs8, p8, hp8, hr8, hgx⟩
    have hg8 := grown_trans hg7 hgx
    clear hgx hg7 hr7
    go_wp2
    go_ret2
    exact ⟨s7, s8, rfl, by omega, by omega, draw_below hbel hR hg8⟩

set_option maxHeartbeats 1000000 in
theorem drawAt_any (a : Option Addr) (len cap : Nat) (zs : List Int) (w : World) (hrow : IsRow w a len cap zs) : Calls Try.prog 32 #[.slice a len cap] w (DIntInt w) := by
  go_enter Try.func32, Try.ntmps32
  go_wp2_with fail
  refine (l19Open_any _ _ _ _ _ hrow).mono ?_
  rintro e w1 ⟨R, rfl, hr0, hR, hbel⟩
  obtain ⟨p1, hp1, hr1⟩ : ∃ p1, p1 ≤ 0 ∧ RdOk R p1 w1 := ⟨0, Nat.le_refl _, hr0⟩
  have hg1 : w1.grownBy w1 (some R) := grown_refl _ _
  clear hr0
  go_wp2_with fail
  refine (l1Some_any R p1 _ hr1 (by omega)).mono ?_
  rintro e w2 ⟨x2, rfl, hx2, p2, hp2, hr2, hgx⟩
  have hg2 := grown_trans hg1 hgx
  have HX2 : Hid (isA x2 = true) := hx2
  clear hx2 hgx hg1 hr1
  go_wp2_with fail
  refine (l1Wrong_any R p2 x2 HX2.out _ hr2 (by omega)).mono ?_
  rintro e w3 ⟨x3, rfl, ⟨hxl3, hxu3⟩, p3, hp3, hr3, hgx⟩
  have hg3 := grown_trans hg2 hgx
  clear hgx hg2 hr2
  go_wp2_with fail
  refine (num_lit R p3 [0, 1, 2, 3, 7, 8, 40, 254, 255, 3279, 3280, 335922, 335923, -1, 9223372036854775807] _ _ w3 rfl hr3 (by omega) 15 rfl (by omega) (by omega)).mono ?_
  rintro e w4 ⟨j, x4, hj, hx, rfl, p4, hp4, hr4, hgx⟩
  obtain ⟨hb0, hb1⟩ := getD_bd _ (fun x => -1 ≤ x ∧ x ≤ 9223372036854775807) (by decide) hj hx
  have hg4 := grown_trans hg3 hgx
  clear hgx hg3 hr3 hj hx
  go_wp2_with fail
  refine (pick_any R p4 2 _ hr4 (by omega)).mono ?_
  rintro e w5 ⟨k5, rfl, hk, -, hr, hgx⟩
  obtain ⟨hk50, hk51⟩ := hk (by omega)
  have hg5 := grown_trans hg4 hgx
  obtain ⟨p5, hp5, hr5⟩ : ∃ p', p' ≤ p4 + 1 ∧ RdOk R p' w5 := ⟨p4 + 1, Nat.le_refl _, hr⟩
  clear hk hr hgx hg4 hr4
  by_cases hk : k5 = 0
  · subst hk
    go_wp2_with fail
    refine (pick_any R p5 250 _ hr5 (by omega)).mono ?_
    rintro e w6 ⟨k6, rfl, hk, -, hr, hgx⟩
    obtain ⟨hk60, hk61⟩ := hk (by omega)
    have hg6 := grown_trans hg5 hgx
    obtain ⟨p6, hp6, hr6⟩ : ∃ p', p' ≤ p5 + 1 ∧ RdOk R p' w6 := ⟨p5 + 1, Nat.le_refl _, hr⟩
    clear hk hr hgx hg5 hr5
    go_wp2
    go_ret2
    exact ⟨k6, x3, rfl, by omega, by omega, hxl3, hxu3, draw_below hbel hR hg6⟩
  · have hkb : (k5 == 0) = false := by simpa using hk
    clear hk
    go_wp2
    go_ret2
    exact ⟨x4, x3, rfl, hb0, hb1, hxl3, hxu3, draw_below hbel hR hg5⟩

end Go.Proofs.Ytkgbdglfpnmlgaa
