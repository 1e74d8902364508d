/- The draw of a text for ParseSystem: it ends with a short text. -/
import Derived.Test.YtnjakhojdhkihaaGreatDoorSDraw1

namespace Go.Proofs.YtnjakhojdhkihaaGreatDoor
open Go.RowKit
set_option linter.unusedVariables false
set_option linter.unusedSimpArgs false
set_option maxRecDepth 100000

theorem draw_belP {w w1 w2 : World} {R : Nat} (hb : Below w.heap.size w w1) (hR : w.heap.size ≤ R) (hg : w1.grownBy w2 (some R)) : Below w.heap.size w w2 :=
  ⟨hg.os.trans hb.os, hg.tape.trans hb.tape, hg.output.trans hb.output, Nat.le_trans hb.size hg.size, fun k hk => (hg.block k (by have := hb.size; omega) (fun e => by injection e with e; omega)).trans (hb.block k hk)⟩
def odds : List ByteArray := [⟨#[]⟩, ⟨#[32]⟩, ⟨#[97]⟩, ⟨#[48]⟩, ⟨#[49]⟩, ⟨#[98]⟩, ⟨#[45]⟩, ⟨#[48, 48]⟩]
set_option maxHeartbeats 4000000 in
theorem drawParse_any (a : Option Addr) (len cap : Nat) (zs : List Int) (w : World) (hrow : IsRow w a len cap zs) : Calls Tryz.prog 16 #[.slice a len cap] w (FmtRes 100000 w) := by
  go_enter Tryz.func16, Tryz.ntmps16
  go_wp2_with fail
  refine (l19Open_any _ _ _ _ w hrow).mono ?_
  rintro e w1 ⟨R, rfl, hr1, hR, hb1⟩
  have HB1 := Lib.hid hb1
  clear hb1 hrow
  go_wp2_with fail
  refine (l2Draw_ok R 0 w1 hr1 (by omega)).mono ?_
  rintro e w2 ⟨al, st, ad, n, c, es, rfl, hes, hev, ⟨p2, hp2, hr2, hg2⟩, hv⟩
  have HEV := Lib.hid (hev w.heap.size (by have := hr1.lt; omega)).ev
  have hst := sysV_facts hv
  have hok := sysV_ok hv
  have hfm : fmtS al st es = sysT al st es := by unfold fmtS; rw [if_pos hv]
  have hfl := sysT_len (st := st) al (by omega) hok
  have hfn := sysT_ne al st es
  obtain ⟨q, hq⟩ : ∃ q, sysT al st es = q := ⟨_, rfl⟩
  rw [hq] at hfm hfl hfn
  have HFM := Lib.hid hfm; clear hfm
  have HG2 := Lib.hid hg2
  clear hev hg2 hv hst hok hq hr1
  go_wp2_with fail
  refine (specFormat_tx al st ad n c es w2 HEV.out (by omega)).mono ?_
  rintro e w3 ⟨s, rfl, hsd, hb3⟩
  rw [HFM.out] at hsd
  have hsz := size_of hsd
  have hpos : 1 ≤ s.size := by
    cases q with
    | nil => exact absurd rfl hfn
    | cons x y => simp at hsz; omega
  have hss : s.size ≤ 10000 := by omega
  have hr3 := hr2.below hb3
  have HG3 := Lib.hid (grown_trans HG2.out (grown_below (some R) hb3))
  clear hb3 hr2 hsd hsz hfn hfl
  go_wp2_with fail
  refine (pick_any R p2 2 w3 hr3 (by omega)).mono ?_
  rintro e w4 ⟨k, rfl, -, -, hr4, hg4⟩
  have HG4 := Lib.hid (grown_trans HG3.out hg4)
  clear hr3 hg4
  by_cases hk : k = 0
  · subst hk
    go_wp2
    go_ret
    exact ⟨s, rfl, by omega, draw_belP HB1.out hR HG4.out⟩
  · have hkb : (k == 0) = false := by simpa using hk
    clear hk
    go_wp2_with fail
    refine (pick_any R (p2 + 1) s.size w4 hr4 (by omega)).mono ?_
    rintro e w5 ⟨j, rfl, hj, -, hr5, hg5⟩
    obtain ⟨hj0, hj1⟩ := hj (by omega)
    obtain ⟨j, rfl⟩ := Int.eq_ofNat_of_zero_le hj0
    have hjs : j < s.size := by omega
    have hjs2 : j ≤ s.size := by omega
    have HG5 := Lib.hid (grown_trans HG4.out hg5)
    have HR5 := Lib.hid hr5
    clear hr4 hg5 hr5 hj
    go_wp2_with fail
    refine wp_region_held_drew (S := fun _ => True) (by kernel_rfl) trivial (fun hHeld => ?_)
    first | (refine wpAnyH_take (i := 0) (get_of_drop' rfl) (by kernel_rfl) (by kernel_rfl) (by kernel_rfl) (fun _ _ _ h => h) (Or.inr ⟨?_, rfl⟩) hHeld ?_; (focus (simp [Region.wanted, yielded, undef]; done)); (try simp only [Act.put, List.setIfInBounds_toArray, List.set_cons_zero, List.set_cons_succ])) | (refine wpAnyH_take (i := 0) (v := ?_) (get_of_drop' rfl) (by kernel_rfl) (by kernel_rfl) (by kernel_rfl) (fun _ _ _ h => h) (Or.inl ⟨?_, ?_⟩) hHeld ?_; rotate_left; (focus rfl); (focus (intro w hSw; (try dsimp only at hSw); go_simp; (try (with_reducible rfl)))); (try simp only [Act.put, List.setIfInBounds_toArray, List.set_cons_zero, List.set_cons_succ]))
    first | (refine wpAnyH_take (i := 1) (get_of_drop' rfl) (by kernel_rfl) (by kernel_rfl) (by kernel_rfl) (fun _ _ _ h => h) (Or.inr ⟨?_, rfl⟩) hHeld ?_; (focus (simp [Region.wanted, yielded, undef]; done)); (try simp only [Act.put, List.setIfInBounds_toArray, List.set_cons_zero, List.set_cons_succ])) | (refine wpAnyH_take (i := 1) (v := ?_) (get_of_drop' rfl) (by kernel_rfl) (by kernel_rfl) (by kernel_rfl) (fun _ _ _ h => h) (Or.inl ⟨?_, ?_⟩) hHeld ?_; rotate_left; (focus rfl); (focus (intro w hSw; (try dsimp only at hSw); go_simp; (try (with_reducible rfl)))); (try simp only [Act.put, List.setIfInBounds_toArray, List.set_cons_zero, List.set_cons_succ]))
    first | (refine wpAnyH_take (i := 2) (get_of_drop' rfl) (by kernel_rfl) (by kernel_rfl) (by kernel_rfl) (fun _ _ _ h => h) (Or.inr ⟨?_, rfl⟩) hHeld ?_; (focus (simp [Region.wanted, yielded, undef]; done)); (try simp only [Act.put, List.setIfInBounds_toArray, List.set_cons_zero, List.set_cons_succ])) | (refine wpAnyH_take (i := 2) (v := ?_) (get_of_drop' rfl) (by kernel_rfl) (by kernel_rfl) (by kernel_rfl) (fun _ _ _ h => h) (Or.inl ⟨?_, ?_⟩) hHeld ?_; rotate_left; (focus rfl); (focus (intro w hSw; (try dsimp only at hSw); go_simp; (try (with_reducible rfl)))); (try simp only [Act.put, List.setIfInBounds_toArray, List.set_cons_zero, List.set_cons_succ]))
    obtain ⟨s1, hs1⟩ : ∃ s1, s.extract 0 j = s1 := ⟨_, rfl⟩
    have hs1z : s1.size ≤ 10000 := by rw [← hs1]; simp; omega
    rw [hs1]
    clear hs1
    first | (refine wpAnyH_take (i := 3) (get_of_drop' rfl) (by kernel_rfl) (by kernel_rfl) (by kernel_rfl) (fun _ _ _ h => h) (Or.inr ⟨?_, rfl⟩) hHeld ?_; (focus (simp [Region.wanted, yielded, undef]; done)); (try simp only [Act.put, List.setIfInBounds_toArray, List.set_cons_zero, List.set_cons_succ])) | (refine wpAnyH_take (i := 3) (v := ?_) (get_of_drop' rfl) (by kernel_rfl) (by kernel_rfl) (by kernel_rfl) (fun _ _ _ h => h) (Or.inl ⟨?_, ?_⟩) hHeld ?_; rotate_left; (focus rfl); (focus (intro w hSw; (try dsimp only at hSw); go_simp; (try (with_reducible rfl)))); (try simp only [Act.put, List.setIfInBounds_toArray, List.set_cons_zero, List.set_cons_succ]))
    first | (refine wpAnyH_take (i := 7) (get_of_drop' rfl) (by kernel_rfl) (by kernel_rfl) (by kernel_rfl) (fun _ _ _ h => h) (Or.inr ⟨?_, rfl⟩) hHeld ?_; (focus (simp [Region.wanted, yielded, undef]; done)); (try simp only [Act.put, List.setIfInBounds_toArray, List.set_cons_zero, List.set_cons_succ])) | (refine wpAnyH_take (i := 7) (v := ?_) (get_of_drop' rfl) (by kernel_rfl) (by kernel_rfl) (by kernel_rfl) (fun _ _ _ h => h) (Or.inl ⟨?_, ?_⟩) hHeld ?_; rotate_left; (focus rfl); (focus (intro w hSw; (try dsimp only at hSw); go_simp; (try (with_reducible rfl)))); (try simp only [Act.put, List.setIfInBounds_toArray, List.set_cons_zero, List.set_cons_succ]))
    first | (refine wpAnyH_take (i := 8) (get_of_drop' rfl) (by kernel_rfl) (by kernel_rfl) (by kernel_rfl) (fun _ _ _ h => h) (Or.inr ⟨?_, rfl⟩) hHeld ?_; (focus (simp [Region.wanted, yielded, undef]; done)); (try simp only [Act.put, List.setIfInBounds_toArray, List.set_cons_zero, List.set_cons_succ])) | (refine wpAnyH_take (i := 8) (v := ?_) (get_of_drop' rfl) (by kernel_rfl) (by kernel_rfl) (by kernel_rfl) (fun _ _ _ h => h) (Or.inl ⟨?_, ?_⟩) hHeld ?_; rotate_left; (focus rfl); (focus (intro w hSw; (try dsimp only at hSw); go_simp; (try (with_reducible rfl)))); (try simp only [Act.put, List.setIfInBounds_toArray, List.set_cons_zero, List.set_cons_succ]))
    first | (refine wpAnyH_take (i := 9) (get_of_drop' rfl) (by kernel_rfl) (by kernel_rfl) (by kernel_rfl) (fun _ _ _ h => h) (Or.inr ⟨?_, rfl⟩) hHeld ?_; (focus (simp [Region.wanted, yielded, undef]; done)); (try simp only [Act.put, List.setIfInBounds_toArray, List.set_cons_zero, List.set_cons_succ])) | (refine wpAnyH_take (i := 9) (v := ?_) (get_of_drop' rfl) (by kernel_rfl) (by kernel_rfl) (by kernel_rfl) (fun _ _ _ h => h) (Or.inl ⟨?_, ?_⟩) hHeld ?_; rotate_left; (focus rfl); (focus (intro w hSw; (try dsimp only at hSw); go_simp; (try (with_reducible rfl)))); (try simp only [Act.put, List.setIfInBounds_toArray, List.set_cons_zero, List.set_cons_succ]))
    refine wpAnyH_ready (rs := [4]) (by kernel_rfl) (by simp) ?_
    refine AllReadyH.cons (get_of_drop' rfl) (fun K hK => ?_) AllReadyH.nil
    go_simp
    refine hK.out _ _ trivial (fun hHeld => ?_)
    clear hK K
    try simp only [Act.put, List.setIfInBounds_toArray, List.set_cons_zero, List.set_cons_succ]
    refine wpAnyH_ready (rs := [5]) (by kernel_rfl) (by simp) ?_
    refine AllReadyH.cons (get_of_drop' rfl) (fun K hK => ?_) AllReadyH.nil
    go_simp
    go_at_call 47
    refine (of_lit R (p2 + 1 + 1) odds _ _ w5.drew rfl HR5.out (by omega) 8 rfl (by omega) (by omega)).mono ?_
    rintro e w6 ⟨i, x, hi, hx, rfl, p6, hp6, hr6, hg6⟩
    have hxs := getD_sz odds 2 (by decide) hi hx
    have HG6 := Lib.hid (grown_trans HG5.out (grown_trans (grown_below (some R) (Below.refl _ _).drew) hg6))
    clear hi hx hg6
    have hq1 : ¬ (9223372036854775807 < s1.size + x.size) := by omega
    go_wp2_with fail
    refine hK.out _ _ trivial (fun hHeld => ?_)
    clear hK K
    try simp only [Act.put, List.setIfInBounds_toArray, List.set_cons_zero, List.set_cons_succ]
    first | (refine wpAnyH_take (i := 6) (get_of_drop' rfl) (by kernel_rfl) (by kernel_rfl) (by kernel_rfl) (fun _ _ _ h => h) (Or.inr ⟨?_, rfl⟩) hHeld ?_; (focus (simp [Region.wanted, yielded, undef]; done)); (try simp only [Act.put, List.setIfInBounds_toArray, List.set_cons_zero, List.set_cons_succ])) | (refine wpAnyH_take (i := 6) (v := ?_) (get_of_drop' rfl) (by kernel_rfl) (by kernel_rfl) (by kernel_rfl) (fun _ _ _ h => h) (Or.inl ⟨?_, ?_⟩) hHeld ?_; rotate_left; (focus rfl); (focus (intro w hSw; (try dsimp only at hSw); go_simp; (try (with_reducible rfl)))); (try simp only [Act.put, List.setIfInBounds_toArray, List.set_cons_zero, List.set_cons_succ]))
    refine wpAnyH_ready (rs := [10]) (by kernel_rfl) (by simp) ?_
    refine AllReadyH.cons (get_of_drop' rfl) (fun K hK => ?_) AllReadyH.nil
    go_simp
    go_at_call 46
    refine (pick_any R p6 2 w6 hr6 (by omega)).mono ?_
    rintro e w7 ⟨m, rfl, hm, -, hr7, hg7⟩
    obtain ⟨hm0, hm1⟩ := hm (by omega)
    obtain ⟨m, rfl⟩ := Int.eq_ofNat_of_zero_le hm0
    have HG7 := Lib.hid (grown_trans HG6.out hg7)
    clear hm hr6 hr7 hg7
    obtain ⟨jm, hjm⟩ : ∃ jm, j + m = jm := ⟨_, rfl⟩
    have hw : IntKind.i64.wrap ((j : Int) + (m : Int)) = (jm : Int) := by
      rw [← hjm, IntKind.wrap_i64]
      omega
    have hjm1 : jm ≤ s.size := by omega
    have hjm2 : (jm : Int) ≤ (s.size : Int) := by omega
    go_wp2_with fail
    refine hK.out _ _ trivial (fun hHeld => ?_)
    clear hK K
    try simp only [Act.put, List.setIfInBounds_toArray, List.set_cons_zero, List.set_cons_succ]
    first | (refine wpAnyH_take (i := 11) (get_of_drop' rfl) (by kernel_rfl) (by kernel_rfl) (by kernel_rfl) (fun _ _ _ h => h) (Or.inr ⟨?_, rfl⟩) hHeld ?_; (focus (simp [Region.wanted, yielded, undef]; done)); (try simp only [Act.put, List.setIfInBounds_toArray, List.set_cons_zero, List.set_cons_succ])) | (refine wpAnyH_take (i := 11) (v := ?_) (get_of_drop' rfl) (by kernel_rfl) (by kernel_rfl) (by kernel_rfl) (fun _ _ _ h => h) (Or.inl ⟨?_, ?_⟩) hHeld ?_; rotate_left; (focus rfl); (focus (intro w hSw; (try dsimp only at hSw); go_simp; (try (with_reducible rfl)))); (try simp only [Act.put, List.setIfInBounds_toArray, List.set_cons_zero, List.set_cons_succ]))
    first | (refine wpAnyH_take (i := 12) (get_of_drop' rfl) (by kernel_rfl) (by kernel_rfl) (by kernel_rfl) (fun _ _ _ h => h) (Or.inr ⟨?_, rfl⟩) hHeld ?_; (focus (simp [Region.wanted, yielded, undef]; done)); (try simp only [Act.put, List.setIfInBounds_toArray, List.set_cons_zero, List.set_cons_succ])) | (refine wpAnyH_take (i := 12) (v := ?_) (get_of_drop' rfl) (by kernel_rfl) (by kernel_rfl) (by kernel_rfl) (fun _ _ _ h => h) (Or.inl ⟨?_, ?_⟩) hHeld ?_; rotate_left; (focus rfl); (focus (intro w hSw; (try dsimp only at hSw); go_simp; (try (with_reducible rfl)))); (try simp only [Act.put, List.setIfInBounds_toArray, List.set_cons_zero, List.set_cons_succ]))
    obtain ⟨s2, hs2⟩ : ∃ s2, s.extract jm s.size = s2 := ⟨_, rfl⟩
    have hs2z : s2.size ≤ 10000 := by rw [← hs2]; simp; omega
    rw [hs2]
    clear hs2
    obtain ⟨u, hu⟩ : ∃ u, s1 ++ x = u := ⟨_, rfl⟩
    have huz : u.size ≤ 10002 := by rw [← hu, append_size]; omega
    rw [hu]
    clear hu
    have hq2 : ¬ (9223372036854775807 < u.size + s2.size) := by omega
    first | (refine wpAnyH_take (i := 13) (get_of_drop' rfl) (by kernel_rfl) (by kernel_rfl) (by kernel_rfl) (fun _ _ _ h => h) (Or.inr ⟨?_, rfl⟩) hHeld ?_; (focus (simp [Region.wanted, yielded, undef]; done)); (try simp only [Act.put, List.setIfInBounds_toArray, List.set_cons_zero, List.set_cons_succ])) | (refine wpAnyH_take (i := 13) (v := ?_) (get_of_drop' rfl) (by kernel_rfl) (by kernel_rfl) (by kernel_rfl) (fun _ _ _ h => h) (Or.inl ⟨?_, ?_⟩) hHeld ?_; rotate_left; (focus rfl); (focus (intro w hSw; (try dsimp only at hSw); go_simp; (try (with_reducible rfl)))); (try simp only [Act.put, List.setIfInBounds_toArray, List.set_cons_zero, List.set_cons_succ]))
    first | (refine wpAnyH_take (i := 14) (get_of_drop' rfl) (by kernel_rfl) (by kernel_rfl) (by kernel_rfl) (fun _ _ _ h => h) (Or.inr ⟨?_, rfl⟩) hHeld ?_; (focus (simp [Region.wanted, yielded, undef]; done)); (try simp only [Act.put, List.setIfInBounds_toArray, List.set_cons_zero, List.set_cons_succ])) | (refine wpAnyH_take (i := 14) (v := ?_) (get_of_drop' rfl) (by kernel_rfl) (by kernel_rfl) (by kernel_rfl) (fun _ _ _ h => h) (Or.inl ⟨?_, ?_⟩) hHeld ?_; rotate_left; (focus rfl); (focus (intro w hSw; (try dsimp only at hSw); go_simp; (try (with_reducible rfl)))); (try simp only [Act.put, List.setIfInBounds_toArray, List.set_cons_zero, List.set_cons_succ]))
    refine wpAnyH_done (by kernel_rfl) ?_ _
    have hfz : (u ++ s2).size ≤ 100000 := by rw [append_size]; omega
    have HFZ := Lib.hid hfz; clear hfz
    go_wp2
    go_ret
    exact ⟨_, rfl, HFZ.out, draw_belP HB1.out hR HG7.out⟩
end Go.Proofs.YtnjakhojdhkihaaGreatDoor
