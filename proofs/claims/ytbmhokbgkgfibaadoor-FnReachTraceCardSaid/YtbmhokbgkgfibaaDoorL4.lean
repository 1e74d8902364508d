/- The walks of the laws Reachable and ReachTrace. -/
import Derived.Test.YtbmhokbgkgfibaaDoorL2

namespace Go.Proofs.YtbmhokbgkgfibaaDoor
open Go.RowKit
set_option linter.unusedVariables false
set_option linter.unusedSimpArgs false
set_option maxRecDepth 100000

theorem sub_lt {a b : Nat} (h : ∀ j, a.testBit j = true → b.testBit j = true) (hb : b < 65536) : a < 65536 := by
  refine lt_of_bits (k := 16) (fun j hj => ?_)
  cases e : a.testBit j
  · rfl
  · have h2 := h j e
    rw [Nat.testBit_lt_two_pow (Nat.lt_of_lt_of_le (show b < 2 ^ 16 from hb) (Nat.pow_le_pow_right (by decide) hj))] at h2
    cases h2
theorem aft_reach {al st : Int} {es : List Edg} {r : Nat} (h : IsReach es r) (l : List UInt8) (j : Nat) (hj : (aftN al st es l).testBit j = true) : r.testBit j = true := by
  unfold aftN at hj
  split at hj
  · exact run_reach h l j hj
  · rw [Nat.zero_testBit] at hj; cases hj
theorem reach_ne {es : List Edg} {r : Nat} (h : IsReach es r) : r ≠ 0 := by
  rintro rfl
  have := h.2.1
  rw [Nat.zero_testBit] at this
  cases this
set_option maxHeartbeats 4000000 in
theorem fnReachTrace_walk (a : Option Addr) (len cap : Nat) (zs : List Int) (w : World) (hT : Tab w) (hrow : IsRow w a len cap zs) : Calls Tryd.prog 3 #[.slice a len cap] w fun e w' => e = .returned (.bool true) ∧ Below w.heap.size w w' := by
  by_cases hl : 1048576 < len
  · have hl' : (1048576 : Int) < (len : Int) := by omega
    go_enter Tryd.func3, Tryd.ntmps3
    go_wp2
    go_ret
    exact ⟨rfl, Below.refl _ _⟩
  have hl' : (len : Int) ≤ 1048576 := by omega
  clear hl
  go_enter Tryd.func3, Tryd.ntmps3
  go_wp2_with fail
  refine (drawReach_any a len cap zs w hrow).mono ?_
  rintro e w1 ⟨al, st, ad, n, c, es, rfl, hev, hes, hb1⟩
  have hev1 := (hev 0 (Nat.zero_le _)).ev
  clear hev hrow
  obtain ⟨x0, hx0⟩ : ∃ x0, w1.heap.size = x0 := ⟨_, rfl⟩
  obtain ⟨w2, hw2⟩ : ∃ w2, (w1.alloc (.cells #[.int .i64 al, .int .i64 st, .slice ad n c] 25)) = w2 := ⟨_, rfl⟩
  have hb2 := below_new' w1 25 #[.int .i64 al, .int .i64 st, .slice ad n c]
  have hx2 := sys_cells w1 al st (.slice ad n c) 25
  rw [hx0] at hx2
  rw [hw2] at hb2 hx2
  have B2 := Lib.hid (hb1.trans (hb2.mono hb1.size))
  have X2 := Lib.hid hx2
  have E2 := Lib.hid (hev1.below hb2)
  have T2 := Lib.hid ((hT.below hb1).below hb2)
  clear hb1 hb2 hx2 hev1 hT
  have c20 : w2.cell? ⟨x0, 0, none⟩ = some (.int .i64 al) := X2.out.cell (by decide)
  have c21 : w2.cell? ⟨x0, 1, none⟩ = some (.int .i64 st) := X2.out.cell (by decide)
  have c22 : w2.cell? ⟨x0, 2, none⟩ = some (.slice ad n c) := X2.out.cell (by decide)
  go_wp2_with fail
  refine (implReach_any al st ad n c es w2 T2.out E2.out).mono ?_
  rintro e w3 ⟨q, rfl, hq, hb3⟩
  have B3 := Lib.hid (B2.out.trans (hb3.mono B2.out.size))
  have X3 := Lib.hid (rowIs_below' X2.out hb3)
  have E3 := Lib.hid (E2.out.below hb3)
  have T3 := Lib.hid (T2.out.below hb3)
  clear c20 c21 c22 hb3
  have c30 : w3.cell? ⟨x0, 0, none⟩ = some (.int .i64 al) := X3.out.cell (by decide)
  have c31 : w3.cell? ⟨x0, 1, none⟩ = some (.int .i64 st) := X3.out.cell (by decide)
  have c32 : w3.cell? ⟨x0, 2, none⟩ = some (.slice ad n c) := X3.out.cell (by decide)
  have HQ := Lib.hid hq
  clear hq
  go_wp2_with fail
  refine (specReach_any al st ad n c es w3 E3.out).mono ?_
  rintro e w4 ⟨r, rfl, hr, hb4⟩
  obtain rfl := reachP_unique hr HQ.out
  clear hr
  have B4 := Lib.hid (B3.out.trans (hb4.mono B3.out.size))
  have X4 := Lib.hid (rowIs_below' X3.out hb4)
  have E4 := Lib.hid (E3.out.below hb4)
  have T4 := Lib.hid (T3.out.below hb4)
  clear c30 c31 c32 hb4
  have c40 : w4.cell? ⟨x0, 0, none⟩ = some (.int .i64 al) := X4.out.cell (by decide)
  have c41 : w4.cell? ⟨x0, 1, none⟩ = some (.int .i64 st) := X4.out.cell (by decide)
  have c42 : w4.cell? ⟨x0, 2, none⟩ = some (.slice ad n c) := X4.out.cell (by decide)
  cases hv : sysV al st es with
  | false =>
    have hr0 : r = 0 := by
      have := HQ.out
      unfold reachP at this
      rw [if_neg (by rw [hv]; decide)] at this
      exact this
    have HV := Lib.hid hv; clear hv
    subst hr0
    go_wp2_with fail
    refine (specReach_any al st ad n c es w4 E4.out).mono ?_
    rintro e w5 ⟨r, rfl, hr, hb5⟩
    obtain rfl := reachP_unique hr HQ.out
    clear hr
    have B5 := Lib.hid (B4.out.trans (hb5.mono B4.out.size))
    have X5 := Lib.hid (rowIs_below' X4.out hb5)
    have E5 := Lib.hid (E4.out.below hb5)
    have T5 := Lib.hid (T4.out.below hb5)
    clear c40 c41 c42 hb5
    have c50 : w5.cell? ⟨x0, 0, none⟩ = some (.int .i64 al) := X5.out.cell (by decide)
    have c51 : w5.cell? ⟨x0, 1, none⟩ = some (.int .i64 st) := X5.out.cell (by decide)
    have c52 : w5.cell? ⟨x0, 2, none⟩ = some (.slice ad n c) := X5.out.cell (by decide)
    go_wp2_with fail
    refine (implSysValid_any al st ad n c es w5 E5.out).mono ?_
    rintro e w6 ⟨rfl, hb6⟩
    rw [HV.out]
    have B6 := Lib.hid (B5.out.trans (hb6.mono B5.out.size))
    have X6 := Lib.hid (rowIs_below' X5.out hb6)
    have E6 := Lib.hid (E5.out.below hb6)
    have T6 := Lib.hid (T5.out.below hb6)
    clear c50 c51 c52 hb6
    have c60 : w6.cell? ⟨x0, 0, none⟩ = some (.int .i64 al) := X6.out.cell (by decide)
    have c61 : w6.cell? ⟨x0, 1, none⟩ = some (.int .i64 st) := X6.out.cell (by decide)
    have c62 : w6.cell? ⟨x0, 2, none⟩ = some (.slice ad n c) := X6.out.cell (by decide)
    go_wp2
    go_ret
    exact ⟨rfl, B6.out⟩
  | true =>
    have hir : IsReach es r := by
      have := HQ.out
      unfold reachP at this
      rwa [if_pos hv] at this
    obtain ⟨-, hst1, hst16, hedge⟩ := sysV_facts hv
    have hok := sysV_ok hv
    have hne := reach_ne hir
    have hne' : ((r : Int) == 0) = false := by simp; omega
    obtain ⟨T, rfl⟩ := Int.eq_ofNat_of_zero_le (by omega : 0 ≤ st)
    have hto : ∀ e ∈ es, e.2.2.toNat < T := fun e he => by
      have := (edgeOK_facts (hedge e he)).2.1
      omega
    have HIR := Lib.hid hir
    have HOK := Lib.hid hok; clear hok
    have HTO := Lib.hid hto; clear hto
    have HV := Lib.hid hv; clear hv
    have hT1 : 1 ≤ T := by omega
    have hT16 : T ≤ 16 := by omega
    clear hir hedge HQ hst1 hst16
    go_wp2
    go_loopw [5, 6] (fun g i wr => ∃ k : Nat, i = .int .i64 k ∧ 1 ≤ k ∧ k ≤ T ∧ g = .int .i64 (rnd es (k - 1) : Nat) ∧ Below w.heap.size w wr ∧ wr.rowIs x0 25 3 (fun i => #[.int .i64 al, .int .i64 T, .slice ad n c][i]?.getD undef) ∧ EV wr (.slice ad n c) es) (fun _ i _ => T - (intOf i).toNat)
    case atStart => exact ⟨1, rfl, Nat.le_refl _, hT1, rfl, B4.out, X4.out, E4.out⟩
    case round =>
      obtain ⟨k, rfl, hk1, hkT, rfl, hbel, hrowx, hee⟩ := hrel
      have d1 : wr.cell? ⟨x0, 1, none⟩ = some (.int .i64 T) := hrowx.cell (by decide)
      have HB := Lib.hid hbel
      have HX := Lib.hid hrowx
      have HE := Lib.hid hee
      clear hbel hrowx hee c40 c41 c42
      by_cases hlt : k < T
      · go_wp2
        go_loopw [5, 7] (fun g i wr => ∃ x : Nat, i = .int .i64 x ∧ x ≤ 6 ∧ g = .int .i64 (swp es x (rnd es (k - 1)) : Nat) ∧ Below w.heap.size w wr ∧ wr.rowIs x0 25 3 (fun i => #[.int .i64 al, .int .i64 T, .slice ad n c][i]?.getD undef) ∧ EV wr (.slice ad n c) es) (fun _ i _ => 6 - (intOf i).toNat)
        case atStart => exact ⟨0, rfl, Nat.zero_le _, rfl, HB.out, HX.out, HE.out⟩
        case round =>
          clear HB HX HE d1
          obtain ⟨x, rfl, hx, rfl, hbel, hrowx, hee⟩ := hrel
          have d0 : wr.cell? ⟨x0, 0, none⟩ = some (.int .i64 al) := hrowx.cell (by decide)
          have d1 : wr.cell? ⟨x0, 1, none⟩ = some (.int .i64 T) := hrowx.cell (by decide)
          have d2 : wr.cell? ⟨x0, 2, none⟩ = some (.slice ad n c) := hrowx.cell (by decide)
          have HB := Lib.hid hbel
          have HX := Lib.hid hrowx
          have HE := Lib.hid hee
          clear hbel hrowx hee
          by_cases hx6 : x < 6
          · obtain ⟨g, hg⟩ : ∃ g, swp es x (rnd es (k - 1)) = g := ⟨_, rfl⟩
            have hglt : g < 65536 := by
              rw [← hg]
              exact sub_lt (fun j hj => swp_reach HIR.out x _ (fun j hj => rnd_reach HIR.out _ j hj) j hj) HIR.out.1
            have hslt := stepN_lt HOK.out g (x : Int)
            have HOR := Lib.hid (or_n g (stepN es g (x : Int)) hglt hslt)
            have hsw : swp es (x + 1) (rnd es (k - 1)) = g ||| stepN es g (x : Int) := by rw [swp, hg]
            rw [hg]
            obtain ⟨y, hy⟩ : ∃ y, stepN es g (x : Int) = y := ⟨_, rfl⟩
            have hag := fun wq h => agStep_any al (T : Int) (x : Int) ad n c es g wq h hglt HOK.out
            rw [hy] at hag hsw HOR
            have HAG := Lib.hid hag
            have HSW := Lib.hid hsw; clear hsw
            have HG := Lib.hid hg; clear hg
            clear hag hy
            go_wp2_with fail
            refine (HAG.out wr HE.out).mono ?_
            rintro e w6 ⟨rfl, hb6⟩
            have HB6 := Lib.hid (HB.out.trans (hb6.mono HB.out.size))
            have HX6 := Lib.hid (rowIs_below' HX.out hb6)
            have HE6 := Lib.hid (HE.out.below hb6)
            clear hb6
            go_wp2
            go_roundw
            case rel => exact ⟨x + 1, by go_num, by omega, by rw [HSW.out]; exact congrArg (Value.int .i64) HOR.out, HB6.out, HX6.out, HE6.out⟩
            case measure => simp [intOf] <;> omega
          · obtain rfl : x = 6 := by omega
            have hrn : swp es 6 (rnd es (k - 1)) = rnd es (k + 1 - 1) := by
              rw [show k + 1 - 1 = (k - 1) + 1 by omega]; rfl
            rw [hrn]
            go_wp2
            go_roundw
            case rel => exact ⟨k + 1, by go_num, by omega, by omega, rfl, HB.out, HX.out, HE.out⟩
            case measure => simp [intOf] <;> omega
      · obtain rfl : k = T := by omega
        have hd := rnd_done HOK.out k hT1 HTO.out HIR.out
        rw [hd]
        have HD := Lib.hid hd; clear hd
        go_wp2
        go_ret
        exact ⟨ret_bool (by simp), HB.out⟩
set_option maxHeartbeats 4000000 in
theorem fnReachable_walk (a : Option Addr) (len cap : Nat) (zs : List Int) (w : World) (hT : Tab w) (hrow : IsRow w a len cap zs) : Calls Tryd.prog 9 #[.slice a len cap] w fun e w' => e = .returned (.bool true) ∧ Below w.heap.size w w' := by
  by_cases hl : 1048576 < len
  · have hl' : (1048576 : Int) < (len : Int) := by omega
    go_enter Tryd.func9, Tryd.ntmps9
    go_wp2
    go_ret
    exact ⟨rfl, Below.refl _ _⟩
  have hl' : (len : Int) ≤ 1048576 := by omega
  clear hl
  go_enter Tryd.func9, Tryd.ntmps9
  go_wp2_with fail
  refine (drawStates_any a len cap zs w hrow).mono ?_
  rintro e w1 ⟨al, st, ad, n, c, es, s, rfl, hs, hev, hes, hb1⟩
  have hev1 := (hev 0 (Nat.zero_le _)).ev
  have hsz : s.size ≤ 9223372036854775807 := by omega
  clear hev hrow
  obtain ⟨x0, hx0⟩ : ∃ x0, w1.heap.size = x0 := ⟨_, rfl⟩
  obtain ⟨w2, hw2⟩ : ∃ w2, (w1.alloc (.cells #[.int .i64 al, .int .i64 st, .slice ad n c] 25)) = w2 := ⟨_, rfl⟩
  have hb2 := below_new' w1 25 #[.int .i64 al, .int .i64 st, .slice ad n c]
  have hx2 := sys_cells w1 al st (.slice ad n c) 25
  rw [hx0] at hx2
  rw [hw2] at hb2 hx2
  have B2 := Lib.hid (hb1.trans (hb2.mono hb1.size))
  have X2 := Lib.hid hx2
  have E2 := Lib.hid (hev1.below hb2)
  have T2 := Lib.hid ((hT.below hb1).below hb2)
  clear hb1 hb2 hx2 hev1 hT
  have c20 : w2.cell? ⟨x0, 0, none⟩ = some (.int .i64 al) := X2.out.cell (by decide)
  have c21 : w2.cell? ⟨x0, 1, none⟩ = some (.int .i64 st) := X2.out.cell (by decide)
  have c22 : w2.cell? ⟨x0, 2, none⟩ = some (.slice ad n c) := X2.out.cell (by decide)
  go_wp2_with fail
  refine (implReach_any al st ad n c es w2 T2.out E2.out).mono ?_
  rintro e w3 ⟨q, rfl, hq, hb3⟩
  have B3 := Lib.hid (B2.out.trans (hb3.mono B2.out.size))
  have X3 := Lib.hid (rowIs_below' X2.out hb3)
  have E3 := Lib.hid (E2.out.below hb3)
  have T3 := Lib.hid (T2.out.below hb3)
  clear c20 c21 c22 hb3
  have c30 : w3.cell? ⟨x0, 0, none⟩ = some (.int .i64 al) := X3.out.cell (by decide)
  have c31 : w3.cell? ⟨x0, 1, none⟩ = some (.int .i64 st) := X3.out.cell (by decide)
  have c32 : w3.cell? ⟨x0, 2, none⟩ = some (.slice ad n c) := X3.out.cell (by decide)
  have HQ := Lib.hid hq
  clear hq
  go_wp2_with fail
  refine (specReach_any al st ad n c es w3 E3.out).mono ?_
  rintro e w4 ⟨r, rfl, hr, hb4⟩
  obtain rfl := reachP_unique hr HQ.out
  clear hr
  have B4 := Lib.hid (B3.out.trans (hb4.mono B3.out.size))
  have X4 := Lib.hid (rowIs_below' X3.out hb4)
  have E4 := Lib.hid (E3.out.below hb4)
  have T4 := Lib.hid (T3.out.below hb4)
  clear c30 c31 c32 hb4
  have c40 : w4.cell? ⟨x0, 0, none⟩ = some (.int .i64 al) := X4.out.cell (by decide)
  have c41 : w4.cell? ⟨x0, 1, none⟩ = some (.int .i64 st) := X4.out.cell (by decide)
  have c42 : w4.cell? ⟨x0, 2, none⟩ = some (.slice ad n c) := X4.out.cell (by decide)
  cases hv : sysV al st es with
  | false =>
    have hr0 : r = 0 := by
      have := HQ.out
      unfold reachP at this
      rw [if_neg (by rw [hv]; decide)] at this
      exact this
    have ha0 := aftN_no al st es s.data.toList hv
    have HV := Lib.hid hv; clear hv
    subst hr0
    have hia := implStates_any al st ad n c es s hsz
    rw [ha0] at hia
    have HIA := Lib.hid hia
    clear hia ha0
    go_wp2_with fail
    refine (implSysValid_any al st ad n c es w4 E4.out).mono ?_
    rintro e w5 ⟨rfl, hb5⟩
    rw [HV.out]
    have B5 := Lib.hid (B4.out.trans (hb5.mono B4.out.size))
    have X5 := Lib.hid (rowIs_below' X4.out hb5)
    have E5 := Lib.hid (E4.out.below hb5)
    have T5 := Lib.hid (T4.out.below hb5)
    clear c40 c41 c42 hb5
    have c50 : w5.cell? ⟨x0, 0, none⟩ = some (.int .i64 al) := X5.out.cell (by decide)
    have c51 : w5.cell? ⟨x0, 1, none⟩ = some (.int .i64 st) := X5.out.cell (by decide)
    have c52 : w5.cell? ⟨x0, 2, none⟩ = some (.slice ad n c) := X5.out.cell (by decide)
    go_wp2_with fail
    refine (specReach_any al st ad n c es w5 E5.out).mono ?_
    rintro e w6 ⟨r, rfl, hr, hb6⟩
    obtain rfl := reachP_unique hr HQ.out
    clear hr
    have B6 := Lib.hid (B5.out.trans (hb6.mono B5.out.size))
    have X6 := Lib.hid (rowIs_below' X5.out hb6)
    have E6 := Lib.hid (E5.out.below hb6)
    have T6 := Lib.hid (T5.out.below hb6)
    clear c50 c51 c52 hb6
    have c60 : w6.cell? ⟨x0, 0, none⟩ = some (.int .i64 al) := X6.out.cell (by decide)
    have c61 : w6.cell? ⟨x0, 1, none⟩ = some (.int .i64 st) := X6.out.cell (by decide)
    have c62 : w6.cell? ⟨x0, 2, none⟩ = some (.slice ad n c) := X6.out.cell (by decide)
    go_wp2_with fail
    refine (HIA.out w6 T6.out E6.out).mono ?_
    rintro e w7 ⟨rfl, hb7⟩
    have B7 := Lib.hid (B6.out.trans (hb7.mono B6.out.size))
    have X7 := Lib.hid (rowIs_below' X6.out hb7)
    have E7 := Lib.hid (E6.out.below hb7)
    have T7 := Lib.hid (T6.out.below hb7)
    clear c60 c61 c62 hb7
    have c70 : w7.cell? ⟨x0, 0, none⟩ = some (.int .i64 al) := X7.out.cell (by decide)
    have c71 : w7.cell? ⟨x0, 1, none⟩ = some (.int .i64 st) := X7.out.cell (by decide)
    have c72 : w7.cell? ⟨x0, 2, none⟩ = some (.slice ad n c) := X7.out.cell (by decide)
    go_wp2
    go_ret
    exact ⟨rfl, B7.out⟩
  | true =>
    have hir : IsReach es r := by
      have := HQ.out
      unfold reachP at this
      rwa [if_pos hv] at this
    obtain ⟨-, hst1, hst16, hedge⟩ := sysV_facts hv
    have hok := sysV_ok hv
    have hrlt := hir.1
    obtain ⟨T, rfl⟩ := Int.eq_ofNat_of_zero_le (by omega : 0 ≤ st)
    have hto : ∀ e ∈ es, e.2.2.toNat < T := fun e he => by
      have := (edgeOK_facts (hedge e he)).2.1
      omega
    have hrT := reach_lt hir T (by omega) hto
    have hT16 : T ≤ 16 := by omega
    have hh0 : hasB (r : Int) 0 = true := by unfold hasB; simpa using hir.2.1
    obtain ⟨y, hy⟩ : ∃ y, aftN al (T : Int) es s.data.toList = y := ⟨_, rfl⟩
    have hylt : y < 65536 := by rw [← hy]; exact aftN_lt _ _ _ _
    have hor : bits BinOp.or IntKind.i64 (y : Int) (r : Int) = (r : Int) := by
      rw [or_n y r hylt hrlt, or_eq (fun j hj => aft_reach (al := al) (st := (T : Int)) hir s.data.toList j (by rw [hy]; exact hj))]
    have hia := implStates_any al (T : Int) ad n c es s hsz
    rw [hy] at hia
    have HIA := Lib.hid hia
    have HH0 := Lib.hid hh0
    have HIR := Lib.hid hir
    have HOK := Lib.hid hok; clear hok
    have HV := Lib.hid hv; clear hv
    have HRT := Lib.hid hrT; clear hrT
    clear hia hy hedge hto HQ hst1 hst16 hir hh0
    go_wp2_with fail
    refine (implSysValid_any al (T : Int) ad n c es w4 E4.out).mono ?_
    rintro e w5 ⟨rfl, hb5⟩
    rw [HV.out]
    have B5 := Lib.hid (B4.out.trans (hb5.mono B4.out.size))
    have X5 := Lib.hid (rowIs_below' X4.out hb5)
    have E5 := Lib.hid (E4.out.below hb5)
    have T5 := Lib.hid (T4.out.below hb5)
    clear c40 c41 c42 hb5
    have c50 : w5.cell? ⟨x0, 0, none⟩ = some (.int .i64 al) := X5.out.cell (by decide)
    have c51 : w5.cell? ⟨x0, 1, none⟩ = some (.int .i64 T) := X5.out.cell (by decide)
    have c52 : w5.cell? ⟨x0, 2, none⟩ = some (.slice ad n c) := X5.out.cell (by decide)
    go_wp2_with (go_at_call 26; (with_reducible refine (agHas_any _ _ (by omega) (by omega) (by omega) (by omega) _).mono ?_); rintro e w' ⟨rfl, rfl⟩; rw [HH0.out])
    refine (HIA.out w5 T5.out E5.out).mono ?_
    rintro e w6 ⟨rfl, hb6⟩
    have B6 := Lib.hid (B5.out.trans (hb6.mono B5.out.size))
    have X6 := Lib.hid (rowIs_below' X5.out hb6)
    have E6 := Lib.hid (E5.out.below hb6)
    clear c50 c51 c52 hb6
    go_wp2
    go_loopw [6] (fun i wr => ∃ k : Nat, i = .int .i64 k ∧ k ≤ 6 ∧ Below w.heap.size w wr ∧ wr.rowIs x0 25 3 (fun i => #[.int .i64 al, .int .i64 T, .slice ad n c][i]?.getD undef) ∧ EV wr (.slice ad n c) es) (fun i _ => 6 - (intOf i).toNat)
    case atStart => exact ⟨0, rfl, Nat.zero_le _, B6.out, X6.out, E6.out⟩
    case round =>
      obtain ⟨k, rfl, hk, hbel, hrowx, hee⟩ := hrel
      have d0 : wr.cell? ⟨x0, 0, none⟩ = some (.int .i64 al) := hrowx.cell (by decide)
      have d1 : wr.cell? ⟨x0, 1, none⟩ = some (.int .i64 T) := hrowx.cell (by decide)
      have d2 : wr.cell? ⟨x0, 2, none⟩ = some (.slice ad n c) := hrowx.cell (by decide)
      have HB := Lib.hid hbel
      have HX := Lib.hid hrowx
      have HE := Lib.hid hee
      clear hbel hrowx hee
      by_cases hlt : k < 6
      · obtain ⟨z, hz⟩ : ∃ z, stepN es r (k : Int) = z := ⟨_, rfl⟩
        have hzlt : z < 65536 := by rw [← hz]; exact stepN_lt HOK.out _ _
        have horz : bits BinOp.or IntKind.i64 (z : Int) (r : Int) = (r : Int) := by
          rw [or_n z r hzlt hrlt, or_eq (fun j hj => clo_step HIR.out.2.2.1 r (k : Int) (fun _ h => h) j (by rw [hz]; exact hj))]
        have hag := fun wq h => agStep_any al (T : Int) (k : Int) ad n c es r wq h hrlt HOK.out
        rw [hz] at hag
        have HAG := Lib.hid hag
        clear hag hz
        go_wp2_with fail
        refine (HAG.out wr HE.out).mono ?_
        rintro e w7 ⟨rfl, hb7⟩
        have HB7 := Lib.hid (HB.out.trans (hb7.mono HB.out.size))
        have HX7 := Lib.hid (rowIs_below' HX.out hb7)
        have HE7 := Lib.hid (HE.out.below hb7)
        clear hb7
        go_wp2
        go_roundw
        case rel => exact ⟨k + 1, by go_num, by omega, HB7.out, HX7.out, HE7.out⟩
        case measure => simp [intOf] <;> omega
      · have hwt : IntKind.u64.wrap (T : Int) = (T : Int) := by rw [IntKind.wrap_u64]; omega
        have hpw : wrap64 (2 ^ T) = ((2 ^ T : Nat) : Int) := by
          have h := wrap64_pow2 (T : Int) (by omega)
          rw [Int.toNat_natCast] at h
          exact h
        have HPW := Lib.hid hpw; clear hpw
        go_wp2
        go_ret
        exact ⟨ret_bool (by rw [HPW.out]; simp only [decide_eq_true_eq]; exact_mod_cast HRT.out), HB.out⟩
end Go.Proofs.YtbmhokbgkgfibaaDoor
