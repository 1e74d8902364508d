/- The walk of the law HasTrace: traces have prefixes. -/
import Derived.Test.YtbmhokbgkgfibaaDoorSDraw3
import Derived.Test.YtbmhokbgkgfibaaDoorSysReach
import Derived.Test.YtbmhokbgkgfibaaDoorSysPlain2

namespace Go.Proofs.YtbmhokbgkgfibaaDoor
open Go.RowKit
set_option linter.unusedVariables false
set_option linter.unusedSimpArgs false
set_option maxRecDepth 100000

theorem extract_take (s : ByteArray) (k : Nat) : (s.extract 0 k).data.toList = s.data.toList.take k := by
  simp [ByteArray.data_extract, Array.toList_extract, List.extract]
set_option maxHeartbeats 4000000 in
theorem fnHasTrace_walk (a : Option Addr) (len cap : Nat) (zs : List Int) (w : World) (hT : Tab w) (hrow : IsRow w a len cap zs) : Calls Tryd.prog 5 #[.slice a len cap] w fun e w' => e = .returned (.bool true) ∧ Below w.heap.size w w' := by
  by_cases hl : 1048576 < len
  · have hl' : (1048576 : Int) < (len : Int) := by omega
    go_enter Tryd.func5, Tryd.ntmps5
    go_wp2
    go_ret
    exact ⟨rfl, Below.refl _ _⟩
  have hl' : (len : Int) ≤ 1048576 := by omega
  clear hl
  go_enter Tryd.func5, Tryd.ntmps5
  go_wp2_with fail
  refine (DrawHasTrace_any a len cap zs w hrow).mono ?_
  rintro e w1 ⟨al, st, ad, n, c, es, s, rfl, hs, hev, hes, hb1⟩
  have hev1 := (hev 0 (Nat.zero_le _)).ev
  have hsz : s.size ≤ 9223372036854775807 := by omega
  clear hev hrow
  obtain ⟨x0, hx0⟩ : ∃ x0, w1.heap.size = x0 := ⟨_, rfl⟩
  obtain ⟨w2, hw2⟩ : ∃ w2, (w1.alloc (.cells #[.int .i64 al, .int .i64 st, .slice ad n c] 25)) = w2 := ⟨_, rfl⟩
  have hb2 := below_new' w1 25 #[.int .i64 al, .int .i64 st, .slice ad n c]
  have hx2 := sys_cells w1 al st (.slice ad n c) 25
  rw [hx0] at hx2
  rw [hw2] at hb2 hx2
  have B2 := Lib.hid (hb1.trans (hb2.mono hb1.size))
  have X2 := Lib.hid hx2
  have E2 := Lib.hid (hev1.below hb2)
  have T2 := Lib.hid ((hT.below hb1).below hb2)
  clear hb1 hb2 hx2 hev1 hT
  have c20 : w2.cell? ⟨x0, 0, none⟩ = some (.int .i64 al) := X2.out.cell (by decide)
  have c21 : w2.cell? ⟨x0, 1, none⟩ = some (.int .i64 st) := X2.out.cell (by decide)
  have c22 : w2.cell? ⟨x0, 2, none⟩ = some (.slice ad n c) := X2.out.cell (by decide)
  obtain ⟨tr, htr⟩ : ∃ tr, decide (aftN al st es s.data.toList ≠ 0) = tr := ⟨_, rfl⟩
  have hit := implTrace_any al st ad n c es s hsz
  have hst := specTrace_any al st ad n c es s hsz
  rw [htr] at hit hst
  have HIT := Lib.hid hit
  have HST := Lib.hid hst
  have HTR := Lib.hid htr
  clear hit hst htr
  go_wp2_with fail
  refine (HIT.out w2 T2.out E2.out).mono ?_
  rintro e w3 ⟨rfl, hb3⟩
  have B3 := Lib.hid (B2.out.trans (hb3.mono B2.out.size))
  have X3 := Lib.hid (rowIs_below' X2.out hb3)
  have E3 := Lib.hid (E2.out.below hb3)
  have T3 := Lib.hid (T2.out.below hb3)
  clear c20 c21 c22 hb3
  have c30 : w3.cell? ⟨x0, 0, none⟩ = some (.int .i64 al) := X3.out.cell (by decide)
  have c31 : w3.cell? ⟨x0, 1, none⟩ = some (.int .i64 st) := X3.out.cell (by decide)
  have c32 : w3.cell? ⟨x0, 2, none⟩ = some (.slice ad n c) := X3.out.cell (by decide)
  go_wp2_with fail
  refine (HST.out w3 E3.out).mono ?_
  rintro e w4 ⟨rfl, hb4⟩
  have B4 := Lib.hid (B3.out.trans (hb4.mono B3.out.size))
  have X4 := Lib.hid (rowIs_below' X3.out hb4)
  have E4 := Lib.hid (E3.out.below hb4)
  have T4 := Lib.hid (T3.out.below hb4)
  clear c30 c31 c32 hb4
  have c40 : w4.cell? ⟨x0, 0, none⟩ = some (.int .i64 al) := X4.out.cell (by decide)
  have c41 : w4.cell? ⟨x0, 1, none⟩ = some (.int .i64 st) := X4.out.cell (by decide)
  have c42 : w4.cell? ⟨x0, 2, none⟩ = some (.slice ad n c) := X4.out.cell (by decide)
  cases tr with
  | false =>
    go_wp2_with fail
    refine (HST.out w4 E4.out).mono ?_
    rintro e w5 ⟨rfl, hb5⟩
    have B5 := Lib.hid (B4.out.trans (hb5.mono B4.out.size))
    have X5 := Lib.hid (rowIs_below' X4.out hb5)
    have E5 := Lib.hid (E4.out.below hb5)
    have T5 := Lib.hid (T4.out.below hb5)
    clear c40 c41 c42 hb5
    have c50 : w5.cell? ⟨x0, 0, none⟩ = some (.int .i64 al) := X5.out.cell (by decide)
    have c51 : w5.cell? ⟨x0, 1, none⟩ = some (.int .i64 st) := X5.out.cell (by decide)
    have c52 : w5.cell? ⟨x0, 2, none⟩ = some (.slice ad n c) := X5.out.cell (by decide)
    go_wp2
    go_ret
    exact ⟨rfl, B5.out⟩
  | true =>
    by_cases h100 : 100 < s.size
    · have h100' : (100 : Int) < (s.size : Int) := by omega
      go_wp2_with fail
      refine (HST.out w4 E4.out).mono ?_
      rintro e w5 ⟨rfl, hb5⟩
      have B5 := Lib.hid (B4.out.trans (hb5.mono B4.out.size))
      have X5 := Lib.hid (rowIs_below' X4.out hb5)
      have E5 := Lib.hid (E4.out.below hb5)
      have T5 := Lib.hid (T4.out.below hb5)
      clear c40 c41 c42 hb5
      have c50 : w5.cell? ⟨x0, 0, none⟩ = some (.int .i64 al) := X5.out.cell (by decide)
      have c51 : w5.cell? ⟨x0, 1, none⟩ = some (.int .i64 st) := X5.out.cell (by decide)
      have c52 : w5.cell? ⟨x0, 2, none⟩ = some (.slice ad n c) := X5.out.cell (by decide)
      go_wp2
      go_ret
      exact ⟨rfl, B5.out⟩
    · have h100' : (s.size : Int) ≤ 100 := by omega
      have hne : aftN al st es s.data.toList ≠ 0 := by simpa using HTR.out
      have hwi := (aftN_ne hne).2
      have HNE := Lib.hid hne
      have HWI := Lib.hid hwi; clear hwi
      clear hne h100
      go_wp2
      go_loopw [6] (fun i wr => ∃ k : Nat, i = .int .i64 k ∧ k ≤ s.size + 1 ∧ Below w.heap.size w wr ∧ wr.rowIs x0 25 3 (fun i => #[.int .i64 al, .int .i64 st, .slice ad n c][i]?.getD undef) ∧ EV wr (.slice ad n c) es ∧ Tab wr) (fun i _ => s.size + 1 - (intOf i).toNat)
      case atStart => exact ⟨0, rfl, Nat.zero_le _, B4.out, X4.out, E4.out, T4.out⟩
      case round =>
        obtain ⟨k, rfl, hk, hbel, hrowx, hee, htt⟩ := hrel
        have d0 : wr.cell? ⟨x0, 0, none⟩ = some (.int .i64 al) := hrowx.cell (by decide)
        have d1 : wr.cell? ⟨x0, 1, none⟩ = some (.int .i64 st) := hrowx.cell (by decide)
        have d2 : wr.cell? ⟨x0, 2, none⟩ = some (.slice ad n c) := hrowx.cell (by decide)
        have HB := Lib.hid hbel
        have HX := Lib.hid hrowx
        have HE := Lib.hid hee
        have HT := Lib.hid htt
        clear hbel hrowx hee htt c40 c41 c42
        by_cases hlt : k ≤ s.size
        · have hpre : decide (aftN al st es (s.extract 0 k).data.toList ≠ 0) = true := by
            rw [extract_take]
            simpa using aft_prefix al st es _ k HNE.out
          have hsx : (s.extract 0 k).size ≤ 9223372036854775807 := by simp; omega
          have hi2 := implTrace_any al st ad n c es (s.extract 0 k) hsx
          rw [hpre] at hi2
          have HI2 := Lib.hid hi2
          clear hi2 hpre
          go_wp2_with fail
          go_region_with ((go_at_call 19; refine (HI2.out _ (Tab.drew HT.out) (EV.drew HE.out)).mono ?_; rintro e w6 ⟨rfl, hb6⟩; have HB6 := Lib.hid (((Below.refl wr.heap.size wr).drew).trans hb6); clear hb6))
          all_goals
            go_wp2
            go_roundw
            case rel => exact ⟨k + 1, by go_num, by omega, HB.out.trans (HB6.out.mono HB.out.size), rowIs_below' HX.out HB6.out, HE.out.below HB6.out, HT.out.below HB6.out⟩
            case measure => simp [intOf] <;> omega
        · go_wp2_with (go_at_call 21; (with_reducible refine (implWithin_any s al hsz _).mono ?_); rintro e w' ⟨rfl, rfl⟩; rw [HWI.out])
          go_ret
          exact ⟨rfl, HB.out⟩
end Go.Proofs.YtbmhokbgkgfibaaDoor
