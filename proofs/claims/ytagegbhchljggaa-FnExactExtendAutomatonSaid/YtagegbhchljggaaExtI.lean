/- ExtendAutomaton of the program. -/
import Derived.Test.YtagegbhchljggaaExt
import Derived.StillTailTactics
import Derived.Deep.RegionWith

namespace Go.Proofs.Ytagegbhchljggaa
open Go.RowKit
set_option linter.unusedVariables false
set_option linter.unusedSimpArgs false
set_option maxRecDepth 100000

set_option maxHeartbeats 4000000 in
theorem implExt_any (al be : Int) (a1 : Option Addr) (n1 c1 : Nat) (a2 : Option Addr) (n2 c2 : Nat) (xss : List (List Int)) (bs : List Bool) (w : World) (h : MV w (.slice a1 n1 c1) xss) (hb : BV w (.slice a2 n2 c2) bs) :
    Calls Try.prog 30 #[.agg #[.int .i64 al, .slice a1 n1 c1, .slice a2 n2 c2], .int .i64 be] w (Made (autV al xss bs && isA be) (bits .or .i64 al be) (extM al (bits .or .i64 al be) xss) bs w) := by
  have H := Lib.hid h; clear h
  have HB := Lib.hid hb; clear hb
  have B0 := Lib.hid ((below_new w 28 #[.int .i64 al, .slice a1 n1 c1, .slice a2 n2 c2]).alloc (by simp) (.cells #[.int .i64 0, .slice none 0 0, .slice none 0 0] 28))
  have R0 := Lib.hid ((agg3_cell w al (.slice a1 n1 c1) (.slice a2 n2 c2) 28).alloc (.cells #[.int .i64 0, .slice none 0 0, .slice none 0 0] 28))
  have hz0 := own_cells (w.alloc (.cells #[.int .i64 al, .slice a1 n1 c1, .slice a2 n2 c2] 28)) #[.int .i64 0, .slice none 0 0, .slice none 0 0] 28 3 rfl
  have hs0 : (w.alloc (.cells #[.int .i64 al, .slice a1 n1 c1, .slice a2 n2 c2] 28)).heap.size = w.heap.size + 1 := by simp
  rw [hs0] at hz0
  have Z0 := Lib.hid hz0
  clear hz0 hs0
  cases hv : autV al xss bs with
  | false =>
    have HV := Lib.hid hv; clear hv
    go_enter Try.func30, Try.ntmps30
    go_wp2_with fail
    refine (implAutValid_any al a1 n1 c1 a2 n2 c2 xss bs _ (MV.below H.out B0.out) (BV.below HB.out B0.out)).mono ?_
    rintro e w1 ⟨rfl, hb1⟩
    rw [HV.out]
    have B1 := Lib.hid (B0.out.trans (hb1.mono B0.out.size))
    have hz1 := rowIs_below Z0.out hb1
    have z0 : w1.cell? ⟨w.heap.size + 1, 0, none⟩ = some (.int .i64 0) := hz1.cell (by decide)
    have z1 : w1.cell? ⟨w.heap.size + 1, 1, none⟩ = some (.slice none 0 0) := hz1.cell (by decide)
    have z2 : w1.cell? ⟨w.heap.size + 1, 2, none⟩ = some (.slice none 0 0) := hz1.cell (by decide)
    have zf0 := hz1.frozen 0
    have zf1 := hz1.frozen 1
    have zf2 := hz1.frozen 2
    have Z1 := Lib.hid hz1
    clear hb1 hz1
    go_wp2
    obtain ⟨wf, hwf⟩ : ∃ wf, (((w1.setCell ⟨w.heap.size + 1, 0, none⟩ (.int .i64 0)).setCell ⟨w.heap.size + 1, 1, none⟩ (.slice none 0 0)).setCell ⟨w.heap.size + 1, 2, none⟩ (.slice none 0 0)) = wf := ⟨_, rfl⟩
    have hfin := store3 Z1.out (.int .i64 0) (.slice none 0 0) (.slice none 0 0)
    have hbF : Below w.heap.size w _ := ((B1.out.setCell (p := ⟨w.heap.size + 1, 0, none⟩) (by simp) (.int .i64 0)).setCell (p := ⟨w.heap.size + 1, 1, none⟩) (by simp) (.slice none 0 0)).setCell (p := ⟨w.heap.size + 1, 2, none⟩) (by simp) (.slice none 0 0)
    rw [hwf] at hfin hbF ⊢
    have f0 : wf.cell? ⟨w.heap.size + 1, 0, none⟩ = some (.int .i64 0) := hfin.cell (by decide)
    have f1 : wf.cell? ⟨w.heap.size + 1, 1, none⟩ = some (.slice none 0 0) := hfin.cell (by decide)
    have f2 : wf.cell? ⟨w.heap.size + 1, 2, none⟩ = some (.slice none 0 0) := hfin.cell (by decide)
    refine bodyPost_ret (v := .tuple #[.agg #[.int .i64 0, .slice none 0 0, .slice none 0 0], .bool false]) ?_ rfl ?_
    · simp [results, Try.results30, go_sem, f0, f1, f2]
    · exact ⟨rfl, hbF⟩
  | true =>
    have HV := Lib.hid hv; clear hv
    cases hA : isA be with
    | false =>
      have HA := Lib.hid hA; clear hA
      go_enter Try.func30, Try.ntmps30
      go_wp2_with fail
      refine (implAutValid_any al a1 n1 c1 a2 n2 c2 xss bs _ (MV.below H.out B0.out) (BV.below HB.out B0.out)).mono ?_
      rintro e w1 ⟨rfl, hb1⟩
      rw [HV.out]
      have B1 := Lib.hid (B0.out.trans (hb1.mono B0.out.size))
      have hz1 := rowIs_below Z0.out hb1
      have z0 : w1.cell? ⟨w.heap.size + 1, 0, none⟩ = some (.int .i64 0) := hz1.cell (by decide)
      have z1 : w1.cell? ⟨w.heap.size + 1, 1, none⟩ = some (.slice none 0 0) := hz1.cell (by decide)
      have z2 : w1.cell? ⟨w.heap.size + 1, 2, none⟩ = some (.slice none 0 0) := hz1.cell (by decide)
      have zf0 := hz1.frozen 0
      have zf1 := hz1.frozen 1
      have zf2 := hz1.frozen 2
      have Z1 := Lib.hid hz1
      clear hb1 hz1
      go_wp2_with fail
      refine (isAlphabet_any be _).mono ?_
      rintro e w' ⟨rfl, rfl⟩
      rw [HA.out]
      go_wp2
      obtain ⟨wf, hwf⟩ : ∃ wf, (((w1.setCell ⟨w.heap.size + 1, 0, none⟩ (.int .i64 0)).setCell ⟨w.heap.size + 1, 1, none⟩ (.slice none 0 0)).setCell ⟨w.heap.size + 1, 2, none⟩ (.slice none 0 0)) = wf := ⟨_, rfl⟩
      have hfin := store3 Z1.out (.int .i64 0) (.slice none 0 0) (.slice none 0 0)
      have hbF : Below w.heap.size w _ := ((B1.out.setCell (p := ⟨w.heap.size + 1, 0, none⟩) (by simp) (.int .i64 0)).setCell (p := ⟨w.heap.size + 1, 1, none⟩) (by simp) (.slice none 0 0)).setCell (p := ⟨w.heap.size + 1, 2, none⟩) (by simp) (.slice none 0 0)
      rw [hwf] at hfin hbF ⊢
      have f0 : wf.cell? ⟨w.heap.size + 1, 0, none⟩ = some (.int .i64 0) := hfin.cell (by decide)
      have f1 : wf.cell? ⟨w.heap.size + 1, 1, none⟩ = some (.slice none 0 0) := hfin.cell (by decide)
      have f2 : wf.cell? ⟨w.heap.size + 1, 2, none⟩ = some (.slice none 0 0) := hfin.cell (by decide)
      refine bodyPost_ret (v := .tuple #[.agg #[.int .i64 0, .slice none 0 0, .slice none 0 0], .bool false]) ?_ rfl ?_
      · simp [results, Try.results30, go_sem, f0, f1, f2]
      · exact ⟨rfl, hbF⟩
    | true =>
      have HA := Lib.hid hA; clear hA
      obtain ⟨ha, hx1, hx2, hx3, hx4, hx5⟩ := autV_facts HV.out
      have hn1 := (SV.at H.out).1
      have hmx := (SV.at H.out).2.2.1
      have hcp := (SV.at H.out).2.1
      unfold maxLen at hmx
      obtain ⟨ba, oa, rfl, hba, hca⟩ : ∃ b off, a2 = some ⟨b, off, none⟩ ∧ b < w.heap.size ∧ ∀ j, j < n2 → w.cell? ⟨b, off + j, none⟩ = some (.bool (bs[j]?.getD false)) := by
        have hn2 := (SV.at HB.out).1
        rcases (SV.at HB.out).2.2.2 with h0 | ⟨b, off, rfl, q1, q2⟩
        · omega
        · exact ⟨b, off, rfl, q1, fun j hj => by obtain ⟨u, r1, rfl⟩ := q2 j hj; exact r1⟩
      have hn2 := (SV.at HB.out).1
      have hn2' : n2 ≤ 12 := by omega
      have hn2p : 1 ≤ n2 := by omega
      have hn12 : n1 ≤ 12 := by omega
      have hn1p : 1 ≤ n1 := by omega
      have hbl : bs.length ≤ 1048576 := by omega
      have hca0 := or_isA' ha HA.out
      obtain ⟨C, hC⟩ : ∃ C, bits .or .i64 al be = C := ⟨_, rfl⟩
      rw [hC] at hca0
      obtain ⟨hC0, hC1⟩ := (isA_iff C).1 hca0
      rw [hC]
      have HHC := Lib.hid hC
      have HCA := Lib.hid hca
      have HAC := Lib.hid hca0
      have HAL := Lib.hid ha; clear ha
      have HROWS := Lib.hid hx4; clear hx4
      have HN1 := Lib.hid hn1; clear hn1
      have HN2 := Lib.hid hn2; clear hn2
      have HX3 := Lib.hid hx3; clear hx3
      clear hca hca0 hx5 hx1 hx2
      have HHC := Lib.hid hC
      clear hC
      go_enter Try.func30, Try.ntmps30
      go_wp2_with fail
      refine (implAutValid_any al a1 n1 c1 (some ⟨ba, oa, none⟩) n2 c2 xss bs _ (MV.below H.out B0.out) (BV.below HB.out B0.out)).mono ?_
      rintro e w1 ⟨rfl, hb1⟩
      rw [HV.out]
      have B1 := Lib.hid (B0.out.trans (hb1.mono B0.out.size))
      have R1 := Lib.hid (rowIs_below R0.out hb1)
      have Z1 := Lib.hid (rowIs_below Z0.out hb1)
      have c0 : w1.cell? ⟨w.heap.size, 0, none⟩ = some (.int .i64 al) := R1.out.cell (by decide)
      have c1' : w1.cell? ⟨w.heap.size, 1, none⟩ = some (.slice a1 n1 c1) := R1.out.cell (by decide)
      have c2' : w1.cell? ⟨w.heap.size, 2, none⟩ = some (.slice (some ⟨ba, oa, none⟩) n2 c2) := R1.out.cell (by decide)
      clear hb1
      go_wp2_with fail
      refine (isAlphabet_any be _).mono ?_
      rintro e w' ⟨rfl, rfl⟩
      rw [HA.out]
      go_wp2_with fail
      refine (tableOf_any al a1 n1 c1 (some ⟨ba, oa, none⟩) n2 c2 xss _ HAL.out (MV.below H.out B1.out) hn12 HROWS.out).mono ?_
      rintro e w2 ⟨tb, rfl, htab, htlo, hb2⟩
      have B2 := Lib.hid (B1.out.trans (hb2.mono B1.out.size))
      have R2 := Lib.hid (rowIs_below R1.out hb2)
      have Z2 := Lib.hid (rowIs_below Z1.out hb2)
      have T2 := Lib.hid htab
      have hz1lt : w.heap.size + 1 < w1.heap.size := World.rowIs.lt Z1.out
      have htb2 : tb < w2.heap.size := World.rowIs.lt htab
      clear c0 c1' c2' htab hb2
      go_wp2_with fail
      have p0 : w2.cell? ⟨w.heap.size, 0, none⟩ = some (.int .i64 al) := R2.out.cell (by decide)
      have p2 : w2.cell? ⟨w.heap.size, 2, none⟩ = some (.slice (some ⟨ba, oa, none⟩) n2 c2) := R2.out.cell (by decide)
      obtain ⟨ow, how⟩ : ∃ ow, w2.heap.size = ow := ⟨_, rfl⟩
      have how1 : w.heap.size + 1 < ow := by have := World.rowIs.lt Z2.out; omega
      have HC2 := Lib.hid (fun (j : Nat) (hj : j < n2) => (show w2.cell? (Addr.add ⟨ba, oa, none⟩ j) = some (.bool (bs[j]?.getD false)) by rw [add_at, cell_below B2.out hba]; exact HCA.out j hj))
      obtain ⟨wz, hwz⟩ : ∃ wz, w2.alloc (.cells #[.int .i64 0, .slice none 0 0, .slice none 0 0] 28) = wz := ⟨_, rfl⟩
      have hbz := below_new w2 28 #[.int .i64 0, .slice none 0 0, .slice none 0 0]
      have hoz := own_cells w2 #[.int .i64 0, .slice none 0 0, .slice none 0 0] 28 3 rfl
      have hbz0 : wz.heap.size = ow + 1 := by rw [← hwz, ← how]; simp
      rw [how] at hoz
      rw [hwz] at hoz hbz
      have hrz := rowIs_below R2.out hbz
      have HCZ := Lib.hid (fun (j : Nat) (hj : j < n2) => (show wz.cell? (Addr.add ⟨ba, oa, none⟩ j) = some (.bool (bs[j]?.getD false)) by rw [add_at, cell_below (B2.out.trans (hbz.mono B2.out.size)) hba]; exact HCA.out j hj))
      have q0 : wz.cell? ⟨w.heap.size, 0, none⟩ = some (.int .i64 al) := hrz.cell (by decide)
      have q2 : wz.cell? ⟨w.heap.size, 2, none⟩ = some (.slice (some ⟨ba, oa, none⟩) n2 c2) := hrz.cell (by decide)
      have qy0 : wz.cell? ⟨ow, 0, none⟩ = some (.int .i64 0) := hoz.cell (by decide)
      have HOZ := Lib.hid hoz
      have HBZ := Lib.hid hbz
      have HRZ := Lib.hid hrz
      have HORC := Lib.hid HHC.out
      clear hoz hbz hrz
      go_cut [7] from 23 to 30 (fun s7 wc => ∃ (ob b1 : Nat) (ao : Option Addr) (cc : Nat), s7 = .pointer (some ⟨ob, 0, none⟩) ∧ w2.heap.size ≤ ob ∧ w2.heap.size ≤ b1 ∧ b1 ≠ ob ∧ wc.rowIs ob 28 3 (fun i => #[.int .i64 C, .slice none 0 0, .slice ao n2 cc][i]?.getD undef) ∧ Below w2.heap.size w2 wc ∧ WB wc b1 (.slice ao n2 cc) bs)
      case first =>
        go_region_with (first | (go_at_call 55; refine (cloneBool_any ⟨ba, oa, none⟩ n2 c2 bs w2.drew HN2.out hbl HC2.out).mono ?_; rintro e w4 ⟨ao, cc, rfl, hown, hb4'⟩; have hb4 : Below w2.heap.size w2 w4 := ((Below.refl w2.heap.size w2).drew).trans hb4'; have hr4 := rowIs_below R2.out hb4; have p0' : w4.cell? ⟨w.heap.size, 0, none⟩ = some (.int .i64 al) := hr4.cell (by decide); have hlt4 : w.heap.size < w4.heap.size := World.rowIs.lt hr4; have hne2 : ¬ w4.heap.size = w.heap.size := Nat.ne_of_gt hlt4; have hne3 : ¬ w.heap.size = w4.heap.size := Nat.ne_of_lt hlt4; have HOWN := Lib.hid hown; have HB4 := Lib.hid hb4; clear hown hb4 hr4 hb4') | (go_at_call 55; refine (cloneBool_any ⟨ba, oa, none⟩ n2 c2 bs wz.drew HN2.out hbl HCZ.out).mono ?_; rintro e w4 ⟨ao, cc, rfl, hown, hb4'⟩; have hb4 : Below wz.heap.size wz w4 := ((Below.refl wz.heap.size wz).drew).trans hb4'; have hr4 := rowIs_below HRZ.out hb4; have p0' : w4.cell? ⟨w.heap.size, 0, none⟩ = some (.int .i64 al) := hr4.cell (by decide); have HOWN := Lib.hid hown; have ho4 := rowIs_below HOZ.out hb4; have y0 : w4.cell? ⟨ow, 0, none⟩ = some (.int .i64 0) := ho4.cell (by decide); have y1 : w4.cell? ⟨ow, 1, none⟩ = some (.slice none 0 0) := ho4.cell (by decide); have y2 : w4.cell? ⟨ow, 2, none⟩ = some (.slice none 0 0) := ho4.cell (by decide); have f0 := ho4.frozen 0; have f1 := ho4.frozen 1; have f2 := ho4.frozen 2; have HB4 := Lib.hid (HBZ.out.trans (hb4.mono HBZ.out.size)); have HO4 := Lib.hid ho4; clear hown hb4 hr4 ho4 hb4'))
        all_goals
          rw [HHC.out]
          obtain ⟨b1, hW, hWb⟩ := HOWN.out.wb
          have hWb' := hWb (by have := HN2.out; omega)
          first | (
               obtain ⟨ob, hob⟩ : ∃ ob, w4.heap.size = ob := ⟨_, rfl⟩
               obtain ⟨w5, hw5⟩ : ∃ w5, w4.alloc (.cells #[.int .i64 C, .slice none 0 0, .slice ao n2 cc] 28) = w5 := ⟨_, rfl⟩
               have hO5 := own_cells w4 #[.int .i64 C, .slice none 0 0, .slice ao n2 cc] 28 3 rfl
               have hB5 := HB4.out.alloc HB4.out.size (.cells #[.int .i64 C, .slice none 0 0, .slice ao n2 cc] 28)
               have hW5 := hW.below (below_new w4 28 #[.int .i64 C, .slice none 0 0, .slice ao n2 cc])
               rw [hob] at hO5
               rw [hw5] at hO5 hB5 hW5
               rw [hw5, hob]
               have hne5 : b1 ≠ ob := by have := hWb'.2; omega
               have hob5 : w2.heap.size ≤ ob := by rw [← hob]; exact HB4.out.size
               have hb15 : w2.heap.size ≤ b1 := hWb'.1
               clear hob hw5 hW) | (
               obtain ⟨ob, hob⟩ : ∃ ob, ow = ob := ⟨_, rfl⟩
               obtain ⟨w5, hw5⟩ : ∃ w5, (((w4.setCell ⟨ow, 0, none⟩ (.int .i64 C)).setCell ⟨ow, 1, none⟩ (.slice none 0 0)).setCell ⟨ow, 2, none⟩ (.slice ao n2 cc)) = w5 := ⟨_, rfl⟩
               have hO5 := store3 HO4.out (.int .i64 C) (.slice none 0 0) (.slice ao n2 cc)
               have hwow : w2.heap.size ≤ ow := Nat.le_of_eq how
               have hB5 := ((HB4.out.setCell (p := ⟨ow, 0, none⟩) hwow (.int .i64 C)).setCell (p := ⟨ow, 1, none⟩) hwow (.slice none 0 0)).setCell (p := ⟨ow, 2, none⟩) hwow (.slice ao n2 cc)
               have hb1z : wz.heap.size ≤ b1 := hWb'.1
               have hne5 : b1 ≠ ob := by omega
               have hob5 : w2.heap.size ≤ ob := by omega
               have hb15 : w2.heap.size ≤ b1 := by omega
               have hW5 : WB w5 b1 (.slice ao n2 cc) bs := by
                 rw [← hw5]
                 exact hW.only (Only.of_but (((But.refl ow w4).set 0 _).set 1 _ |>.set 2 _)) (fun _ h => hne5 (by rw [← hob]; exact h))
               rw [hw5, hob] at hO5
               rw [hw5] at hB5
               rw [hw5, hob]
               clear hob hw5 hW)
          go_wp2_with fail
          go_meet
          case rel => exact ⟨ob, b1, ao, cc, rfl, hob5, hb15, hne5, hO5, hB5, hW5⟩
      case rest =>
        obtain ⟨ob, b1, ao, cc, rfl, hob, hb1, hne1, hO, hB, hW⟩ := hcut
        have BC := Lib.hid (B2.out.trans (hB.mono B2.out.size))
        have RC := Lib.hid (rowIs_below R2.out hB)
        have ZC := Lib.hid (rowIs_below Z2.out hB)
        have TC := Lib.hid (rowIs_below T2.out hB)
        have hw2c : w2.heap.size ≤ wc.heap.size := hB.size
        have HO := Lib.hid hO
        have HW := Lib.hid hW
        have p1 : wc.cell? ⟨w.heap.size, 1, none⟩ = some (.slice a1 n1 c1) := RC.out.cell (by decide)
        have hlo : w.heap.size ≤ wc.heap.size := BC.out.size
        have hoblt : ob < wc.heap.size := World.rowIs.lt hO
        have hw02 : w.heap.size + 1 < w2.heap.size := World.rowIs.lt Z2.out
        clear hO hB hW HCZ HOZ HBZ HRZ q0 q2 qy0 p0 p2 hwz HC2 hbz0 how how1
        go_wp2_with fail
        go_loopw [34] (fun i wr => ∃ (k : Nat) (v : Value) (us : List Value) (Bf : Nat → Nat), k ≤ n1 ∧ us.length = k ∧ i = .int .i64 k ∧ OutK wc.heap.size wr v us Bf (extM al C xss) ∧ wr.rowIs ob 28 3 (fun i => #[.int .i64 C, v, .slice ao n2 cc][i]?.getD undef) ∧ wc.heap.size ≤ wr.heap.size ∧ Only (fun q => q = ob ∨ wc.heap.size ≤ q) wc wr) (fun i _ => n1 - (intOf i).toNat)
        case atStart => exact ⟨0, .slice none 0 0, [], fun _ => 0, by omega, rfl, rfl, ⟨World.ownsRow_nil _ _ _ _, fun i hi => by simp at hi, fun i j hi => by simp at hi⟩, HO.out, Nat.le_refl _, Only.refl _ _⟩
        case round =>
          obtain ⟨k, v, us, Bf, hk, hus, rfl, hout, hor, hsz, honly⟩ := hrel
          clear p1
          by_cases hlt : k < n1
          · obtain ⟨nr, hnr⟩ : ∃ nr, wr.heap.size = nr := ⟨_, rfl⟩
            have htr := TC.out.of_block (honly.2.2.2.2 tb (World.rowIs.lt TC.out) (by have := World.rowIs.lt TC.out; rintro (h | h) <;> omega))
            have o0 : wr.cell? ⟨ob, 0, none⟩ = some (.int .i64 C) := hor.cell (by decide)
            have HOUT := Lib.hid hout
            have HOR := Lib.hid hor
            have HON := Lib.hid honly
            have HOLD := Lib.hid (fun (i : Nat) (hi : i < us.length) (h0 : ((extM al C xss)[i]?.getD []).length ≠ 0) => (show Bf i < nr by rw [← hnr]; exact ((hout.2.1 i hi).2 h0).2.1))
            have HVB := Lib.hid (fun (q : Nat) (hq : v.ownBlock = some q) => (show wc.heap.size ≤ q ∧ q < nr by rw [← hnr]; exact World.ownsRow.lt hout.1 q hq))
            have HTR := Lib.hid htr
            have hszn : wc.heap.size ≤ nr := by omega
            have hkx : k < xss.length := by have := HN1.out; omega
            have HUS := Lib.hid hus; clear hus
            clear hout hor honly htr
            go_wp2_with fail
            refine (lettersOf_any C hC0 (by omega) _).mono ?_
            rintro e w5 ⟨ao5, cap5, rfl, hlet, hb5⟩
            obtain ⟨nl, hnl⟩ : ∃ nl, (lets C).length = nl := ⟨_, rfl⟩
            have hshape := hlet.shape
            rw [hnl] at hshape ⊢
            have hnl6 : nl ≤ 6 := by rw [← hnl]; exact lets_len C
            have H5 := Lib.hid hb5
            have h5n : nr ≤ w5.heap.size := by have := hb5.size; omega
            have HT5 := Lib.hid (rowIs_below HTR.out hb5)
            have HNL := Lib.hid hnl
            have HSH := Lib.hid hshape
            have HNR := Lib.hid hnr; clear hnr
            clear hshape hnl hlet hb5 o0
            go_wp2
            go_loopw [9, 41] (fun v9 i wr => ∃ l : Nat, l ≤ nl ∧ i = .int .i64 l ∧ (∃ ax m cx, v9 = .slice ax m cx ∧ m = ((extRow al C xss k).take l).length ∧ IRow w5.heap.size wr (.slice ax m cx) ((extRow al C xss k).take l)) ∧ Below w5.heap.size w5 wr) (fun _ i _ => nl - (intOf i).toNat)
            case atStart => exact ⟨0, by omega, rfl, ⟨none, 0, 0, rfl, rfl, IRow.nil _ _⟩, Below.refl _ _⟩
            case round =>
              obtain ⟨l, hl, rfl, ⟨ax, m, cx, rfl, hm, hown⟩, hin⟩ := hrel
              by_cases hll : l < nl
              · rcases HSH.out with ⟨h0, h1⟩ | ⟨gl, capl, hv, hgB, hglt, hgcap, hgmax, hgc, hgf⟩
                · injection h0 with h2 h3 h4
                  omega
                · injection hv with h2 h3 h4
                  subst h2 h4
                  obtain ⟨y, hy, hy6⟩ := lets_nat C l (by rw [HNL.out]; exact hll)
                  have hcl := hgc l hll
                  rw [hy] at hcl
                  rw [← cell_below hin hglt] at hcl
                  have hct := (rowIs_below HT5.out hin).cell (i := k * 6 + y) (by omega)
                  rw [show (k * 6 + y) / 6 = k by omega, show (k * 6 + y) % 6 = y by omega] at hct
                  obtain ⟨z, hz⟩ : ∃ z, goA al xss k y = z := ⟨_, rfl⟩
                  rw [hz] at hct
                  have hsnoc := extRow_take al C xss k l y (by rw [HNL.out]; exact hll) hy
                  rw [hz] at hsnoc
                  have HSN := Lib.hid hsnoc
                  have HM := Lib.hid hm; clear hm
                  have hm6 : m ≤ 6 := by have := HM.out; rw [List.length_take] at this; omega
                  unfold maxLen at hgmax
                  clear hgc hgf hz hsnoc hy
                  go_wp2_with ((at_builtin; refine app_int wr z w5.heap.size rfl rfl _ _ rfl (.slice ax m cx) ((extRow al C xss k).take l) rfl hown rfl ?_ hin.size ?_))
                  · have := HM.out; omega
                  intro ao' n' cap' w1 hn' hown' hkept
                  have HN' := Lib.hid hn'; clear hn'
                  have hbel' := hkept.1 w5 hin
                  go_wp2
                  go_roundw
                  case rel => exact ⟨l + 1, by omega, by go_num, ⟨ao', n', cap', rfl, by rw [HSN.out]; simpa using HN'.out, by rw [HSN.out]; exact hown'⟩, hbel'⟩
                  case measure => simp [intOf] <;> omega
              · obtain rfl : l = nl := by omega
                have htake : (extRow al C xss k).take l = extRow al C xss k := by
                  have := extRow_len al C xss k
                  rw [HNL.out] at this
                  rw [← this, List.take_length]
                rw [htake] at hown hm
                have HM := Lib.hid hm; clear hm
                clear htake
                have hb3 := H5.out.trans (hin.mono H5.out.size)
                have ho2 := HOUT.out.below hb3
                have hor2 := rowIs_below HOR.out hb3
                obtain ⟨gx, hwx, hgx⟩ := hown.wi
                obtain ⟨i0, hi, hz0, hz1, hz2⟩ := info_parts Try.infoRow
                have hus16 : us.length ≤ 16 := by have h1 := HUS.out; omega
                have hs2 : w5.heap.size ≤ wr.heap.size := hin.size
                have o1 : wr.cell? ⟨ob, 1, none⟩ = some v := hor2.cell (by decide)
                have HO2 := Lib.hid ho2
                have HOR2 := Lib.hid hor2
                have HWX := Lib.hid hwx
                have HGX := Lib.hid hgx
                have HB3 := Lib.hid hb3
                clear ho2 hor2 hwx hgx hb3 hown hin
                go_wp2_with ((at_builtin; refine wpList_append_lies _ rfl _ _ 22 rfl wc.heap.size 44 i0 _ 1 24 Try.underlying22 hi hz0 hz1 hz2 rfl (by decide) v us.length us rfl (World.ownsRow.alloc HO2.out.1 _) ⟨wr.heap.size, 0, none⟩ 1 1 [.slice ax m cx] rfl rfl (cell_one_new _ _ _) (by intro u hu; simp at hu; subst hu; rfl) (by decide) (by unfold maxLen; omega) (by omega) (by simp; omega) (wr.heap.size + 1) (by simp) ?_))
                intro g cg w3 hown3 hgrow hat hlt3
                have hkeep3 : ∀ q, q < wr.heap.size → v.ownBlock ≠ some q → w3.heap[q]? = wr.heap[q]? := by
                  intro q hq hne
                  rw [hgrow.block q (by simp; omega) (fun h => hne h.symm)]
                  exact Below.heap_alloc wr _ q hq
                have hobne : v.ownBlock ≠ some ob := fun h => by have := (HVB.out ob h).1; omega
                have hgob : g ≠ ob := by
                  rcases hat with hat | hat
                  · intro h; subst h; exact hobne hat
                  · omega
                have hor3 := HOR2.out.of_block (hkeep3 ob (by omega) hobne)
                have s1 : w3.cell? ⟨ob, 1, none⟩ = some v := hor3.cell (by decide)
                have s2 := hor3.frozen 1
                have hsz3 : wr.heap.size + 1 ≤ w3.heap.size := by have := hgrow.size; simpa using this
                have HOR3 := Lib.hid hor3
                have HOWN3 := Lib.hid hown3
                have HKEEP := Lib.hid hkeep3
                have HAT := Lib.hid hat
                have HGR := Lib.hid hgrow
                clear hor3 hown3 hkeep3 hat hgrow o1
                go_wp2
                go_roundw
                case rel =>
                  have hkeep4 : ∀ q, q < wr.heap.size → v.ownBlock ≠ some q → q ≠ ob → (w3.setCell ⟨ob, 1, none⟩ (.slice (some ⟨g, 0, none⟩) (us.length + 1) cg)).heap[q]? = wr.heap[q]? := by
                    intro q hq h1 h2
                    rw [Below.heap_setCell _ _ _ _ h2]
                    exact HKEEP.out q hq h1
                  refine ⟨k + 1, .slice (some ⟨g, 0, none⟩) (us.length + 1) cg, us ++ [.slice ax m cx], fun j => if j = us.length then gx else Bf j, by omega, by simp [HUS.out], by go_num, ?_, ?_, by simp; omega, ?_⟩
                  · refine OutK.more (n2' := nr) HO2.out hoblt (by omega) (by rw [HUS.out]; exact extM_at al C xss k hkx) HWX.out (fun h0 => by have := HGX.out h0; omega) hszn HOLD.out (fun q hq => (HVB.out q hq).2) (ownsRow_set HOWN3.out _ (fun h => hgob h.symm) _) HAT.out hkeep4 (by simp; omega)
                  · exact (HOR3.out.set 1 _).congr (fun j hj => by
                      obtain rfl | rfl | rfl : j = 0 ∨ j = 1 ∨ j = 2 := by omega
                      all_goals rfl)
                  · refine HON.out.trans ⟨?_, ?_, ?_, ?_, fun q hq hn => ?_⟩
                    · exact HGR.out.os.trans HB3.out.os
                    · exact HGR.out.tape.trans HB3.out.tape
                    · exact HGR.out.output.trans HB3.out.output
                    · have := HB3.out.size; simp; omega
                    · rw [hkeep4 q (by have := HB3.out.size; omega) (fun h => hn (.inr (HVB.out q h).1)) (fun h => hn (.inl h))]
                      exact HB3.out.block q hq
                case measure => simp [intOf] <;> omega
          · obtain rfl : k = n1 := by omega
            have hbelr : Below w.heap.size w wr := honly.below BC.out (fun q hq => by rcases hq with rfl | hq <;> omega) hlo
            obtain ⟨g, cg, rfl, hg1, hg2⟩ := World.ownsRow.form hout.1 (by rw [hus]; omega)
            have hz := ZC.out.of_block (honly.2.2.2.2 (w.heap.size + 1) (World.rowIs.lt ZC.out) (by have hzlt := World.rowIs.lt ZC.out; rintro (h | h) <;> omega))
            have z0 : wr.cell? ⟨w.heap.size + 1, 0, none⟩ = some (.int .i64 0) := hz.cell (by decide)
            have z1 : wr.cell? ⟨w.heap.size + 1, 1, none⟩ = some (.slice none 0 0) := hz.cell (by decide)
            have z2 : wr.cell? ⟨w.heap.size + 1, 2, none⟩ = some (.slice none 0 0) := hz.cell (by decide)
            have zf0 := hz.frozen 0
            have zf1 := hz.frozen 1
            have zf2 := hz.frozen 2
            have o0 : wr.cell? ⟨ob, 0, none⟩ = some (.int .i64 C) := hor.cell (by decide)
            have o1 : wr.cell? ⟨ob, 1, none⟩ = some (.slice (some ⟨g, 0, none⟩) us.length cg) := hor.cell (by decide)
            have o2 : wr.cell? ⟨ob, 2, none⟩ = some (.slice ao n2 cc) := hor.cell (by decide)
            have HOUT := Lib.hid hout
            have HON := Lib.hid honly
            have HBR := Lib.hid hbelr
            have HZR := Lib.hid hz
            clear hout honly hbelr hz hor
            have HUS := Lib.hid hus; clear hus
            go_wp2
            obtain ⟨wf, hwf⟩ : ∃ wf, (((wr.setCell ⟨w.heap.size + 1, 0, none⟩ (.int .i64 C)).setCell ⟨w.heap.size + 1, 1, none⟩ (.slice (some ⟨g, 0, none⟩) us.length cg)).setCell ⟨w.heap.size + 1, 2, none⟩ (.slice ao n2 cc)) = wf := ⟨_, rfl⟩
            have hfin := store3 HZR.out (.int .i64 C) (.slice (some ⟨g, 0, none⟩) us.length cg) (.slice ao n2 cc)
            have hbut : But (w.heap.size + 1) wr wf := by rw [← hwf]; exact (((But.refl (w.heap.size + 1) wr).set 0 _).set 1 _).set 2 _
            rw [hwf] at hfin ⊢
            clear hwf
            have f0 : wf.cell? ⟨w.heap.size + 1, 0, none⟩ = some (.int .i64 C) := hfin.cell (by decide)
            have f1 : wf.cell? ⟨w.heap.size + 1, 1, none⟩ = some (.slice (some ⟨g, 0, none⟩) us.length cg) := hfin.cell (by decide)
            have f2 : wf.cell? ⟨w.heap.size + 1, 2, none⟩ = some (.slice ao n2 cc) := hfin.cell (by decide)
            refine bodyPost_ret (v := .tuple #[.agg #[.int .i64 C, .slice (some ⟨g, 0, none⟩) us.length cg, .slice ao n2 cc], .bool true]) ?_ rfl ?_
            · simp [results, Try.results30, go_sem, f0, f1, f2]
            · have hn : us.length = (extM al C xss).length := by rw [HUS.out, extM_len, HN1.out]
              have hb1lt : b1 < wc.heap.size := by
                obtain ⟨q1, q2, q3, q4, q5, q6⟩ := HW.out
                rcases q6 with q6 | ⟨-, q6, -⟩
                · have := HN2.out; omega
                · exact q6
              have ho := Only.of_but hbut
              have hwb := (HW.out.only HON.out (fun _ h => by rcases h with h | h <;> omega)).only ho (fun _ h => by omega)
              have hbl2 : ∀ i, i < (extM al C xss).length → ((extM al C xss)[i]?.getD []).length ≠ 0 → wc.heap.size ≤ Bf i ∧ Bf i < wr.heap.size ∧ g ≠ Bf i := by
                intro i hi h0
                obtain ⟨q1, q2, q3⟩ := (HOUT.out.2.1 i (by rw [hn]; exact hi)).2 h0
                exact ⟨q1, q2, fun h => q3 (by rw [← h]; rfl)⟩
              refine ⟨g, b1, Bf, _, _, rfl, ⟨?_, hwb, by omega, fun i hi h0 => by have := (hbl2 i hi h0).1; omega, fun i hi h0 => by have h1 := (hbl2 i hi h0).2.1; have h2 := hbut.2.2.2.1; omega⟩, by omega, by omega, fun i hi h0 => by have := (hbl2 i hi h0).1; omega, ?_⟩
              · refine ⟨some ⟨g, 0, none⟩, cg, by rw [hn], ?_, ?_, .inr ⟨0, rfl, by have := hbut.2.2.2.1; omega, fun i hi => ?_⟩, fun i j hi hj h1 h2 he => HOUT.out.2.2 i j (by rw [hn]; exact hi) (by rw [hn]; exact hj) h1 h2 he, fun i hi h0 => fun h => (hbl2 i hi h0).2.2 h.symm⟩
                · rcases HOUT.out.1.2 with ⟨q, -⟩ | ⟨g', cap', cur, hv', hB', hg', hc', hm', hs', ht'⟩
                  · cases q
                  · injection hv' with q1 q2 q3
                    rw [← hn, q3]; exact hc'
                · rcases HOUT.out.1.2 with ⟨q, -⟩ | ⟨g', cap', cur, hv', hB', hg', hc', hm', hs', ht'⟩
                  · cases q
                  · injection hv' with q1 q2 q3
                    rw [q3]; exact hm'
                · have hi' : i < us.length := by rw [hn]; exact hi
                  refine ⟨us[i]?.getD undef, ?_, (HOUT.out.2.1 i hi').1.only ho (fun h0 => by have := (hbl2 i hi h0).1; omega)⟩
                  rw [Nat.zero_add, World.cell?_of_block (w := wr) (w' := wf) (a := ⟨g, i, none⟩) (hbut.2.2.2.2 g hg2 (by omega))]
                  rw [World.ownsRow.cellAt HOUT.out.1 i (by omega)]
                  simp [List.getElem?_eq_getElem hi']
              · exact hbut.below HBR.out (by omega) (by have := HBR.out.size; omega)
end Go.Proofs.Ytagegbhchljggaa
