/- AutomatonValid, the reference's. -/
import Derived.Test.YtagegbhchljggaaAut
import Derived.Deep.RegionWith
namespace Go.Proofs.Ytagegbhchljggaa
open Go.RowKit
set_option linter.unusedVariables false
set_option linter.unusedSimpArgs false
set_option maxRecDepth 100000

set_option maxHeartbeats 4000000 in
theorem specAutValid_any (al : Int) (a1 : Option Addr) (n1 c1 : Nat) (a2 : Option Addr) (n2 c2 : Nat) (xss : List (List Int)) (bs : List Bool) (w : World) (h : MV w (.slice a1 n1 c1) xss) (hb : BV w (.slice a2 n2 c2) bs) :
    Calls Try.prog 13 #[.agg #[.int .i64 al, .slice a1 n1 c1, .slice a2 n2 c2]] w (RB (.bool (autV al xss bs)) w) := by
  obtain ⟨hn, hcap, hmax, hcell⟩ := SV.at h
  obtain ⟨hn2, hcap2, hmax2, -⟩ := SV.at hb
  unfold maxLen at hmax hmax2
  clear h hb
  have hbel0 : Below w.heap.size w (w.alloc (.cells #[.int .i64 al, .slice a1 n1 c1, .slice a2 n2 c2] 28)) := (Below.refl _ _).alloc (Nat.le_refl _) _
  have HB0 := Lib.hid hbel0
  clear hbel0
  cases ha : isA al with
  | false =>
    have hr := autV_no1 al xss bs ha
    have HR := Lib.hid hr; clear hr
    have HA := Lib.hid ha; clear ha
    clear hn hn2 hcell
    go_enter Try.func13, Try.ntmps13
    go_wp2_with (go_at_call 34; (with_reducible refine (l1Alphabet_any al _).mono ?_); rintro e w' ⟨rfl, rfl⟩; rw [HA.out])
    go_ret
    exact ⟨ret_bool HR.out.symm, HB0.out⟩
  | true =>
    obtain ⟨h0, h1⟩ := (isA_iff al).1 ha
    by_cases hc1 : n1 < 1
    · have hr := autV_no2 al xss bs (by omega)
      have HR := Lib.hid hr; clear hr
      have HA := Lib.hid ha; clear ha
      clear hn hn2 hcell
      go_enter Try.func13, Try.ntmps13
      go_wp2_with (go_at_call 34; (with_reducible refine (l1Alphabet_any al _).mono ?_); rintro e w' ⟨rfl, rfl⟩; rw [HA.out])
      go_ret
      exact ⟨ret_bool HR.out.symm, HB0.out⟩
    by_cases hc2 : 12 < n1
    · have hr := autV_no2 al xss bs (by omega)
      have HR := Lib.hid hr; clear hr
      have HA := Lib.hid ha; clear ha
      clear hn hn2 hcell
      go_enter Try.func13, Try.ntmps13
      go_wp2_with (go_at_call 34; (with_reducible refine (l1Alphabet_any al _).mono ?_); rintro e w' ⟨rfl, rfl⟩; rw [HA.out])
      go_ret
      exact ⟨ret_bool HR.out.symm, HB0.out⟩
    by_cases hc3 : n2 = n1
    · have hr := autV_go al xss bs ha (by omega)
      subst hc3
      have HR := Lib.hid hr; clear hr
      have HA := Lib.hid ha; clear ha
      have HC := Lib.hid hcell; clear hcell
      have HN := Lib.hid hn; clear hn
      have hd1 : decide ((n2 : Int) < 1) = false := by simp; omega
      have hd2 : decide ((12 : Int) < (n2 : Int)) = false := by simp; omega
      clear hn2
      go_enter Try.func13, Try.ntmps13
      go_wp2_with (go_at_call 34; (with_reducible refine (l1Alphabet_any al _).mono ?_); rintro e w' ⟨rfl, rfl⟩; rw [HA.out])
      go_loopw [4] (fun i wr => ∃ k : Nat, k ≤ n2 ∧ i = .int .i64 k ∧ (xss.take k).all (fun l => rowOK l (lets al).length xss.length) = true ∧ Below w.heap.size w wr ∧ wr.rowIs w.heap.size 28 3 (fun i => #[.int .i64 al, .slice a1 n2 c1, .slice a2 n2 c2][i]?.getD undef)) (fun i _ => n2 - (intOf i).toNat)
      case atStart => exact ⟨0, by omega, rfl, by simp, HB0.out, agg3_cell _ _ _ _ _⟩
      case round =>
        obtain ⟨k, hk, rfl, hall, hbel, hrow⟩ := hrel
        have HALL := Lib.hid hall; clear hall
        by_cases hlt : k < n2
        · rcases HC.out with h0 | ⟨b, off, rfl, hb, hc⟩
          · omega
          · obtain ⟨u, hu, hv⟩ := hc k hlt
            clear hc
            obtain ⟨x, hx⟩ : ∃ x, xss[k]?.getD [] = x := ⟨_, rfl⟩
            rw [hx] at hv
            have HX := Lib.hid hx; clear hx
            obtain ⟨a3, n3, c3, rfl⟩ : ∃ a n c, u = .slice a n c := by obtain ⟨a, c, e, -⟩ := hv; exact ⟨a, _, c, e⟩
            have e0 : wr.cell? ⟨w.heap.size, 0, none⟩ = some (.int .i64 al) := hrow.cell (by decide)
            have e1 : wr.cell? ⟨w.heap.size, 1, none⟩ = some (.slice (some ⟨b, off, none⟩) n2 c1) := hrow.cell (by decide)
            have e2 : wr.cell? ⟨b, off + k, none⟩ = some (.slice a3 n3 c3) := by rw [cell_below hbel hb]; exact hu
            have HV := Lib.hid (IV.below hv hbel)
            have HLT := Lib.hid (World.rowIs.lt hrow)
            have HROW := Lib.hid hrow
            have HBEL := Lib.hid hbel
            have hlen := lets_len al
            clear hu hv hrow hbel
            obtain ⟨bb, hh⟩ : ∃ bb, rowOK x (lets al).length n2 = bb := ⟨_, rfl⟩
            have HH := Lib.hid hh; clear hh
            go_wp2_with fail
            go_region_with (first | (go_at_call 36; refine (l1Letters_any al h0 (by omega) _).mono ?_; rintro e w5 ⟨ao5, cap5, rfl, -, hb5⟩; have hb6 := ((Below.refl wr.heap.size wr).drew).trans hb5; have e0' : w5.cell? ⟨w.heap.size, 0, none⟩ = some (.int .i64 al) := by {rw [cell_below hb6 HLT.out]; exact e0}; have e1' : w5.cell? ⟨w.heap.size, 1, none⟩ = some (.slice (some ⟨b, off, none⟩) n2 c1) := by {rw [cell_below hb6 HLT.out]; exact e1}; have e2' : w5.cell? ⟨b, off + k, none⟩ = some (.slice a3 n3 c3) := by {rw [cell_below hb6 (Nat.lt_trans hb HLT.out)]; exact e2}; have HB6 := Lib.hid hb6; clear hb5 hb6) | (go_at_call 35; refine (l3Row_any a3 n3 c3 x (lets al).length n2 (by omega) (by omega) _ (IV.below HV.out HB6.out)).mono ?_; rintro e w7 ⟨rfl, rfl⟩; rw [HH.out]))
            all_goals
              have hbel7 := HBEL.out.trans (HB6.out.mono HBEL.out.size)
              have hrow7 := rowIs_below HROW.out HB6.out
              cases bb with
              | true =>
                go_wp2
                go_roundw
                case rel => exact ⟨k + 1, by omega, by go_num, take_succ_all [] _ xss k (by rw [← HN.out]; exact hlt) HALL.out (by rw [HX.out, ← HN.out]; exact HH.out), hbel7, hrow7⟩
                case measure => simp [intOf] <;> omega
              | false =>
                go_wp2
                go_ret
                exact ⟨ret_bool (by rw [HR.out]; exact (all_no [] _ xss k (by rw [← HN.out]; exact hlt) (by rw [HX.out, ← HN.out]; exact HH.out)).symm), hbel7⟩
        · go_wp2
          go_ret
          obtain rfl : k = n2 := by omega
          exact ⟨ret_bool (by rw [HR.out, ← HALL.out, List.take_of_length_le (by rw [← HN.out]; exact Nat.le_refl _)]), hbel⟩
    · have hr := autV_no2 al xss bs (by omega)
      have hc3' : ((n2 : Int) != (n1 : Int)) = true := by simp; omega
      have HR := Lib.hid hr; clear hr
      have HA := Lib.hid ha; clear ha
      clear hn hn2 hcell
      go_enter Try.func13, Try.ntmps13
      go_wp2_with (go_at_call 34; (with_reducible refine (l1Alphabet_any al _).mono ?_); rintro e w' ⟨rfl, rfl⟩; rw [HA.out])
      go_ret
      exact ⟨ret_bool HR.out.symm, HB0.out⟩

end Go.Proofs.Ytagegbhchljggaa
