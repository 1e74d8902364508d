/- AcceptsWord on both sides. -/
import Derived.Test.YtagegbhchljggaaRun
namespace Go.Proofs.Ytagegbhchljggaa
open Go.RowKit
set_option linter.unusedVariables false
set_option linter.unusedSimpArgs false
set_option maxRecDepth 100000

/-- What AcceptsWord computes. -/
def accA (al : Int) (xss : List (List Int)) (bs : List Bool) (l : List UInt8) : Bool := decide (0 ≤ afterA al xss bs l) && bs[(afterA al xss bs l).toNat]?.getD false
theorem afterA_bd (al : Int) (xss : List (List Int)) (bs : List Bool) (l : List UInt8) : afterA al xss bs l = -1 ∨ ∃ q : Nat, afterA al xss bs l = q ∧ q < bs.length := by
  unfold afterA
  split
  · rename_i h
    right
    refine ⟨_, rfl, ?_⟩
    rw [(autV_facts h.1).2.2.2.1]
    exact runA_bd h.1 _ (List.all_eq_true.1 (within_all h.2))
  · exact .inl rfl
set_option maxHeartbeats 1000000 in
theorem implAcc_any (al : Int) (a1 : Option Addr) (n1 c1 : Nat) (a2 : Option Addr) (n2 c2 : Nat) (xss : List (List Int)) (bs : List Bool) (s : ByteArray) (hs : s.size ≤ 9223372036854775807) (w : World) (h : MV w (.slice a1 n1 c1) xss) (hb : BV w (.slice a2 n2 c2) bs) :
    Calls Try.prog 22 #[.agg #[.int .i64 al, .slice a1 n1 c1, .slice a2 n2 c2], .string s] w (RB (.bool (accA al xss bs s.data.toList)) w) := by
  have B0 := Lib.hid (below_new w 28 #[.int .i64 al, .slice a1 n1 c1, .slice a2 n2 c2])
  have R0 := Lib.hid (agg3_cell w al (.slice a1 n1 c1) (.slice a2 n2 c2) 28)
  have HBV := Lib.hid hb
  obtain ⟨hn2, hcap2, hmax2, hcell2⟩ := SV.at hb
  unfold maxLen at hmax2
  have H := Lib.hid h; clear h
  have HN2 := Lib.hid hn2; clear hn2
  have HC2 := Lib.hid hcell2; clear hcell2
  clear hb
  rcases afterA_bd al xss bs s.data.toList with ha | ⟨q, ha, hq⟩
  · have hr : accA al xss bs s.data.toList = false := by unfold accA; rw [ha]; rfl
    have HR := Lib.hid hr; clear hr
    have HA := Lib.hid ha; clear ha
    go_enter Try.func22, Try.ntmps22
    go_wp2_with fail
    refine (implAfter_any al a1 n1 c1 a2 n2 c2 xss bs s hs _ (MV.below H.out B0.out) (BV.below HBV.out B0.out)).mono ?_
    rintro e w1 ⟨rfl, hb1⟩
    rw [HA.out]
    have B1 := Lib.hid (B0.out.trans (hb1.mono B0.out.size))
    clear hb1
    go_wp2
    go_ret
    exact ⟨ret_bool HR.out.symm, B1.out⟩
  · have hr : accA al xss bs s.data.toList = bs[q]?.getD false := by unfold accA; rw [ha]; simp
    rcases HC2.out with h0 | ⟨b, off, rfl, hb, hc⟩
    · have := HN2.out; omega
    · have hqn : q < n2 := by rw [HN2.out]; exact hq
      obtain ⟨u, hu, rfl⟩ := hc q hqn
      clear hc
      obtain ⟨bb, hbb⟩ : ∃ bb, bs[q]?.getD false = bb := ⟨_, rfl⟩
      rw [hbb] at hu hr
      have HR := Lib.hid hr; clear hr
      have HA := Lib.hid ha; clear ha
      have HU := Lib.hid hu; clear hu
      clear hbb
      go_enter Try.func22, Try.ntmps22
      go_wp2_with fail
      refine (implAfter_any al _ n1 c1 _ n2 c2 xss bs s hs _ (MV.below H.out B0.out) (BV.below HBV.out B0.out)).mono ?_
      rintro e w1 ⟨rfl, hb1⟩
      rw [HA.out]
      have B1 := Lib.hid (B0.out.trans (hb1.mono B0.out.size))
      have R1 := rowIs_below R0.out hb1
      have c2' : w1.cell? ⟨w.heap.size, 2, none⟩ = some (.slice (some ⟨b, off, none⟩) n2 c2) := R1.cell (by decide)
      have d2 : w1.cell? ⟨b, off + q, none⟩ = some (.bool bb) := by rw [cell_below B1.out hb]; exact HU.out
      clear hb1 R1
      go_wp2
      go_ret
      exact ⟨ret_bool HR.out.symm, B1.out⟩
set_option maxHeartbeats 1000000 in
theorem specAcc_any (al : Int) (a1 : Option Addr) (n1 c1 : Nat) (a2 : Option Addr) (n2 c2 : Nat) (xss : List (List Int)) (bs : List Bool) (s : ByteArray) (hs : s.size ≤ 9223372036854775807) (w : World) (h : MV w (.slice a1 n1 c1) xss) (hb : BV w (.slice a2 n2 c2) bs) :
    Calls Try.prog 21 #[.agg #[.int .i64 al, .slice a1 n1 c1, .slice a2 n2 c2], .string s] w (RB (.bool (accA al xss bs s.data.toList)) w) := by
  have B0 := Lib.hid (below_new w 28 #[.int .i64 al, .slice a1 n1 c1, .slice a2 n2 c2])
  have R0 := Lib.hid (agg3_cell w al (.slice a1 n1 c1) (.slice a2 n2 c2) 28)
  have HBV := Lib.hid hb
  obtain ⟨hn2, hcap2, hmax2, hcell2⟩ := SV.at hb
  unfold maxLen at hmax2
  have H := Lib.hid h; clear h
  have HN2 := Lib.hid hn2; clear hn2
  have HC2 := Lib.hid hcell2; clear hcell2
  clear hb
  rcases afterA_bd al xss bs s.data.toList with ha | ⟨q, ha, hq⟩
  · have hr : accA al xss bs s.data.toList = false := by unfold accA; rw [ha]; rfl
    have HR := Lib.hid hr; clear hr
    have HA := Lib.hid ha; clear ha
    go_enter Try.func21, Try.ntmps21
    go_wp2_with fail
    refine (specAfter_any al a1 n1 c1 a2 n2 c2 xss bs s hs _ (MV.below H.out B0.out) (BV.below HBV.out B0.out)).mono ?_
    rintro e w1 ⟨rfl, hb1⟩
    rw [HA.out]
    have B1 := Lib.hid (B0.out.trans (hb1.mono B0.out.size))
    clear hb1
    go_wp2
    go_ret
    exact ⟨ret_bool HR.out.symm, B1.out⟩
  · have hr : accA al xss bs s.data.toList = bs[q]?.getD false := by unfold accA; rw [ha]; simp
    rcases HC2.out with h0 | ⟨b, off, rfl, hb, hc⟩
    · have := HN2.out; omega
    · have hqn : q < n2 := by rw [HN2.out]; exact hq
      obtain ⟨u, hu, rfl⟩ := hc q hqn
      clear hc
      obtain ⟨bb, hbb⟩ : ∃ bb, bs[q]?.getD false = bb := ⟨_, rfl⟩
      rw [hbb] at hu hr
      have HR := Lib.hid hr; clear hr
      have HA := Lib.hid ha; clear ha
      have HU := Lib.hid hu; clear hu
      clear hbb
      go_enter Try.func21, Try.ntmps21
      go_wp2_with fail
      refine (specAfter_any al _ n1 c1 _ n2 c2 xss bs s hs _ (MV.below H.out B0.out) (BV.below HBV.out B0.out)).mono ?_
      rintro e w1 ⟨rfl, hb1⟩
      rw [HA.out]
      have B1 := Lib.hid (B0.out.trans (hb1.mono B0.out.size))
      have R1 := rowIs_below R0.out hb1
      have c2' : w1.cell? ⟨w.heap.size, 2, none⟩ = some (.slice (some ⟨b, off, none⟩) n2 c2) := R1.cell (by decide)
      have d2 : w1.cell? ⟨b, off + q, none⟩ = some (.bool bb) := by rw [cell_below B1.out hb]; exact HU.out
      clear hb1 R1
      go_wp2
      go_ret
      exact ⟨ret_bool HR.out.symm, B1.out⟩
end Go.Proofs.Ytagegbhchljggaa
