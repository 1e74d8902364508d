/- l3Run and StateAfter on both sides. -/
import Derived.Test.YtagegbhchljggaaGo
import Derived.Test.YtagegbhchljggaaAutS
import Derived.Test.YtagegbhchljggaaAutI
namespace Go.Proofs.Ytagegbhchljggaa
open Go.RowKit
set_option linter.unusedVariables false
set_option linter.unusedSimpArgs false
set_option maxRecDepth 100000

/-- The state to which a word leads. -/
def runA (al : Int) (xss : List (List Int)) (l : List UInt8) : Nat := l.foldl (fun q c => (goA al xss q (ltr c).toNat).toNat) 0
theorem runA_snoc (al : Int) (xss : List (List Int)) (l : List UInt8) (c : UInt8) : runA al xss (l ++ [c]) = (goA al xss (runA al xss l) (ltr c).toNat).toNat := by simp [runA, List.foldl_append]
theorem autV_facts {al : Int} {xss : List (List Int)} {bs : List Bool} (h : autV al xss bs = true) : isA al = true ∧ 1 ≤ xss.length ∧ xss.length ≤ 12 ∧ bs.length = xss.length ∧ (∀ l ∈ xss, l.length = (lets al).length) ∧ ∀ l ∈ xss, ∀ q ∈ l, 0 ≤ q ∧ q < (xss.length : Int) := by
  unfold autV at h
  simp only [Bool.and_eq_true, decide_eq_true_eq, List.all_eq_true, rowOK] at h
  obtain ⟨h1, ⟨h2, h3, h4⟩, h5⟩ := h
  exact ⟨h1, h2, h3, h4, fun l hl => (h5 l hl).1, fun l hl => (h5 l hl).2⟩
theorem goA_bd {al : Int} {xss : List (List Int)} {bs : List Bool} (h : autV al xss bs = true) (q x : Nat) (hq : q < xss.length) (hx : x < 6) : 0 ≤ goA al xss q x ∧ goA al xss q x < (xss.length : Int) := by
  obtain ⟨ha, h1, h2, h3, h4, h5⟩ := autV_facts h
  unfold goA
  split
  · rename_i hh
    have hpl := (idx_place al (x : Int) ha (by omega) (by omega) hh).2.1
    have hm : (xss[q]?.getD []) ∈ xss := by rw [List.getElem?_eq_getElem hq, Option.getD_some]; exact List.getElem_mem _
    generalize (xss[q]?.getD []) = r at hm ⊢
    refine h5 _ hm _ ?_
    rw [List.getElem?_eq_getElem (by rw [h4 _ hm]; exact hpl), Option.getD_some]
    exact List.getElem_mem _
  · omega
theorem runA_bd {al : Int} {xss : List (List Int)} {bs : List Bool} (h : autV al xss bs = true) (l : List UInt8) (hl : ∀ c ∈ l, okL al c = true) : runA al xss l < xss.length := by
  obtain ⟨ha, h1, -⟩ := autV_facts h
  have key : ∀ (l : List UInt8) (q : Nat), (∀ c ∈ l, okL al c = true) → q < xss.length → l.foldl (fun q c => (goA al xss q (ltr c).toNat).toNat) q < xss.length := by
    intro l
    induction l with
    | nil => intro q _ hq; exact hq
    | cons c r ih =>
      intro q hl hq
      rw [List.foldl_cons]
      refine ih _ (fun c hc => hl c (List.mem_cons_of_mem _ hc)) ?_
      have := goA_bd h q (ltr c).toNat hq (by have := ltr_lt c; have := okL_nonneg (hl c (List.mem_cons_self ..)); omega)
      omega
  exact key l 0 hl (by omega)
/-- What StateAfter computes. -/
def afterA (al : Int) (xss : List (List Int)) (bs : List Bool) (l : List UInt8) : Int := if autV al xss bs = true ∧ within l al = true then (runA al xss l : Int) else -1

set_option maxHeartbeats 2000000 in
theorem l3Run_any (al : Int) (a1 : Option Addr) (n1 c1 : Nat) (a2 : Option Addr) (n2 c2 : Nat) (xss : List (List Int)) (bs : List Bool) (s : ByteArray) (hs : s.size ≤ 9223372036854775807) (w : World) (h : MV w (.slice a1 n1 c1) xss) (hv : autV al xss bs = true) (hw : s.data.toList.all (okL al) = true) :
    Calls Try.prog 44 #[.agg #[.int .i64 al, .slice a1 n1 c1, .slice a2 n2 c2], .int .i64 0, .string s] w (RB (.int .i64 (runA al xss s.data.toList : Nat)) w) := by
  obtain ⟨ha, hx1, hx2, hx3, hx4, hx5⟩ := autV_facts hv
  have hn := (SV.at h).1
  have hbel0 := Lib.hid (below_new w 28 #[.int .i64 al, .slice a1 n1 c1, .slice a2 n2 c2])
  have hR := Lib.hid (agg3_cell w al (.slice a1 n1 c1) (.slice a2 n2 c2) 28)
  have H := Lib.hid h; clear h
  have HV := Lib.hid hv; clear hv
  have HW := Lib.hid hw; clear hw
  have HROWS := Lib.hid hx4; clear hx4
  have HA := Lib.hid ha; clear ha
  have HN := Lib.hid hn
  have hn12 : n1 ≤ 12 := by omega
  clear hx5 hx3 hn hx1 hx2
  go_enter Try.func44, Try.ntmps44
  go_wp2
  go_loopw [1, 7] (fun v i wr => ∃ k : Nat, k ≤ s.size ∧ i = .int .i64 k ∧ v = .int .i64 (runA al xss (s.data.toList.take k) : Nat) ∧ Below w.heap.size w wr ∧ wr.rowIs w.heap.size 28 3 (fun i => #[.int .i64 al, .slice a1 n1 c1, .slice a2 n2 c2][i]?.getD undef)) (fun _ i _ => s.size - (intOf i).toNat)
  case atStart => exact ⟨0, by omega, rfl, rfl, hbel0.out, hR.out⟩
  case round =>
    obtain ⟨k, hk, rfl, rfl, hbel, hrow⟩ := hrel
    by_cases hlt : k < s.size
    · obtain ⟨c, hc⟩ : ∃ c, s[k] = c := ⟨_, rfl⟩
      have hok : okL al c = true := by rw [← hc]; exact all_at s (okL al) k hlt HW.out
      have hc0 := okL_nonneg hok
      have hc6 := ltr_lt c
      have hsub : (c.toNat : Int) - 97 = ((ltr c).toNat : Int) := by rw [ltr_of_ok hc0]; omega
      have hx6 : (ltr c).toNat < 6 := by omega
      obtain ⟨x, hx⟩ : ∃ x, (ltr c).toNat = x := ⟨_, rfl⟩
      rw [hx] at hsub hx6
      obtain ⟨q, hq⟩ : ∃ q, runA al xss (s.data.toList.take k) = q := ⟨_, rfl⟩
      have hqn : q < n1 := by
        rw [← hq, HN.out]
        exact runA_bd HV.out _ (fun d hd => List.all_eq_true.1 HW.out d (List.mem_of_mem_take hd))
      have hgb := goA_bd HV.out q x (by rw [← HN.out]; exact hqn) hx6
      obtain ⟨y, hy⟩ := Int.eq_ofNat_of_zero_le hgb.1
      have hstep : runA al xss (s.data.toList.take (k + 1)) = y := by
        rw [take_snoc s k hlt, runA_snoc, hq, hc, hx, hy]; rfl
      rw [hq]
      have c0 : wr.cell? ⟨w.heap.size, 0, none⟩ = some (.int .i64 al) := hrow.cell (by decide)
      have c1' : wr.cell? ⟨w.heap.size, 1, none⟩ = some (.slice a1 n1 c1) := hrow.cell (by decide)
      have c2' : wr.cell? ⟨w.heap.size, 2, none⟩ = some (.slice a2 n2 c2) := hrow.cell (by decide)
      have HM := Lib.hid (MV.below H.out hbel)
      have HBEL := Lib.hid hbel
      have HROW := Lib.hid hrow
      have HC := Lib.hid hc; clear hc
      have HSUB := Lib.hid hsub; clear hsub
      have HST := Lib.hid hstep; clear hstep
      have HY := Lib.hid hy; clear hy
      clear hbel hrow hok hq hx hgb hc0 hc6
      go_wp2_with fail
      go_region_with (first | (go_at_call 65; refine (l1At_c s k c hlt HC hs _).mono ?_; rintro e w5 ⟨rfl, rfl⟩; rw [HSUB.out]) | (go_at_call 54; refine (l3Go_any al a1 n1 c1 a2 n2 c2 xss _ HA.out (MV.drew HM.out) HROWS.out q hqn hn12 x hx6).mono ?_; rintro e w6 ⟨rfl, hb6⟩; rw [HY.out]; have HB6 := Lib.hid (((Below.refl wr.heap.size wr).drew).trans hb6); clear hb6))
      all_goals
        go_wp2
        go_roundw
        case rel => exact ⟨k + 1, by omega, by go_num, by rw [HST.out], HBEL.out.trans (HB6.out.mono HBEL.out.size), rowIs_below HROW.out HB6.out⟩
        case measure => simp [intOf] <;> omega
    · go_wp2
      go_ret
      obtain rfl : k = s.size := by omega
      exact ⟨ret_int (by rw [take_all]), hbel⟩

theorem afterA_no (al : Int) (xss : List (List Int)) (bs : List Bool) (l : List UInt8) (h : autV al xss bs = false) : afterA al xss bs l = -1 := by simp [afterA, h]
theorem afterA_no2 (al : Int) (xss : List (List Int)) (bs : List Bool) (l : List UInt8) (h : within l al = false) : afterA al xss bs l = -1 := by simp [afterA, h]
theorem afterA_yes (al : Int) (xss : List (List Int)) (bs : List Bool) (l : List UInt8) (h : autV al xss bs = true) (h2 : within l al = true) : afterA al xss bs l = runA al xss l := by simp [afterA, h, h2]
theorem within_all {l : List UInt8} {al : Int} (h : within l al = true) : l.all (okL al) = true := by
  unfold within at h
  simp only [Bool.and_eq_true] at h
  exact h.2

set_option maxHeartbeats 1000000 in
theorem specAfter_any (al : Int) (a1 : Option Addr) (n1 c1 : Nat) (a2 : Option Addr) (n2 c2 : Nat) (xss : List (List Int)) (bs : List Bool) (s : ByteArray) (hs : s.size ≤ 9223372036854775807) (w : World) (h : MV w (.slice a1 n1 c1) xss) (hb : BV w (.slice a2 n2 c2) bs) :
    Calls Try.prog 19 #[.agg #[.int .i64 al, .slice a1 n1 c1, .slice a2 n2 c2], .string s] w (RB (.int .i64 (afterA al xss bs s.data.toList)) w) := by
  have B0 := Lib.hid (below_new w 28 #[.int .i64 al, .slice a1 n1 c1, .slice a2 n2 c2])
  have R0 := Lib.hid (agg3_cell w al (.slice a1 n1 c1) (.slice a2 n2 c2) 28)
  have H := Lib.hid h; clear h
  have HB := Lib.hid hb; clear hb
  cases hv : autV al xss bs with
  | false =>
    have hr := afterA_no al xss bs s.data.toList hv
    have HR := Lib.hid hr; clear hr
    have HV := Lib.hid hv; clear hv
    go_enter Try.func19, Try.ntmps19
    go_wp2_with fail
    refine (specAutValid_any al a1 n1 c1 a2 n2 c2 xss bs _ (MV.below H.out B0.out) (BV.below HB.out B0.out)).mono ?_
    rintro e w1 ⟨rfl, hb1⟩
    rw [HV.out]
    have B1 := Lib.hid (B0.out.trans (hb1.mono B0.out.size))
    clear hb1
    go_wp2
    go_ret
    exact ⟨ret_int HR.out.symm, B1.out⟩
  | true =>
    cases hw : within s.data.toList al with
    | false =>
      have hr := afterA_no2 al xss bs s.data.toList hw
      have HR := Lib.hid hr; clear hr
      have HV := Lib.hid hv; clear hv
      have HW := Lib.hid hw; clear hw
      go_enter Try.func19, Try.ntmps19
      go_wp2_with fail
      refine (specAutValid_any al a1 n1 c1 a2 n2 c2 xss bs _ (MV.below H.out B0.out) (BV.below HB.out B0.out)).mono ?_
      rintro e w1 ⟨rfl, hb1⟩
      rw [HV.out]
      have B1 := Lib.hid (B0.out.trans (hb1.mono B0.out.size))
      have R1 := Lib.hid (rowIs_below R0.out hb1)
      have c10 : w1.cell? ⟨w.heap.size, 0, none⟩ = some (.int .i64 al) := R1.out.cell (by decide)
      have c11 : w1.cell? ⟨w.heap.size, 1, none⟩ = some (.slice a1 n1 c1) := R1.out.cell (by decide)
      have c12 : w1.cell? ⟨w.heap.size, 2, none⟩ = some (.slice a2 n2 c2) := R1.out.cell (by decide)
      clear hb1
      go_wp2_with (go_at_call 43; (with_reducible refine (specWithin_any s al hs _).mono ?_); rintro e w' ⟨rfl, rfl⟩; rw [HW.out])
      go_ret
      exact ⟨ret_int HR.out.symm, B1.out⟩
    | true =>
      have hr := afterA_yes al xss bs s.data.toList hv hw
      have HR := Lib.hid hr; clear hr
      have HV := Lib.hid hv; clear hv
      have HW := Lib.hid hw; clear hw
      go_enter Try.func19, Try.ntmps19
      go_wp2_with fail
      refine (specAutValid_any al a1 n1 c1 a2 n2 c2 xss bs _ (MV.below H.out B0.out) (BV.below HB.out B0.out)).mono ?_
      rintro e w1 ⟨rfl, hb1⟩
      rw [HV.out]
      have B1 := Lib.hid (B0.out.trans (hb1.mono B0.out.size))
      have R1 := Lib.hid (rowIs_below R0.out hb1)
      have c10 : w1.cell? ⟨w.heap.size, 0, none⟩ = some (.int .i64 al) := R1.out.cell (by decide)
      have c11 : w1.cell? ⟨w.heap.size, 1, none⟩ = some (.slice a1 n1 c1) := R1.out.cell (by decide)
      have c12 : w1.cell? ⟨w.heap.size, 2, none⟩ = some (.slice a2 n2 c2) := R1.out.cell (by decide)
      clear hb1
      go_wp2_with (go_at_call 43; (with_reducible refine (specWithin_any s al hs _).mono ?_); rintro e w' ⟨rfl, rfl⟩; rw [HW.out])
      refine (l3Run_any al a1 n1 c1 a2 n2 c2 xss bs s hs _ (MV.below H.out B1.out) HV.out (within_all HW.out)).mono ?_
      rintro e w2 ⟨rfl, hb2⟩
      have B2 := Lib.hid (B1.out.trans (hb2.mono B1.out.size))
      clear hb2
      go_wp2
      go_ret
      exact ⟨ret_int HR.out.symm, B2.out⟩

set_option maxHeartbeats 2000000 in
theorem implAfter_any (al : Int) (a1 : Option Addr) (n1 c1 : Nat) (a2 : Option Addr) (n2 c2 : Nat) (xss : List (List Int)) (bs : List Bool) (s : ByteArray) (hs : s.size ≤ 9223372036854775807) (w : World) (h : MV w (.slice a1 n1 c1) xss) (hb : BV w (.slice a2 n2 c2) bs) :
    Calls Try.prog 20 #[.agg #[.int .i64 al, .slice a1 n1 c1, .slice a2 n2 c2], .string s] w (RB (.int .i64 (afterA al xss bs s.data.toList)) w) := by
  have B0 := Lib.hid (below_new w 28 #[.int .i64 al, .slice a1 n1 c1, .slice a2 n2 c2])
  have R0 := Lib.hid (agg3_cell w al (.slice a1 n1 c1) (.slice a2 n2 c2) 28)
  have hn := (SV.at h).1
  have HN := Lib.hid hn; clear hn
  have H := Lib.hid h; clear h
  have HB := Lib.hid hb; clear hb
  cases hv : autV al xss bs with
  | false =>
    have hr := afterA_no al xss bs s.data.toList hv
    have HR := Lib.hid hr; clear hr
    have HV := Lib.hid hv; clear hv
    go_enter Try.func20, Try.ntmps20
    go_wp2_with fail
    refine (implAutValid_any al a1 n1 c1 a2 n2 c2 xss bs _ (MV.below H.out B0.out) (BV.below HB.out B0.out)).mono ?_
    rintro e w1 ⟨rfl, hb1⟩
    rw [HV.out]
    have B1 := Lib.hid (B0.out.trans (hb1.mono B0.out.size))
    clear hb1
    go_wp2
    go_ret
    exact ⟨ret_int HR.out.symm, B1.out⟩
  | true =>
    cases hw : within s.data.toList al with
    | false =>
      have hr := afterA_no2 al xss bs s.data.toList hw
      have HR := Lib.hid hr; clear hr
      have HV := Lib.hid hv; clear hv
      have HW := Lib.hid hw; clear hw
      go_enter Try.func20, Try.ntmps20
      go_wp2_with fail
      refine (implAutValid_any al a1 n1 c1 a2 n2 c2 xss bs _ (MV.below H.out B0.out) (BV.below HB.out B0.out)).mono ?_
      rintro e w1 ⟨rfl, hb1⟩
      rw [HV.out]
      have B1 := Lib.hid (B0.out.trans (hb1.mono B0.out.size))
      have R1 := Lib.hid (rowIs_below R0.out hb1)
      have c10 : w1.cell? ⟨w.heap.size, 0, none⟩ = some (.int .i64 al) := R1.out.cell (by decide)
      have c11 : w1.cell? ⟨w.heap.size, 1, none⟩ = some (.slice a1 n1 c1) := R1.out.cell (by decide)
      have c12 : w1.cell? ⟨w.heap.size, 2, none⟩ = some (.slice a2 n2 c2) := R1.out.cell (by decide)
      clear hb1
      go_wp2_with (go_at_call 45; (with_reducible refine (implWithin_any s al hs _).mono ?_); rintro e w' ⟨rfl, rfl⟩; rw [HW.out])
      go_ret
      exact ⟨ret_int HR.out.symm, B1.out⟩
    | true =>
      have hr := afterA_yes al xss bs s.data.toList hv hw
      obtain ⟨ha, hx1, hx2, hx3, hx4, hx5⟩ := autV_facts hv
      have hn12 : n1 ≤ 12 := by rw [HN.out]; exact hx2
      have hn0 : 0 < n1 := by rw [HN.out]; exact hx1
      have hall := within_all hw
      have HALL := Lib.hid hall; clear hall
      have HROWS := Lib.hid hx4; clear hx4
      have HA := Lib.hid ha; clear ha
      have HR := Lib.hid hr; clear hr
      have HV := Lib.hid hv; clear hv
      have HW := Lib.hid hw; clear hw
      clear hx1 hx2 hx3 hx5
      go_enter Try.func20, Try.ntmps20
      go_wp2_with fail
      refine (implAutValid_any al a1 n1 c1 a2 n2 c2 xss bs _ (MV.below H.out B0.out) (BV.below HB.out B0.out)).mono ?_
      rintro e w1 ⟨rfl, hb1⟩
      rw [HV.out]
      have B1 := Lib.hid (B0.out.trans (hb1.mono B0.out.size))
      have R1 := Lib.hid (rowIs_below R0.out hb1)
      have c10 : w1.cell? ⟨w.heap.size, 0, none⟩ = some (.int .i64 al) := R1.out.cell (by decide)
      have c11 : w1.cell? ⟨w.heap.size, 1, none⟩ = some (.slice a1 n1 c1) := R1.out.cell (by decide)
      have c12 : w1.cell? ⟨w.heap.size, 2, none⟩ = some (.slice a2 n2 c2) := R1.out.cell (by decide)
      clear hb1
      go_wp2_with (go_at_call 45; (with_reducible refine (implWithin_any s al hs _).mono ?_); rintro e w' ⟨rfl, rfl⟩; rw [HW.out])
      refine (tableOf_any al a1 n1 c1 a2 n2 c2 xss _ HA.out (MV.below H.out B1.out) hn12 HROWS.out).mono ?_
      rintro e w2 ⟨b, rfl, htab, hblo, hb2⟩
      have B2 := Lib.hid (B1.out.trans (hb2.mono B1.out.size))
      have HTAB := Lib.hid htab
      clear hb2 htab
      go_wp2
      go_loopw [6, 22] (fun v i wr => ∃ k : Nat, k ≤ s.size ∧ i = .int .i64 k ∧ v = .int .i64 (runA al xss (s.data.toList.take k) : Nat) ∧ Below w.heap.size w wr ∧ wr.rowIs b 58 (n1 * 6) (fun j => .int .i64 (goA al xss (j / 6) (j % 6)))) (fun _ i _ => s.size - (intOf i).toNat)
      case atStart => exact ⟨0, by omega, rfl, rfl, B2.out, HTAB.out⟩
      case round =>
        obtain ⟨k, hk, rfl, rfl, hbel, hrow⟩ := hrel
        by_cases hlt : k < s.size
        · obtain ⟨c, hc⟩ : ∃ c, s[k] = c := ⟨_, rfl⟩
          have hok : okL al c = true := by rw [← hc]; exact all_at s (okL al) k hlt HALL.out
          have hc0 := okL_nonneg hok
          have hc6 := ltr_lt c
          have hx6 : (ltr c).toNat < 6 := by omega
          have hx' : ltr c = ((ltr c).toNat : Int) := by omega
          obtain ⟨x, hx⟩ : ∃ x, (ltr c).toNat = x := ⟨_, rfl⟩
          rw [hx] at hx6 hx'
          obtain ⟨q, hq⟩ : ∃ q, runA al xss (s.data.toList.take k) = q := ⟨_, rfl⟩
          have hqn : q < n1 := by
            rw [← hq, HN.out]
            exact runA_bd HV.out _ (fun d hd => List.all_eq_true.1 HALL.out d (List.mem_of_mem_take hd))
          have hgb := goA_bd HV.out q x (by rw [← HN.out]; exact hqn) hx6
          obtain ⟨y, hy⟩ := Int.eq_ofNat_of_zero_le hgb.1
          have hstep : runA al xss (s.data.toList.take (k + 1)) = y := by
            rw [take_snoc s k hlt, runA_snoc, hq, hc, hx, hy]; rfl
          rw [hq]
          have hcell := hrow.cell (i := q * 6 + x) (by omega)
          have e1 : (q * 6 + x) / 6 = q := by omega
          have e2 : (q * 6 + x) % 6 = x := by omega
          rw [e1, e2, hy] at hcell
          have HBEL := Lib.hid hbel
          have HROW := Lib.hid hrow
          have HC := Lib.hid hc; clear hc
          have HST := Lib.hid hstep; clear hstep
          have HX := Lib.hid hx'; clear hx'
          clear hbel hrow hok hq hx hgb hc0 hc6 e1 e2 hy
          go_wp2_with fail
          go_region_with ((go_at_call 47; refine (letterAt_c s k c hlt HC hs _).mono ?_; rintro e w5 ⟨rfl, rfl⟩; rw [HX.out]))
          all_goals
            go_wp2
            go_roundw
            case rel => exact ⟨k + 1, by omega, by go_num, by rw [HST.out], HBEL.out.drew, HROW.out⟩
            case measure => simp [intOf] <;> omega
        · go_wp2
          go_ret
          obtain rfl : k = s.size := by omega
          exact ⟨ret_int (by rw [HR.out, take_all]), hbel⟩
end Go.Proofs.Ytagegbhchljggaa
