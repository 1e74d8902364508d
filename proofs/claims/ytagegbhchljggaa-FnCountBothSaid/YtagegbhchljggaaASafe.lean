/- l3Safe: what it draws. -/
import Derived.Test.YtagegbhchljggaaARandom
import Derived.Test.YtagegbhchljggaaAX

namespace Go.Proofs.Ytagegbhchljggaa
open Go.RowKit
set_option linter.unusedVariables false
set_option linter.unusedSimpArgs false
set_option maxRecDepth 100000

theorem xAt_set (xss : List (List Int)) (i : Nat) (x : List Int) (hi : i < xss.length) : xAt (xss.set i x) i = x := by
  show ((xss.set i x)[i]?).getD [] = x
  rw [List.getElem?_set_self hi]; rfl
theorem xAt_mem (xss : List (List Int)) (i : Nat) (hi : i < xss.length) : xAt xss i ∈ xss := by
  unfold xAt; rw [List.getElem?_eq_getElem hi]; exact List.getElem_mem _
theorem lens_set {xss : List (List Int)} {N i : Nat} {x : List Int} (h : ∀ l ∈ xss, l.length ≤ N) (hx : x.length ≤ N) : ∀ l ∈ xss.set i x, l.length ≤ N := fun l hl => by
  rcases List.mem_or_eq_of_mem_set hl with hl | hl
  · exact h l hl
  · rw [hl]; exact hx
/-- The result is stored in its box and handed back. -/
theorem AX.ret {B R p Z : Nat} {w0 w : World} {v1 v2 u0 u1 u2 : Value} {us : List Value} {xss : List (List Int)} {bs : List Bool} {f : Nat → Value} (h : AX B w v1 v2 us xss bs) (hr : RdOk R p w) (hg : w0.grownBy w (some R)) (hz : w.rowIs Z 28 3 f) (hZ : w0.heap.size ≤ Z) (hR : R < w0.heap.size) :
    AX B (((w.setCell ⟨Z, 0, none⟩ u0).setCell ⟨Z, 1, none⟩ u1).setCell ⟨Z, 2, none⟩ u2) v1 v2 us xss bs ∧ RdOk R p (((w.setCell ⟨Z, 0, none⟩ u0).setCell ⟨Z, 1, none⟩ u1).setCell ⟨Z, 2, none⟩ u2) ∧ w0.grownBy (((w.setCell ⟨Z, 0, none⟩ u0).setCell ⟨Z, 1, none⟩ u1).setCell ⟨Z, 2, none⟩ u2) (some R) := by
  refine ⟨((h.box hz).box (hz.set 0 u0)).box ((hz.set 0 u0).set 1 u1), ?_, ?_⟩
  · refine rd_same hr (by simp) (fun k hk => ?_)
    rw [Below.heap_setCell _ _ _ _ (by simp; omega), Below.heap_setCell _ _ _ _ (by simp; omega), Below.heap_setCell _ _ _ _ (by simp; omega)]
  · refine ⟨hg.os, hg.tape, hg.output, by simpa using hg.size, fun k hk hn => ?_⟩
    rw [Below.heap_setCell _ _ _ _ (by simp; omega), Below.heap_setCell _ _ _ _ (by simp; omega), Below.heap_setCell _ _ _ _ (by simp; omega)]
    exact hg.block k hk hn
set_option maxHeartbeats 4000000 in
theorem l3Safe_any (R p : Nat) (al : Int) (T : Nat) (w : World) (hr : RdOk R p w) (hp : p ≤ 900000) (hal : isA al = true) (hT : T ≤ 5) (hT1 : 1 ≤ T) :
    Calls Try.prog 84 #[.pointer (some ⟨R, 0, none⟩), .int .i64 al, .int .i64 T] w (DAT al R p 100 T w) := by
  obtain ⟨ha0, ha1⟩ := (isA_iff al).1 hal
  have hRlt := hr.lt
  have hz1 := own_cells w #[.int .i64 0, .slice none 0 0, .slice none 0 0] 28 3 rfl
  have hb1 := below_newA w 28 #[.int .i64 0, .slice none 0 0, .slice none 0 0]
  go_enter Try.func84, Try.ntmps84
  go_wp2_with fail
  obtain ⟨w1, hw1⟩ : ∃ w1, (w.alloc (.cells #[.int .i64 0, .slice none 0 0, .slice none 0 0] 28)) = w1 := ⟨_, rfl⟩
  have hs1 : w1.heap.size = w.heap.size + 1 := by rw [← hw1]; simp
  rw [hw1] at hz1 hb1 ⊢
  clear hw1
  obtain ⟨Z, hZ⟩ : ∃ Z, w.heap.size = Z := ⟨_, rfl⟩
  refine (l3Random_any R p al T w1 (hr.below hb1) hp hal hT).mono ?_
  rintro e w2 ⟨a1, n1, c1, a2, n2, c2, us, xss, bs, rfl, hro, htr, hxl, hbl, hx6, p1, hp1, hr2, hg2⟩
  have hZR : R < Z := by omega
  have hz2 : w2.rowIs Z 28 3 (fun i => #[.int .i64 0, .slice none 0 0, .slice none 0 0][i]?.getD undef) := by
    rw [← hZ]
    exact hz1.of_block (hg2.block _ (by omega) (fun e => by injection e with e; omega))
  have hax : AX Z w2 (.slice a1 n1 c1) (.slice a2 n2 c2) us xss bs := (AX.base ⟨hro, htr⟩ (by omega) : AX Z w2 _ _ _ _ _)
  have hul : us.length = T := hro.2.1.trans hxl
  obtain ⟨g1, k1, hv1, hk1, hm1, hc1, hf1⟩ := hax.form1 (by omega)
  obtain ⟨g2, k2, hv2, hk2, hm2, hc2, hf2⟩ := hax.form2 (by omega)
  injection hv1 with e1 e2 e3
  injection hv2 with e4 e5 e6
  subst e1 e3 e4 e6
  rw [e2, hul] at hax ⊢
  rw [e5, hbl] at hax ⊢
  have hgw : w.grownBy w2 (some R) := (grown_below (some R) hb1).trans hg2
  clear hro htr hg2 hr e2 e5 hb1 hz1 hc1 hc2 hf1 hf2
  have hs2 := own_cells w2 #[.int .i64 al, .slice (some ⟨g1, 0, none⟩) T c1, .slice (some ⟨g2, 0, none⟩) T c2] 28 3 rfl
  have hbs := below_newA w2 28 #[.int .i64 al, .slice (some ⟨g1, 0, none⟩) T c1, .slice (some ⟨g2, 0, none⟩) T c2]
  obtain ⟨w3, hw3⟩ : ∃ w3, (w2.alloc (.cells #[.int .i64 al, .slice (some ⟨g1, 0, none⟩) T c1, .slice (some ⟨g2, 0, none⟩) T c2] 28)) = w3 := ⟨_, rfl⟩
  obtain ⟨S, hS⟩ : ∃ S, w2.heap.size = S := ⟨_, rfl⟩
  have hszz : w.heap.size ≤ w2.heap.size := hgw.size
  have hLS : w2.heap.size ≤ w3.heap.size := by rw [← hw3]; simp
  rw [hw3] at hs2 hbs
  rw [hS] at hs2
  have hax3 := hax.below hbs
  have hz3 := rowIs_below hz2 hbs
  have hr3 := hr2.below hbs
  have hgw3 : w.grownBy w3 (some R) := hgw.trans (grown_below (some R) hbs)
  have HXL := Lib.hid hxl; clear hxl
  have HBL := Lib.hid hbl; clear hbl
  have HX6 := Lib.hid hx6; clear hx6
  have HUL := Lib.hid hul; clear hul
  clear hax hz2 hr2 hgw hbs
  go_wp2
  go_loopw [8] (fun i wr => ∃ (f : Nat) (bs : List Bool), i = .int .i64 f ∧ f ≤ T ∧ AX Z wr (.slice (some ⟨g1, 0, none⟩) T c1) (.slice (some ⟨g2, 0, none⟩) T c2) us xss bs ∧ bs.length = T ∧ RdOk R p1 wr ∧ w.grownBy wr (some R) ∧ wr.rowIs Z 28 3 (fun i => #[.int .i64 0, .slice none 0 0, .slice none 0 0][i]?.getD undef) ∧ wr.rowIs S 28 3 (fun i => #[.int .i64 al, .slice (some ⟨g1, 0, none⟩) T c1, .slice (some ⟨g2, 0, none⟩) T c2][i]?.getD undef)) (fun i _ => T - (intOf i).toNat)
  case atStart => exact ⟨0, bs, rfl, Nat.zero_le _, hax3, HBL.out, hr3, hgw3, hz3, hs2⟩
  case round =>
    clear hax3 hr3 hgw3 hz3 hs2
    clear HBL
    obtain ⟨f, bs, rfl, hf, hax, hbl, hrd, hgw, hz, hs⟩ := hrel
    by_cases hlt : f < T
    · have q2 : wr.cell? ⟨S, 2, none⟩ = some (.slice (some ⟨g2, 0, none⟩) T c2) := hs.cell (by decide)
      obtain ⟨g, k, hv, hk, hm, hc, hfz⟩ := hax.form2 (by omega)
      injection hv with e1 e2 e3
      injection e1 with e1
      injection e1 with e1
      subst e1
      have hcf := hc f (by omega)
      have hff := hfz f
      have HAX := Lib.hid hax
      have HBL := Lib.hid hbl; clear hbl
      have HZ := Lib.hid hz; clear hz
      have HS := Lib.hid hs; clear hs
      have HR := Lib.hid hrd; clear hrd
      have HG := Lib.hid hgw; clear hgw
      have hmark := fun b => HAX.out.mark (j := f) (b := b) HBL.out.symm (Nat.le_trans (by omega) HG.out.size)
      have HM := Lib.hid hmark; clear hmark
      clear hax hc hfz e2 e3
      go_wp2
      have hm2 := HM.out (decide ((f : Int) < (T : Int) - 1))
      go_roundw
      case rel => exact ⟨f + 1, bs.set f (decide ((f : Int) < (T : Int) - 1)), by go_num, by omega, hm2.1, by rw [List.length_set]; exact HBL.out, hm2.2.rd HR.out (by omega), hm2.2.grown HG.out (by omega), hm2.2.box HZ.out, hm2.2.box HS.out⟩
      case measure => simp [intOf] <;> omega
    · obtain rfl : f = T := by omega
      have HAX := Lib.hid hax
      have HBL := Lib.hid hbl; clear hbl
      have HZ := Lib.hid hz; clear hz
      have HS := Lib.hid hs; clear hs
      have HR := Lib.hid hrd; clear hrd
      have HG := Lib.hid hgw; clear hgw
      obtain ⟨⟨ar, cr, hu, hcr, hmr⟩, -⟩ := (hax.1.2.2.1 (f - 1) (by have := HUL.out; omega)).form
      obtain ⟨n, hn⟩ : ∃ n, (xAt xss (f - 1)).length = n := ⟨_, rfl⟩
      have hf0 : f - 1 < xss.length := by have := HXL.out; omega
      have hn6 : n ≤ 6 := by rw [← hn]; exact HX6.out _ (xAt_mem _ _ hf0)
      rw [hn] at hu hcr
      have HU := Lib.hid hu; clear hu
      clear hax
      go_wp2
      go_loopw [9] (fun i wr => ∃ (k : Nat) (xss : List (List Int)), i = .int .i64 k ∧ k ≤ n ∧ AX Z wr (.slice (some ⟨g1, 0, none⟩) f c1) (.slice (some ⟨g2, 0, none⟩) f c2) us xss bs ∧ (xAt xss (f - 1)).length = n ∧ xss.length = f ∧ (∀ l ∈ xss, l.length ≤ 6) ∧ RdOk R p1 wr ∧ w.grownBy wr (some R) ∧ wr.rowIs Z 28 3 (fun i => #[.int .i64 0, .slice none 0 0, .slice none 0 0][i]?.getD undef) ∧ wr.rowIs S 28 3 (fun i => #[.int .i64 al, .slice (some ⟨g1, 0, none⟩) f c1, .slice (some ⟨g2, 0, none⟩) f c2][i]?.getD undef)) (fun i _ => n - (intOf i).toNat)
      case atStart => exact ⟨0, xss, rfl, Nat.zero_le _, HAX.out, hn, HXL.out, HX6.out, HR.out, HG.out, HZ.out, HS.out⟩
      case round =>
        clear HAX HR HG HZ HS HXL HX6 hn
        obtain ⟨k, xss, rfl, hk, hax, hxn, hxl, hx6, hrd, hgw, hz, hs⟩ := hrel
        have hul := HUL.out
        have q1 : wr.cell? ⟨S, 1, none⟩ = some (.slice (some ⟨g1, 0, none⟩) f c1) := hs.cell (by decide)
        obtain ⟨g, k1, hv, hkk, hmm, hc, hfz⟩ := hax.form1 (by omega)
        injection hv with e1 e2 e3
        injection e1 with e1
        injection e1 with e1
        subst e1
        have hcf := hc (f - 1) (by omega)
        rw [HU.out] at hcf
        have hrow := hax.1.2.2.1 (f - 1) (by omega)
        have HAX := Lib.hid hax
        have HXN := Lib.hid hxn; clear hxn
        have HZ := Lib.hid hz; clear hz
        have HS := Lib.hid hs; clear hs
        have HR := Lib.hid hrd; clear hrd
        have HG := Lib.hid hgw; clear hgw
        have HXL := Lib.hid hxl; clear hxl
        have HX6 := Lib.hid hx6; clear hx6
        clear hax hc hfz e2 e3
        by_cases hlk : k < n
        · obtain ⟨gr, cr', hu', -, -, hcu, hfu⟩ := hrow.form.2 (by have := HXN.out; omega)
          rw [HU.out] at hu'
          injection hu' with e1 e2 e3
          subst e1
          have hck := hcu k (by have := HXN.out; omega)
          have hfk := hfu k
          have hnum := fun x => HAX.out.num (i := f - 1) (j := k) (x := x) (by have := HUL.out; omega) HU.out HXN.out.symm (Nat.le_trans (by omega) HG.out.size)
          have HM := Lib.hid hnum; clear hnum
          clear hrow hcu hfu e2 e3
          go_wp2
          have hm2 := HM.out ((f : Int) - 1)
          have hf1 : f - 1 < xss.length := by have := HXL.out; omega
          go_roundw
          case rel => exact ⟨k + 1, xss.set (f - 1) ((xAt xss (f - 1)).set k ((f : Int) - 1)), by go_num, by omega, hm2.1, by rw [xAt_set xss _ _ hf1, List.length_set]; exact HXN.out, by rw [List.length_set]; exact HXL.out, lens_set HX6.out (by rw [List.length_set]; exact HX6.out _ (xAt_mem _ _ hf1)), hm2.2.rd HR.out (by omega), hm2.2.grown HG.out (by omega), hm2.2.box HZ.out, hm2.2.box HS.out⟩
          case measure => simp [intOf] <;> omega
        · obtain rfl : k = n := by omega
          clear hrow
          have hs := HS.out
          have hz := HZ.out
          have s0 : wr.cell? ⟨S, 0, none⟩ = some (.int .i64 al) := hs.cell (by decide)
          have s2 : wr.cell? ⟨S, 2, none⟩ = some (.slice (some ⟨g2, 0, none⟩) f c2) := hs.cell (by decide)
          have z0 : wr.cell? ⟨Z, 0, none⟩ = some (.int .i64 0) := hz.cell (by decide)
          have z1 : wr.cell? ⟨Z, 1, none⟩ = some (.slice none 0 0) := hz.cell (by decide)
          have z2 : wr.cell? ⟨Z, 2, none⟩ = some (.slice none 0 0) := hz.cell (by decide)
          have zf0 := hz.frozen 0
          have zf1 := hz.frozen 1
          have zf2 := hz.frozen 2
          clear hs hz
          go_wp2
          have hz' := HZ.out
          have hfin := rowIs_set3A hz' (.int .i64 al) (.slice (some ⟨g1, 0, none⟩) f c1) (.slice (some ⟨g2, 0, none⟩) f c2)
          have hret := AX.ret HAX.out HR.out HG.out hz' (by omega) hRlt (u0 := .int .i64 al) (u1 := .slice (some ⟨g1, 0, none⟩) f c1) (u2 := .slice (some ⟨g2, 0, none⟩) f c2)
          obtain ⟨wf, hwf⟩ : ∃ wf, (((wr.setCell ⟨Z, 0, none⟩ (.int .i64 al)).setCell ⟨Z, 1, none⟩ (.slice (some ⟨g1, 0, none⟩) f c1)).setCell ⟨Z, 2, none⟩ (.slice (some ⟨g2, 0, none⟩) f c2)) = wf := ⟨_, rfl⟩
          rw [hwf] at hfin hret ⊢
          clear hwf
          have f0 : wf.cell? ⟨Z, 0, none⟩ = some (.int .i64 al) := hfin.cell (by decide)
          have f1 : wf.cell? ⟨Z, 1, none⟩ = some (.slice (some ⟨g1, 0, none⟩) f c1) := hfin.cell (by decide)
          have f2 : wf.cell? ⟨Z, 2, none⟩ = some (.slice (some ⟨g2, 0, none⟩) f c2) := hfin.cell (by decide)
          refine bodyPost_ret (v := .agg #[.int .i64 al, .slice (some ⟨g1, 0, none⟩) f c1, .slice (some ⟨g2, 0, none⟩) f c2]) ?_ rfl ?_
          · simp [results, Try.results84, go_sem, f0, f1, f2]
          · exact ⟨_, _, _, _, _, _, us, xss, bs, rfl, hret.1.1.base (by omega), hret.1.2.base (by omega), HXL.out, HBL.out, HX6.out, ⟨p1, by omega, hret.2.1, hret.2.2⟩⟩
end Go.Proofs.Ytagegbhchljggaa
