/- TracesUpTo of the program: a map of counts, ranged over in whatever order. -/
import Derived.Test.YtknhgfmjchfnjaaDoorSysCntP
import Derived.Test.YtknhgfmjchfnjaaDoorSysCntS
import Derived.Test.YtknhgfmjchfnjaaDoorSysImpl
import Derived.Maps.RangeWalk
import Derived.Maps.OwnOps
namespace Go.Proofs.YtknhgfmjchfnjaaDoor
open Go.RowKit Go.Maps
set_option linter.unusedVariables false
set_option linter.unusedSimpArgs false
set_option maxRecDepth 100000

theorem lawI : Keyed Tryd.prog 3 := int_keyed Tryd.underlying3
theorem zeroI (w : World) : (zeroValue 3).run Tryd.prog w = .ok (.int .i64 0) w := by kernel_rfl
/-- The map of counts in memory; the map under way. -/
abbrev MapAt (w : World) (b n : Nat) (D : Dat) : Prop := w.ownsMap Tryd.prog 3 (plainElem Tryd.prog 3) b n D
abbrev RangeAt (w : World) (b r n : Nat) (D : Dat) (left : Lit → Bool) (cnt : Nat) : Prop := w.ranges Tryd.prog 3 (plainElem Tryd.prog 3) b r n D left cnt
theorem grown_of_below {w w' : World} (hb : Below w.heap.size w w') : w.grownBy w' none := ⟨hb.os, hb.tape, hb.output, hb.size, fun k hk _ => hb.block k hk⟩
theorem map_below {w w' : World} {b n : Nat} {D : Dat} (h : MapAt w b n D) (hb : Below w.heap.size w w') : MapAt w' b n D := World.ownsMap.kept h (grown_of_below hb) (by simp)
theorem range_below {w w' : World} {b r n : Nat} {D : Dat} {left : Lit → Bool} {cnt : Nat} (h : RangeAt w b r n D left cnt) (hb : Below w.heap.size w w') : RangeAt w' b r n D left cnt := World.ranges.kept h (grown_of_below hb) (by simp) (by simp)
theorem row_grown' {w w' : World} {b n q : Nat} {t : TypeId} {f : Nat → Value} (h : w.rowIs b t n f) (hg : w.grownBy w' (some q)) (hne : b ≠ q) : w'.rowIs b t n f := h.of_block (hg.block b (World.rowIs.lt h) (fun e => hne (Option.some.inj e)))
theorem irow_grown {B q : Nat} {w w' : World} {v : Value} {xs : List Int} (h : IRow B w v xs) (hg : w.grownBy w' (some q)) (hq : q < B) : IRow B w' v xs :=
  World.ownsRow.kept h hg (.inr fun e => by have := World.ownsRow.lt h q e; omega)
theorem below_grown {B q : Nat} {w0 w w' : World} (h : Below B w0 w) (hg : w.grownBy w' (some q)) (hs : B ≤ w.heap.size) (hq : B ≤ q) : Below B w0 w' :=
  h.grown hg hs (fun j hj => by cases hj; exact hq)
theorem wpList_insert_own {H : Type} {P : Program} (w : World) {ops : Array Oper} {rest : List Oper} {o : Oper} {a : Act} {Q : Exit → Act → World → Prop}
    (hg : o.guard = none) (m x v : Operand) (t : TypeId) (hop : o.op = Op.insert t m x v)
    (k e : TypeId) (K : Keyed P k) (ht : P.underlying t = some (.map k e)) (R : Value → Option (DataW H × List MemPlace)) (b n : Nat) (D : DataW H)
    (hm : a.eval m = .map (some b)) (hown : w.ownsMap P k R b n D) (hn : n < maxLen) (key val : Value) (kl : Lit) (hx : a.eval x = key) (hv : a.eval v = val) (hkey : keyOf P k key = some kl)
    (d : DataW H) (ps : List MemPlace) (hval : R val = some (d, ps))
    (hK : ∀ w', w'.ownsMap P k R b (n + 1) (D.put kl d) → w.grownBy w' (some b) → wpList P ops Q rest (a.put o.dst undef) w') :
    wpList P ops Q (o :: rest) a w := by
  refine wpList_plain hg fun K' hK' => ?_
  obtain ⟨w', hrun, r1, r2⟩ := hown.update K ht hn hkey hval
  unfold Oper.wp
  simp [execOp, hop, hm, hx, hv, hrun, Result.andThen]
  exact hK' _ _ (hK w' r1 r2)
theorem lets_eqd (al : Int) (k : Nat) (h : k < (lets al).length) : ∃ x : Nat, (lets al)[k]?.getD 0 = (x : Int) ∧ x < 6 := by
  have := lets_at al k h
  rw [List.getElem?_eq_getElem h]
  exact ⟨((lets al)[k]).toNat, by show (lets al)[k] = _; omega, by omega⟩
theorem sumL_drop (f : Int → Nat) (l : List Int) (k : Nat) (h : k < l.length) : sumL f (l.drop k) = f (l[k]?.getD 0) + sumL f (l.drop (k + 1)) := by
  rw [List.getElem?_eq_getElem h, List.drop_eq_getElem_cons h]
  rfl
theorem look_is {D : Dat} {F : Nat → Nat} (h : Holds D F) {y v : Nat} (hy : y < 65536) (hv : F y = v) (cc : Int) (hat : D.atKey (.int .i64 y) (.lit (.int .i64 0)) = .lit (.int .i64 cc)) : cc = (v : Int) := by
  rw [h.2.1 y hy, hv] at hat
  injection hat with h1
  injection h1 with h1 h2
  exact h2.symm
theorem wf_nat (n : Nat) (h : n < 9223372036854775808) : (Lit.int .i64 (n : Int)).wf = true := WalkArith.wf_i64 (by omega)
set_option maxHeartbeats 8000000 in
theorem implCount_any (al st : Int) (a1 : Option Addr) (n1 c1 : Nat) (es : List Edg) (n : Int) (w : World) (hTab : Tab w) (h : EV w (.slice a1 n1 c1) es) :
    Calls Tryd.prog 19 #[.agg #[.int .i64 al, .int .i64 st, .slice a1 n1 c1], .int .i64 n] w (RB' (.int .i64 (trP al st es n)) w) := by
  have B0 := Lib.hid (below_new' w 25 #[.int .i64 al, .int .i64 st, .slice a1 n1 c1])
  have R0 := Lib.hid (sys_cells w al st (.slice a1 n1 c1) 25)
  have H := Lib.hid h; clear h
  have HTAB := Lib.hid hTab; clear hTab
  cases hv : sysV al st es with
  | false =>
    have hr : trP al st es n = -1 := by unfold trP; rw [if_neg (fun h => by rw [hv] at h; cases h.1)]
    have HR := Lib.hid hr; clear hr
    have HV := Lib.hid hv; clear hv
    go_enter Tryd.func19, Tryd.ntmps19
    go_wp2_with fail
    refine (implSysValid_any al st a1 n1 c1 es _ (EV.below H.out B0.out)).mono ?_
    rintro e w1 ⟨rfl, hb1⟩
    rw [HV.out]
    have B1 := Lib.hid (B0.out.trans (hb1.mono B0.out.size))
    clear hb1
    go_wp2
    go_ret
    exact ⟨ret_int HR.out.symm, B1.out⟩
  | true =>
    have hok := sysV_ok hv
    have hal := (isA_iff al).1 (sysV_facts hv).1
    have HOK := Lib.hid hok; clear hok
    have HV := Lib.hid hv; clear hv
    by_cases hn : 0 ≤ n ∧ n ≤ 7
    · have hr : trP al st es n = (cntS es (lets al) n.toNat 1 : Nat) := by unfold trP; rw [if_pos ⟨HV.out, hn⟩]
      obtain ⟨m, rfl⟩ := Int.eq_ofNat_of_zero_le hn.1
      rw [Int.toNat_natCast] at hr
      have hm7 : m ≤ 7 := by omega
      have hTOT := Nat.le_trans (cntS_le es (lets al) (lets_len al) m 1) (seven_pow m hm7)
      have hstart := keep_start es (lets al) m
      obtain ⟨TOT, hTT⟩ : ∃ TOT, cntS es (lets al) m 1 = TOT := ⟨_, rfl⟩
      rw [hTT] at hTOT hstart hr
      have hd0 : decide ((m : Int) < 0) = false := by simp
      have hd7 : decide ((7 : Int) < (m : Int)) = false := by simp; omega
      have HR := Lib.hid hr; clear hr
      have HSTART := Lib.hid hstart; clear hstart
      clear hn hTT
      have hmm := @run_makeMap Tryd.prog
      go_enter Tryd.func19, Tryd.ntmps19
      go_wp2_with fail
      refine (implSysValid_any al st a1 n1 c1 es _ (EV.below H.out B0.out)).mono ?_
      rintro e w1 ⟨rfl, hb1⟩
      rw [HV.out]
      have B1 := Lib.hid (B0.out.trans (hb1.mono B0.out.size))
      have R1 := Lib.hid (rowIs_below' R0.out hb1)
      have c0 : w1.cell? ⟨w.heap.size, 0, none⟩ = some (.int .i64 al) := R1.out.cell (by decide)
      have c1' : w1.cell? ⟨w.heap.size, 1, none⟩ = some (.int .i64 st) := R1.out.cell (by decide)
      have c2' : w1.cell? ⟨w.heap.size, 2, none⟩ = some (.slice a1 n1 c1) := R1.out.cell (by decide)
      clear hb1
      go_wp2_with fail
      refine (movesOf_any al st a1 n1 c1 es _ (EV.below H.out B1.out) HOK.out).mono ?_
      rintro e w2 ⟨b, rfl, hmv, hbl, hb2⟩
      have B2 := Lib.hid (B1.out.trans (hb2.mono B1.out.size))
      have R2 := Lib.hid (rowIs_below' R1.out hb2)
      have hmv' : MvT w2 b es := hmv
      have hwb : w.heap.size < b := by have := World.rowIs.lt R1.out; omega
      obtain ⟨M0, hM0⟩ : ∃ M0, w2.heap.size = M0 := ⟨_, rfl⟩
      have hbM : b < M0 := by rw [← hM0]; exact World.rowIs.lt hmv
      have hown0 : MapAt (w2.alloc (.map #[] 0)) w2.heap.size 0 (.map []) := World.ownsMap_made _ _ _ _
      obtain ⟨w3, hw3⟩ : ∃ w3, w2.alloc (.map #[] 0) = w3 := ⟨_, rfl⟩
      have hb3 : Below w2.heap.size w2 w3 := by rw [← hw3]; exact (Below.refl _ _).alloc (Nat.le_refl _) _
      have hs3 : w3.heap.size = M0 + 1 := by rw [← hw3, ← hM0]; simp
      rw [hw3, hM0] at hown0
      have B3 := Lib.hid (B2.out.trans (hb3.mono B2.out.size))
      have R3 := Lib.hid (rowIs_below' R2.out hb3)
      have V3 := Lib.hid (hmv'.below hb3)
      clear hb2 hb3 hmv hmv' hbl c0 c1' c2'
      go_wp2_with (refine wpList_insert_own w3 rfl _ _ _ 66 rfl 3 3 lawI Tryd.underlying66 _ M0 0 _ rfl hown0 (by decide) _ _ _ rfl rfl (keyOf_int_mk Tryd.underlying3 (by decide)) _ [] (plainElem_int Tryd.underlying3 (by decide)) ?_; intro w4 hown4 hg4)
      have B4 := Lib.hid (below_grown B3.out hg4 B3.out.size (by omega))
      have R4 := Lib.hid (row_grown' R3.out hg4 (by omega))
      have V4 := Lib.hid (row_grown' V3.out hg4 (by omega))
      have M4 := Lib.hid hown4
      clear hg4 hown4 hown0
      go_loopw [6, 7, 30] (fun cs tt i wr => ∃ (j Mb N T : Nat) (D : Dat) (F : Nat → Nat), j ≤ m ∧ i = .int .i64 j ∧ cs = .map (some Mb) ∧ tt = .int .i64 T ∧ MapAt wr Mb N D ∧ Holds D F ∧ T + wsum F (gW es (lets al) (m - j)) = TOT ∧ Below w.heap.size w wr ∧ wr.rowIs w.heap.size 25 3 (fun i => #[.int .i64 al, .int .i64 st, .slice a1 n1 c1][i]?.getD undef) ∧ MvT wr b es) (fun _ _ i _ => m - (intOf i).toNat)
      case atStart => exact ⟨0, M0, _, 1, _, _, Nat.zero_le _, rfl, rfl, rfl, M4.out, holds_one, HSTART.out, B4.out, R4.out, V4.out⟩
      case round =>
        obtain ⟨j, Mb, N, T, D, F, hj, rfl, rfl, rfl, hmap, hholds, hsum, hbel, hrow, hmvt⟩ := hrel
        by_cases hjm : j < m
        · obtain ⟨k, hk⟩ : ∃ k, m - j = k + 1 := ⟨m - j - 1, by omega⟩
          have hk2 : m - (j + 1) = k := by omega
          rw [hk] at hsum
          obtain ⟨wo, hwo⟩ : ∃ wo : World, wo = wr := ⟨_, rfl⟩
          subst hwo
          obtain ⟨Mn, hMn⟩ : ∃ Mn, wo.heap.size = Mn := ⟨_, rfl⟩
          have hbMn : b < Mn := by rw [← hMn]; exact World.rowIs.lt hmvt
          have hMbn : Mb < Mn := by rw [← hMn]; exact World.ownsMap.lt hmap
          have hown5 : MapAt (wo.alloc (.map #[] 0)) wo.heap.size 0 (.map []) := World.ownsMap_made _ _ _ _
          obtain ⟨w5, hw5⟩ : ∃ w5, wo.alloc (.map #[] 0) = w5 := ⟨_, rfl⟩
          have hb5 : Below wo.heap.size wo w5 := by rw [← hw5]; exact (Below.refl _ _).alloc (Nat.le_refl _) _
          have hs5 : w5.heap.size = Mn + 1 := by rw [← hw5, ← hMn]; simp
          rw [hw5, hMn] at hown5
          have hmap5 := map_below hmap hb5
          have B5 := Lib.hid (hbel.trans (hb5.mono hbel.size))
          have R5 := Lib.hid (rowIs_below' hrow hb5)
          have V5 := Lib.hid (MvT.below hmvt hb5)
          have M5 := Lib.hid hown5
          have HH := Lib.hid hholds; clear hholds
          have HSUM := Lib.hid hsum; clear hsum
          have HK := Lib.hid hk; clear hk
          have HK2 := Lib.hid hk2; clear hk2
          clear hb5 hmap hbel hrow hmvt hown5
          go_wp2_with (first | (at_range; refine wpList_range_own _ rfl _ 66 rfl 3 3 lawI Tryd.underlying66 _ Mb N _ rfl hmap5 ?_; intro w6 hrg6 hg6 hs6) | (go_in))
          go_frame
          have B6 := Lib.hid (B5.out.grown hg6 B5.out.size (fun j hj => by cases hj))
          have R6 := Lib.hid (R5.out.of_block (hg6.block _ (World.rowIs.lt R5.out) (by simp)))
          have V6 := Lib.hid (show MvT w6 b es from World.rowIs.of_block V5.out (hg6.block _ (World.rowIs.lt V5.out) (by simp)))
          have M6 := Lib.hid (World.ownsMap.kept M5.out hg6 (by simp))
          obtain ⟨r, hr0⟩ : ∃ r, w5.heap.size = r := ⟨_, rfl⟩
          rw [hr0] at hrg6 ⊢
          have HRG6 := Lib.hid hrg6
          have hmr : Mn < r := by omega
          have hwr6 : r < w6.heap.size := by omega
          clear hg6 hrg6 hmap5
          go_loopw [7] (fun tt wr => ∃ (left : Lit → Bool) (cnt N1 T1 : Nat) (D1 : Dat) (F1 : Nat → Nat), tt = .int .i64 T1 ∧ RangeAt wr Mb r N D left cnt ∧ (∀ z, left z = true → Maps.has D z = true) ∧ MapAt wr Mn N1 D1 ∧ Holds D1 F1 ∧ T1 + wsum F1 (gW es (lets al) k) + wlef F (gW es (lets al) (k + 1)) left = TOT ∧ N1 ≤ T1 ∧ (∀ q, F1 q ≤ T1) ∧ Below w.heap.size w wr ∧ wr.rowIs w.heap.size 25 3 (fun i => #[.int .i64 al, .int .i64 st, .slice a1 n1 c1][i]?.getD undef) ∧ MvT wr b es) (fun _ wr => wr.rangeLeft Mb r)
          case atStart => exact ⟨_, _, 0, T, .map [], (fun _ => 0), rfl, HRG6.out, fun z hz => hz, M6.out, holds_empty, by rw [wsum_none, wlef_start HH.out]; exact HSUM.out, Nat.zero_le _, fun q => Nat.zero_le _, B6.out, R6.out, V6.out⟩
          case round =>
            obtain ⟨left, cnt, N1, T1, D1, F1, rfl, hrg, hleft, hm1, hh1, hsum1, hN1, hF1, hbel, hrow, hmvt⟩ := hrel
            have HRG := Lib.hid hrg
            have HLF := Lib.hid hleft
            have HM1 := Lib.hid hm1
            have HH1 := Lib.hid hh1
            have HS1 := Lib.hid hsum1
            have HF1 := Lib.hid hF1
            have HB1 := Lib.hid hbel
            have HR1 := Lib.hid hrow
            have HV1 := Lib.hid hmvt
            clear hleft hm1 hh1 hsum1 hF1 hbel hrow hmvt
            go_wp2_with (first | (at_next; refine wpList_next_ranges_ii _ rfl _ rfl 3 3 .i64 .i64 lawI Tryd.underlying3 Tryd.underlying3 Mb r N _ _ _ rfl hrg ?_ ?_) | (go_in))
            · intro hc0 hl0
              have hz := wlef_done F (gW es (lets al) (k + 1)) left hl0
              have HZ := Lib.hid hz
              clear hz hl0 hrg
              go_wp2
              go_roundw
              case rel => exact ⟨j + 1, Mn, N1, T1, D1, F1, by omega, by go_num, rfl, rfl, HM1.out, HH1.out, by rw [HK2.out]; have := HS1.out; rw [HZ.out] at this; omega, HB1.out, HR1.out, HV1.out⟩
              case measure => simp [intOf] <;> omega
            · intro x c w7 cnt7 hwx hwc hlx hat hrg7 hlt7 hg7 hs7 hen
              obtain ⟨q, rfl, hq0, hq1, hFq⟩ := HH.out.2.2 x (HLF.out _ hlx)
              have hcF : c = (F q : Int) := by
                have h1 := hat (.lit (.int .i64 0))
                rw [HH.out.2.1 q hq1] at h1
                injection h1 with h1
                injection h1 with h1 h2
                exact h2.symm
              subst hcF
              obtain ⟨c, hc⟩ : ∃ c, F q = c := ⟨_, rfl⟩
              have hws := wlef_step F (gW es (lets al) (k + 1)) left q hq1 hlx
              rw [gW_succ es (lets al) k q (by omega), hc] at hws
              rw [hc] at hFq hen ⊢
              have hsz7 : w7.heap.size = wr.heap.size := hs7
              have hrlt := World.ranges.lt hrg
              have hmlt := World.ownsMap.lt HM1.out
              have M7 := Lib.hid (World.ownsMap.kept HM1.out hg7 (by simp; omega))
              have B7 := Lib.hid (below_grown HB1.out hg7 HB1.out.size (by omega))
              have R7 := Lib.hid (row_grown' HR1.out hg7 (by omega))
              have V7 := Lib.hid (row_grown' HV1.out hg7 (by omega))
              have G7 := Lib.hid hrg7
              have HLT7 := Lib.hid hlt7
              have HLX := Lib.hid hlx
              have HRL := Lib.hid (World.ranges.left_eq hrg)
              have d0 : w7.cell? ⟨w.heap.size, 0, none⟩ = some (.int .i64 al) := R7.out.cell (by decide)
              have HWS := Lib.hid hws; clear hws
              have HCC := Lib.hid hc; clear hc
              clear hrg hrg7 hg7 hs7 hlt7 hat hlx
              go_wp2_with fail
              refine (lettersOf_any al hal.1 (by omega) _).mono ?_
              rintro e w8 ⟨ao, cap, rfl, hown8, hb8⟩
              have M8 := Lib.hid (map_below M7.out hb8)
              have B8 := Lib.hid (B7.out.trans (hb8.mono B7.out.size))
              have R8 := Lib.hid (rowIs_below' R7.out hb8)
              have V8 := Lib.hid (MvT.below V7.out hb8)
              have G8 := Lib.hid (range_below G7.out hb8)
              obtain ⟨z, hzz⟩ : ∃ z, (lets al).length = z := ⟨_, rfl⟩
              have hz6 : z ≤ 6 := by rw [← hzz]; exact lets_len al
              have hL8 := IRow.base hown8 (B' := Mn + 1) (by omega)
              rw [hzz] at hL8
              rw [hzz]
              have L8 := Lib.hid hL8
              have hLS := fun q (hq : q < z) => lets_eqd al q (by omega)
              have HLS := Lib.hid (show ∀ q, q < z → ∃ x : Nat, (lets al)[q]?.getD 0 = (x : Int) ∧ x < 6 from hLS)
              have HZ := Lib.hid hzz; clear hzz
              clear hown8 hb8 hL8 hLS d0
              go_wp2
              obtain ⟨wi, hwi⟩ : ∃ wi : World, wi = wr := ⟨_, rfl⟩
              subst hwi
              go_loopw [7, 44] (fun tt ii wr => ∃ (u N2 T2 : Nat) (D2 : Dat) (F2 : Nat → Nat), u ≤ z ∧ ii = .int .i64 u ∧ tt = .int .i64 T2 ∧ RangeAt wr Mb r N D (fun zz => left zz && !zz.sameKey (.int .i64 q)) cnt7 ∧ MapAt wr Mn N2 D2 ∧ Holds D2 F2 ∧ T2 + wsum F2 (gW es (lets al) k) + c * sumL (fun x => cntS es (lets al) k (stepN es q x)) ((lets al).drop u) + wlef F (gW es (lets al) (k + 1)) (fun zz => left zz && !zz.sameKey (.int .i64 q)) = TOT ∧ N2 ≤ T2 ∧ (∀ p, F2 p ≤ T2) ∧ Below w.heap.size w wr ∧ wr.rowIs w.heap.size 25 3 (fun i => #[.int .i64 al, .int .i64 st, .slice a1 n1 c1][i]?.getD undef) ∧ MvT wr b es ∧ IRow (Mn + 1) wr (.slice ao z cap) (lets al)) (fun _ ii _ => z - (intOf ii).toNat)
              case atStart => exact ⟨0, N1, T1, D1, F1, Nat.zero_le _, rfl, rfl, G8.out, M8.out, HH1.out, by have h1 := HS1.out; rw [HWS.out] at h1; rw [List.drop_zero]; omega, hN1, HF1.out, B8.out, R8.out, V8.out, L8.out⟩
              case round =>
                obtain ⟨u, N2, T2, D2, F2, hu, rfl, rfl, hrg, hm2, hh2, hsum2, hN2, hF2, hbel, hrow, hmvt, hlet⟩ := hrel
                have hT2 : T2 ≤ TOT := by omega
                have HRG2 := Lib.hid hrg
                have HM2 := Lib.hid hm2
                have HH2 := Lib.hid hh2
                have HS2 := Lib.hid hsum2
                have HF2 := Lib.hid hF2
                have HB2 := Lib.hid hbel
                have HR2 := Lib.hid hrow
                have HV2 := Lib.hid hmvt
                have HL2 := Lib.hid hlet
                clear hrg hm2 hh2 hsum2 hF2 hbel hrow hmvt hlet
                by_cases huz : u < z
                · obtain ⟨x, hx, hx6⟩ := HLS.out u huz
                  obtain ⟨g, hg, hcx⟩ : ∃ g, ao = some ⟨g, 0, none⟩ ∧ wr.cell? ⟨g, u, none⟩ = some (.int .i64 (x : Int)) := by
                    rcases HL2.out.shape with ⟨h1, h2⟩ | ⟨g, cap', h1, -, -, -, -, h2, -⟩
                    · have := HZ.out
                      rw [h2] at this
                      simp at this
                      omega
                    · injection h1 with h1 h3 h4
                      refine ⟨g, h1, ?_⟩
                      rw [h2 u (by rw [HZ.out]; exact huz), hx]
                  subst hg
                  have hsd := sumL_drop (fun x => cntS es (lets al) k (stepN es q x)) (lets al) u (by rw [HZ.out]; exact huz)
                  rw [hx] at hsd
                  have hyl := stepN_lt HOK.out q (x : Int)
                  have hst := fun wq h1 h2 => step_any b es q x wq h1 h2 hq1 hx6 HOK.out
                  obtain ⟨y, hy⟩ : ∃ y, stepN es q (x : Int) = y := ⟨_, rfl⟩
                  rw [hy] at hyl hst
                  have hs2 := HS2.out
                  rw [hsd] at hs2
                  rw [hy, Nat.mul_add] at hs2
                  have hui : (u : Int) < (z : Int) := by omega
                  have HUZ := Lib.hid huz
                  have HST := Lib.hid hst
                  have HSD := Lib.hid hs2
                  have HT2 := Lib.hid (HTAB.out.below HB2.out)
                  clear hsd hst hs2 hx hy
                  go_wp2_with fail
                  refine (HST.out _ HV2.out HT2.out).mono ?_
                  rintro e w9 ⟨rfl, nq, rfl⟩
                  have hbq : Below wr.heap.size wr (wr.drewN nq) := below_dN (Below.refl _ _) nq
                  have G9 := Lib.hid (range_below HRG2.out hbq)
                  have M9 := Lib.hid (map_below HM2.out hbq)
                  have B9 := Lib.hid (HB2.out.trans (hbq.mono HB2.out.size))
                  have R9 := Lib.hid (rowIs_below' HR2.out hbq)
                  have V9 := Lib.hid (MvT.below HV2.out hbq)
                  have L9 := Lib.hid (HL2.out.below hbq)
                  have hmlt9 := World.ownsMap.lt M9.out
                  obtain ⟨w9, hw9⟩ : ∃ w9, wr.drewN nq = w9 := ⟨_, rfl⟩
                  rw [hw9] at G9 M9 B9 R9 V9 L9 hmlt9 ⊢
                  clear hbq hw9 hcx
                  by_cases hy0 : y = 0
                  · subst hy0
                    have hyb : (((0 : Nat) : Int) != 0) = false := rfl
                    have HSN := Lib.hid (show T2 + wsum F2 (gW es (lets al) k) + c * sumL (fun x => cntS es (lets al) k (stepN es q x)) ((lets al).drop (u + 1)) + wlef F (gW es (lets al) (k + 1)) (fun zz => left zz && !zz.sameKey (.int .i64 q)) = TOT from by
                      have h1 := HSD.out
                      rw [cntS_zero] at h1
                      omega)
                    go_wp2
                    go_roundw
                    case rel => exact ⟨u + 1, N2, T2, D2, F2, HUZ.out, by go_num, rfl, G9.out, M9.out, HH2.out, HSN.out, hN2, HF2.out, B9.out, R9.out, V9.out, L9.out⟩
                    case measure =>
                      have := HUZ.out
                      simp [intOf] <;> omega
                  · have hyb : ((y : Int) != 0) = true := by simp; omega
                    obtain ⟨v, hv⟩ : ∃ v, F2 y = v := ⟨_, rfl⟩
                    have hvT := HF2.out y
                    rw [hv] at hvT
                    have hpos := gW_pos es (lets al) k y c hy0
                    have hput := holds_put HH2.out y c (by omega) hyl hFq
                    rw [hv] at hput
                    have hlk := look_is HH2.out hyl hv
                    have HLK := Lib.hid hlk
                    have hcT : T2 + c ≤ TOT := by have h1 := HSD.out; rw [hpos] at h1; omega
                    have HSN := Lib.hid (show (T2 + c) + wsum (bump F2 y c) (gW es (lets al) k) + c * sumL (fun x => cntS es (lets al) k (stepN es q x)) ((lets al).drop (u + 1)) + wlef F (gW es (lets al) (k + 1)) (fun zz => left zz && !zz.sameKey (.int .i64 q)) = TOT from by
                      have h1 := HSD.out
                      rw [hpos] at h1
                      rw [wsum_bump _ _ _ _ hyl]
                      omega)
                    have HFN := Lib.hid (show ∀ p, bump F2 y c p ≤ T2 + c from fun p => by
                      unfold bump
                      split
                      · have := HF2.out y; omega
                      · have := HF2.out p; omega)
                    obtain ⟨vc, hvc⟩ : ∃ vc, v + c = vc := ⟨_, rfl⟩
                    obtain ⟨T3, hT3⟩ : ∃ T3, T2 + c = T3 := ⟨_, rfl⟩
                    rw [hvc] at hput
                    have HPUT := Lib.hid hput
                    have hadd : IntKind.i64.wrap ((v : Int) + (c : Int)) = (vc : Int) := by rw [IntKind.wrap_i64]; omega
                    have hadd2 : IntKind.i64.wrap ((T2 : Int) + (c : Int)) = (T3 : Int) := by rw [IntKind.wrap_i64]; omega
                    rw [hT3] at HSN HFN hcT
                    have hN3 : N2 + 1 ≤ T3 := by omega
                    have hNm : N2 < maxLen := by unfold maxLen; omega
                    have hwfy := wf_nat y (by omega)
                    have hwfv := wf_nat vc (by omega)
                    clear hpos hput hlk hv hvc hT3
                    go_wp2_with (first | (at_lookup; refine wpList_lookup_own_int _ rfl _ _ 66 rfl 3 3 .i64 lawI Tryd.underlying66 Tryd.underlying3 (zeroI _) Mn N2 _ rfl M9.out _ _ rfl (keyOf_int_mk Tryd.underlying3 hwfy) ?_; intro cc hatc hwcc; obtain rfl := HLK.out cc hatc; clear hatc hwcc) | (at_mapUpdate; refine wpList_mapUpdate_own _ rfl _ _ _ 66 rfl 3 3 lawI Tryd.underlying66 _ Mn N2 _ rfl M9.out hNm _ _ _ rfl rfl (keyOf_int_mk Tryd.underlying3 hwfy) _ [] (plainElem_int Tryd.underlying3 hwfv) ?_; intro w10 hown10 hg10) | (go_in))
                    have G10 : RangeAt w10 Mb r N D (fun zz => left zz && !zz.sameKey (.int .i64 q)) cnt7 := World.ranges.kept G9.out hg10 (fun e => by have := Option.some.inj e; omega) (fun e => by have := Option.some.inj e; omega)
                    have B10 := below_grown B9.out hg10 B9.out.size (by omega)
                    have R10 := row_grown' R9.out hg10 (by omega)
                    have V10 : MvT w10 b es := row_grown' V9.out hg10 (by omega)
                    have L10 := irow_grown L9.out hg10 (by omega)
                    go_roundw
                    case rel => exact ⟨u + 1, N2 + 1, T3, _, bump F2 y c, HUZ.out, by go_num, rfl, G10, hown10, HPUT.out, HSN.out, hN3, HFN.out, B10, R10, V10, L10⟩
                    case measure =>
                      have := HUZ.out
                      simp [intOf] <;> omega
                · obtain rfl : u = z := by omega
                  have hnil : (lets al).drop u = [] := List.drop_eq_nil_of_le (by rw [HZ.out]; exact Nat.le_refl _)
                  have HSN := Lib.hid (show T2 + wsum F2 (gW es (lets al) k) + wlef F (gW es (lets al) (k + 1)) (fun zz => left zz && !zz.sameKey (.int .i64 q)) = TOT from by
                    have h1 := HS2.out
                    rw [hnil] at h1
                    have h0 : sumL (fun x => cntS es (lets al) k (stepN es q x)) [] = 0 := rfl
                    rw [h0, Nat.mul_zero] at h1
                    omega)
                  clear hnil
                  go_wp2
                  go_roundw
                  case rel => exact ⟨_, cnt7, N2, T2, D2, F2, rfl, HRG2.out, fun zz hz => HLF.out zz (by simp only [Bool.and_eq_true] at hz; exact hz.1), HM2.out, HH2.out, HSN.out, hN2, HF2.out, HB2.out, HR2.out, HV2.out⟩
                  case measure =>
                    rw [World.ranges.left_eq HRG2.out, HRL.out]
                    exact HLT7.out
        · obtain rfl : j = m := by omega
          have hT : T = TOT := by rw [Nat.sub_self, wsum_zero] at hsum; omega
          go_wp2
          go_ret
          exact ⟨ret_int (by rw [HR.out, hT]), hbel⟩
    · have hr : trP al st es n = -1 := by unfold trP; rw [if_neg (fun h => hn h.2)]
      have HR := Lib.hid hr; clear hr
      go_enter Tryd.func19, Tryd.ntmps19
      go_wp2_with fail
      refine (implSysValid_any al st a1 n1 c1 es _ (EV.below H.out B0.out)).mono ?_
      rintro e w1 ⟨rfl, hb1⟩
      rw [HV.out]
      have B1 := Lib.hid (B0.out.trans (hb1.mono B0.out.size))
      clear hb1
      by_cases h0 : n < 0
      · go_wp2
        go_ret
        exact ⟨ret_int HR.out.symm, B1.out⟩
      · have h7 : 7 < n := by omega
        go_wp2
        go_ret
        exact ⟨ret_int HR.out.symm, B1.out⟩
end Go.Proofs.YtknhgfmjchfnjaaDoor
