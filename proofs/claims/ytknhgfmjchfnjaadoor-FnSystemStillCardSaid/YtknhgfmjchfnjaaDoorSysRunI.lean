/- RunOf of the program. -/
import Derived.Test.YtknhgfmjchfnjaaDoorSysRunS
import Derived.Test.YtknhgfmjchfnjaaDoorSysImpl
import Derived.StillTailTactics

namespace Go.Proofs.YtknhgfmjchfnjaaDoor
open Go.RowKit
set_option linter.unusedVariables false
set_option linter.unusedSimpArgs false
set_option maxRecDepth 100000

theorem implTrace_of {al st : Int} {a1 : Option Addr} {n1 c1 : Nat} {es : List Edg} {s : ByteArray} (hs : s.size ≤ 9223372036854775807) {b : Bool} (hb : decide (aftN al st es s.data.toList ≠ 0) = b) (w : World) (hT : Tab w) (h : EV w (.slice a1 n1 c1) es) :
    Calls Tryd.prog 14 #[.agg #[.int .i64 al, .int .i64 st, .slice a1 n1 c1], .string s] w (RB' (.bool b) w) := by
  subst hb
  exact implTrace_any al st a1 n1 c1 es s hs w hT h
theorem mod_yes (B q : Nat) (h : B.testBit q = true) : B % 2 ^ (q + 1) = B % 2 ^ q ||| 2 ^ q := by
  refine Nat.eq_of_testBit_eq (fun i => ?_)
  rw [Nat.testBit_or, Nat.testBit_mod_two_pow, Nat.testBit_mod_two_pow, Nat.testBit_two_pow]
  by_cases e : i = q
  · subst e; simp [h]
  · have h1 : decide (i < q + 1) = decide (i < q) := by simp only [decide_eq_decide]; omega
    have h2 : ¬ q = i := fun h => e h.symm
    simp [h1, h2]
theorem mod_no (B q : Nat) (h : B.testBit q = false) : B % 2 ^ (q + 1) = B % 2 ^ q := by
  refine Nat.eq_of_testBit_eq (fun i => ?_)
  rw [Nat.testBit_mod_two_pow, Nat.testBit_mod_two_pow]
  by_cases e : i = q
  · subst e; simp [h]
  · have h1 : decide (i < q + 1) = decide (i < q) := by simp only [decide_eq_decide]; omega
    rw [h1]
theorem quiet_n {P : Program} {f : FuncId} {args : Array Value} {w : World} {n : Nat} {v : Value} (h : Calls P f args (w.drewN n) (Ret v (w.drewN n))) :
    Calls P f args (w.drewN n) fun e w'' => e = .returned v ∧ ∃ m, w'' = w.drewN m := h.mono fun _ _ ⟨he, hm⟩ => ⟨he, n, hm.symm⟩
def backM (es : List Edg) (T : Nat) (l : List UInt8) (m B q j : Nat) : Value := if j = m then .int .i64 ((B % 2 ^ q : Nat) : Int) else backF es T l (m + 1) j
def runF (es : List Edg) (T : Nat) (l : List UInt8) (k j : Nat) : Value := .int .i64 ((if j ≤ k then runS es T l j else 0 : Nat) : Int)
theorem runF_next (es : List Edg) (T : Nat) (l : List UInt8) (k r : Nat) (hr : runS es T l (k + 1) = r) (j : Nat) : (if j = k + 1 then .int .i64 (r : Int) else runF es T l k j) = runF es T l (k + 1) j := by
  unfold runF
  by_cases e : j = k + 1
  · subst e; rw [if_pos rfl, if_pos (Nat.le_refl _), hr]
  · rw [if_neg e]
    by_cases h : j ≤ k
    · rw [if_pos h, if_pos (by omega)]
    · rw [if_neg h, if_neg (by omega)]
set_option maxHeartbeats 8000000 in
theorem implRun_any (al st : Int) (a1 : Option Addr) (n1 c1 : Nat) (es : List Edg) (s : ByteArray) (hs : s.size ≤ 9223372036854775807) (w : World) (hTab : Tab w) (h : EV w (.slice a1 n1 c1) es) :
    Calls Tryd.prog 28 #[.agg #[.int .i64 al, .int .i64 st, .slice a1 n1 c1], .string s] w (RunRes al st es s.data.toList w) := by
  have B0 := Lib.hid (below_new' w 25 #[.int .i64 al, .int .i64 st, .slice a1 n1 c1])
  have R0 := Lib.hid (sys_cells w al st (.slice a1 n1 c1) 25)
  have H := Lib.hid h; clear h
  have HTAB := Lib.hid hTab; clear hTab
  by_cases hz : aftN al st es s.data.toList = 0
  · have hrp : runP al st es s.data.toList [] false := by unfold runP; rw [if_neg (by simpa using hz)]; exact ⟨rfl, rfl⟩
    have htr := fun w ht h => implTrace_of (a1 := a1) (n1 := n1) (c1 := c1) (al := al) (st := st) (es := es) (b := false) hs (by rw [hz]; rfl) w ht h
    have HTR := Lib.hid htr; clear htr
    have HRP := Lib.hid hrp; clear hrp
    clear hz
    go_enter Tryd.func28, Tryd.ntmps28
    go_wp2_with fail
    refine (HTR.out _ (HTAB.out.below B0.out) (EV.below H.out B0.out)).mono ?_
    rintro e w1 ⟨rfl, hb1⟩
    have B1 := Lib.hid (B0.out.trans (hb1.mono B0.out.size))
    clear hb1
    go_wp2
    go_ret2
    exact ⟨none, 0, 0, [], false, 0, rfl, fun h => absurd rfl h, ⟨none, 0, rfl, Nat.le_refl _, by decide, .inl rfl⟩, B1.out, HRP.out⟩
  · obtain ⟨T, rfl, hT1, hT16, hok, hf, ht, hrn, hv, hwi, hlen⟩ := aft_facts hz
    have hrp : runP al (T : Int) es s.data.toList (runL es T s.data.toList) true := by unfold runP; rw [if_pos hz]; exact ⟨rfl, rfl⟩
    have htr := fun w ht h => implTrace_of (a1 := a1) (n1 := n1) (c1 := c1) (al := al) (st := (T : Int)) (es := es) (b := true) hs (by simpa using hz) w ht h
    have hsz : s.size ≤ 50000 := hlen
    have hall := within_all' hwi
    have hmk := run_make_row' (P := Tryd.prog) 44 3 (.int .i64 0) 8 Tryd.underlying44 Tryd.infoInt rfl .i64 .i64 (s.size + 1) (by omega) (by omega)
    have hn1 : ((s.size + 1 : Nat) : Int) = (s.size : Int) + 1 := by omega
    rw [hn1] at hmk
    have hwS := wrap64_pow2 (T : Int) (by omega)
    rw [Int.toNat_natCast] at hwS
    obtain ⟨P, hP⟩ : ∃ P, 2 ^ T = P := ⟨_, rfl⟩
    rw [hP] at hwS
    have hP1 : 1 ≤ P := by rw [← hP]; exact Nat.pow_pos (by decide)
    have hP2 : P ≤ 65536 := by rw [← hP]; exact Nat.pow_le_pow_right (by decide) hT16
    have hwP : IntKind.i64.wrap ((P : Int) - 1) = ((P - 1 : Nat) : Int) := by rw [IntKind.wrap_i64]; omega
    have HTR := Lib.hid htr; clear htr
    have HRP := Lib.hid hrp; clear hrp
    have HALL := Lib.hid hall; clear hall
    have HOK := Lib.hid hok; clear hok
    have HF := Lib.hid hf; clear hf
    have HT := Lib.hid ht; clear ht
    have HRN := Lib.hid hrn; clear hrn
    have HP := Lib.hid hP; clear hP
    have HN1 := Lib.hid hn1; clear hn1
    clear hz hv hwi hlen
    go_enter Tryd.func28, Tryd.ntmps28
    go_wp2_with fail
    refine (HTR.out _ (HTAB.out.below B0.out) (EV.below H.out B0.out)).mono ?_
    rintro e w1 ⟨rfl, hb1⟩
    have B1 := Lib.hid (B0.out.trans (hb1.mono B0.out.size))
    have R1 := Lib.hid (rowIs_below' R0.out hb1)
    have c0 : w1.cell? ⟨w.heap.size, 0, none⟩ = some (.int .i64 al) := R1.out.cell (by decide)
    have c1' : w1.cell? ⟨w.heap.size, 1, none⟩ = some (.int .i64 (T : Int)) := R1.out.cell (by decide)
    have c2' : w1.cell? ⟨w.heap.size, 2, none⟩ = some (.slice a1 n1 c1) := R1.out.cell (by decide)
    clear hb1
    go_wp2_with fail
    refine (movesOf_any al (T : Int) a1 n1 c1 es _ (EV.below H.out B1.out) HOK.out).mono ?_
    rintro e w2 ⟨b, rfl, hmv, hbl, hb2⟩
    have B2 := Lib.hid (B1.out.trans (hb2.mono B1.out.size))
    have R2 := Lib.hid (rowIs_below' R1.out hb2)
    have hmv' : MvT w2 b es := hmv
    have hwb : w.heap.size < b := by have := World.rowIs.lt R1.out; omega
    obtain ⟨Rb, hRb⟩ : ∃ Rb, w2.heap.size = Rb := ⟨_, rfl⟩
    have hbR : b < Rb := by rw [← hRb]; exact World.rowIs.lt hmv
    obtain ⟨w3, hw3⟩ : ∃ w3, w2.alloc (.cells (madeCells #[.int .i64 0] (s.size + 1)) 3) = w3 := ⟨_, rfl⟩
    have hb3 : Below w2.heap.size w2 w3 := by rw [← hw3]; exact (Below.refl _ _).alloc (Nat.le_refl _) _
    have hrow3 : w3.rowIs Rb 3 (s.size + 1) (fun _ => .int .i64 0) := by rw [← hw3, ← hRb]; exact World.rowIs_made w2 (.int .i64 0) (s.size + 1) 3
    have B3 := Lib.hid (B2.out.trans (hb3.mono B2.out.size))
    have R3 := Lib.hid (rowIs_below' R2.out hb3)
    have M3 := Lib.hid (hmv'.below hb3)
    have W3 := Lib.hid hrow3
    clear c0 c1' c2'
    have c1' : w3.cell? ⟨w.heap.size, 1, none⟩ = some (.int .i64 (T : Int)) := R3.out.cell (by decide)
    have r0 : w3.cell? ⟨Rb, s.size, none⟩ = some (.int .i64 0) := hrow3.cell (by omega)
    have rf := hrow3.frozen s.size
    clear hb2 hb3 hrow3 hmv hmv' hbl
    go_wp2
    clear r0 rf c1' hwS hwP
    go_loopw [8] (fun i wr => ∃ k : Nat, k ≤ s.size ∧ i = .int .i64 ((k : Int) - 1) ∧ Below w.heap.size w wr ∧ wr.rowIs w.heap.size 25 3 (fun i => #[.int .i64 al, .int .i64 (T : Int), .slice a1 n1 c1][i]?.getD undef) ∧ MvT wr b es ∧ wr.rowIs Rb 3 (s.size + 1) (backF es T s.data.toList k)) (fun i _ => (intOf i + 1).toNat)
    case atStart => exact ⟨s.size, Nat.le_refl _, rfl, B3.out.setCell (p := ⟨Rb, s.size, none⟩) (by simp; omega) _, R3.out.setOther (a := ⟨Rb, s.size, none⟩) (by simp; omega) _, World.rowIs.setOther M3.out (a := ⟨Rb, s.size, none⟩) (by simp; omega) _, (W3.out.set s.size _).congr (fun j hj => by
      unfold backF
      by_cases e : j = s.size
      · subst e
        rw [if_pos rfl, if_pos (Nat.le_refl _), show s.data.toList.drop s.size = [] from List.drop_eq_nil_of_le (by rw [data_len]; exact Nat.le_refl _)]
        show Value.int .i64 ((P - 1 : Nat) : Int) = Value.int .i64 ((2 ^ T - 1 : Nat) : Int)
        rw [HP.out]
      · rw [if_neg e, if_neg (by omega)]; rfl)⟩
    case round =>
      obtain ⟨k, hk, rfl, hbel, hrow, hmvt, hback⟩ := hrel
      have HBEL := Lib.hid hbel
      have HROW := Lib.hid hrow
      have HMV := Lib.hid hmvt
      have HBACK := Lib.hid hback
      clear hbel hrow hback hmvt
      cases k with
      | succ m =>
        have hm1 : ((m + 1 : Nat) : Int) - 1 = (m : Int) := by omega
        have hlt : m < s.size := by omega
        obtain ⟨c, hc⟩ : ∃ c, s[m] = c := ⟨_, rfl⟩
        have hokc : okL al c = true := by rw [← hc]; exact all_at s (okL al) m hlt HALL.out
        have hc0 := okL_nonneg hokc
        have hc6 := ltr_lt c
        have hsub : ltr c = ((ltr c).toNat : Int) := by omega
        have hbq : backN es T (s.data.toList.drop (m + 1)) < 65536 := Nat.lt_of_lt_of_le (backN_lt HF.out _) (by rw [HP.out]; exact hP2)
        have hnx : backN es T (s.data.toList.drop m) = backL es (backN es T (s.data.toList.drop (m + 1))) (ltr c) := by
          rw [drop_cons_get s.data.toList m (by rw [data_len]; exact hlt), getD_at s m hlt, hc]; rfl
        have hvl : backL es (backN es T (s.data.toList.drop (m + 1))) (ltr c) < 2 ^ T := backL_under HF.out _ _
        have hstep := fun q => back_step HOK.out (backN es T (s.data.toList.drop (m + 1))) (ltr c) q
        obtain ⟨x, hx⟩ : ∃ x, (ltr c).toNat = x := ⟨_, rfl⟩
        have hx6 : x < 6 := by omega
        rw [hx] at hsub
        obtain ⟨bq, hbqe⟩ : ∃ bq, backN es T (s.data.toList.drop (m + 1)) = bq := ⟨_, rfl⟩
        rw [hbqe] at hbq
        rw [hsub, hbqe] at hnx hvl hstep
        obtain ⟨v, hv⟩ : ∃ v, backL es bq (x : Int) = v := ⟨_, rfl⟩
        rw [hv] at hnx hvl hstep
        have hla : ∀ w, Calls Tryd.prog 47 #[.string s, .int .i64 m] w (Ret (.int .i64 (x : Int)) w) := fun w => by
          have := letterAt_c s m c hlt (Lib.hid hc) hs w
          rwa [hsub] at this
        obtain ⟨N, hN⟩ : ∃ N, m + 1 = N := ⟨_, rfl⟩
        have hwm : IntKind.i64.wrap ((m : Int) + 1) = (N : Int) := by rw [IntKind.wrap_i64]; omega
        have hNs : N < s.size + 1 := by omega
        have hmi : (m : Int) < (s.size : Int) + 1 := by omega
        have hNi : (N : Int) < (s.size : Int) + 1 := by omega
        have hbf : backF es T s.data.toList (m + 1) N = .int .i64 (bq : Int) := by unfold backF; rw [if_pos (by omega), ← hN, hbqe]
        have HBF := Lib.hid hbf; clear hbf
        have HNN := Lib.hid hN; clear hN
        have HNX := Lib.hid hnx; clear hnx
        have HLA := Lib.hid hla; clear hla
        have HSTEP := Lib.hid hstep; clear hstep
        have HVL := Lib.hid hvl; clear hvl
        clear hv hx hbqe hokc hc0 hsub hc hc6
        rw [hm1]
        obtain ⟨wo, hwo⟩ : ∃ wo : World, wo = wr := ⟨_, rfl⟩
        subst hwo
        have d1 : wo.cell? ⟨w.heap.size, 1, none⟩ = some (.int .i64 (T : Int)) := HROW.out.cell (by decide)
        go_wp2
        clear d1
        go_loopw [39] (fun i wr => ∃ q : Nat, q ≤ T ∧ i = .int .i64 q ∧ Below w.heap.size w wr ∧ wr.rowIs w.heap.size 25 3 (fun i => #[.int .i64 al, .int .i64 (T : Int), .slice a1 n1 c1][i]?.getD undef) ∧ MvT wr b es ∧ wr.rowIs Rb 3 (s.size + 1) (backM es T s.data.toList m v q)) (fun i _ => T - (intOf i).toNat)
        case atStart => exact ⟨0, Nat.zero_le _, rfl, HBEL.out, HROW.out, HMV.out, HBACK.out.congr (fun j hj => by
          unfold backM
          by_cases e : j = m
          · subst e
            rw [if_pos rfl, Nat.pow_zero, Nat.mod_one]
            unfold backF
            rw [if_neg (by omega)]
          · rw [if_neg e])⟩
        case round =>
          obtain ⟨q, hq, rfl, hbel, hrow, hmvt, hback⟩ := hrel
          have HBEL2 := Lib.hid hbel
          have HROW2 := Lib.hid hrow
          have HMV2 := Lib.hid hmvt
          have HBACK2 := Lib.hid hback
          clear hbel hrow hback hmvt
          by_cases hqT : q < T
          · have hq16 : q < 16 := by omega
            have hck : wr.cell? ⟨Rb, N, none⟩ = some (.int .i64 bq) := by
              have h := HBACK2.out.cell (i := N) (by omega)
              unfold backM at h
              rwa [if_neg (by have := HNN.out; omega), HBF.out] at h
            have hcm : wr.cell? ⟨Rb, m, none⟩ = some (.int .i64 ((v % 2 ^ q : Nat) : Int)) := by
              have h := HBACK2.out.cell (i := m) (by omega)
              unfold backM at h
              rwa [if_pos rfl] at h
            have hfm := HBACK2.out.frozen m
            have hct := HMV2.out.cell q x hq16 hx6
            have hsb := HSTEP.out q
            have hyl := stepN_lt HOK.out (2 ^ q) (x : Int)
            obtain ⟨y, hy⟩ : ∃ y, stepN es (2 ^ q) (x : Int) = y := ⟨_, rfl⟩
            rw [hy] at hct hsb hyl
            have hand := and_n y bq hyl hbq
            obtain ⟨z, hz⟩ : ∃ z, y &&& bq = z := ⟨_, rfl⟩
            rw [hz] at hsb hand
            have hvq : v % 2 ^ q < 65536 := Nat.lt_of_le_of_lt (Nat.mod_le _ _) (Nat.lt_of_lt_of_le HVL.out (by rw [HP.out]; exact hP2))
            have hmn : ¬ m = N := by have := HNN.out; omega
            have HY := Lib.hid hy; clear hy
            have HZ := Lib.hid hz; clear hz
            have HAND := Lib.hid hand; clear hand
            have HSB := Lib.hid hsb; clear hsb
            have HMN := Lib.hid hmn; clear hmn
            go_wp2_with fail
            go_quiet ((go_at_call 47; first | exact quiet_plus (HLA.out _) | exact quiet_n (HLA.out _)))
            rename_i nq
            rw [HAND.out]
            have hbq' : Below wr.heap.size wr (wr.drewN nq) := below_dN (Below.refl _ _) nq
            have hbk' : (wr.drewN nq).rowIs Rb 3 (s.size + 1) (backM es T s.data.toList m v q) := HBACK2.out
            have hro' : (wr.drewN nq).rowIs w.heap.size 25 3 (fun i => #[.int .i64 al, .int .i64 (T : Int), .slice a1 n1 c1][i]?.getD undef) := HROW2.out
            have hmv' : MvT (wr.drewN nq) b es := HMV2.out
            have hcm' : (wr.drewN nq).cell? ⟨Rb, m, none⟩ = some (.int .i64 ((v % 2 ^ q : Nat) : Int)) := hcm
            have hfm' : (wr.drewN nq).frozen? ⟨Rb, m, none⟩ = false := hfm
            have hbe' := HBEL2.out.trans (hbq'.mono HBEL2.out.size)
            obtain ⟨wq, hwq⟩ : ∃ wq, wr.drewN nq = wq := ⟨_, rfl⟩
            rw [hwq] at hbk' hro' hmv' hcm' hfm' hbe' ⊢
            have HBK := Lib.hid hbk'
            have HRO := Lib.hid hro'
            have HMQ := Lib.hid hmv'
            have HBE := Lib.hid hbe'
            obtain ⟨o, ho⟩ : ∃ o, v % 2 ^ q = o := ⟨_, rfl⟩
            rw [ho] at hcm' hvq
            have HOR := Lib.hid (or_w o (q : Int) hvq (by omega) (by omega))
            have HO := Lib.hid ho; clear ho
            clear hbk' hro' hmv' hbe' hbq' hwq hck hcm hfm hct
            by_cases hz0 : z = 0
            · have hzb : ((z : Int) != 0) = false := by rw [hz0]; rfl
              have hno : v % 2 ^ (q + 1) = v % 2 ^ q := mod_no v q (by rw [HSB.out, hz0]; rfl)
              have HNO := Lib.hid hno; clear hno
              clear hz0
              go_wp2
              go_roundw
              case rel => exact ⟨q + 1, by omega, by go_num, HBE.out, HRO.out, HMQ.out, HBK.out.congr (fun j _ => by unfold backM; rw [HNO.out])⟩
              case measure => simp [intOf] <;> omega
            · have hzb : ((z : Int) != 0) = true := by simp; omega
              have hyes : v % 2 ^ (q + 1) = v % 2 ^ q ||| 2 ^ q := mod_yes v q (by rw [HSB.out]; simpa using hz0)
              have HYES := Lib.hid hyes; clear hyes
              clear hz0
              go_wp2_with fail
              go_still_tail 8, (by kernel_rfl)
              change wpList _ _ _ _ _ wq.drew
              go_wp2
              go_roundw
              case rel => exact ⟨q + 1, by omega, by go_num, HBE.out.drew.setCell (p := ⟨Rb, m, none⟩) (by simp; omega) _, World.rowIs.setOther (w := wq.drew) HRO.out (a := ⟨Rb, m, none⟩) (by simp; omega) _, World.rowIs.setOther (w := wq.drew) HMQ.out (a := ⟨Rb, m, none⟩) (by simp; omega) _, (World.rowIs.set (w := wq.drew) HBK.out m _).congr (fun j _ => by
                unfold backM
                by_cases e : j = m
                · subst e
                  rw [if_pos rfl, if_pos rfl, HYES.out, HO.out]
                  exact congrArg (Value.int .i64) HOR.out
                · rw [if_neg e, if_neg e, if_neg e])⟩
              case measure => simp [intOf] <;> omega
          · obtain rfl : q = T := by omega
            have hvm : v % 2 ^ q = v := Nat.mod_eq_of_lt HVL.out
            go_wp2
            go_roundw
            case rel => exact ⟨m, by omega, rfl, HBEL2.out, HROW2.out, HMV2.out, HBACK2.out.congr (fun j _ => by
              have h := backF_next es q s.data.toList m v HNX.out.symm j
              unfold backM
              rw [hvm]
              exact h)⟩
            case measure => simp [intOf] <;> omega
      | zero =>
        obtain ⟨wo, hwo⟩ : ∃ wo : World, wo = wr := ⟨_, rfl⟩
        subst hwo
        have hm1 : ((0 : Nat) : Int) - 1 = -1 := rfl
        rw [hm1]
        have hRr : Rb < wo.heap.size := World.rowIs.lt HBACK.out
        obtain ⟨U, hU⟩ : ∃ U, wo.heap.size = U := ⟨_, rfl⟩
        obtain ⟨w5, hw5⟩ : ∃ w5, wo.alloc (.cells (madeCells #[.int .i64 0] (s.size + 1)) 3) = w5 := ⟨_, rfl⟩
        have hb5 : Below wo.heap.size wo w5 := by rw [← hw5]; exact (Below.refl _ _).alloc (Nat.le_refl _) _
        have hrow5 : w5.rowIs U 3 (s.size + 1) (fun _ => .int .i64 0) := by rw [← hw5, ← hU]; exact World.rowIs_made wo (.int .i64 0) (s.size + 1) 3
        have HB5 := Lib.hid (HBEL.out.trans (hb5.mono HBEL.out.size))
        have HM5 := Lib.hid (HMV.out.below hb5)
        have HK5 := Lib.hid (rowIs_below' HBACK.out hb5)
        have HU5 := Lib.hid hrow5
        have hRU : Rb < U := by omega
        clear hb5 hrow5
        go_wp2
        go_loopw [73] (fun i wr => ∃ k : Nat, k ≤ s.size ∧ i = .int .i64 k ∧ Below w.heap.size w wr ∧ MvT wr b es ∧ wr.rowIs Rb 3 (s.size + 1) (backF es T s.data.toList 0) ∧ wr.rowIs U 3 (s.size + 1) (runF es T s.data.toList k)) (fun i _ => s.size - (intOf i).toNat)
        case atStart => exact ⟨0, Nat.zero_le _, rfl, HB5.out, HM5.out, HK5.out, HU5.out.congr (fun j _ => by
          unfold runF
          by_cases e : j = 0
          · subst e; rfl
          · rw [if_neg (by omega)]; rfl)⟩
        case round =>
          obtain ⟨k, hk, rfl, hbel, hmvt, hback, hrun⟩ := hrel
          have HBEL2 := Lib.hid hbel
          have HMV2 := Lib.hid hmvt
          have HBACK2 := Lib.hid hback
          have HRUN2 := Lib.hid hrun
          clear hbel hmvt hback hrun
          by_cases hlt : k < s.size
          · obtain ⟨c, hc⟩ : ∃ c, s[k] = c := ⟨_, rfl⟩
            have hokc : okL al c = true := by rw [← hc]; exact all_at s (okL al) k hlt HALL.out
            have hc0 := okL_nonneg hokc
            have hc6 := ltr_lt c
            have hsub : ltr c = ((ltr c).toNat : Int) := by omega
            have hgc : s.data.toList[k]?.getD 0 = c := by rw [getD_at s k hlt, hc]
            have hq16 : runS es T s.data.toList k < T := runS_lt HOK.out hT16 HF.out HT.out s.data.toList HRN.out hT1 k (by rw [data_len]; omega)
            have hne := runS_step HOK.out hT16 HF.out HT.out s.data.toList HRN.out hT1 k (by rw [data_len]; omega)
            have hnx : runS es T s.data.toList (k + 1) = Lib.ctz 64 (stepN es (2 ^ runS es T s.data.toList k) (ltr c) &&& backN es T (s.data.toList.drop (k + 1))) := by rw [runS, hgc]
            rw [hgc] at hne
            have hbq : backN es T (s.data.toList.drop (k + 1)) < 65536 := Nat.lt_of_lt_of_le (backN_lt HF.out _) (by rw [HP.out]; exact hP2)
            obtain ⟨x, hx⟩ : ∃ x, (ltr c).toNat = x := ⟨_, rfl⟩
            have hx6 : x < 6 := by omega
            rw [hx] at hsub
            have hla : ∀ w, Calls Tryd.prog 47 #[.string s, .int .i64 k] w (Ret (.int .i64 (x : Int)) w) := fun w => by
              have := letterAt_c s k c hlt (Lib.hid hc) hs w
              rwa [hsub] at this
            rw [hsub] at hne hnx
            obtain ⟨N, hN⟩ : ∃ N, k + 1 = N := ⟨_, rfl⟩
            have hck : wr.cell? ⟨Rb, N, none⟩ = some (.int .i64 ((backN es T (s.data.toList.drop (k + 1)) : Nat) : Int)) := by
              have := HBACK2.out.cell (i := N) (by omega)
              unfold backF at this
              rw [if_pos (Nat.zero_le _)] at this
              rw [this, ← hN]
            have hcr : wr.cell? ⟨U, k, none⟩ = some (.int .i64 ((runS es T s.data.toList k : Nat) : Int)) := by
              have := HRUN2.out.cell (i := k) (by omega)
              unfold runF at this
              rwa [if_pos (Nat.le_refl _)] at this
            obtain ⟨v, hcu⟩ : ∃ v, wr.cell? ⟨U, N, none⟩ = some v := ⟨_, HRUN2.out.cell (i := N) (by omega)⟩
            have hfu := HRUN2.out.frozen N
            obtain ⟨q, hq⟩ : ∃ q, runS es T s.data.toList k = q := ⟨_, rfl⟩
            obtain ⟨bq, hbqe⟩ : ∃ bq, backN es T (s.data.toList.drop (k + 1)) = bq := ⟨_, rfl⟩
            rw [hq] at hq16 hne hnx hcr
            rw [hbqe] at hne hnx hbq hck
            have hct := HMV2.out.cell q x (by omega) hx6
            have hyl := stepN_lt HOK.out (2 ^ q) (x : Int)
            obtain ⟨y, hy⟩ : ∃ y, stepN es (2 ^ q) (x : Int) = y := ⟨_, rfl⟩
            rw [hy] at hne hnx hct hyl
            have hand := and_n y bq hyl hbq
            have hzl : y &&& bq < 65536 := Nat.lt_of_le_of_lt Nat.and_le_left hyl
            obtain ⟨z, hz⟩ : ∃ z, y &&& bq = z := ⟨_, rfl⟩
            rw [hz] at hne hnx hand hzl
            have htz := fun wq ht => tz_any z (by omega) hne wq ht
            obtain ⟨r, hr⟩ : ∃ r, runS es T s.data.toList (k + 1) = r := ⟨_, rfl⟩
            rw [← hnx, hr] at htz
            have hwu : IntKind.u64.wrap (z : Int) = (z : Int) := by rw [IntKind.wrap_u64]; omega
            have hwm : IntKind.i64.wrap ((k : Int) + 1) = (N : Int) := by rw [IntKind.wrap_i64]; omega
            have hNs : N < s.size + 1 := by omega
            have hNi : (N : Int) < (s.size : Int) + 1 := by omega
            have hki : (k : Int) < (s.size : Int) + 1 := by omega
            have hq16' : (q : Int) < 16 := by omega
            have hxi : (x : Int) < 6 := by omega
            have HLT := Lib.hid hlt
            have HTW := Lib.hid (HTAB.out.below HBEL2.out)
            have HTZ := Lib.hid htz; clear htz
            have HLA := Lib.hid hla; clear hla
            have HRR := Lib.hid hr; clear hr
            have HNN := Lib.hid hN; clear hN
            clear hq hx hbqe hy hz hnx hokc hc0 hgc hsub hc hc6
            have HS := Lib.hid (fun (w2 : World) (hb : Below wr.heap.size wr w2) => (show (w2.cell? ⟨U, k, none⟩ = some (.int .i64 q) ∧ w2.cell? ⟨b, q * 6 + x, none⟩ = some (.int .i64 y)) ∧ w2.cell? ⟨Rb, N, none⟩ = some (.int .i64 bq) from ⟨⟨keep_cell hb hcr, keep_cell hb hct⟩, keep_cell hb hck⟩))
            have HBD := Lib.hid (show Below wr.heap.size wr wr.drew from (Below.refl _ _).drew)
            have HCR := Lib.hid hcr
            have HCT := Lib.hid hct
            have HCK := Lib.hid hck
            clear hcr hct hck
            go_wp2_with fail
            refine wp_region_held_drew (S := fun w2 => (w2.cell? ⟨U, k, none⟩ = some (.int .i64 q) ∧ w2.cell? ⟨b, q * 6 + x, none⟩ = some (.int .i64 y)) ∧ w2.cell? ⟨Rb, N, none⟩ = some (.int .i64 bq)) (by kernel_rfl) (HS.out _ HBD.out) (fun hHeld => ?_)
            first | (refine wpAnyH_take (i := 0) (get_of_drop' rfl) (by kernel_rfl) (by kernel_rfl) (by kernel_rfl) (fun _ _ _ h => h) (Or.inr ⟨?_, rfl⟩) hHeld ?_; (focus (simp [Region.wanted, yielded, undef]; done)); (try simp only [Act.put, List.setIfInBounds_toArray, List.set_cons_zero, List.set_cons_succ])) | (refine wpAnyH_take (i := 0) (v := ?_) (get_of_drop' rfl) (by kernel_rfl) (by kernel_rfl) (by kernel_rfl) (fun _ _ _ h => h) (Or.inl ⟨?_, ?_⟩) hHeld ?_; rotate_left; (focus rfl); (focus (intro w hSw; (try dsimp only at hSw); go_simp; (try (with_reducible rfl)))); (try simp only [Act.put, List.setIfInBounds_toArray, List.set_cons_zero, List.set_cons_succ]))
            first | (refine wpAnyH_take (i := 1) (get_of_drop' rfl) (by kernel_rfl) (by kernel_rfl) (by kernel_rfl) (fun _ _ _ h => h) (Or.inr ⟨?_, rfl⟩) hHeld ?_; (focus (simp [Region.wanted, yielded, undef]; done)); (try simp only [Act.put, List.setIfInBounds_toArray, List.set_cons_zero, List.set_cons_succ])) | (refine wpAnyH_take (i := 1) (v := ?_) (get_of_drop' rfl) (by kernel_rfl) (by kernel_rfl) (by kernel_rfl) (fun _ _ _ h => h) (Or.inl ⟨?_, ?_⟩) hHeld ?_; rotate_left; (focus rfl); (focus (intro w hSw; (try dsimp only at hSw); go_simp; (try (with_reducible rfl)))); (try simp only [Act.put, List.setIfInBounds_toArray, List.set_cons_zero, List.set_cons_succ]))
            first | (refine wpAnyH_take (i := 2) (get_of_drop' rfl) (by kernel_rfl) (by kernel_rfl) (by kernel_rfl) (fun _ _ _ h => h) (Or.inr ⟨?_, rfl⟩) hHeld ?_; (focus (simp [Region.wanted, yielded, undef]; done)); (try simp only [Act.put, List.setIfInBounds_toArray, List.set_cons_zero, List.set_cons_succ])) | (refine wpAnyH_take (i := 2) (v := ?_) (get_of_drop' rfl) (by kernel_rfl) (by kernel_rfl) (by kernel_rfl) (fun _ _ _ h => h) (Or.inl ⟨?_, ?_⟩) hHeld ?_; rotate_left; (focus rfl); (focus (intro w hSw; (try dsimp only at hSw); go_simp; (try (with_reducible rfl)))); (try simp only [Act.put, List.setIfInBounds_toArray, List.set_cons_zero, List.set_cons_succ]))
            first | (refine wpAnyH_take (i := 3) (get_of_drop' rfl) (by kernel_rfl) (by kernel_rfl) (by kernel_rfl) (fun _ _ _ h => h) (Or.inr ⟨?_, rfl⟩) hHeld ?_; (focus (simp [Region.wanted, yielded, undef]; done)); (try simp only [Act.put, List.setIfInBounds_toArray, List.set_cons_zero, List.set_cons_succ])) | (refine wpAnyH_take (i := 3) (v := ?_) (get_of_drop' rfl) (by kernel_rfl) (by kernel_rfl) (by kernel_rfl) (fun _ _ _ h => h) (Or.inl ⟨?_, ?_⟩) hHeld ?_; rotate_left; (focus rfl); (focus (intro w hSw; (try dsimp only at hSw); go_simp; (try (with_reducible rfl)))); (try simp only [Act.put, List.setIfInBounds_toArray, List.set_cons_zero, List.set_cons_succ]))
            first | (refine wpAnyH_take (i := 4) (get_of_drop' rfl) (by kernel_rfl) (by kernel_rfl) (by kernel_rfl) (fun _ _ _ h => h) (Or.inr ⟨?_, rfl⟩) hHeld ?_; (focus (simp [Region.wanted, yielded, undef]; done)); (try simp only [Act.put, List.setIfInBounds_toArray, List.set_cons_zero, List.set_cons_succ])) | (refine wpAnyH_take (i := 4) (v := ?_) (get_of_drop' rfl) (by kernel_rfl) (by kernel_rfl) (by kernel_rfl) (fun _ _ _ h => h) (Or.inl ⟨?_, ?_⟩) hHeld ?_; rotate_left; (focus rfl); (focus (intro w hSw; (try dsimp only at hSw); go_simp; (try (with_reducible rfl)))); (try simp only [Act.put, List.setIfInBounds_toArray, List.set_cons_zero, List.set_cons_succ]))
            first | (refine wpAnyH_take (i := 5) (get_of_drop' rfl) (by kernel_rfl) (by kernel_rfl) (by kernel_rfl) (fun _ _ _ h => h) (Or.inr ⟨?_, rfl⟩) hHeld ?_; (focus (simp [Region.wanted, yielded, undef]; done)); (try simp only [Act.put, List.setIfInBounds_toArray, List.set_cons_zero, List.set_cons_succ])) | (refine wpAnyH_take (i := 5) (v := ?_) (get_of_drop' rfl) (by kernel_rfl) (by kernel_rfl) (by kernel_rfl) (fun _ _ _ h => h) (Or.inl ⟨?_, ?_⟩) hHeld ?_; rotate_left; (focus rfl); (focus (intro w hSw; (try dsimp only at hSw); go_simp; (try (with_reducible rfl)))); (try simp only [Act.put, List.setIfInBounds_toArray, List.set_cons_zero, List.set_cons_succ]))
            first | (refine wpAnyH_take (i := 6) (get_of_drop' rfl) (by kernel_rfl) (by kernel_rfl) (by kernel_rfl) (fun _ _ _ h => h) (Or.inr ⟨?_, rfl⟩) hHeld ?_; (focus (simp [Region.wanted, yielded, undef]; done)); (try simp only [Act.put, List.setIfInBounds_toArray, List.set_cons_zero, List.set_cons_succ])) | (refine wpAnyH_take (i := 6) (v := ?_) (get_of_drop' rfl) (by kernel_rfl) (by kernel_rfl) (by kernel_rfl) (fun _ _ _ h => h) (Or.inl ⟨?_, ?_⟩) hHeld ?_; rotate_left; (focus rfl); (focus (intro w hSw; (try dsimp only at hSw); go_simp; (try (with_reducible rfl)))); (try simp only [Act.put, List.setIfInBounds_toArray, List.set_cons_zero, List.set_cons_succ]))
            first | (refine wpAnyH_take (i := 7) (get_of_drop' rfl) (by kernel_rfl) (by kernel_rfl) (by kernel_rfl) (fun _ _ _ h => h) (Or.inr ⟨?_, rfl⟩) hHeld ?_; (focus (simp [Region.wanted, yielded, undef]; done)); (try simp only [Act.put, List.setIfInBounds_toArray, List.set_cons_zero, List.set_cons_succ])) | (refine wpAnyH_take (i := 7) (v := ?_) (get_of_drop' rfl) (by kernel_rfl) (by kernel_rfl) (by kernel_rfl) (fun _ _ _ h => h) (Or.inl ⟨?_, ?_⟩) hHeld ?_; rotate_left; (focus rfl); (focus (intro w hSw; (try dsimp only at hSw); go_simp; (try (with_reducible rfl)))); (try simp only [Act.put, List.setIfInBounds_toArray, List.set_cons_zero, List.set_cons_succ]))
            first | (refine wpAnyH_take (i := 8) (get_of_drop' rfl) (by kernel_rfl) (by kernel_rfl) (by kernel_rfl) (fun _ _ _ h => h) (Or.inr ⟨?_, rfl⟩) hHeld ?_; (focus (simp [Region.wanted, yielded, undef]; done)); (try simp only [Act.put, List.setIfInBounds_toArray, List.set_cons_zero, List.set_cons_succ])) | (refine wpAnyH_take (i := 8) (v := ?_) (get_of_drop' rfl) (by kernel_rfl) (by kernel_rfl) (by kernel_rfl) (fun _ _ _ h => h) (Or.inl ⟨?_, ?_⟩) hHeld ?_; rotate_left; (focus rfl); (focus (intro w hSw; (try dsimp only at hSw); go_simp; (try (with_reducible rfl)))); (try simp only [Act.put, List.setIfInBounds_toArray, List.set_cons_zero, List.set_cons_succ]))
            first | (refine wpAnyH_take (i := 9) (get_of_drop' rfl) (by kernel_rfl) (by kernel_rfl) (by kernel_rfl) (fun _ _ _ h => h) (Or.inr ⟨?_, rfl⟩) hHeld ?_; (focus (simp [Region.wanted, yielded, undef]; done)); (try simp only [Act.put, List.setIfInBounds_toArray, List.set_cons_zero, List.set_cons_succ])) | (refine wpAnyH_take (i := 9) (v := ?_) (get_of_drop' rfl) (by kernel_rfl) (by kernel_rfl) (by kernel_rfl) (fun _ _ _ h => h) (Or.inl ⟨?_, ?_⟩) hHeld ?_; rotate_left; (focus rfl); (focus (intro w hSw; (try dsimp only at hSw); go_simp; (try (with_reducible rfl)))); (try simp only [Act.put, List.setIfInBounds_toArray, List.set_cons_zero, List.set_cons_succ]))
            first | (refine wpAnyH_take (i := 11) (get_of_drop' rfl) (by kernel_rfl) (by kernel_rfl) (by kernel_rfl) (fun _ _ _ h => h) (Or.inr ⟨?_, rfl⟩) hHeld ?_; (focus (simp [Region.wanted, yielded, undef]; done)); (try simp only [Act.put, List.setIfInBounds_toArray, List.set_cons_zero, List.set_cons_succ])) | (refine wpAnyH_take (i := 11) (v := ?_) (get_of_drop' rfl) (by kernel_rfl) (by kernel_rfl) (by kernel_rfl) (fun _ _ _ h => h) (Or.inl ⟨?_, ?_⟩) hHeld ?_; rotate_left; (focus rfl); (focus (intro w hSw; (try dsimp only at hSw); go_simp; (try (with_reducible rfl)))); (try simp only [Act.put, List.setIfInBounds_toArray, List.set_cons_zero, List.set_cons_succ]))
            first | (refine wpAnyH_take (i := 12) (get_of_drop' rfl) (by kernel_rfl) (by kernel_rfl) (by kernel_rfl) (fun _ _ _ h => h) (Or.inr ⟨?_, rfl⟩) hHeld ?_; (focus (simp [Region.wanted, yielded, undef]; done)); (try simp only [Act.put, List.setIfInBounds_toArray, List.set_cons_zero, List.set_cons_succ])) | (refine wpAnyH_take (i := 12) (v := ?_) (get_of_drop' rfl) (by kernel_rfl) (by kernel_rfl) (by kernel_rfl) (fun _ _ _ h => h) (Or.inl ⟨?_, ?_⟩) hHeld ?_; rotate_left; (focus rfl); (focus (intro w hSw; (try dsimp only at hSw); go_simp; (try (with_reducible rfl)))); (try simp only [Act.put, List.setIfInBounds_toArray, List.set_cons_zero, List.set_cons_succ]))
            first | (refine wpAnyH_take (i := 15) (get_of_drop' rfl) (by kernel_rfl) (by kernel_rfl) (by kernel_rfl) (fun _ _ _ h => h) (Or.inr ⟨?_, rfl⟩) hHeld ?_; (focus (simp [Region.wanted, yielded, undef]; done)); (try simp only [Act.put, List.setIfInBounds_toArray, List.set_cons_zero, List.set_cons_succ])) | (refine wpAnyH_take (i := 15) (v := ?_) (get_of_drop' rfl) (by kernel_rfl) (by kernel_rfl) (by kernel_rfl) (fun _ _ _ h => h) (Or.inl ⟨?_, ?_⟩) hHeld ?_; rotate_left; (focus rfl); (focus (intro w hSw; (try dsimp only at hSw); go_simp; (try (with_reducible rfl)))); (try simp only [Act.put, List.setIfInBounds_toArray, List.set_cons_zero, List.set_cons_succ]))
            first | (refine wpAnyH_take (i := 16) (get_of_drop' rfl) (by kernel_rfl) (by kernel_rfl) (by kernel_rfl) (fun _ _ _ h => h) (Or.inr ⟨?_, rfl⟩) hHeld ?_; (focus (simp [Region.wanted, yielded, undef]; done)); (try simp only [Act.put, List.setIfInBounds_toArray, List.set_cons_zero, List.set_cons_succ])) | (refine wpAnyH_take (i := 16) (v := ?_) (get_of_drop' rfl) (by kernel_rfl) (by kernel_rfl) (by kernel_rfl) (fun _ _ _ h => h) (Or.inl ⟨?_, ?_⟩) hHeld ?_; rotate_left; (focus rfl); (focus (intro w hSw; (try dsimp only at hSw); go_simp; (try (with_reducible rfl)))); (try simp only [Act.put, List.setIfInBounds_toArray, List.set_cons_zero, List.set_cons_succ]))
            first | (refine wpAnyH_take (i := 17) (get_of_drop' rfl) (by kernel_rfl) (by kernel_rfl) (by kernel_rfl) (fun _ _ _ h => h) (Or.inr ⟨?_, rfl⟩) hHeld ?_; (focus (simp [Region.wanted, yielded, undef]; done)); (try simp only [Act.put, List.setIfInBounds_toArray, List.set_cons_zero, List.set_cons_succ])) | (refine wpAnyH_take (i := 17) (v := ?_) (get_of_drop' rfl) (by kernel_rfl) (by kernel_rfl) (by kernel_rfl) (fun _ _ _ h => h) (Or.inl ⟨?_, ?_⟩) hHeld ?_; rotate_left; (focus rfl); (focus (intro w hSw; (try dsimp only at hSw); go_simp; (try (with_reducible rfl)))); (try simp only [Act.put, List.setIfInBounds_toArray, List.set_cons_zero, List.set_cons_succ]))
            first | (refine wpAnyH_take (i := 18) (get_of_drop' rfl) (by kernel_rfl) (by kernel_rfl) (by kernel_rfl) (fun _ _ _ h => h) (Or.inr ⟨?_, rfl⟩) hHeld ?_; (focus (simp [Region.wanted, yielded, undef]; done)); (try simp only [Act.put, List.setIfInBounds_toArray, List.set_cons_zero, List.set_cons_succ])) | (refine wpAnyH_take (i := 18) (v := ?_) (get_of_drop' rfl) (by kernel_rfl) (by kernel_rfl) (by kernel_rfl) (fun _ _ _ h => h) (Or.inl ⟨?_, ?_⟩) hHeld ?_; rotate_left; (focus rfl); (focus (intro w hSw; (try dsimp only at hSw); go_simp; (try (with_reducible rfl)))); (try simp only [Act.put, List.setIfInBounds_toArray, List.set_cons_zero, List.set_cons_succ]))
            first | (refine wpAnyH_take (i := 19) (get_of_drop' rfl) (by kernel_rfl) (by kernel_rfl) (by kernel_rfl) (fun _ _ _ h => h) (Or.inr ⟨?_, rfl⟩) hHeld ?_; (focus (simp [Region.wanted, yielded, undef]; done)); (try simp only [Act.put, List.setIfInBounds_toArray, List.set_cons_zero, List.set_cons_succ])) | (refine wpAnyH_take (i := 19) (v := ?_) (get_of_drop' rfl) (by kernel_rfl) (by kernel_rfl) (by kernel_rfl) (fun _ _ _ h => h) (Or.inl ⟨?_, ?_⟩) hHeld ?_; rotate_left; (focus rfl); (focus (intro w hSw; (try dsimp only at hSw); go_simp; (try (with_reducible rfl)))); (try simp only [Act.put, List.setIfInBounds_toArray, List.set_cons_zero, List.set_cons_succ]))
            refine wpAnyH_ready (rs := [10]) (by kernel_rfl) (by simp) ?_
            refine AllReadyH.cons (get_of_drop' rfl) (fun K hK => ?_) AllReadyH.nil
            go_simp
            go_at_call 47
            refine (HLA.out _).mono ?_
            rintro e w6 ⟨rfl, rfl⟩
            go_wp2_with fail
            refine hK.out _ _ (HS.out _ HBD.out) (fun hHeld => ?_)
            clear hK K
            try simp only [Act.put, List.setIfInBounds_toArray, List.set_cons_zero, List.set_cons_succ]
            first | (refine wpAnyH_take (i := 13) (get_of_drop' rfl) (by kernel_rfl) (by kernel_rfl) (by kernel_rfl) (fun _ _ _ h => h) (Or.inr ⟨?_, rfl⟩) hHeld ?_; (focus (simp [Region.wanted, yielded, undef]; done)); (try simp only [Act.put, List.setIfInBounds_toArray, List.set_cons_zero, List.set_cons_succ])) | (refine wpAnyH_take (i := 13) (v := ?_) (get_of_drop' rfl) (by kernel_rfl) (by kernel_rfl) (by kernel_rfl) (fun _ _ _ h => h) (Or.inl ⟨?_, ?_⟩) hHeld ?_; rotate_left; (focus rfl); (focus (intro w hSw; (try dsimp only at hSw); go_simp; (try (with_reducible rfl)))); (try simp only [Act.put, List.setIfInBounds_toArray, List.set_cons_zero, List.set_cons_succ]))
            first | (refine wpAnyH_take (i := 14) (get_of_drop' rfl) (by kernel_rfl) (by kernel_rfl) (by kernel_rfl) (fun _ _ _ h => h) (Or.inr ⟨?_, rfl⟩) hHeld ?_; (focus (simp [Region.wanted, yielded, undef]; done)); (try simp only [Act.put, List.setIfInBounds_toArray, List.set_cons_zero, List.set_cons_succ])) | (refine wpAnyH_take (i := 14) (v := ?_) (get_of_drop' rfl) (by kernel_rfl) (by kernel_rfl) (by kernel_rfl) (fun _ _ _ h => h) (Or.inl ⟨?_, ?_⟩) hHeld ?_; rotate_left; (focus rfl); (focus (intro w hSw; (try dsimp only at hSw); go_simp; (try (with_reducible rfl)))); (try simp only [Act.put, List.setIfInBounds_toArray, List.set_cons_zero, List.set_cons_succ]))
            first | (refine wpAnyH_take (i := 20) (get_of_drop' rfl) (by kernel_rfl) (by kernel_rfl) (by kernel_rfl) (fun _ _ _ h => h) (Or.inr ⟨?_, rfl⟩) hHeld ?_; (focus (simp [Region.wanted, yielded, undef]; done)); (try simp only [Act.put, List.setIfInBounds_toArray, List.set_cons_zero, List.set_cons_succ])) | (refine wpAnyH_take (i := 20) (v := ?_) (get_of_drop' rfl) (by kernel_rfl) (by kernel_rfl) (by kernel_rfl) (fun _ _ _ h => h) (Or.inl ⟨?_, ?_⟩) hHeld ?_; rotate_left; (focus rfl); (focus (intro w hSw; (try dsimp only at hSw); go_simp; (try (with_reducible rfl)))); (try simp only [Act.put, List.setIfInBounds_toArray, List.set_cons_zero, List.set_cons_succ]))
            first | (refine wpAnyH_take (i := 21) (get_of_drop' rfl) (by kernel_rfl) (by kernel_rfl) (by kernel_rfl) (fun _ _ _ h => h) (Or.inr ⟨?_, rfl⟩) hHeld ?_; (focus (simp [Region.wanted, yielded, undef]; done)); (try simp only [Act.put, List.setIfInBounds_toArray, List.set_cons_zero, List.set_cons_succ])) | (refine wpAnyH_take (i := 21) (v := ?_) (get_of_drop' rfl) (by kernel_rfl) (by kernel_rfl) (by kernel_rfl) (fun _ _ _ h => h) (Or.inl ⟨?_, ?_⟩) hHeld ?_; rotate_left; (focus rfl); (focus (intro w hSw; (try dsimp only at hSw); go_simp; (try (with_reducible rfl)))); (try simp only [Act.put, List.setIfInBounds_toArray, List.set_cons_zero, List.set_cons_succ]))
            refine wpAnyH_ready (rs := [22]) (by kernel_rfl) (by simp) ?_
            refine AllReadyH.cons (get_of_drop' rfl) (fun K hK => ?_) AllReadyH.nil
            go_simp
            go_at_call 60
            refine (HTZ.out _ HTW.out.drew).mono ?_
            rintro e w6 ⟨rfl, rfl⟩
            go_wp2_with fail
            refine hK.out _ _ (HS.out _ HBD.out) (fun hHeld => ?_)
            clear hK K
            try simp only [Act.put, List.setIfInBounds_toArray, List.set_cons_zero, List.set_cons_succ]
            have HFU := Lib.hid (show wr.drew.frozen? ⟨U, N, none⟩ = false from hfu)
            have hfu' := HFU.out
            have hcu' : wr.drew.cell? ⟨U, N, none⟩ = some v := hcu
            first | (refine wpAnyH_take (i := 23) (get_of_drop' rfl) (by kernel_rfl) (by kernel_rfl) (by kernel_rfl) (fun _ _ _ h => h) (Or.inr ⟨?_, rfl⟩) hHeld ?_; (focus (simp [Region.wanted, yielded, undef]; done)); (try simp only [Act.put, List.setIfInBounds_toArray, List.set_cons_zero, List.set_cons_succ])) | (refine wpAnyH_take (i := 23) (v := ?_) (get_of_drop' rfl) (by kernel_rfl) (by kernel_rfl) (by kernel_rfl) (fun _ _ _ h => h) (Or.inl ⟨?_, ?_⟩) hHeld ?_; rotate_left; (focus rfl); (focus (intro w hSw; (try dsimp only at hSw); go_simp; (try (with_reducible rfl)))); (try simp only [Act.put, List.setIfInBounds_toArray, List.set_cons_zero, List.set_cons_succ]))
            refine wpAnyH_ready (rs := [24]) (by kernel_rfl) (by simp) ?_
            refine AllReadyH.cons (get_of_drop' rfl) (fun K hK => ?_) AllReadyH.nil
            go_simp
            have HM6 := Lib.hid (World.rowIs.setOther (w := wr.drew) HMV2.out (a := ⟨U, N, none⟩) (by simp; omega) (.int .i64 (r : Int)))
            have HK6 := Lib.hid (World.rowIs.setOther (w := wr.drew) HBACK2.out (a := ⟨U, N, none⟩) (by simp; omega) (.int .i64 (r : Int)))
            have HU6 := Lib.hid (World.rowIs.set (w := wr.drew) HRUN2.out N (.int .i64 (r : Int)))
            have HBE6 := Lib.hid (Below.setCell (HBEL2.out.trans (HBD.out.mono HBEL2.out.size)) (p := ⟨U, N, none⟩) (by simp; omega) (.int .i64 (r : Int)))
            have hk1 : k ≠ N := by have := HNN.out; omega
            have e1 : (wr.drew.setCell ⟨U, N, none⟩ (.int .i64 (r : Int))).cell? ⟨U, k, none⟩ = some (.int .i64 q) := by
              have h := HU6.out.cell (i := k) (by omega)
              have h0 := HRUN2.out.cell (i := k) (by omega)
              rw [HCR.out] at h0
              rw [h, if_neg hk1]
              exact h0.symm
            have e2 : (wr.drew.setCell ⟨U, N, none⟩ (.int .i64 (r : Int))).cell? ⟨b, q * 6 + x, none⟩ = some (.int .i64 y) := by
              rw [World.cell?_of_block (w := wr.drew) (Below.heap_setCell _ ⟨U, N, none⟩ _ b (by simp; omega))]
              exact HCT.out
            have e3 : (wr.drew.setCell ⟨U, N, none⟩ (.int .i64 (r : Int))).cell? ⟨Rb, N, none⟩ = some (.int .i64 bq) := by
              rw [World.cell?_of_block (w := wr.drew) (Below.heap_setCell _ ⟨U, N, none⟩ _ Rb (by simp; omega))]
              exact HCK.out
            refine hK.out _ _ (And.intro (And.intro e1 e2) e3) (fun hHeld => ?_)
            clear hK K
            try simp only [Act.put, List.setIfInBounds_toArray, List.set_cons_zero, List.set_cons_succ]
            refine wpAnyH_done (by kernel_rfl) ?_ _
            clear e1 e2 e3 hk1 hwm
            go_wp2
            go_roundw
            case rel => exact ⟨k + 1, HLT.out, by go_num, HBE6.out, HM6.out, HK6.out, HU6.out.congr (fun j _ => by
              have h := runF_next es T s.data.toList k r HRR.out j
              rw [HNN.out] at h
              rw [HNN.out]
              exact h)⟩
            case measure =>
              have := HLT.out
              simp [intOf] <;> omega
          · obtain rfl : k = s.size := by omega
            have hrw : wr.rowIs U 3 (s.data.toList.length + 1) (fun j => .int .i64 ((runL es T s.data.toList)[j]?.getD 0)) := by
              rw [data_len]
              exact HRUN2.out.congr (fun j hj => by unfold runF; rw [if_pos (by omega), runL_at _ _ _ _ (by rw [data_len]; omega)])
            have hwi := rowIs.wi hrw (by rw [runL_len]) (by rw [data_len]; omega)
            rw [data_len] at hwi
            have hUlt := World.rowIs.lt hrw
            have HWI := Lib.hid hwi
            clear hrw hwi
            go_wp2
            go_ret2
            exact ⟨_, _, _, _, true, U, rfl, fun _ => ⟨by omega, hUlt⟩, HWI.out, HBEL2.out, HRP.out⟩
end Go.Proofs.YtknhgfmjchfnjaaDoor
