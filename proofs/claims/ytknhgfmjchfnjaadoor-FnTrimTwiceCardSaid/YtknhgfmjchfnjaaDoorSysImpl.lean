/- StatesAfter, HasTrace, LettersAfter and ReachableStates of the program. -/
import Derived.Test.YtknhgfmjchfnjaaDoorSysMoves
namespace Go.Proofs.YtknhgfmjchfnjaaDoor
open Go.RowKit
set_option linter.unusedVariables false
set_option linter.unusedSimpArgs false
set_option maxRecDepth 100000

theorem below_dN {B : Nat} {w w1 : World} (h : Below B w w1) (n : Nat) : Below B w (w1.drewN n) := ⟨h.os, h.tape, h.output, h.size, h.block⟩
set_option maxHeartbeats 2000000 in
theorem implStates_any (al st : Int) (a1 : Option Addr) (n1 c1 : Nat) (es : List Edg) (s : ByteArray) (hs : s.size ≤ 9223372036854775807) (w : World) (hT : Tab w) (h : EV w (.slice a1 n1 c1) es) :
    Calls Tryd.prog 17 #[.agg #[.int .i64 al, .int .i64 st, .slice a1 n1 c1], .string s] w (RB' (.int .i64 (aftN al st es s.data.toList : Nat)) w) := by
  have B0 := Lib.hid (below_new' w 25 #[.int .i64 al, .int .i64 st, .slice a1 n1 c1])
  have R0 := Lib.hid (sys_cells w al st (.slice a1 n1 c1) 25)
  have H := Lib.hid h; clear h
  have HT := Lib.hid hT; clear hT
  cases hv : sysV al st es with
  | false =>
    have hr := aftN_no al st es s.data.toList hv
    have HR := Lib.hid hr; clear hr
    have HV := Lib.hid hv; clear hv
    go_enter Tryd.func17, Tryd.ntmps17
    go_wp2_with fail
    refine (implSysValid_any al st a1 n1 c1 es _ (EV.below H.out B0.out)).mono ?_
    rintro e w1 ⟨rfl, hb1⟩
    rw [HV.out]
    have B1 := Lib.hid (B0.out.trans (hb1.mono B0.out.size))
    have R1 := Lib.hid (rowIs_below' R0.out hb1)
    clear hb1
    go_wp2
    go_ret
    exact ⟨ret_int (by rw [HR.out]; rfl), B1.out⟩
  | true =>
    cases hw : within s.data.toList al with
    | false =>
      have hr := aftN_no2 al st es s.data.toList hw
      have HW := Lib.hid hw; clear hw
      have HR := Lib.hid hr; clear hr
      have HV := Lib.hid hv; clear hv
      go_enter Tryd.func17, Tryd.ntmps17
      go_wp2_with fail
      refine (implSysValid_any al st a1 n1 c1 es _ (EV.below H.out B0.out)).mono ?_
      rintro e w1 ⟨rfl, hb1⟩
      rw [HV.out]
      have B1 := Lib.hid (B0.out.trans (hb1.mono B0.out.size))
      have R1 := Lib.hid (rowIs_below' R0.out hb1)
      have c10 : w1.cell? ⟨w.heap.size, 0, none⟩ = some (.int .i64 al) := R1.out.cell (by decide)
      have c11 : w1.cell? ⟨w.heap.size, 1, none⟩ = some (.int .i64 st) := R1.out.cell (by decide)
      have c12 : w1.cell? ⟨w.heap.size, 2, none⟩ = some (.slice a1 n1 c1) := R1.out.cell (by decide)
      clear hb1
      go_wp2_with (go_at_call 44; (with_reducible refine (implWithin_any s al hs _).mono ?_); rintro e w' ⟨rfl, rfl⟩; rw [HW.out])
      go_ret
      exact ⟨ret_int (by rw [HR.out]; rfl), B1.out⟩
    | true =>
      have hr := aftN_yes al st es s.data.toList hv hw
      have hok := sysV_ok hv
      have hwa := within_all' hw
      have HOK := Lib.hid hok; clear hok
      have HALL := Lib.hid hwa; clear hwa
      have HW := Lib.hid hw; clear hw
      have HR := Lib.hid hr; clear hr
      have HV := Lib.hid hv; clear hv
      go_enter Tryd.func17, Tryd.ntmps17
      go_wp2_with fail
      refine (implSysValid_any al st a1 n1 c1 es _ (EV.below H.out B0.out)).mono ?_
      rintro e w1 ⟨rfl, hb1⟩
      rw [HV.out]
      have B1 := Lib.hid (B0.out.trans (hb1.mono B0.out.size))
      have R1 := Lib.hid (rowIs_below' R0.out hb1)
      have c10 : w1.cell? ⟨w.heap.size, 0, none⟩ = some (.int .i64 al) := R1.out.cell (by decide)
      have c11 : w1.cell? ⟨w.heap.size, 1, none⟩ = some (.int .i64 st) := R1.out.cell (by decide)
      have c12 : w1.cell? ⟨w.heap.size, 2, none⟩ = some (.slice a1 n1 c1) := R1.out.cell (by decide)
      clear hb1
      go_wp2_with (go_at_call 44; (with_reducible refine (implWithin_any s al hs _).mono ?_); rintro e w' ⟨rfl, rfl⟩; rw [HW.out])
      refine (movesOf_any al st a1 n1 c1 es _ (EV.below H.out B1.out) HOK.out).mono ?_
      rintro e w2 ⟨b, rfl, hmv, hbl, hb2⟩
      have B2 := Lib.hid (B1.out.trans (hb2.mono B1.out.size))
      have hmv' : MvT w2 b es := hmv
      have HMV := Lib.hid hmv'
      have HT2 := Lib.hid ((HT.out.below B1.out).below hb2)
      clear hb2 hmv hmv' c10 c11 c12
      go_wp2
      go_loopw [6, 7] (fun v i wr => ∃ k : Nat, k ≤ s.size ∧ i = .int .i64 k ∧ v = .int .i64 (runN es (s.data.toList.take k) : Nat) ∧ Below w.heap.size w wr ∧ MvT wr b es ∧ Tab wr) (fun _ i _ => s.size - (intOf i).toNat)
      case atStart => exact ⟨0, by omega, rfl, rfl, B2.out, HMV.out, HT2.out⟩
      case round =>
        obtain ⟨k, hk, rfl, rfl, hbel, hrow, htab⟩ := hrel
        have hql := runN_lt HOK.out (s.data.toList.take k)
        by_cases hlt : k < s.size
        · obtain ⟨c, hc⟩ : ∃ c, s[k] = c := ⟨_, rfl⟩
          have hokc : okL al c = true := by rw [← hc]; exact all_at s (okL al) k hlt HALL.out
          have hc0 := okL_nonneg hokc
          have hc6 := ltr_lt c
          have hsub : ltr c = ((ltr c).toNat : Int) := by omega
          obtain ⟨x, hx⟩ : ∃ x, (ltr c).toNat = x := ⟨_, rfl⟩
          have hx6 : x < 6 := by omega
          rw [hx] at hsub
          obtain ⟨q, hq⟩ : ∃ q, runN es (s.data.toList.take k) = q := ⟨_, rfl⟩
          have hstep : runN es (s.data.toList.take (k + 1)) = stepN es q (x : Int) := by rw [take_snoc s k hlt, runN_snoc, hq, hc, hsub]
          have hstop := runN_stop es s.data.toList k
          rw [hq] at hql hstop ⊢
          have HBEL := Lib.hid hbel
          have HROW := Lib.hid hrow
          have HTAB := Lib.hid htab
          have HC := Lib.hid hc; clear hc
          have HSUB := Lib.hid hsub; clear hsub
          have HST := Lib.hid hstep; clear hstep
          have HSP := Lib.hid hstop; clear hstop
          clear hbel hrow hokc hq hx hc0 hc6 htab
          by_cases hz : q = 0
          · have hsp := HSP.out hz
            have HS0 := Lib.hid hsp; clear hsp
            subst hz
            clear HSP
            go_wp2
            go_ret
            exact ⟨ret_int (by rw [HR.out, HS0.out]), HBEL.out⟩
          · have hz' : ¬ (q : Int) = 0 := by omega
            go_wp2_with (first | (go_at_call 47; (with_reducible refine (letterAt_c s k c hlt HC hs _).mono ?_); rintro e w' ⟨rfl, rfl⟩; rw [HSUB.out]))
            refine (step_any b es q x _ HROW.out HTAB.out hql hx6 HOK.out).mono ?_
            rintro e w6 ⟨rfl, nq, rfl⟩
            go_wp2
            go_roundw
            case rel => exact ⟨k + 1, by omega, by go_num, by rw [HST.out], below_dN HBEL.out nq, HROW.out, HTAB.out⟩
            case measure => simp [intOf] <;> omega
        · obtain rfl : k = s.size := by omega
          have HBEL := Lib.hid hbel
          have hall := take_all s
          have HALL2 := Lib.hid hall; clear hall
          clear hbel hrow
          go_wp2
          go_ret
          exact ⟨ret_int (by rw [HALL2.out, HR.out]), HBEL.out⟩
theorem implTrace_any (al st : Int) (a1 : Option Addr) (n1 c1 : Nat) (es : List Edg) (s : ByteArray) (hs : s.size ≤ 9223372036854775807) (w : World) (hT : Tab w) (h : EV w (.slice a1 n1 c1) es) :
    Calls Tryd.prog 14 #[.agg #[.int .i64 al, .int .i64 st, .slice a1 n1 c1], .string s] w (RB' (.bool (decide (aftN al st es s.data.toList ≠ 0))) w) := by
  have B0 := Lib.hid (below_new' w 25 #[.int .i64 al, .int .i64 st, .slice a1 n1 c1])
  have H := Lib.hid h; clear h
  have HT := Lib.hid hT; clear hT
  go_enter Tryd.func14, Tryd.ntmps14
  go_wp2_with fail
  refine (implStates_any al st a1 n1 c1 es s hs _ (HT.out.below B0.out) (EV.below H.out B0.out)).mono ?_
  rintro e w1 ⟨rfl, hb1⟩
  have B1 := Lib.hid (B0.out.trans (hb1.mono B0.out.size))
  clear hb1
  obtain ⟨q, hq⟩ : ∃ q, aftN al st es s.data.toList = q := ⟨_, rfl⟩
  rw [hq]
  have HQ := Lib.hid hq; clear hq
  go_wp2
  go_ret
  exact ⟨ret_bool (by rw [HQ.out]; by_cases e : q = 0 <;> simp [e]), B1.out⟩
set_option maxHeartbeats 1000000 in
theorem implLetters_any (al st : Int) (a1 : Option Addr) (n1 c1 : Nat) (es : List Edg) (s : ByteArray) (hs : s.size ≤ 9223372036854775807) (w : World) (hT : Tab w) (h : EV w (.slice a1 n1 c1) es) :
    Calls Tryd.prog 15 #[.agg #[.int .i64 al, .int .i64 st, .slice a1 n1 c1], .string s] w (RB' (.int .i64 (letN es (aftN al st es s.data.toList) : Nat)) w) := by
  obtain ⟨hn, hcap, hmax, hcell⟩ := h.at
  have B0 := Lib.hid (below_new' w 25 #[.int .i64 al, .int .i64 st, .slice a1 n1 c1])
  have R0 := Lib.hid (sys_cells w al st (.slice a1 n1 c1) 25)
  have hqlt := aftN_lt al st es s.data.toList
  have hqne : aftN al st es s.data.toList ≠ 0 → OkE es := fun h => sysV_ok (aftN_ne h).1
  have HC := Lib.hid hcell; clear hcell
  have HN := Lib.hid hn; clear hn
  have H := Lib.hid h; clear h
  have HT := Lib.hid hT; clear hT
  have HOK := Lib.hid hqne; clear hqne
  go_enter Tryd.func15, Tryd.ntmps15
  go_wp2_with fail
  refine (implStates_any al st a1 n1 c1 es s hs _ (HT.out.below B0.out) (EV.below H.out B0.out)).mono ?_
  rintro e w1 ⟨rfl, hb1⟩
  have B1 := Lib.hid (B0.out.trans (hb1.mono B0.out.size))
  have R1 := Lib.hid (rowIs_below' R0.out hb1)
  obtain ⟨q, hq⟩ : ∃ q, aftN al st es s.data.toList = q := ⟨_, rfl⟩
  rw [hq] at hqlt HOK ⊢
  have HQ := Lib.hid hq; clear hq
  have c10 : w1.cell? ⟨w.heap.size, 0, none⟩ = some (.int .i64 al) := R1.out.cell (by decide)
  have c11 : w1.cell? ⟨w.heap.size, 1, none⟩ = some (.int .i64 st) := R1.out.cell (by decide)
  have c12 : w1.cell? ⟨w.heap.size, 2, none⟩ = some (.slice a1 n1 c1) := R1.out.cell (by decide)
  clear hb1
  go_wp2
  go_loopw [6, 15] (fun o i wr => ∃ k : Nat, k ≤ n1 ∧ i = .int .i64 k ∧ o = .int .i64 (letN (es.take k) q : Nat) ∧ letN (es.take k) q < 64 ∧ Below w.heap.size w wr) (fun _ i _ => n1 - (intOf i).toNat)
  case atStart => exact ⟨0, by omega, rfl, rfl, by show (0 : Nat) < 64; decide, B1.out⟩
  case round =>
    obtain ⟨k, hk, rfl, rfl, hol, hbel⟩ := hrel
    by_cases hlt : k < n1
    · rcases HC.out with h0 | ⟨b, off, rfl, hb, hc⟩
      · omega
      · have hu := hc k hlt
        rw [← cell_below hbel hb, ← cell_below hbel hb, ← cell_below hbel hb] at hu
        have hlt' : k < es.length := by rw [← HN.out]; exact hlt
        have htk := take_snoc_e es k hlt'
        have hek := fun h => (HOK.out h).at k hlt'
        obtain ⟨o, ho⟩ : ∃ o, letN (es.take k) q = o := ⟨_, rfl⟩
        obtain ⟨f, l, t, he⟩ : ∃ f l t, Edg.at es k = (f, l, t) := ⟨_, _, _, rfl⟩
        rw [he] at hu htk
        rw [ho] at hol
        obtain ⟨e0, e1, e2⟩ := hu
        dsimp only at e0 e1 e2
        have HBEL := Lib.hid hbel
        have HTK := Lib.hid htk; clear htk
        have HO := Lib.hid ho; clear ho
        have HEK := Lib.hid hek; clear hek
        have HE := Lib.hid he; clear he
        clear hc hbel hlt'
        rw [HO.out]
        go_wp2_with fail
        obtain ⟨x0, hx0⟩ : ∃ x0, wr.heap.size = x0 := ⟨_, rfl⟩
        obtain ⟨w5, hw5⟩ : ∃ w5, (wr.alloc (.cells #[.int .i64 f, .int .i64 l, .int .i64 t] 58)) = w5 := ⟨_, rfl⟩
        have hr5 := own_cells' wr #[.int .i64 f, .int .i64 l, .int .i64 t] 58 3 rfl
        have hb5 := below_new' wr 58 #[.int .i64 f, .int .i64 l, .int .i64 t]
        rw [hx0] at hr5
        rw [hw5] at hr5 hb5 ⊢
        rw [hx0]
        have g0 : w5.cell? ⟨x0, 0, none⟩ = some (.int .i64 f) := hr5.cell (by decide)
        have g1 : w5.cell? ⟨x0, 1, none⟩ = some (.int .i64 l) := hr5.cell (by decide)
        have HB5 := Lib.hid (HBEL.out.trans (hb5.mono HBEL.out.size))
        clear hw5 hr5 hb5 hx0 e0 e1 e2
        cases hh : hasB (q : Int) f with
        | true =>
          have hq0 : q ≠ 0 := by
            rintro rfl
            rw [show ((0 : Nat) : Int) = 0 from rfl, hasB_zero] at hh
            cases hh
          have hee := HEK.out hq0
          rw [HE.out] at hee
          obtain ⟨-, ⟨hl0, hl1⟩, -⟩ := hee
          dsimp only at hl0 hl1
          have HOR := Lib.hid (or_w o l (by omega) hl0 (by omega))
          have hst : letN (es.take (k + 1)) q = o ||| 2 ^ l.toNat := by rw [HTK.out, letN_yes _ _ _ hh, HO.out]
          have hlt3 : o ||| 2 ^ l.toNat < 64 := Nat.or_lt_two_pow (n := 6) hol (Nat.pow_lt_pow_of_lt (by decide : 1 < 2) (by omega : l.toNat < 6))
          have HL3 := Lib.hid hlt3
          have HST := Lib.hid hst; clear hst
          have HH := Lib.hid hh; clear hh
          clear hlt3
          go_wp2_with (first | (go_at_call 43; (with_reducible refine (has_any _ _ (by omega) (by omega) _).mono ?_); rintro e w' ⟨rfl, rfl⟩; rw [HH.out]))
          go_roundw
          case rel => exact ⟨k + 1, by omega, by go_num, by rw [HST.out]; exact congrArg (Value.int .i64) HOR.out, by rw [HST.out]; exact HL3.out, HB5.out⟩
          case measure => simp [intOf] <;> omega
        | false =>
          have hst : letN (es.take (k + 1)) q = o := by rw [HTK.out, letN_no _ _ _ hh, HO.out]
          have HST := Lib.hid hst; clear hst
          have HH := Lib.hid hh; clear hh
          go_wp2_with (first | (go_at_call 43; (with_reducible refine (has_any _ _ (by omega) (by omega) _).mono ?_); rintro e w' ⟨rfl, rfl⟩; rw [HH.out]))
          go_roundw
          case rel => exact ⟨k + 1, by omega, by go_num, by rw [HST.out], by rw [HST.out]; exact hol, HB5.out⟩
          case measure => simp [intOf] <;> omega
    · have hall : es.take k = es := by
        obtain rfl : k = n1 := by omega
        rw [HN.out]; exact List.take_length
      have HALL := Lib.hid hall; clear hall
      go_wp2
      go_ret
      exact ⟨ret_int (by rw [HALL.out, HQ.out]), hbel⟩
end Go.Proofs.YtknhgfmjchfnjaaDoor
