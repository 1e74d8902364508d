/- A step of a system over a letter, and a run over a word: the reference's. -/
import Derived.Test.YtknhgfmjchfnjaaDoorSysPlain
import Derived.Test.YtknhgfmjchfnjaaDoorWithin
import Derived.Test.YtknhgfmjchfnjaaDoorSysVS
import Derived.Test.YtknhgfmjchfnjaaDoorSysVI
namespace Go.Proofs.YtknhgfmjchfnjaaDoor
open Go.RowKit
set_option linter.unusedVariables false
set_option linter.unusedSimpArgs false
set_option maxRecDepth 100000

theorem or_n (a b : Nat) (h : a < 65536) (h1 : b < 65536) : bits .or .i64 (a : Int) (b : Int) = ((a ||| b : Nat) : Int) := by
  rw [or_i64 _ _ (by omega) (by omega) (by omega) (by omega), Int.toNat_natCast, Int.toNat_natCast]
theorem bit_lt (n : Int) (h0 : 0 ≤ n) (h1 : n < 16) : 2 ^ n.toNat < 65536 := by
  have := Nat.pow_lt_pow_of_lt (by decide : 1 < 2) (by omega : n.toNat < 16)
  omega
theorem stepN_take_lt {es : List Edg} (h : OkE es) (k s : Nat) (x : Int) : stepN (es.take k) s x < 65536 := stepN_lt (fun e he => h e (List.mem_of_mem_take he)) s x
set_option maxHeartbeats 1000000 in
theorem l2Step_any (al st x : Int) (a1 : Option Addr) (n1 c1 : Nat) (es : List Edg) (s : Nat) (w : World) (h : EV w (.slice a1 n1 c1) es) (hs : s < 65536) (hok : OkE es) :
    Calls Tryd.prog 64 #[.agg #[.int .i64 al, .int .i64 st, .slice a1 n1 c1], .int .i64 s, .int .i64 x] w (RB' (.int .i64 (stepN es s x : Nat)) w) := by
  obtain ⟨hn, hcap, hmax, hcell⟩ := h.at
  have B0 := Lib.hid (below_new' w 25 #[.int .i64 al, .int .i64 st, .slice a1 n1 c1])
  have R0 := Lib.hid (sys_cells w al st (.slice a1 n1 c1) 25)
  have HC := Lib.hid hcell; clear hcell
  have HN := Lib.hid hn; clear hn
  have HOK := Lib.hid hok; clear hok
  clear h
  go_enter Tryd.func64, Tryd.ntmps64
  go_wp2
  go_loopw [7, 8] (fun o i wr => ∃ k : Nat, k ≤ n1 ∧ i = .int .i64 k ∧ o = .int .i64 (stepN (es.take k) s x : Nat) ∧ Below w.heap.size w wr ∧ wr.rowIs w.heap.size 25 3 (fun i => #[.int .i64 al, .int .i64 st, .slice a1 n1 c1][i]?.getD undef)) (fun _ i _ => n1 - (intOf i).toNat)
  case atStart => exact ⟨0, by omega, rfl, rfl, B0.out, R0.out⟩
  case round =>
    obtain ⟨k, hk, rfl, rfl, hbel, hrow⟩ := hrel
    have p0 : wr.cell? ⟨w.heap.size, 0, none⟩ = some (.int .i64 al) := hrow.cell (by decide)
    have p1 : wr.cell? ⟨w.heap.size, 1, none⟩ = some (.int .i64 st) := hrow.cell (by decide)
    have p2 : wr.cell? ⟨w.heap.size, 2, none⟩ = some (.slice a1 n1 c1) := hrow.cell (by decide)
    by_cases hlt : k < n1
    · rcases HC.out with h0 | ⟨b, off, rfl, hb, hc⟩
      · omega
      · have hu := hc k hlt
        rw [← cell_below hbel hb, ← cell_below hbel hb, ← cell_below hbel hb] at hu
        have hlt' : k < es.length := by rw [← HN.out]; exact hlt
        have htk := take_snoc_e es k hlt'
        have hek := HOK.out.at k hlt'
        have hol := stepN_take_lt HOK.out k s x
        obtain ⟨o, ho⟩ : ∃ o, stepN (es.take k) s x = o := ⟨_, rfl⟩
        obtain ⟨f, l, t, he⟩ : ∃ f l t, Edg.at es k = (f, l, t) := ⟨_, _, _, rfl⟩
        rw [he] at hu hek htk
        rw [ho] at hol
        obtain ⟨e0, e1, e2⟩ := hu
        dsimp only at e0 e1 e2 hek
        obtain ⟨⟨hf0, hf1⟩, ⟨hl0, hl1⟩, ht0, ht1⟩ := hek
        have hbl := bit_lt t ht0 ht1
        have HOR := Lib.hid (or_n o (2 ^ t.toNat) hol hbl)
        have HBEL := Lib.hid hbel
        have HROW := Lib.hid hrow
        have HTK := Lib.hid htk; clear htk
        have HO := Lib.hid ho; clear ho
        clear hc hbel hrow he hbl hlt'
        rw [HO.out]
        by_cases hx : l = x
        · subst hx
          cases hh : hasB (s : Int) f with
          | true =>
            have HH := Lib.hid hh; clear hh
            have hst : stepN (es.take (k + 1)) s l = o ||| 2 ^ t.toNat := by rw [HTK.out, stepN_yes _ _ _ _ rfl HH.out, HO.out]
            have HST := Lib.hid hst; clear hst
            go_wp2_with (first | (go_at_call 78; (with_reducible refine (l1Has_any _ _ (by omega) (by omega) (by omega) (by omega) _).mono ?_); rintro e w' ⟨rfl, rfl⟩; rw [HH.out]) | (go_at_call 61; (with_reducible refine (l1Bit_any _ (by omega) (by omega) _).mono ?_); rintro e w' ⟨rfl, rfl⟩))
            go_roundw
            case rel => exact ⟨k + 1, by omega, by go_num, by rw [HST.out]; exact congrArg (Value.int .i64) HOR.out, HBEL.out, HROW.out⟩
            case measure => simp [intOf] <;> omega
          | false =>
            have HH := Lib.hid hh; clear hh
            have hst : stepN (es.take (k + 1)) s l = o := by rw [HTK.out, stepN_no _ _ _ _ (fun h => by have := h.2; rw [HH.out] at this; cases this), HO.out]
            have HST := Lib.hid hst; clear hst
            go_wp2_with (first | (go_at_call 78; (with_reducible refine (l1Has_any _ _ (by omega) (by omega) (by omega) (by omega) _).mono ?_); rintro e w' ⟨rfl, rfl⟩; rw [HH.out]) | (go_at_call 61; (with_reducible refine (l1Bit_any _ (by omega) (by omega) _).mono ?_); rintro e w' ⟨rfl, rfl⟩))
            go_roundw
            case rel => exact ⟨k + 1, by omega, by go_num, by rw [HST.out], HBEL.out, HROW.out⟩
            case measure => simp [intOf] <;> omega
        · have hst : stepN (es.take (k + 1)) s x = o := by rw [HTK.out, stepN_no _ _ _ _ (fun h => hx h.1), HO.out]
          have HST := Lib.hid hst; clear hst
          go_wp2_with (first | (go_at_call 78; (with_reducible refine (l1Has_any _ _ (by omega) (by omega) (by omega) (by omega) _).mono ?_); rintro e w' ⟨rfl, rfl⟩) | (go_at_call 61; (with_reducible refine (l1Bit_any _ (by omega) (by omega) _).mono ?_); rintro e w' ⟨rfl, rfl⟩))
          go_roundw
          case rel => exact ⟨k + 1, by omega, by go_num, by rw [HST.out], HBEL.out, HROW.out⟩
          case measure => simp [intOf] <;> omega
    · have hall : es.take k = es := by
        obtain rfl : k = n1 := by omega
        rw [HN.out]; exact List.take_length
      have HALL := Lib.hid hall; clear hall
      go_wp2
      go_ret
      exact ⟨ret_int (by rw [HALL.out]), hbel⟩


set_option maxHeartbeats 2000000 in
theorem l2Run_any (al st : Int) (a1 : Option Addr) (n1 c1 : Nat) (es : List Edg) (s : ByteArray) (hs : s.size ≤ 9223372036854775807) (w : World) (h : EV w (.slice a1 n1 c1) es) (hok : OkE es) (hw : s.data.toList.all (okL al) = true) :
    Calls Tryd.prog 86 #[.agg #[.int .i64 al, .int .i64 st, .slice a1 n1 c1], .int .i64 1, .string s] w (RB' (.int .i64 (runN es s.data.toList : Nat)) w) := by
  have B0 := Lib.hid (below_new' w 25 #[.int .i64 al, .int .i64 st, .slice a1 n1 c1])
  have R0 := Lib.hid (sys_cells w al st (.slice a1 n1 c1) 25)
  have H := Lib.hid h; clear h
  have HOK := Lib.hid hok; clear hok
  have HW := Lib.hid hw; clear hw
  go_enter Tryd.func86, Tryd.ntmps86
  go_wp2
  go_loopw [1, 7] (fun v i wr => ∃ k : Nat, k ≤ s.size ∧ i = .int .i64 k ∧ v = .int .i64 (runN es (s.data.toList.take k) : Nat) ∧ Below w.heap.size w wr ∧ wr.rowIs w.heap.size 25 3 (fun i => #[.int .i64 al, .int .i64 st, .slice a1 n1 c1][i]?.getD undef)) (fun _ i _ => s.size - (intOf i).toNat)
  case atStart => exact ⟨0, by omega, rfl, rfl, B0.out, R0.out⟩
  case round =>
    obtain ⟨k, hk, rfl, rfl, hbel, hrow⟩ := hrel
    have c0 : wr.cell? ⟨w.heap.size, 0, none⟩ = some (.int .i64 al) := hrow.cell (by decide)
    have c1' : wr.cell? ⟨w.heap.size, 1, none⟩ = some (.int .i64 st) := hrow.cell (by decide)
    have c2' : wr.cell? ⟨w.heap.size, 2, none⟩ = some (.slice a1 n1 c1) := hrow.cell (by decide)
    have hql := runN_lt HOK.out (s.data.toList.take k)
    by_cases hlt : k < s.size
    · obtain ⟨c, hc⟩ : ∃ c, s[k] = c := ⟨_, rfl⟩
      have hokc : okL al c = true := by rw [← hc]; exact all_at s (okL al) k hlt HW.out
      have hc0 := okL_nonneg hokc
      have hsub : (c.toNat : Int) - 97 = ltr c := ltr_of_ok hc0
      obtain ⟨q, hq⟩ : ∃ q, runN es (s.data.toList.take k) = q := ⟨_, rfl⟩
      have hstep : runN es (s.data.toList.take (k + 1)) = stepN es q (ltr c) := by rw [take_snoc s k hlt, runN_snoc, hq, hc]
      have hstop := runN_stop es s.data.toList k
      rw [hq] at hql hstop ⊢
      obtain ⟨x, hx⟩ : ∃ x, ltr c = x := ⟨_, rfl⟩
      rw [hx] at hsub hstep
      have HM := Lib.hid (EV.below H.out hbel)
      have HBEL := Lib.hid hbel
      have HROW := Lib.hid hrow
      have HC := Lib.hid hc; clear hc
      have HSUB := Lib.hid hsub; clear hsub
      have HST := Lib.hid hstep; clear hstep
      have HSP := Lib.hid hstop; clear hstop
      clear hbel hrow hokc hq hx hc0
      by_cases hz : q = 0
      · have hsp := HSP.out hz
        have HS0 := Lib.hid hsp; clear hsp
        subst hz
        clear HSP
        go_wp2
        go_ret
        exact ⟨ret_int (by rw [HS0.out]), HBEL.out⟩
      · have hz' : ¬ (q : Int) = 0 := by omega
        go_wp2_with fail
        go_region_with (first | (go_at_call 63; refine (l1At_c s k c hlt HC hs _).mono ?_; rintro e w5 ⟨rfl, rfl⟩; rw [HSUB.out]) | (go_at_call 64; refine (l2Step_any al st x a1 n1 c1 es q _ (EV.drew HM.out) hql HOK.out).mono ?_; rintro e w6 ⟨rfl, hb6⟩; have HB6 := Lib.hid (((Below.refl wr.heap.size wr).drew).trans hb6); clear hb6))
        all_goals
          go_wp2
          go_roundw
          case rel => exact ⟨k + 1, by omega, by go_num, by rw [HST.out], HBEL.out.trans (HB6.out.mono HBEL.out.size), rowIs_below' HROW.out HB6.out⟩
          case measure => simp [intOf] <;> omega
    · obtain rfl : k = s.size := by omega
      have HBEL := Lib.hid hbel
      have hall := take_all s
      have HALL := Lib.hid hall; clear hall
      clear hbel hrow
      go_wp2
      go_ret
      exact ⟨ret_int (by rw [HALL.out]), HBEL.out⟩

theorem within_all' {l : List UInt8} {al : Int} (h : within l al = true) : l.all (okL al) = true := by
  unfold within at h
  simp only [Bool.and_eq_true] at h
  exact h.2
set_option maxHeartbeats 1000000 in
theorem specStates_any (al st : Int) (a1 : Option Addr) (n1 c1 : Nat) (es : List Edg) (s : ByteArray) (hs : s.size ≤ 9223372036854775807) (w : World) (h : EV w (.slice a1 n1 c1) es) :
    Calls Tryd.prog 59 #[.agg #[.int .i64 al, .int .i64 st, .slice a1 n1 c1], .string s] w (RB' (.int .i64 (aftN al st es s.data.toList : Nat)) w) := by
  have B0 := Lib.hid (below_new' w 25 #[.int .i64 al, .int .i64 st, .slice a1 n1 c1])
  have R0 := Lib.hid (sys_cells w al st (.slice a1 n1 c1) 25)
  have H := Lib.hid h; clear h
  cases hv : sysV al st es with
  | false =>
    have hr := aftN_no al st es s.data.toList hv
    have HR := Lib.hid hr; clear hr
    have HV := Lib.hid hv; clear hv
    go_enter Tryd.func59, Tryd.ntmps59
    go_wp2_with fail
    refine (specSysValid_any al st a1 n1 c1 es _ (EV.below H.out B0.out)).mono ?_
    rintro e w1 ⟨rfl, hb1⟩
    rw [HV.out]
    have B1 := Lib.hid (B0.out.trans (hb1.mono B0.out.size))
    clear hb1
    go_wp2
    go_ret
    exact ⟨ret_int (by rw [HR.out]; rfl), B1.out⟩
  | true =>
    cases hw : within s.data.toList al with
    | false =>
      have hr := aftN_no2 al st es s.data.toList hw
      have HR := Lib.hid hr; clear hr
      have HV := Lib.hid hv; clear hv
      have HW := Lib.hid hw; clear hw
      go_enter Tryd.func59, Tryd.ntmps59
      go_wp2_with fail
      refine (specSysValid_any al st a1 n1 c1 es _ (EV.below H.out B0.out)).mono ?_
      rintro e w1 ⟨rfl, hb1⟩
      rw [HV.out]
      have B1 := Lib.hid (B0.out.trans (hb1.mono B0.out.size))
      have R1 := Lib.hid (rowIs_below' R0.out hb1)
      have c10 : w1.cell? ⟨w.heap.size, 0, none⟩ = some (.int .i64 al) := R1.out.cell (by decide)
      have c11 : w1.cell? ⟨w.heap.size, 1, none⟩ = some (.int .i64 st) := R1.out.cell (by decide)
      have c12 : w1.cell? ⟨w.heap.size, 2, none⟩ = some (.slice a1 n1 c1) := R1.out.cell (by decide)
      clear hb1
      go_wp2_with (go_at_call 85; (with_reducible refine (specWithin_any s al hs _).mono ?_); rintro e w' ⟨rfl, rfl⟩; rw [HW.out])
      go_ret
      exact ⟨ret_int (by rw [HR.out]; rfl), B1.out⟩
    | true =>
      have hr := aftN_yes al st es s.data.toList hv hw
      have HR := Lib.hid hr; clear hr
      have HV := Lib.hid hv; clear hv
      have HW := Lib.hid hw; clear hw
      go_enter Tryd.func59, Tryd.ntmps59
      go_wp2_with fail
      refine (specSysValid_any al st a1 n1 c1 es _ (EV.below H.out B0.out)).mono ?_
      rintro e w1 ⟨rfl, hb1⟩
      rw [HV.out]
      have B1 := Lib.hid (B0.out.trans (hb1.mono B0.out.size))
      have R1 := Lib.hid (rowIs_below' R0.out hb1)
      have c10 : w1.cell? ⟨w.heap.size, 0, none⟩ = some (.int .i64 al) := R1.out.cell (by decide)
      have c11 : w1.cell? ⟨w.heap.size, 1, none⟩ = some (.int .i64 st) := R1.out.cell (by decide)
      have c12 : w1.cell? ⟨w.heap.size, 2, none⟩ = some (.slice a1 n1 c1) := R1.out.cell (by decide)
      clear hb1
      go_wp2_with (go_at_call 85; (with_reducible refine (specWithin_any s al hs _).mono ?_); rintro e w' ⟨rfl, rfl⟩; rw [HW.out])
      refine (l2Run_any al st a1 n1 c1 es s hs _ (EV.below H.out B1.out) (sysV_ok HV.out) (within_all' HW.out)).mono ?_
      rintro e w2 ⟨rfl, hb2⟩
      have B2 := Lib.hid (B1.out.trans (hb2.mono B1.out.size))
      clear hb2
      go_wp2
      go_ret
      exact ⟨ret_int (by rw [HR.out]), B2.out⟩
theorem specTrace_any (al st : Int) (a1 : Option Addr) (n1 c1 : Nat) (es : List Edg) (s : ByteArray) (hs : s.size ≤ 9223372036854775807) (w : World) (h : EV w (.slice a1 n1 c1) es) :
    Calls Tryd.prog 26 #[.agg #[.int .i64 al, .int .i64 st, .slice a1 n1 c1], .string s] w (RB' (.bool (decide (aftN al st es s.data.toList ≠ 0))) w) := by
  have B0 := Lib.hid (below_new' w 25 #[.int .i64 al, .int .i64 st, .slice a1 n1 c1])
  have H := Lib.hid h; clear h
  go_enter Tryd.func26, Tryd.ntmps26
  go_wp2_with fail
  refine (specStates_any al st a1 n1 c1 es s hs _ (EV.below H.out B0.out)).mono ?_
  rintro e w1 ⟨rfl, hb1⟩
  have B1 := Lib.hid (B0.out.trans (hb1.mono B0.out.size))
  clear hb1
  obtain ⟨q, hq⟩ : ∃ q, aftN al st es s.data.toList = q := ⟨_, rfl⟩
  rw [hq]
  have HQ := Lib.hid hq; clear hq
  go_wp2
  go_ret
  exact ⟨ret_bool (by rw [HQ.out]; by_cases e : q = 0 <;> simp [e]), B1.out⟩
set_option maxHeartbeats 1000000 in
theorem specLetters_any (al st : Int) (a1 : Option Addr) (n1 c1 : Nat) (es : List Edg) (s : ByteArray) (hs : s.size ≤ 9223372036854775807) (w : World) (h : EV w (.slice a1 n1 c1) es) :
    Calls Tryd.prog 68 #[.agg #[.int .i64 al, .int .i64 st, .slice a1 n1 c1], .string s] w (RB' (.int .i64 (letN es (aftN al st es s.data.toList) : Nat)) w) := by
  obtain ⟨hn, hcap, hmax, hcell⟩ := h.at
  have B0 := Lib.hid (below_new' w 25 #[.int .i64 al, .int .i64 st, .slice a1 n1 c1])
  have R0 := Lib.hid (sys_cells w al st (.slice a1 n1 c1) 25)
  have hqlt := aftN_lt al st es s.data.toList
  have hqne : aftN al st es s.data.toList ≠ 0 → OkE es := fun h => sysV_ok (aftN_ne h).1
  have HC := Lib.hid hcell; clear hcell
  have HN := Lib.hid hn; clear hn
  have H := Lib.hid h; clear h
  have HOK := Lib.hid hqne; clear hqne
  go_enter Tryd.func68, Tryd.ntmps68
  go_wp2_with fail
  refine (specStates_any al st a1 n1 c1 es s hs _ (EV.below H.out B0.out)).mono ?_
  rintro e w1 ⟨rfl, hb1⟩
  have B1 := Lib.hid (B0.out.trans (hb1.mono B0.out.size))
  have R1 := Lib.hid (rowIs_below' R0.out hb1)
  obtain ⟨q, hq⟩ : ∃ q, aftN al st es s.data.toList = q := ⟨_, rfl⟩
  rw [hq] at hqlt HOK ⊢
  have HQ := Lib.hid hq; clear hq
  clear hb1
  by_cases hz : q = 0
  · subst hz
    have c10 : w1.cell? ⟨w.heap.size, 0, none⟩ = some (.int .i64 al) := R1.out.cell (by decide)
    have c11 : w1.cell? ⟨w.heap.size, 1, none⟩ = some (.int .i64 st) := R1.out.cell (by decide)
    have c12 : w1.cell? ⟨w.heap.size, 2, none⟩ = some (.slice a1 n1 c1) := R1.out.cell (by decide)
    go_wp2
    go_loopw [6, 7] (fun o i wr => i = .int .i64 0 ∧ o = .int .i64 0 ∧ wr = w1) (fun _ i _ => 0)
    case atStart => exact ⟨rfl, rfl, rfl⟩
    case round =>
      obtain ⟨rfl, rfl, rfl⟩ := hrel
      go_wp2
      all_goals
        go_ret
        exact ⟨ret_int (by rw [HQ.out, letN_zero]; rfl), B1.out⟩
  · have hz' : ¬ (q : Int) = 0 := by omega
    have hokE := HOK.out hz
    have HOE := Lib.hid hokE; clear hokE
    go_wp2
    go_loopw [6, 7] (fun o i wr => ∃ k : Nat, k ≤ n1 ∧ i = .int .i64 k ∧ o = .int .i64 (letN (es.take k) q : Nat) ∧ Below w.heap.size w wr ∧ wr.rowIs w.heap.size 25 3 (fun i => #[.int .i64 al, .int .i64 st, .slice a1 n1 c1][i]?.getD undef)) (fun _ i _ => n1 - (intOf i).toNat)
    case atStart => exact ⟨0, by omega, rfl, rfl, B1.out, R1.out⟩
    case round =>
      obtain ⟨k, hk, rfl, rfl, hbel, hrow⟩ := hrel
      have p0 : wr.cell? ⟨w.heap.size, 0, none⟩ = some (.int .i64 al) := hrow.cell (by decide)
      have p1 : wr.cell? ⟨w.heap.size, 1, none⟩ = some (.int .i64 st) := hrow.cell (by decide)
      have p2 : wr.cell? ⟨w.heap.size, 2, none⟩ = some (.slice a1 n1 c1) := hrow.cell (by decide)
      by_cases hlt : k < n1
      · rcases HC.out with h0 | ⟨b, off, rfl, hb, hc⟩
        · omega
        · have hu := hc k hlt
          rw [← cell_below hbel hb, ← cell_below hbel hb, ← cell_below hbel hb] at hu
          have hlt' : k < es.length := by rw [← HN.out]; exact hlt
          have htk := take_snoc_e es k hlt'
          have hek := HOE.out.at k hlt'
          have hol : letN (es.take k) q < 64 := letN_lt (fun e he => HOE.out e (List.mem_of_mem_take he)) q
          obtain ⟨o, ho⟩ : ∃ o, letN (es.take k) q = o := ⟨_, rfl⟩
          obtain ⟨f, l, t, he⟩ : ∃ f l t, Edg.at es k = (f, l, t) := ⟨_, _, _, rfl⟩
          rw [he] at hu hek htk
          rw [ho] at hol
          obtain ⟨e0, e1, e2⟩ := hu
          dsimp only at e0 e1 e2 hek
          obtain ⟨⟨hf0, hf1⟩, ⟨hl0, hl1⟩, ht0, ht1⟩ := hek
          have hbl := bit_lt l hl0 (by omega)
          have HOR := Lib.hid (or_n o (2 ^ l.toNat) (by omega) hbl)
          have HBEL := Lib.hid hbel
          have HROW := Lib.hid hrow
          have HTK := Lib.hid htk; clear htk
          have HO := Lib.hid ho; clear ho
          clear hc hbel hrow he hbl hlt'
          rw [HO.out]
          cases hh : hasB (q : Int) f with
          | true =>
            have HH := Lib.hid hh; clear hh
            have hst : letN (es.take (k + 1)) q = o ||| 2 ^ l.toNat := by rw [HTK.out, letN_yes _ _ _ HH.out, HO.out]
            have HST := Lib.hid hst; clear hst
            go_wp2_with (first | (go_at_call 78; (with_reducible refine (l1Has_any _ _ (by omega) (by omega) (by omega) (by omega) _).mono ?_); rintro e w' ⟨rfl, rfl⟩; rw [HH.out]) | (go_at_call 61; (with_reducible refine (l1Bit_any _ (by omega) (by omega) _).mono ?_); rintro e w' ⟨rfl, rfl⟩))
            go_roundw
            case rel => exact ⟨k + 1, by omega, by go_num, by rw [HST.out]; exact congrArg (Value.int .i64) HOR.out, HBEL.out, HROW.out⟩
            case measure => simp [intOf] <;> omega
          | false =>
            have HH := Lib.hid hh; clear hh
            have hst : letN (es.take (k + 1)) q = o := by rw [HTK.out, letN_no _ _ _ HH.out, HO.out]
            have HST := Lib.hid hst; clear hst
            go_wp2_with (first | (go_at_call 78; (with_reducible refine (l1Has_any _ _ (by omega) (by omega) (by omega) (by omega) _).mono ?_); rintro e w' ⟨rfl, rfl⟩; rw [HH.out]) | (go_at_call 61; (with_reducible refine (l1Bit_any _ (by omega) (by omega) _).mono ?_); rintro e w' ⟨rfl, rfl⟩))
            go_roundw
            case rel => exact ⟨k + 1, by omega, by go_num, by rw [HST.out], HBEL.out, HROW.out⟩
            case measure => simp [intOf] <;> omega
      · have hall : es.take k = es := by
          obtain rfl : k = n1 := by omega
          rw [HN.out]; exact List.take_length
        have HALL := Lib.hid hall; clear hall
        go_wp2
        go_ret
        exact ⟨ret_int (by rw [HALL.out, HQ.out]), hbel⟩
end Go.Proofs.YtknhgfmjchfnjaaDoor
