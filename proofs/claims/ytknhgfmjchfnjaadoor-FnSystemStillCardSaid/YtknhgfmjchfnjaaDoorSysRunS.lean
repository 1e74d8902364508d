/- RunOf of the reference. -/
import Derived.Test.YtknhgfmjchfnjaaDoorSysRun
import Derived.Test.YtknhgfmjchfnjaaDoorSysMoves
import Derived.Test.YtknhgfmjchfnjaaDoorIMark
import Derived.Test.YtknhgfmjchfnjaaDoorDState
import Derived.Deep.RegionHeld3

namespace Go.Proofs.YtknhgfmjchfnjaaDoor
open Go.RowKit
set_option linter.unusedVariables false
set_option linter.unusedSimpArgs false
set_option maxRecDepth 100000

theorem backL_take_lt {es : List Edg} (h : OkE es) (k s : Nat) (x : Int) : backL (es.take k) s x < 65536 := backL_lt (fun e he => h e (List.mem_of_mem_take he)) s x
set_option maxHeartbeats 1000000 in
theorem l2Back_any (al st x : Int) (a1 : Option Addr) (n1 c1 : Nat) (es : List Edg) (s : Nat) (w : World) (h : EV w (.slice a1 n1 c1) es) (hs : s < 65536) (hok : OkE es) :
    Calls Tryd.prog 62 #[.agg #[.int .i64 al, .int .i64 st, .slice a1 n1 c1], .int .i64 s, .int .i64 x] w (RB' (.int .i64 (backL es s x : Nat)) w) := by
  obtain ⟨hn, hcap, hmax, hcell⟩ := h.at
  have B0 := Lib.hid (below_new' w 25 #[.int .i64 al, .int .i64 st, .slice a1 n1 c1])
  have R0 := Lib.hid (sys_cells w al st (.slice a1 n1 c1) 25)
  have HC := Lib.hid hcell; clear hcell
  have HN := Lib.hid hn; clear hn
  have HOK := Lib.hid hok; clear hok
  clear h
  go_enter Tryd.func62, Tryd.ntmps62
  go_wp2
  go_loopw [7, 8] (fun o i wr => ∃ k : Nat, k ≤ n1 ∧ i = .int .i64 k ∧ o = .int .i64 (backL (es.take k) s x : Nat) ∧ Below w.heap.size w wr ∧ wr.rowIs w.heap.size 25 3 (fun i => #[.int .i64 al, .int .i64 st, .slice a1 n1 c1][i]?.getD undef)) (fun _ i _ => n1 - (intOf i).toNat)
  case atStart => exact ⟨0, by omega, rfl, rfl, B0.out, R0.out⟩
  case round =>
    obtain ⟨k, hk, rfl, rfl, hbel, hrow⟩ := hrel
    have p0 : wr.cell? ⟨w.heap.size, 0, none⟩ = some (.int .i64 al) := hrow.cell (by decide)
    have p1 : wr.cell? ⟨w.heap.size, 1, none⟩ = some (.int .i64 st) := hrow.cell (by decide)
    have p2 : wr.cell? ⟨w.heap.size, 2, none⟩ = some (.slice a1 n1 c1) := hrow.cell (by decide)
    by_cases hlt : k < n1
    · rcases HC.out with h0 | ⟨b, off, rfl, hb, hc⟩
      · omega
      · have hu := hc k hlt
        rw [← cell_below hbel hb, ← cell_below hbel hb, ← cell_below hbel hb] at hu
        have hlt' : k < es.length := by rw [← HN.out]; exact hlt
        have htk := take_snoc_e es k hlt'
        have hek := HOK.out.at k hlt'
        have hol := backL_take_lt HOK.out k s x
        obtain ⟨o, ho⟩ : ∃ o, backL (es.take k) s x = o := ⟨_, rfl⟩
        obtain ⟨f, l, t, he⟩ : ∃ f l t, Edg.at es k = (f, l, t) := ⟨_, _, _, rfl⟩
        rw [he] at hu hek htk
        rw [ho] at hol
        obtain ⟨e0, e1, e2⟩ := hu
        dsimp only at e0 e1 e2 hek
        obtain ⟨⟨hf0, hf1⟩, ⟨hl0, hl1⟩, ht0, ht1⟩ := hek
        have hbl := bit_lt f hf0 hf1
        have HOR := Lib.hid (or_n o (2 ^ f.toNat) hol hbl)
        have HBEL := Lib.hid hbel
        have HROW := Lib.hid hrow
        have HTK := Lib.hid htk; clear htk
        have HO := Lib.hid ho; clear ho
        clear hc hbel hrow he hbl hlt'
        rw [HO.out]
        by_cases hx : l = x
        · subst hx
          cases hh : hasB (s : Int) t with
          | true =>
            have HH := Lib.hid hh; clear hh
            have hst : backL (es.take (k + 1)) s l = o ||| 2 ^ f.toNat := by rw [HTK.out, backL_yes _ _ _ _ rfl HH.out, HO.out]
            have HST := Lib.hid hst; clear hst
            go_wp2_with (first | (go_at_call 78; (with_reducible refine (l1Has_any _ _ (by omega) (by omega) (by omega) (by omega) _).mono ?_); rintro e w' ⟨rfl, rfl⟩; rw [HH.out]) | (go_at_call 61; (with_reducible refine (l1Bit_any _ (by omega) (by omega) _).mono ?_); rintro e w' ⟨rfl, rfl⟩))
            go_roundw
            case rel => exact ⟨k + 1, by omega, by go_num, by rw [HST.out]; exact congrArg (Value.int .i64) HOR.out, HBEL.out, HROW.out⟩
            case measure => simp [intOf] <;> omega
          | false =>
            have HH := Lib.hid hh; clear hh
            have hst : backL (es.take (k + 1)) s l = o := by rw [HTK.out, backL_no _ _ _ _ (fun h => by have := h.2; rw [HH.out] at this; cases this), HO.out]
            have HST := Lib.hid hst; clear hst
            go_wp2_with (first | (go_at_call 78; (with_reducible refine (l1Has_any _ _ (by omega) (by omega) (by omega) (by omega) _).mono ?_); rintro e w' ⟨rfl, rfl⟩; rw [HH.out]) | (go_at_call 61; (with_reducible refine (l1Bit_any _ (by omega) (by omega) _).mono ?_); rintro e w' ⟨rfl, rfl⟩))
            go_roundw
            case rel => exact ⟨k + 1, by omega, by go_num, by rw [HST.out], HBEL.out, HROW.out⟩
            case measure => simp [intOf] <;> omega
        · have hst : backL (es.take (k + 1)) s x = o := by rw [HTK.out, backL_no _ _ _ _ (fun h => hx h.1), HO.out]
          have HST := Lib.hid hst; clear hst
          go_wp2_with (first | (go_at_call 78; (with_reducible refine (l1Has_any _ _ (by omega) (by omega) (by omega) (by omega) _).mono ?_); rintro e w' ⟨rfl, rfl⟩) | (go_at_call 61; (with_reducible refine (l1Bit_any _ (by omega) (by omega) _).mono ?_); rintro e w' ⟨rfl, rfl⟩))
          go_roundw
          case rel => exact ⟨k + 1, by omega, by go_num, by rw [HST.out], HBEL.out, HROW.out⟩
          case measure => simp [intOf] <;> omega
    · have hall : es.take k = es := by
        obtain rfl : k = n1 := by omega
        rw [HN.out]; exact List.take_length
      have HALL := Lib.hid hall; clear hall
      go_wp2
      go_ret
      exact ⟨ret_int (by rw [HALL.out]), hbel⟩
theorem l2Least_any (s : Nat) (hs : s < 65536) (h0 : s ≠ 0) (w : World) : Calls Tryd.prog 65 #[.int .i64 s] w (Ret (.int .i64 (Lib.ctz 64 s : Nat)) w) := by
  obtain ⟨q, hq⟩ : ∃ q, Lib.ctz 64 s = q := ⟨_, rfl⟩
  have hb := ctz_bit s h0 (by omega)
  have hl := ctz_least s (by omega)
  have hq16 := low_lt s h0 16 (by omega) (by decide)
  rw [hq] at hb hq16 hl ⊢
  have HB := Lib.hid hb; clear hb
  have HL := Lib.hid hl; clear hl
  clear hq
  go_enter Tryd.func65, Tryd.ntmps65
  go_wp2
  go_loop [3] (fun n => ∃ k : Nat, n = .int .i64 k ∧ k ≤ q) (fun n => q - (intOf n).toNat)
  case atStart => exact ⟨0, rfl, Nat.zero_le _⟩
  case round =>
    obtain ⟨k, rfl, hk⟩ := hrel
    have hh : hasB (s : Int) (k : Int) = s.testBit k := by simp [hasB]
    by_cases hkq : k = q
    · subst hkq
      rw [HB.out] at hh
      have HH := Lib.hid hh; clear hh
      go_wp2_with (first | (go_at_call 78; (with_reducible refine (l1Has_any _ _ (by omega) (by omega) (by omega) (by omega) _).mono ?_); rintro e w' ⟨rfl, rfl⟩; rw [HH.out]))
      go_ret
      exact ⟨rfl, rfl⟩
    · have hno : s.testBit k = false := by
        cases e : s.testBit k
        · rfl
        · have := HL.out k e; omega
      rw [hno] at hh
      have HH := Lib.hid hh; clear hh
      clear hno
      go_wp2_with (first | (go_at_call 78; (with_reducible refine (l1Has_any _ _ (by omega) (by omega) (by omega) (by omega) _).mono ?_); rintro e w' ⟨rfl, rfl⟩; rw [HH.out]))
      go_round
      case rel => exact ⟨k + 1, by go_num, by omega⟩
      case measure => simp [intOf] <;> omega
/-- What RunOf gives back. -/
def RunRes (al st : Int) (es : List Edg) (l : List UInt8) (w : World) (e : Ending) (w' : World) : Prop := ∃ (a : Option Addr) (n c : Nat) (xs : List Int) (b : Bool) (g : Nat), e = .returned (.tuple #[.slice a n c, .bool b]) ∧ (xs.length ≠ 0 → w.heap.size ≤ g ∧ g < w'.heap.size) ∧ WI w' g (.slice a n c) xs ∧ Below w.heap.size w w' ∧ runP al st es l xs b
theorem specTrace_of {al st : Int} {a1 : Option Addr} {n1 c1 : Nat} {es : List Edg} {s : ByteArray} (hs : s.size ≤ 9223372036854775807) {b : Bool} (hb : decide (aftN al st es s.data.toList ≠ 0) = b) (w : World) (h : EV w (.slice a1 n1 c1) es) :
    Calls Tryd.prog 26 #[.agg #[.int .i64 al, .int .i64 st, .slice a1 n1 c1], .string s] w (RB' (.bool b) w) := by
  subst hb
  exact specTrace_any al st a1 n1 c1 es s hs w h
/-- The sets from which the rest can be done, from place k on. -/
def backF (es : List Edg) (T : Nat) (l : List UInt8) (k j : Nat) : Value := .int .i64 ((if k ≤ j then backN es T (l.drop j) else 0 : Nat) : Int)
theorem backF_next (es : List Edg) (T : Nat) (l : List UInt8) (m v : Nat) (hv : v = backN es T (l.drop m)) (j : Nat) : (if j = m then .int .i64 (v : Int) else backF es T l (m + 1) j) = backF es T l m j := by
  unfold backF
  by_cases e : j = m
  · subst e
    rw [if_pos rfl, if_pos (Nat.le_refl _), hv]
  · rw [if_neg e]
    by_cases h : m + 1 ≤ j
    · rw [if_pos h, if_pos (by omega)]
    · rw [if_neg h, if_neg (by omega)]
theorem irow_one (B : Nat) (w : World) (x : Int) (hb : B ≤ w.heap.size) : IRow B (w.alloc (.cells #[.int .i64 x] 3)) (.slice (some ⟨w.heap.size, 0, none⟩) 1 1) [x] :=
  ⟨rfl, .inr ⟨w.heap.size, 1, #[.int .i64 x], rfl, hb, Go.heap_alloc_new _ _, Nat.le_refl _, by decide, rfl, rfl⟩⟩
theorem getD_at (s : ByteArray) (k : Nat) (h : k < s.size) : s.data.toList[k]?.getD 0 = s[k] := by
  rw [List.getElem?_eq_getElem (by rw [data_len]; exact h)]
  rfl
def runT (es : List Edg) (T : Nat) (l : List UInt8) (k : Nat) : List Int := (List.range k).map (fun j => ((runS es T l j : Nat) : Int))
theorem runT_len (es : List Edg) (T : Nat) (l : List UInt8) (k : Nat) : (runT es T l k).length = k := by simp [runT]
theorem runT_snoc (es : List Edg) (T : Nat) (l : List UInt8) (k : Nat) : runT es T l (k + 1) = runT es T l k ++ [((runS es T l k : Nat) : Int)] := by simp [runT, List.range_succ]
theorem runT_at (es : List Edg) (T : Nat) (l : List UInt8) (k j : Nat) (h : j < k) : (runT es T l k)[j]?.getD 0 = ((runS es T l j : Nat) : Int) := by simp [runT, h]
set_option maxHeartbeats 4000000 in
theorem specRun_any (al st : Int) (a1 : Option Addr) (n1 c1 : Nat) (es : List Edg) (s : ByteArray) (hs : s.size ≤ 9223372036854775807) (w : World) (h : EV w (.slice a1 n1 c1) es) :
    Calls Tryd.prog 29 #[.agg #[.int .i64 al, .int .i64 st, .slice a1 n1 c1], .string s] w (RunRes al st es s.data.toList w) := by
  have B0 := Lib.hid (below_new' w 25 #[.int .i64 al, .int .i64 st, .slice a1 n1 c1])
  have R0 := Lib.hid (sys_cells w al st (.slice a1 n1 c1) 25)
  have H := Lib.hid h; clear h
  by_cases hz : aftN al st es s.data.toList = 0
  · have hrp : runP al st es s.data.toList [] false := by unfold runP; rw [if_neg (by simpa using hz)]; exact ⟨rfl, rfl⟩
    have htr := fun w h => specTrace_of (a1 := a1) (n1 := n1) (c1 := c1) (al := al) (st := st) (es := es) (b := false) hs (by rw [hz]; rfl) w h
    have HTR := Lib.hid htr; clear htr
    have HRP := Lib.hid hrp; clear hrp
    clear hz
    go_enter Tryd.func29, Tryd.ntmps29
    go_wp2_with fail
    refine (HTR.out _ (EV.below H.out B0.out)).mono ?_
    rintro e w1 ⟨rfl, hb1⟩
    have B1 := Lib.hid (B0.out.trans (hb1.mono B0.out.size))
    clear hb1
    go_wp2
    go_ret2
    exact ⟨none, 0, 0, [], false, 0, rfl, fun h => absurd rfl h, ⟨none, 0, rfl, Nat.le_refl _, by decide, .inl rfl⟩, B1.out, HRP.out⟩
  · obtain ⟨T, rfl, hT1, hT16, hok, hf, ht, hrn, hv, hwi, hlen⟩ := aft_facts hz
    have hrp : runP al (T : Int) es s.data.toList (runL es T s.data.toList) true := by unfold runP; rw [if_pos hz]; exact ⟨rfl, rfl⟩
    have htr := fun w h => specTrace_of (a1 := a1) (n1 := n1) (c1 := c1) (al := al) (st := (T : Int)) (es := es) (b := true) hs (by simpa using hz) w h
    have hsz : s.size ≤ 50000 := hlen
    have hall := within_all' hwi
    have hmk := run_make_row' (P := Tryd.prog) 44 3 (.int .i64 0) 8 Tryd.underlying44 Tryd.infoInt rfl .i64 .i64 (s.size + 1) (by omega) (by omega)
    have hn1 : ((s.size + 1 : Nat) : Int) = (s.size : Int) + 1 := by omega
    rw [hn1] at hmk
    obtain ⟨P, hP⟩ : ∃ P, 2 ^ T = P := ⟨_, rfl⟩
    have hP1 : 1 ≤ P := by rw [← hP]; exact Nat.pow_pos (by decide)
    have hP2 : P ≤ 65536 := by rw [← hP]; exact Nat.pow_le_pow_right (by decide) hT16
    have hPb : ((P : Int) - 1) = ((P - 1 : Nat) : Int) := by omega
    have hwP : IntKind.i64.wrap ((P : Int) - 1) = ((P - 1 : Nat) : Int) := by rw [IntKind.wrap_i64]; omega
    have HTR := Lib.hid htr; clear htr
    have HRP := Lib.hid hrp; clear hrp
    have HALL := Lib.hid hall; clear hall
    have HOK := Lib.hid hok; clear hok
    have HF := Lib.hid hf; clear hf
    have HT := Lib.hid ht; clear ht
    have HRN := Lib.hid hrn; clear hrn
    have HPB := Lib.hid hPb; clear hPb
    have HP := Lib.hid hP; clear hP
    have HN1 := Lib.hid hn1; clear hn1
    clear hz hv hwi hlen
    go_enter Tryd.func29, Tryd.ntmps29
    go_wp2_with fail
    refine (HTR.out _ (EV.below H.out B0.out)).mono ?_
    rintro e w1 ⟨rfl, hb1⟩
    have B1 := Lib.hid (B0.out.trans (hb1.mono B0.out.size))
    have R1 := Lib.hid (rowIs_below' R0.out hb1)
    obtain ⟨Rb, hRb⟩ : ∃ Rb, w1.heap.size = Rb := ⟨_, rfl⟩
    obtain ⟨w2, hw2⟩ : ∃ w2, w1.alloc (.cells (madeCells #[.int .i64 0] (s.size + 1)) 3) = w2 := ⟨_, rfl⟩
    have hb2 : Below w1.heap.size w1 w2 := by rw [← hw2]; exact (Below.refl _ _).alloc (Nat.le_refl _) _
    have hrow2 : w2.rowIs Rb 3 (s.size + 1) (fun _ => .int .i64 0) := by rw [← hw2, ← hRb]; exact World.rowIs_made w1 (.int .i64 0) (s.size + 1) 3
    have hB1 := B1.out.size
    have hwR : w.heap.size < Rb := by rw [← hRb]; exact World.rowIs.lt R1.out
    have B2 := Lib.hid (B1.out.trans (hb2.mono B1.out.size))
    have R2 := Lib.hid (rowIs_below' R1.out hb2)
    have c0 : w2.cell? ⟨w.heap.size, 0, none⟩ = some (.int .i64 al) := R2.out.cell (by decide)
    have c1' : w2.cell? ⟨w.heap.size, 1, none⟩ = some (.int .i64 (T : Int)) := R2.out.cell (by decide)
    have c2' : w2.cell? ⟨w.heap.size, 2, none⟩ = some (.slice a1 n1 c1) := R2.out.cell (by decide)
    have r0 : w2.cell? ⟨Rb, s.size, none⟩ = some (.int .i64 0) := hrow2.cell (by omega)
    have rf := hrow2.frozen s.size
    have W2 := Lib.hid hrow2
    clear hb1 hb2 hrow2
    go_wp2_with ((go_at_call 61; (with_reducible refine (l1Bit_any _ (by omega) (by omega) _).mono ?_); rintro e w' ⟨rfl, rfl⟩; rw [Int.toNat_natCast, HP.out]))
    clear r0 rf c0 c1' c2'
    go_loopw [7] (fun i wr => ∃ k : Nat, k ≤ s.size ∧ i = .int .i64 ((k : Int) - 1) ∧ Below w.heap.size w wr ∧ wr.rowIs w.heap.size 25 3 (fun i => #[.int .i64 al, .int .i64 (T : Int), .slice a1 n1 c1][i]?.getD undef) ∧ wr.rowIs Rb 3 (s.size + 1) (backF es T s.data.toList k)) (fun i _ => (intOf i + 1).toNat)
    case atStart => exact ⟨s.size, Nat.le_refl _, rfl, B2.out.setCell (p := ⟨Rb, s.size, none⟩) (by simp; omega) _, R2.out.setOther (a := ⟨Rb, s.size, none⟩) (by simp; omega) _, (W2.out.set s.size _).congr (fun j hj => by
      unfold backF
      by_cases e : j = s.size
      · subst e
        rw [if_pos rfl, if_pos (Nat.le_refl _), show s.data.toList.drop s.size = [] from List.drop_eq_nil_of_le (by rw [data_len]; exact Nat.le_refl _)]
        show Value.int .i64 ((P - 1 : Nat) : Int) = Value.int .i64 ((2 ^ T - 1 : Nat) : Int)
        rw [HP.out]
      · rw [if_neg e, if_neg (by omega)]; rfl)⟩
    case round =>
      obtain ⟨k, hk, rfl, hbel, hrow, hback⟩ := hrel
      have HBEL := Lib.hid hbel
      have HROW := Lib.hid hrow
      have HBACK := Lib.hid hback
      clear hbel hrow hback
      cases k with
      | succ m =>
        have hm1 : ((m + 1 : Nat) : Int) - 1 = (m : Int) := by omega
        have hlt : m < s.size := by omega
        obtain ⟨c, hc⟩ : ∃ c, s[m] = c := ⟨_, rfl⟩
        have hokc : okL al c = true := by rw [← hc]; exact all_at s (okL al) m hlt HALL.out
        have hc0 := okL_nonneg hokc
        have hsub : (c.toNat : Int) - 97 = ltr c := ltr_of_ok hc0
        have hbq : backN es T (s.data.toList.drop (m + 1)) < 65536 := Nat.lt_of_lt_of_le (backN_lt HF.out _) (by rw [HP.out]; exact hP2)
        have hnx : backN es T (s.data.toList.drop m) = backL es (backN es T (s.data.toList.drop (m + 1))) (ltr c) := by
          rw [drop_cons_get s.data.toList m (by rw [data_len]; exact hlt), getD_at s m hlt, hc]; rfl
        have hck : wr.cell? ⟨Rb, m + 1, none⟩ = some (.int .i64 ((backN es T (s.data.toList.drop (m + 1)) : Nat) : Int)) := by
          have := HBACK.out.cell (i := m + 1) (by omega)
          unfold backF at this
          rwa [if_pos (Nat.le_refl _)] at this
        have hvl : backL es (backN es T (s.data.toList.drop (m + 1))) (ltr c) < 65536 := backL_lt HOK.out _ _
        obtain ⟨x, hx⟩ : ∃ x, ltr c = x := ⟨_, rfl⟩
        obtain ⟨bq, hbqe⟩ : ∃ bq, backN es T (s.data.toList.drop (m + 1)) = bq := ⟨_, rfl⟩
        rw [hx] at hsub
        rw [hbqe] at hbq hck
        rw [hx, hbqe] at hnx hvl
        have hbk := fun wq h => l2Back_any al (T : Int) x a1 n1 c1 es bq wq h hbq HOK.out
        obtain ⟨v, hv⟩ : ∃ v, backL es bq x = v := ⟨_, rfl⟩
        rw [hv] at hnx hbk hvl
        obtain ⟨N, hN⟩ : ∃ N, m + 1 = N := ⟨_, rfl⟩
        have hwm : IntKind.i64.wrap ((m : Int) + 1) = (N : Int) := by rw [IntKind.wrap_i64]; omega
        have hNs : N < s.size + 1 := by omega
        have hmi : (m : Int) < (s.size : Int) + 1 := by omega
        have hNi : (N : Int) < (s.size : Int) + 1 := by omega
        rw [hN] at hck
        have hbf : backF es T s.data.toList (m + 1) N = .int .i64 (bq : Int) := by unfold backF; rw [if_pos (by omega), ← hN, hbqe]
        have HBF := Lib.hid hbf; clear hbf
        have HNN := Lib.hid hN; clear hN
        have c0 : wr.cell? ⟨w.heap.size, 0, none⟩ = some (.int .i64 al) := HROW.out.cell (by decide)
        have c1' : wr.cell? ⟨w.heap.size, 1, none⟩ = some (.int .i64 (T : Int)) := HROW.out.cell (by decide)
        have c2' : wr.cell? ⟨w.heap.size, 2, none⟩ = some (.slice a1 n1 c1) := HROW.out.cell (by decide)
        have HNX := Lib.hid hnx; clear hnx
        have HBK := Lib.hid hbk; clear hbk
        have HC := Lib.hid hc; clear hc
        have HSUB := Lib.hid hsub; clear hsub
        clear hx hv hbqe hokc hc0
        rw [hm1]
        have HS := Lib.hid (fun (w' : World) (hb : Below wr.heap.size wr w') => (show (w'.cell? ⟨w.heap.size, 0, none⟩ = some (.int .i64 al) ∧ w'.cell? ⟨w.heap.size, 1, none⟩ = some (.int .i64 (T : Int)) ∧ w'.cell? ⟨w.heap.size, 2, none⟩ = some (.slice a1 n1 c1)) ∧ w'.cell? ⟨Rb, N, none⟩ = some (.int .i64 bq) from ⟨⟨keep_cell hb c0, keep_cell hb c1', keep_cell hb c2'⟩, keep_cell hb hck⟩))
        have HBD := Lib.hid (show Below wr.heap.size wr wr.drew from (Below.refl _ _).drew)
        have HED := Lib.hid (EV.drew (EV.below H.out HBEL.out))
        clear c0 c1' c2' hck
        go_wp2_with fail
        refine wp_region_held_drew (S := fun w' => (w'.cell? ⟨w.heap.size, 0, none⟩ = some (.int .i64 al) ∧ w'.cell? ⟨w.heap.size, 1, none⟩ = some (.int .i64 (T : Int)) ∧ w'.cell? ⟨w.heap.size, 2, none⟩ = some (.slice a1 n1 c1)) ∧ w'.cell? ⟨Rb, N, none⟩ = some (.int .i64 bq)) (by kernel_rfl) (HS.out _ HBD.out) (fun hHeld => ?_)
        first | (refine wpAnyH_take (i := 0) (get_of_drop' rfl) (by kernel_rfl) (by kernel_rfl) (by kernel_rfl) (fun _ _ _ h => h) (Or.inr ⟨?_, rfl⟩) hHeld ?_; (focus (simp [Region.wanted, yielded, undef]; done)); (try simp only [Act.put, List.setIfInBounds_toArray, List.set_cons_zero, List.set_cons_succ])) | (refine wpAnyH_take (i := 0) (v := ?_) (get_of_drop' rfl) (by kernel_rfl) (by kernel_rfl) (by kernel_rfl) (fun _ _ _ h => h) (Or.inl ⟨?_, ?_⟩) hHeld ?_; rotate_left; (focus rfl); (focus (intro w hSw; (try dsimp only at hSw); go_simp; (try (with_reducible rfl)))); (try simp only [Act.put, List.setIfInBounds_toArray, List.set_cons_zero, List.set_cons_succ]))
        first | (refine wpAnyH_take (i := 1) (get_of_drop' rfl) (by kernel_rfl) (by kernel_rfl) (by kernel_rfl) (fun _ _ _ h => h) (Or.inr ⟨?_, rfl⟩) hHeld ?_; (focus (simp [Region.wanted, yielded, undef]; done)); (try simp only [Act.put, List.setIfInBounds_toArray, List.set_cons_zero, List.set_cons_succ])) | (refine wpAnyH_take (i := 1) (v := ?_) (get_of_drop' rfl) (by kernel_rfl) (by kernel_rfl) (by kernel_rfl) (fun _ _ _ h => h) (Or.inl ⟨?_, ?_⟩) hHeld ?_; rotate_left; (focus rfl); (focus (intro w hSw; (try dsimp only at hSw); go_simp; (try (with_reducible rfl)))); (try simp only [Act.put, List.setIfInBounds_toArray, List.set_cons_zero, List.set_cons_succ]))
        first | (refine wpAnyH_take (i := 2) (get_of_drop' rfl) (by kernel_rfl) (by kernel_rfl) (by kernel_rfl) (fun _ _ _ h => h) (Or.inr ⟨?_, rfl⟩) hHeld ?_; (focus (simp [Region.wanted, yielded, undef]; done)); (try simp only [Act.put, List.setIfInBounds_toArray, List.set_cons_zero, List.set_cons_succ])) | (refine wpAnyH_take (i := 2) (v := ?_) (get_of_drop' rfl) (by kernel_rfl) (by kernel_rfl) (by kernel_rfl) (fun _ _ _ h => h) (Or.inl ⟨?_, ?_⟩) hHeld ?_; rotate_left; (focus rfl); (focus (intro w hSw; (try dsimp only at hSw); go_simp; (try (with_reducible rfl)))); (try simp only [Act.put, List.setIfInBounds_toArray, List.set_cons_zero, List.set_cons_succ]))
        first | (refine wpAnyH_take (i := 3) (get_of_drop' rfl) (by kernel_rfl) (by kernel_rfl) (by kernel_rfl) (fun _ _ _ h => h) (Or.inr ⟨?_, rfl⟩) hHeld ?_; (focus (simp [Region.wanted, yielded, undef]; done)); (try simp only [Act.put, List.setIfInBounds_toArray, List.set_cons_zero, List.set_cons_succ])) | (refine wpAnyH_take (i := 3) (v := ?_) (get_of_drop' rfl) (by kernel_rfl) (by kernel_rfl) (by kernel_rfl) (fun _ _ _ h => h) (Or.inl ⟨?_, ?_⟩) hHeld ?_; rotate_left; (focus rfl); (focus (intro w hSw; (try dsimp only at hSw); go_simp; (try (with_reducible rfl)))); (try simp only [Act.put, List.setIfInBounds_toArray, List.set_cons_zero, List.set_cons_succ]))
        first | (refine wpAnyH_take (i := 4) (get_of_drop' rfl) (by kernel_rfl) (by kernel_rfl) (by kernel_rfl) (fun _ _ _ h => h) (Or.inr ⟨?_, rfl⟩) hHeld ?_; (focus (simp [Region.wanted, yielded, undef]; done)); (try simp only [Act.put, List.setIfInBounds_toArray, List.set_cons_zero, List.set_cons_succ])) | (refine wpAnyH_take (i := 4) (v := ?_) (get_of_drop' rfl) (by kernel_rfl) (by kernel_rfl) (by kernel_rfl) (fun _ _ _ h => h) (Or.inl ⟨?_, ?_⟩) hHeld ?_; rotate_left; (focus rfl); (focus (intro w hSw; (try dsimp only at hSw); go_simp; (try (with_reducible rfl)))); (try simp only [Act.put, List.setIfInBounds_toArray, List.set_cons_zero, List.set_cons_succ]))
        first | (refine wpAnyH_take (i := 5) (get_of_drop' rfl) (by kernel_rfl) (by kernel_rfl) (by kernel_rfl) (fun _ _ _ h => h) (Or.inr ⟨?_, rfl⟩) hHeld ?_; (focus (simp [Region.wanted, yielded, undef]; done)); (try simp only [Act.put, List.setIfInBounds_toArray, List.set_cons_zero, List.set_cons_succ])) | (refine wpAnyH_take (i := 5) (v := ?_) (get_of_drop' rfl) (by kernel_rfl) (by kernel_rfl) (by kernel_rfl) (fun _ _ _ h => h) (Or.inl ⟨?_, ?_⟩) hHeld ?_; rotate_left; (focus rfl); (focus (intro w hSw; (try dsimp only at hSw); go_simp; (try (with_reducible rfl)))); (try simp only [Act.put, List.setIfInBounds_toArray, List.set_cons_zero, List.set_cons_succ]))
        first | (refine wpAnyH_take (i := 6) (get_of_drop' rfl) (by kernel_rfl) (by kernel_rfl) (by kernel_rfl) (fun _ _ _ h => h) (Or.inr ⟨?_, rfl⟩) hHeld ?_; (focus (simp [Region.wanted, yielded, undef]; done)); (try simp only [Act.put, List.setIfInBounds_toArray, List.set_cons_zero, List.set_cons_succ])) | (refine wpAnyH_take (i := 6) (v := ?_) (get_of_drop' rfl) (by kernel_rfl) (by kernel_rfl) (by kernel_rfl) (fun _ _ _ h => h) (Or.inl ⟨?_, ?_⟩) hHeld ?_; rotate_left; (focus rfl); (focus (intro w hSw; (try dsimp only at hSw); go_simp; (try (with_reducible rfl)))); (try simp only [Act.put, List.setIfInBounds_toArray, List.set_cons_zero, List.set_cons_succ]))
        first | (refine wpAnyH_take (i := 7) (get_of_drop' rfl) (by kernel_rfl) (by kernel_rfl) (by kernel_rfl) (fun _ _ _ h => h) (Or.inr ⟨?_, rfl⟩) hHeld ?_; (focus (simp [Region.wanted, yielded, undef]; done)); (try simp only [Act.put, List.setIfInBounds_toArray, List.set_cons_zero, List.set_cons_succ])) | (refine wpAnyH_take (i := 7) (v := ?_) (get_of_drop' rfl) (by kernel_rfl) (by kernel_rfl) (by kernel_rfl) (fun _ _ _ h => h) (Or.inl ⟨?_, ?_⟩) hHeld ?_; rotate_left; (focus rfl); (focus (intro w hSw; (try dsimp only at hSw); go_simp; (try (with_reducible rfl)))); (try simp only [Act.put, List.setIfInBounds_toArray, List.set_cons_zero, List.set_cons_succ]))
        first | (refine wpAnyH_take (i := 8) (get_of_drop' rfl) (by kernel_rfl) (by kernel_rfl) (by kernel_rfl) (fun _ _ _ h => h) (Or.inr ⟨?_, rfl⟩) hHeld ?_; (focus (simp [Region.wanted, yielded, undef]; done)); (try simp only [Act.put, List.setIfInBounds_toArray, List.set_cons_zero, List.set_cons_succ])) | (refine wpAnyH_take (i := 8) (v := ?_) (get_of_drop' rfl) (by kernel_rfl) (by kernel_rfl) (by kernel_rfl) (fun _ _ _ h => h) (Or.inl ⟨?_, ?_⟩) hHeld ?_; rotate_left; (focus rfl); (focus (intro w hSw; (try dsimp only at hSw); go_simp; (try (with_reducible rfl)))); (try simp only [Act.put, List.setIfInBounds_toArray, List.set_cons_zero, List.set_cons_succ]))
        first | (refine wpAnyH_take (i := 9) (get_of_drop' rfl) (by kernel_rfl) (by kernel_rfl) (by kernel_rfl) (fun _ _ _ h => h) (Or.inr ⟨?_, rfl⟩) hHeld ?_; (focus (simp [Region.wanted, yielded, undef]; done)); (try simp only [Act.put, List.setIfInBounds_toArray, List.set_cons_zero, List.set_cons_succ])) | (refine wpAnyH_take (i := 9) (v := ?_) (get_of_drop' rfl) (by kernel_rfl) (by kernel_rfl) (by kernel_rfl) (fun _ _ _ h => h) (Or.inl ⟨?_, ?_⟩) hHeld ?_; rotate_left; (focus rfl); (focus (intro w hSw; (try dsimp only at hSw); go_simp; (try (with_reducible rfl)))); (try simp only [Act.put, List.setIfInBounds_toArray, List.set_cons_zero, List.set_cons_succ]))
        refine wpAnyH_ready (rs := [10]) (by kernel_rfl) (by simp) ?_
        refine AllReadyH.cons (get_of_drop' rfl) (fun K hK => ?_) AllReadyH.nil
        go_simp
        go_at_call 63
        refine (l1At_c s m c hlt HC hs _).mono ?_
        rintro e w5 ⟨rfl, rfl⟩
        rw [HSUB.out]
        go_wp2_with fail
        refine hK.out _ _ (HS.out _ HBD.out) (fun hHeld => ?_)
        clear hK K
        try simp only [Act.put, List.setIfInBounds_toArray, List.set_cons_zero, List.set_cons_succ]
        refine wpAnyH_ready (rs := [11]) (by kernel_rfl) (by simp) ?_
        refine AllReadyH.cons (get_of_drop' rfl) (fun K hK => ?_) AllReadyH.nil
        go_simp
        go_at_call 62
        refine (HBK.out _ HED.out).mono ?_
        rintro e w6 ⟨rfl, hb6⟩
        have HB6 := Lib.hid (HBD.out.trans hb6)
        have hrow6 := rowIs_below' HBACK.out HB6.out
        have r0 := hrow6.cell (i := m) (by omega)
        have rf := hrow6.frozen m
        have HR6 := Lib.hid hrow6
        clear hb6 hrow6
        go_wp2_with fail
        refine hK.out _ _ (HS.out w6 HB6.out) (fun hHeld => ?_)
        clear hK K
        try simp only [Act.put, List.setIfInBounds_toArray, List.set_cons_zero, List.set_cons_succ]
        first | (refine wpAnyH_take (i := 12) (get_of_drop' rfl) (by kernel_rfl) (by kernel_rfl) (by kernel_rfl) (fun _ _ _ h => h) (Or.inr ⟨?_, rfl⟩) hHeld ?_; (focus (simp [Region.wanted, yielded, undef]; done)); (try simp only [Act.put, List.setIfInBounds_toArray, List.set_cons_zero, List.set_cons_succ])) | (refine wpAnyH_take (i := 12) (v := ?_) (get_of_drop' rfl) (by kernel_rfl) (by kernel_rfl) (by kernel_rfl) (fun _ _ _ h => h) (Or.inl ⟨?_, ?_⟩) hHeld ?_; rotate_left; (focus rfl); (focus (intro w hSw; (try dsimp only at hSw); go_simp; (try (with_reducible rfl)))); (try simp only [Act.put, List.setIfInBounds_toArray, List.set_cons_zero, List.set_cons_succ]))
        refine wpAnyH_ready (rs := [13]) (by kernel_rfl) (by simp) ?_
        refine AllReadyH.cons (get_of_drop' rfl) (fun K hK => ?_) AllReadyH.nil
        go_simp
        have HSET := Lib.hid (HR6.out.set m (.int .i64 (v : Int)))
        have HROW6 := Lib.hid ((rowIs_below' HROW.out HB6.out).setOther (a := ⟨Rb, m, none⟩) (by simp; omega) (.int .i64 (v : Int)))
        have q3 : (w6.setCell ⟨Rb, m, none⟩ (.int .i64 (v : Int))).cell? ⟨Rb, N, none⟩ = some (.int .i64 bq) := by
          have h := HSET.out.cell (i := N) (by omega)
          rw [h, if_neg (by have := HNN.out; omega), HBF.out]
        refine hK.out _ _ (And.intro (And.intro (HROW6.out.cell (by decide)) (And.intro (HROW6.out.cell (by decide)) (HROW6.out.cell (by decide)))) q3) (fun hHeld => ?_)
        clear hK K
        try simp only [Act.put, List.setIfInBounds_toArray, List.set_cons_zero, List.set_cons_succ]
        refine wpAnyH_done (by kernel_rfl) ?_ _
        go_wp2
        go_roundw
        case rel => exact ⟨m, by omega, rfl, (HBEL.out.trans (HB6.out.mono HBEL.out.size)).setCell (p := ⟨Rb, m, none⟩) (by simp; omega) _, HROW6.out, HSET.out.congr (fun j _ => backF_next es T s.data.toList m v HNX.out.symm j)⟩
        case measure => simp [intOf] <;> omega
      | zero =>
        obtain ⟨wo, hwo⟩ : ∃ wo : World, wo = wr := ⟨_, rfl⟩
        subst hwo
        have hm1 : ((0 : Nat) : Int) - 1 = -1 := rfl
        rw [hm1]
        have hRr : Rb < wo.heap.size := World.rowIs.lt HBACK.out
        have hq0 := irow_one (Rb + 1) wo 0 (by omega)
        obtain ⟨Q, hQ⟩ : ∃ Q, wo.heap.size = Q := ⟨_, rfl⟩
        obtain ⟨w4, hw4⟩ : ∃ w4, wo.alloc (.cells #[.int .i64 0] 3) = w4 := ⟨_, rfl⟩
        have hb4 : Below (Rb + 1) wo w4 := by rw [← hw4]; exact (Below.refl _ _).alloc (by omega) _
        rw [hw4, hQ] at hq0
        have H4 := Lib.hid hq0
        have HB4 := Lib.hid hb4
        clear hq0 hb4
        go_wp2
        go_loopw [8, 9] (fun v i wr => ∃ (k : Nat) (ao : Option Addr) (n cap : Nat), k ≤ s.size ∧ i = .int .i64 k ∧ v = .slice ao n cap ∧ n = k + 1 ∧ IRow (Rb + 1) wr (.slice ao n cap) (runT es T s.data.toList (k + 1)) ∧ Below (Rb + 1) wo wr) (fun _ i _ => s.size - (intOf i).toNat)
        case atStart => exact ⟨0, _, 1, 1, Nat.zero_le _, rfl, rfl, rfl, H4.out, HB4.out⟩
        case round =>
          obtain ⟨k, ao, n, cap, hk, rfl, rfl, hnk, hown, hbl⟩ := hrel
          have HOWN := Lib.hid hown
          have HBL := Lib.hid hbl
          have HNK := Lib.hid hnk; clear hnk
          clear hown hbl
          by_cases hlt : k < s.size
          · obtain ⟨c, hc⟩ : ∃ c, s[k] = c := ⟨_, rfl⟩
            have hokc : okL al c = true := by rw [← hc]; exact all_at s (okL al) k hlt HALL.out
            have hc0 := okL_nonneg hokc
            have hsub : (c.toNat : Int) - 97 = ltr c := ltr_of_ok hc0
            have hgc : s.data.toList[k]?.getD 0 = c := by rw [getD_at s k hlt, hc]
            have hq16 : runS es T s.data.toList k < T := runS_lt HOK.out hT16 HF.out HT.out s.data.toList HRN.out hT1 k (by rw [data_len]; omega)
            have hne := runS_step HOK.out hT16 HF.out HT.out s.data.toList HRN.out hT1 k (by rw [data_len]; omega)
            have hnx : runS es T s.data.toList (k + 1) = Lib.ctz 64 (stepN es (2 ^ runS es T s.data.toList k) (ltr c) &&& backN es T (s.data.toList.drop (k + 1))) := by rw [runS, hgc]
            rw [hgc] at hne
            have hbq : backN es T (s.data.toList.drop (k + 1)) < 65536 := Nat.lt_of_lt_of_le (backN_lt HF.out _) (by rw [HP.out]; exact hP2)
            have hyl := stepN_lt HOK.out (2 ^ runS es T s.data.toList k) (ltr c)
            obtain ⟨N, hN⟩ : ∃ N, k + 1 = N := ⟨_, rfl⟩
            have hback := HBACK.out.of_block (HBL.out.block Rb (by omega))
            have hrow := HROW.out.of_block (HBL.out.block w.heap.size (by omega))
            have hck : wr.cell? ⟨Rb, N, none⟩ = some (.int .i64 ((backN es T (s.data.toList.drop (k + 1)) : Nat) : Int)) := by
              have := hback.cell (i := N) (by omega)
              unfold backF at this
              rw [if_pos (Nat.zero_le _)] at this
              rw [this, ← hN]
            obtain ⟨hg, hao, hcl⟩ : ∃ g, ao = some ⟨g, 0, none⟩ ∧ wr.cell? ⟨g, k, none⟩ = some (.int .i64 ((runS es T s.data.toList k : Nat) : Int)) := by
              rcases HOWN.out.shape with ⟨h1, h2⟩ | ⟨g, cap', h1, -, -, -, -, h2, -⟩
              · have := congrArg List.length h2
                rw [runT_len] at this
                simp at this
              · injection h1 with h1 h3 h4
                refine ⟨g, h1, ?_⟩
                rw [h2 k (by rw [runT_len]; omega), runT_at _ _ _ _ _ (by omega)]
            have hrt := runT_snoc es T s.data.toList (k + 1)
            obtain ⟨q, hq⟩ : ∃ q, runS es T s.data.toList k = q := ⟨_, rfl⟩
            obtain ⟨x, hx⟩ : ∃ x, ltr c = x := ⟨_, rfl⟩
            obtain ⟨bq, hbqe⟩ : ∃ bq, backN es T (s.data.toList.drop (k + 1)) = bq := ⟨_, rfl⟩
            rw [hq] at hq16 hne hnx hyl hcl
            rw [hx] at hsub hne hnx hyl
            rw [hbqe] at hne hnx hbq hck
            obtain ⟨Z, hZ⟩ : ∃ Z, 2 ^ q = Z := ⟨_, rfl⟩
            have hZl : Z < 65536 := by rw [← hZ]; exact Nat.pow_lt_pow_of_lt (by decide) (by omega : q < 16)
            rw [hZ] at hne hnx hyl
            have hstep := fun wq h => l2Step_any al (T : Int) x a1 n1 c1 es Z wq h hZl HOK.out
            obtain ⟨y, hy⟩ : ∃ y, stepN es Z x = y := ⟨_, rfl⟩
            rw [hy] at hne hnx hyl hstep
            have hand := and_n y bq hyl hbq
            have hzl : y &&& bq < 65536 := Nat.lt_of_le_of_lt Nat.and_le_left hyl
            obtain ⟨z, hz⟩ : ∃ z, y &&& bq = z := ⟨_, rfl⟩
            rw [hz] at hne hnx hand hzl
            have hleast := fun wq => l2Least_any z hzl hne wq
            rw [← hnx] at hleast
            obtain ⟨r, hr⟩ : ∃ r, runS es T s.data.toList (k + 1) = r := ⟨_, rfl⟩
            rw [hr] at hleast hrt
            have hwm : IntKind.i64.wrap ((k : Int) + 1) = (N : Int) := by rw [IntKind.wrap_i64]; omega
            have hNs : N < s.size + 1 := by omega
            have hNi : (N : Int) < (s.size : Int) + 1 := by omega
            have c0 : wr.cell? ⟨w.heap.size, 0, none⟩ = some (.int .i64 al) := hrow.cell (by decide)
            have c1' : wr.cell? ⟨w.heap.size, 1, none⟩ = some (.int .i64 (T : Int)) := hrow.cell (by decide)
            have c2' : wr.cell? ⟨w.heap.size, 2, none⟩ = some (.slice a1 n1 c1) := hrow.cell (by decide)
            subst hao
            have hn' := HNK.out
            have hkn : k < n := by omega
            have hni : (k : Int) < (n : Int) := by omega
            have HLT := Lib.hid hlt
            have HLEAST := Lib.hid hleast; clear hleast
            have HRT := Lib.hid hrt; clear hrt
            have HAND := Lib.hid hand; clear hand
            have HSTEP := Lib.hid hstep; clear hstep
            have HC := Lib.hid hc; clear hc
            have HSUB := Lib.hid hsub; clear hsub
            have HZ := Lib.hid hZ; clear hZ
            have HNN := Lib.hid hN; clear hN
            clear hq hx hbqe hy hz hr hnx hokc hc0 hgc hback hrow hn'
            have HS := Lib.hid (fun (w2 : World) (hb : Below wr.heap.size wr w2) => (show ((w2.cell? ⟨w.heap.size, 0, none⟩ = some (.int .i64 al) ∧ w2.cell? ⟨w.heap.size, 1, none⟩ = some (.int .i64 (T : Int)) ∧ w2.cell? ⟨w.heap.size, 2, none⟩ = some (.slice a1 n1 c1)) ∧ w2.cell? ⟨Rb, N, none⟩ = some (.int .i64 bq)) ∧ w2.cell? ⟨hg, k, none⟩ = some (.int .i64 q) from ⟨⟨⟨keep_cell hb c0, keep_cell hb c1', keep_cell hb c2'⟩, keep_cell hb hck⟩, keep_cell hb hcl⟩))
            have HBD := Lib.hid (show Below wr.heap.size wr wr.drew from (Below.refl _ _).drew)
            have HED := Lib.hid (EV.drew (EV.below H.out (HBEL.out.trans (HBL.out.mono (by omega)))))
            clear c0 c1' c2' hck hcl
            go_wp2_with fail
            refine wp_region_held_drew (S := fun w2 => ((w2.cell? ⟨w.heap.size, 0, none⟩ = some (.int .i64 al) ∧ w2.cell? ⟨w.heap.size, 1, none⟩ = some (.int .i64 (T : Int)) ∧ w2.cell? ⟨w.heap.size, 2, none⟩ = some (.slice a1 n1 c1)) ∧ w2.cell? ⟨Rb, N, none⟩ = some (.int .i64 bq)) ∧ w2.cell? ⟨hg, k, none⟩ = some (.int .i64 q)) (by kernel_rfl) (HS.out _ HBD.out) (fun hHeld => ?_)
            first | (refine wpAnyH_take (i := 0) (get_of_drop' rfl) (by kernel_rfl) (by kernel_rfl) (by kernel_rfl) (fun _ _ _ h => h) (Or.inr ⟨?_, rfl⟩) hHeld ?_; (focus (simp [Region.wanted, yielded, undef]; done)); (try simp only [Act.put, List.setIfInBounds_toArray, List.set_cons_zero, List.set_cons_succ])) | (refine wpAnyH_take (i := 0) (v := ?_) (get_of_drop' rfl) (by kernel_rfl) (by kernel_rfl) (by kernel_rfl) (fun _ _ _ h => h) (Or.inl ⟨?_, ?_⟩) hHeld ?_; rotate_left; (focus rfl); (focus (intro w hSw; (try dsimp only at hSw); go_simp; (try (with_reducible rfl)))); (try simp only [Act.put, List.setIfInBounds_toArray, List.set_cons_zero, List.set_cons_succ]))
            first | (refine wpAnyH_take (i := 1) (get_of_drop' rfl) (by kernel_rfl) (by kernel_rfl) (by kernel_rfl) (fun _ _ _ h => h) (Or.inr ⟨?_, rfl⟩) hHeld ?_; (focus (simp [Region.wanted, yielded, undef]; done)); (try simp only [Act.put, List.setIfInBounds_toArray, List.set_cons_zero, List.set_cons_succ])) | (refine wpAnyH_take (i := 1) (v := ?_) (get_of_drop' rfl) (by kernel_rfl) (by kernel_rfl) (by kernel_rfl) (fun _ _ _ h => h) (Or.inl ⟨?_, ?_⟩) hHeld ?_; rotate_left; (focus rfl); (focus (intro w hSw; (try dsimp only at hSw); go_simp; (try (with_reducible rfl)))); (try simp only [Act.put, List.setIfInBounds_toArray, List.set_cons_zero, List.set_cons_succ]))
            first | (refine wpAnyH_take (i := 2) (get_of_drop' rfl) (by kernel_rfl) (by kernel_rfl) (by kernel_rfl) (fun _ _ _ h => h) (Or.inr ⟨?_, rfl⟩) hHeld ?_; (focus (simp [Region.wanted, yielded, undef]; done)); (try simp only [Act.put, List.setIfInBounds_toArray, List.set_cons_zero, List.set_cons_succ])) | (refine wpAnyH_take (i := 2) (v := ?_) (get_of_drop' rfl) (by kernel_rfl) (by kernel_rfl) (by kernel_rfl) (fun _ _ _ h => h) (Or.inl ⟨?_, ?_⟩) hHeld ?_; rotate_left; (focus rfl); (focus (intro w hSw; (try dsimp only at hSw); go_simp; (try (with_reducible rfl)))); (try simp only [Act.put, List.setIfInBounds_toArray, List.set_cons_zero, List.set_cons_succ]))
            first | (refine wpAnyH_take (i := 3) (get_of_drop' rfl) (by kernel_rfl) (by kernel_rfl) (by kernel_rfl) (fun _ _ _ h => h) (Or.inr ⟨?_, rfl⟩) hHeld ?_; (focus (simp [Region.wanted, yielded, undef]; done)); (try simp only [Act.put, List.setIfInBounds_toArray, List.set_cons_zero, List.set_cons_succ])) | (refine wpAnyH_take (i := 3) (v := ?_) (get_of_drop' rfl) (by kernel_rfl) (by kernel_rfl) (by kernel_rfl) (fun _ _ _ h => h) (Or.inl ⟨?_, ?_⟩) hHeld ?_; rotate_left; (focus rfl); (focus (intro w hSw; (try dsimp only at hSw); go_simp; (try (with_reducible rfl)))); (try simp only [Act.put, List.setIfInBounds_toArray, List.set_cons_zero, List.set_cons_succ]))
            first | (refine wpAnyH_take (i := 4) (get_of_drop' rfl) (by kernel_rfl) (by kernel_rfl) (by kernel_rfl) (fun _ _ _ h => h) (Or.inr ⟨?_, rfl⟩) hHeld ?_; (focus (simp [Region.wanted, yielded, undef]; done)); (try simp only [Act.put, List.setIfInBounds_toArray, List.set_cons_zero, List.set_cons_succ])) | (refine wpAnyH_take (i := 4) (v := ?_) (get_of_drop' rfl) (by kernel_rfl) (by kernel_rfl) (by kernel_rfl) (fun _ _ _ h => h) (Or.inl ⟨?_, ?_⟩) hHeld ?_; rotate_left; (focus rfl); (focus (intro w hSw; (try dsimp only at hSw); go_simp; (try (with_reducible rfl)))); (try simp only [Act.put, List.setIfInBounds_toArray, List.set_cons_zero, List.set_cons_succ]))
            first | (refine wpAnyH_take (i := 6) (get_of_drop' rfl) (by kernel_rfl) (by kernel_rfl) (by kernel_rfl) (fun _ _ _ h => h) (Or.inr ⟨?_, rfl⟩) hHeld ?_; (focus (simp [Region.wanted, yielded, undef]; done)); (try simp only [Act.put, List.setIfInBounds_toArray, List.set_cons_zero, List.set_cons_succ])) | (refine wpAnyH_take (i := 6) (v := ?_) (get_of_drop' rfl) (by kernel_rfl) (by kernel_rfl) (by kernel_rfl) (fun _ _ _ h => h) (Or.inl ⟨?_, ?_⟩) hHeld ?_; rotate_left; (focus rfl); (focus (intro w hSw; (try dsimp only at hSw); go_simp; (try (with_reducible rfl)))); (try simp only [Act.put, List.setIfInBounds_toArray, List.set_cons_zero, List.set_cons_succ]))
            first | (refine wpAnyH_take (i := 7) (get_of_drop' rfl) (by kernel_rfl) (by kernel_rfl) (by kernel_rfl) (fun _ _ _ h => h) (Or.inr ⟨?_, rfl⟩) hHeld ?_; (focus (simp [Region.wanted, yielded, undef]; done)); (try simp only [Act.put, List.setIfInBounds_toArray, List.set_cons_zero, List.set_cons_succ])) | (refine wpAnyH_take (i := 7) (v := ?_) (get_of_drop' rfl) (by kernel_rfl) (by kernel_rfl) (by kernel_rfl) (fun _ _ _ h => h) (Or.inl ⟨?_, ?_⟩) hHeld ?_; rotate_left; (focus rfl); (focus (intro w hSw; (try dsimp only at hSw); go_simp; (try (with_reducible rfl)))); (try simp only [Act.put, List.setIfInBounds_toArray, List.set_cons_zero, List.set_cons_succ]))
            first | (refine wpAnyH_take (i := 10) (get_of_drop' rfl) (by kernel_rfl) (by kernel_rfl) (by kernel_rfl) (fun _ _ _ h => h) (Or.inr ⟨?_, rfl⟩) hHeld ?_; (focus (simp [Region.wanted, yielded, undef]; done)); (try simp only [Act.put, List.setIfInBounds_toArray, List.set_cons_zero, List.set_cons_succ])) | (refine wpAnyH_take (i := 10) (v := ?_) (get_of_drop' rfl) (by kernel_rfl) (by kernel_rfl) (by kernel_rfl) (fun _ _ _ h => h) (Or.inl ⟨?_, ?_⟩) hHeld ?_; rotate_left; (focus rfl); (focus (intro w hSw; (try dsimp only at hSw); go_simp; (try (with_reducible rfl)))); (try simp only [Act.put, List.setIfInBounds_toArray, List.set_cons_zero, List.set_cons_succ]))
            first | (refine wpAnyH_take (i := 11) (get_of_drop' rfl) (by kernel_rfl) (by kernel_rfl) (by kernel_rfl) (fun _ _ _ h => h) (Or.inr ⟨?_, rfl⟩) hHeld ?_; (focus (simp [Region.wanted, yielded, undef]; done)); (try simp only [Act.put, List.setIfInBounds_toArray, List.set_cons_zero, List.set_cons_succ])) | (refine wpAnyH_take (i := 11) (v := ?_) (get_of_drop' rfl) (by kernel_rfl) (by kernel_rfl) (by kernel_rfl) (fun _ _ _ h => h) (Or.inl ⟨?_, ?_⟩) hHeld ?_; rotate_left; (focus rfl); (focus (intro w hSw; (try dsimp only at hSw); go_simp; (try (with_reducible rfl)))); (try simp only [Act.put, List.setIfInBounds_toArray, List.set_cons_zero, List.set_cons_succ]))
            first | (refine wpAnyH_take (i := 12) (get_of_drop' rfl) (by kernel_rfl) (by kernel_rfl) (by kernel_rfl) (fun _ _ _ h => h) (Or.inr ⟨?_, rfl⟩) hHeld ?_; (focus (simp [Region.wanted, yielded, undef]; done)); (try simp only [Act.put, List.setIfInBounds_toArray, List.set_cons_zero, List.set_cons_succ])) | (refine wpAnyH_take (i := 12) (v := ?_) (get_of_drop' rfl) (by kernel_rfl) (by kernel_rfl) (by kernel_rfl) (fun _ _ _ h => h) (Or.inl ⟨?_, ?_⟩) hHeld ?_; rotate_left; (focus rfl); (focus (intro w hSw; (try dsimp only at hSw); go_simp; (try (with_reducible rfl)))); (try simp only [Act.put, List.setIfInBounds_toArray, List.set_cons_zero, List.set_cons_succ]))
            first | (refine wpAnyH_take (i := 13) (get_of_drop' rfl) (by kernel_rfl) (by kernel_rfl) (by kernel_rfl) (fun _ _ _ h => h) (Or.inr ⟨?_, rfl⟩) hHeld ?_; (focus (simp [Region.wanted, yielded, undef]; done)); (try simp only [Act.put, List.setIfInBounds_toArray, List.set_cons_zero, List.set_cons_succ])) | (refine wpAnyH_take (i := 13) (v := ?_) (get_of_drop' rfl) (by kernel_rfl) (by kernel_rfl) (by kernel_rfl) (fun _ _ _ h => h) (Or.inl ⟨?_, ?_⟩) hHeld ?_; rotate_left; (focus rfl); (focus (intro w hSw; (try dsimp only at hSw); go_simp; (try (with_reducible rfl)))); (try simp only [Act.put, List.setIfInBounds_toArray, List.set_cons_zero, List.set_cons_succ]))
            first | (refine wpAnyH_take (i := 14) (get_of_drop' rfl) (by kernel_rfl) (by kernel_rfl) (by kernel_rfl) (fun _ _ _ h => h) (Or.inr ⟨?_, rfl⟩) hHeld ?_; (focus (simp [Region.wanted, yielded, undef]; done)); (try simp only [Act.put, List.setIfInBounds_toArray, List.set_cons_zero, List.set_cons_succ])) | (refine wpAnyH_take (i := 14) (v := ?_) (get_of_drop' rfl) (by kernel_rfl) (by kernel_rfl) (by kernel_rfl) (fun _ _ _ h => h) (Or.inl ⟨?_, ?_⟩) hHeld ?_; rotate_left; (focus rfl); (focus (intro w hSw; (try dsimp only at hSw); go_simp; (try (with_reducible rfl)))); (try simp only [Act.put, List.setIfInBounds_toArray, List.set_cons_zero, List.set_cons_succ]))
            refine wpAnyH_ready (rs := [5]) (by kernel_rfl) (by simp) ?_
            refine AllReadyH.cons (get_of_drop' rfl) (fun K hK => ?_) AllReadyH.nil
            go_simp
            go_at_call 61
            refine (l1Bit_any _ (by omega) (by omega) _).mono ?_
            rintro e w5 ⟨rfl, rfl⟩
            rw [Int.toNat_natCast, HZ.out]
            go_wp2_with fail
            refine hK.out _ _ (HS.out _ HBD.out) (fun hHeld => ?_)
            clear hK K
            try simp only [Act.put, List.setIfInBounds_toArray, List.set_cons_zero, List.set_cons_succ]
            refine wpAnyH_ready (rs := [8]) (by kernel_rfl) (by simp) ?_
            refine AllReadyH.cons (get_of_drop' rfl) (fun K hK => ?_) AllReadyH.nil
            go_simp
            go_at_call 63
            refine (l1At_c s k c hlt HC hs _).mono ?_
            rintro e w5 ⟨rfl, rfl⟩
            rw [HSUB.out]
            go_wp2_with fail
            refine hK.out _ _ (HS.out _ HBD.out) (fun hHeld => ?_)
            clear hK K
            try simp only [Act.put, List.setIfInBounds_toArray, List.set_cons_zero, List.set_cons_succ]
            refine wpAnyH_ready (rs := [9]) (by kernel_rfl) (by simp) ?_
            refine AllReadyH.cons (get_of_drop' rfl) (fun K hK => ?_) AllReadyH.nil
            go_simp
            go_at_call 64
            refine (HSTEP.out _ HED.out).mono ?_
            rintro e w6 ⟨rfl, hb6⟩
            have HB6 := Lib.hid (HBD.out.trans hb6)
            clear hb6
            go_wp2_with fail
            refine hK.out _ _ (HS.out w6 HB6.out) (fun hHeld => ?_)
            clear hK K
            try simp only [Act.put, List.setIfInBounds_toArray, List.set_cons_zero, List.set_cons_succ]
            first | (refine wpAnyH_take (i := 15) (get_of_drop' rfl) (by kernel_rfl) (by kernel_rfl) (by kernel_rfl) (fun _ _ _ h => h) (Or.inr ⟨?_, rfl⟩) hHeld ?_; (focus (simp [Region.wanted, yielded, undef]; done)); (try simp only [Act.put, List.setIfInBounds_toArray, List.set_cons_zero, List.set_cons_succ])) | (refine wpAnyH_take (i := 15) (v := ?_) (get_of_drop' rfl) (by kernel_rfl) (by kernel_rfl) (by kernel_rfl) (fun _ _ _ h => h) (Or.inl ⟨?_, ?_⟩) hHeld ?_; rotate_left; (focus rfl); (focus (intro w hSw; (try dsimp only at hSw); go_simp; (try (with_reducible rfl)))); (try simp only [Act.put, List.setIfInBounds_toArray, List.set_cons_zero, List.set_cons_succ]))
            first | (refine wpAnyH_take (i := 16) (get_of_drop' rfl) (by kernel_rfl) (by kernel_rfl) (by kernel_rfl) (fun _ _ _ h => h) (Or.inr ⟨?_, rfl⟩) hHeld ?_; (focus (simp [Region.wanted, yielded, undef]; done)); (try simp only [Act.put, List.setIfInBounds_toArray, List.set_cons_zero, List.set_cons_succ])) | (refine wpAnyH_take (i := 16) (v := ?_) (get_of_drop' rfl) (by kernel_rfl) (by kernel_rfl) (by kernel_rfl) (fun _ _ _ h => h) (Or.inl ⟨?_, ?_⟩) hHeld ?_; rotate_left; (focus rfl); (focus (intro w hSw; (try dsimp only at hSw); go_simp; (try (with_reducible rfl)))); (try simp only [Act.put, List.setIfInBounds_toArray, List.set_cons_zero, List.set_cons_succ]))
            refine wpAnyH_done (by kernel_rfl) ?_ _
            have H6 := Lib.hid (HOWN.out.below HB6.out)
            have HBL6 := Lib.hid (HBL.out.trans (HB6.out.mono (by have := HBL.out.size; omega)))
            rw [HAND.out]
            go_wp2_with (first | (go_at_call 65; (with_reducible refine (HLEAST.out _).mono ?_); rintro e w' ⟨rfl, rfl⟩) | (at_builtin; refine app_int w6 (r : Int) (Rb + 1) rfl rfl _ _ rfl (.slice (some ⟨hg, 0, none⟩) n cap) (runT es T s.data.toList (k + 1)) rfl H6.out rfl (by rw [runT_len]; omega) (by have := HBL6.out.size; omega) ?_))
            intro ao' n' cap' w7 hn' hown' hkept
            have HN7 := Lib.hid hn'
            have HOWN7 := Lib.hid hown'
            have HK7 := Lib.hid (hkept.1 _ HBL6.out)
            clear hn' hown' hkept
            go_wp2
            go_roundw
            case rel => exact ⟨k + 1, ao', n', cap', HLT.out, by rw [HNN.out], rfl, by rw [HN7.out, runT_len], by rw [HRT.out]; exact HOWN7.out, HK7.out⟩
            case measure =>
              have h1 := HLT.out
              have h2 := HNN.out
              simp [intOf] <;> omega
          · obtain rfl : k = s.size := by omega
            obtain ⟨g, hg1, hg2⟩ := HOWN.out.wi
            have hll : runT es T s.data.toList (s.size + 1) = runL es T s.data.toList := by unfold runT runL; rw [data_len]
            rw [hll] at hg1 hg2
            have hbw := HBEL.out.trans (HBL.out.mono (by omega))
            have HG1 := Lib.hid hg1
            have HG2 := Lib.hid hg2
            have HBW := Lib.hid hbw
            clear hg1 hg2 hbw
            go_wp2
            go_ret2
            exact ⟨ao, n, cap, _, true, g, rfl, fun h0 => ⟨by have := (HG1.out h0).1; omega, (HG1.out h0).2⟩, HG2.out, HBW.out, HRP.out⟩
end Go.Proofs.YtknhgfmjchfnjaaDoor
