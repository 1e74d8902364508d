/- The walks of the laws LettersAfter and StatesAfter. -/
import Derived.Test.YtknhgfmjchfnjaaDoorL1


namespace Go.Proofs.YtknhgfmjchfnjaaDoor
open Go.RowKit
set_option linter.unusedVariables false
set_option linter.unusedSimpArgs false
set_option maxRecDepth 100000

theorem agHas_any (s n : Int) (h0 : 0 ≤ s) (h1 : s < 9223372036854775808) (hn : 0 ≤ n) (hn' : n < 9223372036854775808) (w : World) : Calls Tryd.prog 31 #[.int .i64 s, .int .i64 n] w (Ret (.bool (hasB s n)) w) := by
  have hw : IntKind.u64.wrap n = n := by rw [IntKind.wrap_u64]; omega
  go_enter Tryd.func31, Tryd.ntmps31
  go_wp2
  go_ret
  exact ⟨ret_bool (by unfold hasB; rw [← bit_of_shr s n h0 h1]; simp; omega), rfl⟩
set_option maxHeartbeats 1000000 in
theorem agStep_any (al st x : Int) (a1 : Option Addr) (n1 c1 : Nat) (es : List Edg) (s : Nat) (w : World) (h : EV w (.slice a1 n1 c1) es) (hs : s < 65536) (hok : OkE es) :
    Calls Tryd.prog 32 #[.agg #[.int .i64 al, .int .i64 st, .slice a1 n1 c1], .int .i64 s, .int .i64 x] w (RB' (.int .i64 (stepN es s x : Nat)) w) := by
  obtain ⟨hn, hcap, hmax, hcell⟩ := h.at
  have B0 := Lib.hid (below_new' w 25 #[.int .i64 al, .int .i64 st, .slice a1 n1 c1])
  have R0 := Lib.hid (sys_cells w al st (.slice a1 n1 c1) 25)
  have HC := Lib.hid hcell; clear hcell
  have HN := Lib.hid hn; clear hn
  have HOK := Lib.hid hok; clear hok
  clear h
  go_enter Tryd.func32, Tryd.ntmps32
  go_wp2
  go_loopw [7, 8] (fun o i wr => ∃ k : Nat, k ≤ n1 ∧ i = .int .i64 k ∧ o = .int .i64 (stepN (es.take k) s x : Nat) ∧ Below w.heap.size w wr ∧ wr.rowIs w.heap.size 25 3 (fun i => #[.int .i64 al, .int .i64 st, .slice a1 n1 c1][i]?.getD undef)) (fun _ i _ => n1 - (intOf i).toNat)
  case atStart => exact ⟨0, by omega, rfl, rfl, B0.out, R0.out⟩
  case round =>
    obtain ⟨k, hk, rfl, rfl, hbel, hrow⟩ := hrel
    have p0 : wr.cell? ⟨w.heap.size, 0, none⟩ = some (.int .i64 al) := hrow.cell (by decide)
    have p1 : wr.cell? ⟨w.heap.size, 1, none⟩ = some (.int .i64 st) := hrow.cell (by decide)
    have p2 : wr.cell? ⟨w.heap.size, 2, none⟩ = some (.slice a1 n1 c1) := hrow.cell (by decide)
    by_cases hlt : k < n1
    · rcases HC.out with h0 | ⟨b, off, rfl, hb, hc⟩
      · omega
      · have hu := hc k hlt
        rw [← cell_below hbel hb, ← cell_below hbel hb, ← cell_below hbel hb] at hu
        have hlt' : k < es.length := by rw [← HN.out]; exact hlt
        have htk := take_snoc_e es k hlt'
        have hek := HOK.out.at k hlt'
        have hol := stepN_take_lt HOK.out k s x
        obtain ⟨o, ho⟩ : ∃ o, stepN (es.take k) s x = o := ⟨_, rfl⟩
        obtain ⟨f, l, t, he⟩ : ∃ f l t, Edg.at es k = (f, l, t) := ⟨_, _, _, rfl⟩
        rw [he] at hu hek htk
        rw [ho] at hol
        obtain ⟨e0, e1, e2⟩ := hu
        dsimp only at e0 e1 e2 hek
        obtain ⟨⟨hf0, hf1⟩, ⟨hl0, hl1⟩, ht0, ht1⟩ := hek
        have hwt : IntKind.u64.wrap t = t := by rw [IntKind.wrap_u64]; omega
        have HOR := Lib.hid (or_w o t hol ht0 ht1)
        have HBEL := Lib.hid hbel
        have HROW := Lib.hid hrow
        have HTK := Lib.hid htk; clear htk
        have HO := Lib.hid ho; clear ho
        clear hc hbel hrow he hlt'
        rw [HO.out]
        by_cases hx : l = x
        · subst hx
          cases hh : hasB (s : Int) f with
          | true =>
            have HH := Lib.hid hh; clear hh
            have hst : stepN (es.take (k + 1)) s l = o ||| 2 ^ t.toNat := by rw [HTK.out, stepN_yes _ _ _ _ rfl HH.out, HO.out]
            have HST := Lib.hid hst; clear hst
            go_wp2_with (go_at_call 31; (with_reducible refine (agHas_any _ _ (by omega) (by omega) (by omega) (by omega) _).mono ?_); rintro e w' ⟨rfl, rfl⟩; rw [HH.out])
            go_roundw
            case rel => exact ⟨k + 1, by omega, by go_num, by rw [HST.out]; exact congrArg (Value.int .i64) HOR.out, HBEL.out, HROW.out⟩
            case measure => simp [intOf] <;> omega
          | false =>
            have HH := Lib.hid hh; clear hh
            have hst : stepN (es.take (k + 1)) s l = o := by rw [HTK.out, stepN_no _ _ _ _ (fun h => by have := h.2; rw [HH.out] at this; cases this), HO.out]
            have HST := Lib.hid hst; clear hst
            go_wp2_with (go_at_call 31; (with_reducible refine (agHas_any _ _ (by omega) (by omega) (by omega) (by omega) _).mono ?_); rintro e w' ⟨rfl, rfl⟩; rw [HH.out])
            go_roundw
            case rel => exact ⟨k + 1, by omega, by go_num, by rw [HST.out], HBEL.out, HROW.out⟩
            case measure => simp [intOf] <;> omega
        · have hst : stepN (es.take (k + 1)) s x = o := by rw [HTK.out, stepN_no _ _ _ _ (fun h => hx h.1), HO.out]
          have HST := Lib.hid hst; clear hst
          go_wp2
          go_roundw
          case rel => exact ⟨k + 1, by omega, by go_num, by rw [HST.out], HBEL.out, HROW.out⟩
          case measure => simp [intOf] <;> omega
    · have hall : es.take k = es := by
        obtain rfl : k = n1 := by omega
        rw [HN.out]; exact List.take_length
      have HALL := Lib.hid hall; clear hall
      go_wp2
      go_ret
      exact ⟨ret_int (by rw [HALL.out]), hbel⟩
/-- The box of the law's system, while a region draws its order. -/
theorem snoc_data (s r : ByteArray) (c : UInt8) (h : r.data.toList = [c]) : (s ++ r).data.toList = s.data.toList ++ [c] := by
  simp [h]
theorem aft_any (al st : Int) (es : List Edg) (l : List UInt8) (c : UInt8) (hl : l.length < 50000) (h : sysV al st es = false) : aftN al st es (l ++ [c]) = 0 := aftN_no _ _ _ _ h
theorem has_letters (al st : Int) (es : List Edg) (l : List UInt8) (k : Nat) (hk : k < 6) (hl : l.length < 50000) : decide (aftN al st es (l ++ [lb (k : Int)]) ≠ 0) = hasB ((letN es (aftN al st es l) : Nat) : Int) (k : Int) := by
  cases hv : sysV al st es with
  | false => rw [aftN_no _ _ _ _ hv, aftN_no _ _ _ _ hv, letN_zero, hasB_nat]; simp
  | true =>
    rw [aft_snoc _ _ _ _ _ hv hl, ltr_lb _ (by omega) (by omega), hasB_nat, letN_step es (sysV_ok hv)]
end Go.Proofs.YtknhgfmjchfnjaaDoor
