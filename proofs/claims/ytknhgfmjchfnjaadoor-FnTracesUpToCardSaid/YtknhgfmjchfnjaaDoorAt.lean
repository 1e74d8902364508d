/- WordAt on both sides. -/
import Derived.Test.YtknhgfmjchfnjaaDoorReverse
namespace Go.Proofs.YtknhgfmjchfnjaaDoor
open Go.RowKit
set_option linter.unusedVariables false
set_option linter.unusedSimpArgs false
set_option maxRecDepth 100000

def atBytes (o : Option (List UInt8)) : List UInt8 := o.getD []
def SAtRel (xs : List Int) (n : Nat) (w2 : World) (t v : Value) (wr : World) : Prop :=
  ∃ (f m : Nat) (out : List UInt8) (r : ByteArray), t = .int .i64 m ∧ v = .string r ∧ r.data.toList = out ∧ f + out.length = 7 ∧ wat xs f m out = wat xs 7 n [] ∧ m ≤ 9223372036854775807 ∧ Below w2.heap.size w2 wr

def IAtRel (xs : List Int) (n : Nat) (w2 : World) (t v : Value) (wr : World) : Prop :=
  ∃ (f m : Nat) (out : List UInt8) (ao : Option Addr) (k cap : Nat), t = .int .i64 m ∧ v = .slice ao k cap ∧ BRow w2.heap.size wr (.slice ao k cap) out.reverse ∧ f + out.length = 7 ∧ wat xs f m out = wat xs 7 n [] ∧ m ≤ 9223372036854775807 ∧ Below w2.heap.size w2 wr

set_option maxHeartbeats 1000000 in
theorem implAt_any (n a : Int) (hn : n ≤ 9223372036854775807) (w : World) : Calls Tryd.prog 21 #[.int .i64 n, .int .i64 a] w (RetStr2 (atBytes (wordAt n a)) (wordAt n a).isSome w) := by
  cases ha : isA a with
  | false =>
    have hr : wordAt n a = none := by simp [wordAt, ha]
    have HR := Lib.hid hr; clear hr
    have HA := Lib.hid ha; clear ha
    go_enter Tryd.func21, Tryd.ntmps21
    go_wp2_with (go_at_call 53; (with_reducible refine (isAlphabet_any a _).mono ?_); rintro e w' ⟨rfl, rfl⟩; rw [HA.out])
    go_ret2
    rw [HR.out]
    exact ⟨_, rfl, rfl, Below.refl _ _⟩
  | true =>
    by_cases hneg : n < 0
    · have hr : wordAt n a = none := by
        have : ¬ 0 ≤ n := by omega
        simp [wordAt, this]
      have HR := Lib.hid hr; clear hr
      have HA := Lib.hid ha; clear ha
      go_enter Tryd.func21, Tryd.ntmps21
      go_wp2_with (go_at_call 53; (with_reducible refine (isAlphabet_any a _).mono ?_); rintro e w' ⟨rfl, rfl⟩; rw [HA.out])
      go_ret2
      rw [HR.out]
      exact ⟨_, rfl, rfl, Below.refl _ _⟩
    · obtain ⟨h0, h1⟩ := (isA_iff a).1 ha
      have hn0 : 0 ≤ n := by omega
      have hr : wordAt n a = wat (lets a) 7 n.toNat [] := by simp [wordAt, ha, hn0]
      obtain ⟨N, rfl⟩ := Int.eq_ofNat_of_zero_le hn0
      clear hneg
      rw [Int.toNat_natCast] at hr
      have hlx := lets_len a
      have HR := Lib.hid hr; clear hr
      have HA := Lib.hid ha; clear ha
      go_enter Tryd.func21, Tryd.ntmps21
      go_wp2_with (go_at_call 53; (with_reducible refine (isAlphabet_any a _).mono ?_); rintro e w' ⟨rfl, rfl⟩; rw [HA.out])
      refine (lettersOf_any a h0 (by omega) w).mono ?_
      rintro e w2 ⟨ao, cap, rfl, hown, hbel⟩
      obtain ⟨z, hz⟩ : ∃ z, (lets a).length = z := ⟨_, rfl⟩
      rw [hz] at hown hlx
      rw [hz]
      have HZ := Lib.hid hz; clear hz
      go_wp2
      go_loopw [0, 7] (fun t v wr => IAtRel (lets a) N w2 t v wr) (fun t _ _ => (intOf t).toNat)
      case atStart => exact ⟨7, N, [], none, 0, 0, rfl, rfl, BRow.nil _ _, rfl, rfl, by omega, Below.refl _ _⟩
      case round =>
        obtain ⟨f, m, out, ao', k, cap', rfl, rfl, hout, hf, hw, hm, hb2⟩ := hrel
        have HW := Lib.hid hw
        clear hw
        have hlen := hout.len
        rw [List.length_reverse] at hlen
        by_cases hm0 : m = 0
        · subst hm0
          have hk : k ≤ 1000 := by omega
          have HL := Lib.hid hlen; clear hlen
          go_wp2_with fail
          refine (reverse_any _ _ _ _ _ _ hout hk).mono ?_
          rintro e w3 ⟨rfl, hrev, hb3⟩
          have hcv := run_string_of_row hrev
          have hb4 := hb3 w2 hb2
          clear hb3
          rw [List.reverse_reverse] at hcv
          go_wp2
          go_ret2
          rw [HR.out, ← HW.out, wat_zero]
          exact ⟨_, rfl, rfl, hbel.trans (hb4.mono hbel.size)⟩
        · obtain ⟨p, rfl⟩ : ∃ p, m = p + 1 := ⟨m - 1, by omega⟩
          clear hm0
          have hp1 : (((p + 1 : Nat) : Int)) = (p : Int) + 1 := by omega
          rw [hp1]
          clear hp1
          by_cases hz0 : z = 0
          · subst hz0
            have HL := Lib.hid hlen; clear hlen
            go_wp2
            go_ret2
            rw [HR.out, ← HW.out, wat_none _ _ _ _ (by omega) HZ.out]
            exact ⟨_, rfl, rfl, hbel.trans (hb2.mono hbel.size)⟩
          · have hzb : ((z : Int) == 0) = false := by simp; omega
            have hzp : 1 ≤ (z : Int) := by omega
            by_cases hf0 : f = 0
            · subst hf0
              have h7 : ((k : Int) == 7) = true := by simp; omega
              have HL := Lib.hid hlen; clear hlen
              clear hz0
              go_wp2
              go_ret2
              rw [HR.out, ← HW.out, wat_full _ _ _ (by omega)]
              exact ⟨_, rfl, rfl, hbel.trans (hb2.mono hbel.size)⟩
            · have h7 : ((k : Int) == 7) = false := by simp; omega
              have hsz7 : (k : Int) ≤ 7 := by omega
              obtain ⟨f', rfl⟩ : ∃ f', f = f' + 1 := ⟨f - 1, by omega⟩
              obtain ⟨j, hj⟩ : ∃ j, p % z = j := ⟨_, rfl⟩
              obtain ⟨q, hq⟩ : ∃ q, p / z = q := ⟨_, rfl⟩
              have hjz : j < z := by rw [← hj]; exact Nat.mod_lt _ (by omega)
              have hji : (p : Int) % (z : Int) = (j : Int) := by rw [← hj]; simp
              have hqi : (p : Int) / (z : Int) = (q : Int) := by rw [← hq]; simp
              have hqp : q ≤ p := by rw [← hq]; exact Nat.div_le_self _ _
              have hxs : (lets a).length ≠ 0 := by rw [HZ.out]; exact hz0
              have hrow := hown.below hb2
              obtain ⟨g, rfl, -, -, -, hcap, hmax, hcells⟩ := hrow.ne hxs
              have hcell := hcells j (by rw [HZ.out]; exact hjz)
              have hbd := lets_getD a j (by rw [HZ.out]; exact hjz)
              have hstep := wat_step (lets a) f' (p + 1) out (by omega) hxs
              rw [HW.out, HZ.out, show p + 1 - 1 = p from rfl, hj, hq] at hstep
              obtain ⟨x, hx⟩ : ∃ x, (lets a)[j]?.getD 0 = x := ⟨_, rfl⟩
              rw [hx] at hcell hbd hstep
              obtain ⟨hx0, hx1⟩ := hbd
              have hol : out.length ≤ 7 := by omega
              have HX := Lib.hid hx; clear hx
              have HS := Lib.hid hstep; clear hstep
              have HJ := Lib.hid hj; clear hj
              have HQ := Lib.hid hq; clear hq
              have HL := Lib.hid hlen; clear hlen
              clear hz0 hcells hf0 hrow
              unfold maxLen at hmax
              go_wp2_with (first | (go_at_call 54; (with_reducible refine (letterByte_any x hx0 hx1 _).mono ?_); rintro e w' ⟨rfl, rfl⟩) | (at_builtin; refine app_byte wr (lb x) _ (lb_nat x hx0 hx1).symm w2.heap.size rfl rfl _ _ rfl (.slice ao' k cap') out.reverse rfl hout rfl ?_ hb2.size ?_))
              · rw [List.length_reverse]; omega
              intro ao2 n2 cap2 w3 hn2 hout2 hkept
              have HN2 := Lib.hid hn2; clear hn2
              have hb3 := hkept.1 w2 hb2
              go_wp2
              go_roundw
              case rel => exact ⟨f', q, lb x :: out, ao2, n2, cap2, rfl, rfl, by rw [List.reverse_cons]; exact hout2, by simp; omega, HS.out.symm, by omega, hb3⟩
              case measure => simp [intOf] <;> omega


end Go.Proofs.YtknhgfmjchfnjaaDoor
