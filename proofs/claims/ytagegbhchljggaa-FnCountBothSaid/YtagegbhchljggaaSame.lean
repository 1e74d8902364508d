/- Whether two copies read alike. -/
import Derived.Test.YtagegbhchljggaaOwn
import Derived.Deep.QuietTactic
import Derived.BigQuiet
namespace Go.Proofs.Ytagegbhchljggaa
open Go.RowKit
set_option linter.unusedVariables false
set_option linter.unusedSimpArgs false
set_option maxRecDepth 100000

theorem ext_get {α : Type} (d : α) {xs ys : List α} (h : xs.length = ys.length) (h2 : ∀ j, j < xs.length → xs[j]?.getD d = ys[j]?.getD d) : xs = ys := by
  apply List.ext_getElem h
  intro i h3 h4
  have := h2 i h3
  rwa [List.getElem?_eq_getElem h3, List.getElem?_eq_getElem h4] at this

/-- It returns v and has drawn at most. -/
def RetQ (v : Value) (w : World) (e : Ending) (w' : World) : Prop := e = .returned v ∧ ∃ m, w' = w.drewN m
theorem RetQ.below {v : Value} {w : World} {e : Ending} {w' : World} (h : RetQ v w e w') : e = .returned v ∧ Below w.heap.size w w' := by
  obtain ⟨h1, m, rfl⟩ := h
  exact ⟨h1, rfl, rfl, rfl, Nat.le_refl _, fun _ _ => rfl⟩
theorem below_drewN {B : Nat} {w w1 : World} (h : Below B w w1) (n : Nat) : Below B w (w1.drewN n) := ⟨h.os, h.tape, h.output, h.size, h.block⟩
theorem quiet_add {P : Program} {f : FuncId} {args : Array Value} {w : World} {q n : Nat} {v : Value} (h : Calls P f args (w.drewN (q + n)) (RetQ v (w.drewN (q + n)))) :
    Calls P f args (w.drewN (q + n)) fun e w'' => e = .returned v ∧ ∃ m, w'' = w.drewN (q + m) :=
  h.mono fun _ _ ⟨he, m, hm⟩ => ⟨he, n + m, by rw [hm, World.drewN_drewN, Nat.add_assoc]⟩
theorem IV.drewN {w : World} {v : Value} {xs : List Int} (h : IV w v xs) (n : Nat) : IV (w.drewN n) v xs := h
theorem BV.drewN {w : World} {v : Value} {xs : List Bool} (h : BV w v xs) (n : Nat) : BV (w.drewN n) v xs := h
theorem MV.drewN {w : World} {v : Value} {xs : List (List Int)} (h : MV w v xs) (n : Nat) : MV (w.drewN n) v xs := h
set_option maxHeartbeats 400000 in
theorem eqIntS_any (ao : Option Addr) (n cap : Nat) (bo : Option Addr) (m cap2 : Nat) (xs ys : List Int) (w : World) (h : IV w (.slice ao n cap) xs) (h2 : IV w (.slice bo m cap2) ys) :
    Calls Try.prog 63 #[.slice ao n cap, .slice bo m cap2] w (RetQ (.bool (decide (xs = ys))) w) := by
  obtain ⟨hn, hcap, hmax, hcell⟩ := SV.at h
  obtain ⟨hm, hcapm, hmaxm, hcellm⟩ := SV.at h2
  by_cases hl : n = m
  · subst hl
    have HC := Lib.hid hcell
    have HD := Lib.hid hcellm
    have HN := Lib.hid hn
    have HM := Lib.hid hm
    unfold maxLen at hmax
    clear hcell hcellm h h2 hn hm hcapm hmaxm
    go_enter Try.func63, Try.ntmps63
    go_wp2
    go_loopw [5] (fun i wr => ∃ k : Nat, k ≤ n ∧ i = .int .i64 k ∧ (∀ j, j < k → xs[j]?.getD 0 = ys[j]?.getD 0) ∧ ∃ q, wr = w.drewN q) (fun i _ => n - (intOf i).toNat)
    case atStart => exact ⟨0, by omega, rfl, fun j hj => by omega, 0, rfl⟩
    case round =>
      obtain ⟨k, hk, rfl, hall, q, rfl⟩ := hrel
      have HALL := Lib.hid hall; clear hall
      by_cases hlt : k < n
      · rcases HC.out with h0 | ⟨b, off, rfl, hb, hc⟩
        · omega
        · rcases HD.out with h0 | ⟨b2, off2, rfl, hb2, hc2⟩
          · omega
          · obtain ⟨u, hu, rfl⟩ := hc k hlt
            obtain ⟨u2, hu2, rfl⟩ := hc2 k hlt
            clear hc hc2
            obtain ⟨x, hx⟩ : ∃ x, xs[k]?.getD 0 = x := ⟨_, rfl⟩
            obtain ⟨y, hy⟩ : ∃ y, ys[k]?.getD 0 = y := ⟨_, rfl⟩
            rw [hx] at hu
            rw [hy] at hu2
            have HX := Lib.hid hx; clear hx
            have HY := Lib.hid hy; clear hy
            by_cases he : x = y
            · subst he
              go_wp2_with fail
              go_quiet (fail)
              rename_i nq
              go_wp2
              go_roundw
              case rel => exact ⟨k + 1, by omega, by go_num, fun j hj => by
                by_cases e : j = k
                · subst e; rw [HX.out, HY.out]
                · exact HALL.out j (by omega), _, rfl⟩
              case measure => simp [intOf] <;> omega
            · go_wp2_with fail
              go_quiet (fail)
              rename_i nq
              go_wp2
              go_ret
              exact ⟨ret_bool (by symm; simp only [decide_eq_false_iff_not]; intro h; exact he (by rw [← HX.out, ← HY.out, h])), q + nq, by first | rfl | rw [World.drewN_drewN]⟩
      · go_wp2
        go_ret
        obtain rfl : k = n := by omega
        exact ⟨ret_bool (by symm; simp only [decide_eq_true_eq]; exact ext_get 0 (by rw [← HN.out, ← HM.out]) (fun j hj => HALL.out j (by rw [HN.out]; exact hj))), q, rfl⟩
  · have hne : decide (xs = ys) = false := by
      simp only [decide_eq_false_iff_not]; intro h; apply hl; rw [hn, hm, h]
    have HNE := Lib.hid hne; clear hne
    have hq : ((n : Int) == (m : Int)) = false := by simp; omega
    clear hcell hcellm h h2 hn hm
    go_enter Try.func63, Try.ntmps63
    go_wp2
    go_ret
    exact ⟨ret_bool HNE.out.symm, 0, rfl⟩

theorem eqIntS_b (ao : Option Addr) (n cap : Nat) (bo : Option Addr) (m cap2 : Nat) (xs ys : List Int) (w : World) (b : Bool) (hb : decide (xs = ys) = b) (h : IV w (.slice ao n cap) xs) (h2 : IV w (.slice bo m cap2) ys) :
    Calls Try.prog 63 #[.slice ao n cap, .slice bo m cap2] w (RetQ (.bool b) w) := by
  subst hb
  exact eqIntS_any ao n cap bo m cap2 xs ys w h h2
set_option maxHeartbeats 400000 in
theorem eqBoolS_any (ao : Option Addr) (n cap : Nat) (bo : Option Addr) (m cap2 : Nat) (xs ys : List Bool) (w : World) (h : BV w (.slice ao n cap) xs) (h2 : BV w (.slice bo m cap2) ys) :
    Calls Try.prog 42 #[.slice ao n cap, .slice bo m cap2] w (RetQ (.bool (decide (xs = ys))) w) := by
  obtain ⟨hn, hcap, hmax, hcell⟩ := SV.at h
  obtain ⟨hm, hcapm, hmaxm, hcellm⟩ := SV.at h2
  by_cases hl : n = m
  · subst hl
    have HC := Lib.hid hcell
    have HD := Lib.hid hcellm
    have HN := Lib.hid hn
    have HM := Lib.hid hm
    unfold maxLen at hmax
    clear hcell hcellm h h2 hn hm hcapm hmaxm
    go_enter Try.func42, Try.ntmps42
    go_wp2
    go_loopw [5] (fun i wr => ∃ k : Nat, k ≤ n ∧ i = .int .i64 k ∧ (∀ j, j < k → xs[j]?.getD false = ys[j]?.getD false) ∧ ∃ q, wr = w.drewN q) (fun i _ => n - (intOf i).toNat)
    case atStart => exact ⟨0, by omega, rfl, fun j hj => by omega, 0, rfl⟩
    case round =>
      obtain ⟨k, hk, rfl, hall, q, rfl⟩ := hrel
      have HALL := Lib.hid hall; clear hall
      by_cases hlt : k < n
      · rcases HC.out with h0 | ⟨b, off, rfl, hb, hc⟩
        · omega
        · rcases HD.out with h0 | ⟨b2, off2, rfl, hb2, hc2⟩
          · omega
          · obtain ⟨u, hu, rfl⟩ := hc k hlt
            obtain ⟨u2, hu2, rfl⟩ := hc2 k hlt
            clear hc hc2
            obtain ⟨x, hx⟩ : ∃ x, xs[k]?.getD false = x := ⟨_, rfl⟩
            obtain ⟨y, hy⟩ : ∃ y, ys[k]?.getD false = y := ⟨_, rfl⟩
            rw [hx] at hu
            rw [hy] at hu2
            have HX := Lib.hid hx; clear hx
            have HY := Lib.hid hy; clear hy
            by_cases he : x = y
            · subst he
              go_wp2_with fail
              go_quiet (fail)
              rename_i nq
              go_wp2
              go_roundw
              case rel => exact ⟨k + 1, by omega, by go_num, fun j hj => by
                by_cases e : j = k
                · subst e; rw [HX.out, HY.out]
                · exact HALL.out j (by omega), _, rfl⟩
              case measure => simp [intOf] <;> omega
            · have HNE : Hid (xs ≠ ys) := Lib.hid (fun h => he (by rw [← HX.out, ← HY.out, h]))
              obtain ⟨rfl, rfl⟩ | ⟨rfl, rfl⟩ : (x = true ∧ y = false) ∨ (x = false ∧ y = true) := by
                clear hu hu2 HX HY
                revert he
                cases x <;> cases y <;> simp
              all_goals
                go_wp2_with fail
                go_quiet (fail)
                rename_i nq
                go_wp2
                go_ret
                exact ⟨ret_bool (by symm; simp only [decide_eq_false_iff_not]; exact HNE.out), q + nq, by first | rfl | rw [World.drewN_drewN]⟩
      · go_wp2
        go_ret
        obtain rfl : k = n := by omega
        exact ⟨ret_bool (by symm; simp only [decide_eq_true_eq]; exact ext_get false (by rw [← HN.out, ← HM.out]) (fun j hj => HALL.out j (by rw [HN.out]; exact hj))), q, rfl⟩
  · have hne : decide (xs = ys) = false := by
      simp only [decide_eq_false_iff_not]; intro h; apply hl; rw [hn, hm, h]
    have HNE := Lib.hid hne; clear hne
    have hq : ((n : Int) == (m : Int)) = false := by simp; omega
    clear hcell hcellm h h2 hn hm
    go_enter Try.func42, Try.ntmps42
    go_wp2
    go_ret
    exact ⟨ret_bool HNE.out.symm, 0, rfl⟩

set_option maxHeartbeats 400000 in
theorem eqIntSS_any (ao : Option Addr) (n cap : Nat) (bo : Option Addr) (m cap2 : Nat) (xs ys : List (List Int)) (w : World) (h : MV w (.slice ao n cap) xs) (h2 : MV w (.slice bo m cap2) ys) :
    Calls Try.prog 41 #[.slice ao n cap, .slice bo m cap2] w (RetQ (.bool (decide (xs = ys))) w) := by
  obtain ⟨hn, hcap, hmax, hcell⟩ := SV.at h
  obtain ⟨hm, hcapm, hmaxm, hcellm⟩ := SV.at h2
  by_cases hl : n = m
  · subst hl
    have HC := Lib.hid hcell
    have HD := Lib.hid hcellm
    have HN := Lib.hid hn
    have HM := Lib.hid hm
    unfold maxLen at hmax
    clear hcell hcellm h h2 hn hm hcapm hmaxm
    go_enter Try.func41, Try.ntmps41
    go_wp2
    go_loopw [5] (fun i wr => ∃ k : Nat, k ≤ n ∧ i = .int .i64 k ∧ (∀ j, j < k → xs[j]?.getD [] = ys[j]?.getD []) ∧ ∃ q, wr = w.drewN q) (fun i _ => n - (intOf i).toNat)
    case atStart => exact ⟨0, by omega, rfl, fun j hj => by omega, 0, rfl⟩
    case round =>
      obtain ⟨k, hk, rfl, hall, q, rfl⟩ := hrel
      have HALL := Lib.hid hall; clear hall
      by_cases hlt : k < n
      · rcases HC.out with h0 | ⟨b, off, rfl, hb, hc⟩
        · omega
        · rcases HD.out with h0 | ⟨b2, off2, rfl, hb2, hc2⟩
          · omega
          · obtain ⟨u, hu, hv⟩ := hc k hlt
            obtain ⟨u2, hu2, hv2⟩ := hc2 k hlt
            clear hc hc2
            obtain ⟨x, hx⟩ : ∃ x, xs[k]?.getD [] = x := ⟨_, rfl⟩
            obtain ⟨y, hy⟩ : ∃ y, ys[k]?.getD [] = y := ⟨_, rfl⟩
            rw [hx] at hv
            rw [hy] at hv2
            obtain ⟨a3, n3, c3, rfl⟩ : ∃ a n c, u = .slice a n c := by obtain ⟨a, c, e, -⟩ := hv; exact ⟨a, _, c, e⟩
            obtain ⟨a4, n4, c4, rfl⟩ : ∃ a n c, u2 = .slice a n c := by obtain ⟨a, c, e, -⟩ := hv2; exact ⟨a, _, c, e⟩
            have HV := Lib.hid hv
            have HV2 := Lib.hid hv2
            have HX := Lib.hid hx; clear hx
            have HY := Lib.hid hy; clear hy
            clear hv hv2
            go_wp2_with fail
            by_cases he : x = y
            · have hd : decide (x = y) = true := by simpa using he
              have HDD := Lib.hid hd; clear hd
              have HE := Lib.hid he
              clear he
              go_quiet ((go_at_call 63; exact quiet_add (eqIntS_b a3 n3 c3 a4 n4 c4 x y _ _ HDD.out (IV.drewN HV.out _) (IV.drewN HV2.out _))))
              rename_i nq
              go_wp2
              go_roundw
              case rel => exact ⟨k + 1, by omega, by go_num, fun j hj => by
                by_cases e : j = k
                · subst e; rw [HX.out, HY.out]; exact HE.out
                · exact HALL.out j (by omega), q + nq, by first | rfl | rw [World.drewN_drewN]⟩
              case measure => simp [intOf] <;> omega
            · have HNE : Hid (xs ≠ ys) := Lib.hid (fun h => he (by rw [← HX.out, ← HY.out, h]))
              have hd : decide (x = y) = false := by simpa using he
              have HDD := Lib.hid hd; clear hd
              clear he
              go_quiet ((go_at_call 63; exact quiet_add (eqIntS_b a3 n3 c3 a4 n4 c4 x y _ _ HDD.out (IV.drewN HV.out _) (IV.drewN HV2.out _))))
              rename_i nq
              go_wp2
              go_ret
              exact ⟨ret_bool (by symm; simp only [decide_eq_false_iff_not]; exact HNE.out), q + nq, by first | rfl | rw [World.drewN_drewN]⟩
      · go_wp2
        go_ret
        obtain rfl : k = n := by omega
        exact ⟨ret_bool (by symm; simp only [decide_eq_true_eq]; exact ext_get [] (by rw [← HN.out, ← HM.out]) (fun j hj => HALL.out j (by rw [HN.out]; exact hj))), q, rfl⟩
  · have hne : decide (xs = ys) = false := by
      simp only [decide_eq_false_iff_not]; intro h; apply hl; rw [hn, hm, h]
    have HNE := Lib.hid hne; clear hne
    have hq : ((n : Int) == (m : Int)) = false := by simp; omega
    clear hcell hcellm h h2 hn hm
    go_enter Try.func41, Try.ntmps41
    go_wp2
    go_ret
    exact ⟨ret_bool HNE.out.symm, 0, rfl⟩

theorem eqIntSS_b (ao : Option Addr) (n cap : Nat) (bo : Option Addr) (m cap2 : Nat) (xs ys : List (List Int)) (w : World) (b : Bool) (hb : decide (xs = ys) = b) (h : MV w (.slice ao n cap) xs) (h2 : MV w (.slice bo m cap2) ys) :
    Calls Try.prog 41 #[.slice ao n cap, .slice bo m cap2] w (RetQ (.bool b) w) := by
  subst hb
  exact eqIntSS_any ao n cap bo m cap2 xs ys w h h2
theorem eqBoolS_b (ao : Option Addr) (n cap : Nat) (bo : Option Addr) (m cap2 : Nat) (xs ys : List Bool) (w : World) (b : Bool) (hb : decide (xs = ys) = b) (h : BV w (.slice ao n cap) xs) (h2 : BV w (.slice bo m cap2) ys) :
    Calls Try.prog 42 #[.slice ao n cap, .slice bo m cap2] w (RetQ (.bool b) w) := by
  subst hb
  exact eqBoolS_any ao n cap bo m cap2 xs ys w h h2
end Go.Proofs.Ytagegbhchljggaa
