/- Numerals and edges that the reference reads back. -/
import Derived.Test.YtnjakhojdhkihaaGreatDoorFCut
namespace Go.Proofs.YtnjakhojdhkihaaGreatDoor
open Go.RowKit
set_option linter.unusedVariables false
set_option linter.unusedSimpArgs false
set_option maxRecDepth 100000

theorem byte_at {s : ByteArray} {l : List UInt8} (hs : s.data.toList = l) (k : Nat) (hk : k < s.size) {c : UInt8} (hc : l[k]? = some c) : s[k] = c := by
  have := Lib.data_getElem? s k hk
  rw [hs, hc] at this
  exact (Option.some.inj this).symm
def NumIs (n : Int) (w : World) (e : Ending) (w' : World) : Prop := e = .returned (.tuple #[.int .i64 n, .bool true]) ∧ w' = w
def valN (s : ByteArray) : Nat → Int
  | 0 => 0
  | k + 1 => valN s k * 10 + (((s.data.toList[k]?.getD 0).toNat : Int) - 48)
set_option maxHeartbeats 4000000 in
theorem l19Num_val (s : ByteArray) (hs1 : 1 ≤ s.size) (hs2 : s.size ≤ 2) (hd : ∀ (k : Nat) x, s.data.toList[k]? = some x → 48 ≤ x.toNat ∧ x.toNat < 58) (h : s.size = 1 ∨ ∀ x, s.data.toList[0]? = some x → x.toNat ≠ 48) (w : World) : Calls Tryz.prog 19 #[.string s] w (NumIs (valN s s.size) w) := by
  obtain ⟨c, hc⟩ : ∃ c, s[0] = c := ⟨_, rfl⟩
  have hcd : s.data.toList[0]? = some c := by rw [← hc]; exact Lib.data_getElem? s 0 hs1
  have hcn := hd 0 c hcd
  have hv : ∀ k, k ≤ 1 → 0 ≤ valN s k ∧ valN s k ≤ 9 := by
    intro k hk
    obtain rfl | rfl : k = 0 ∨ k = 1 := by omega
    · exact ⟨Int.le_refl 0, (by decide : (0 : Int) ≤ 9)⟩
    · have : valN s 1 = 0 * 10 + ((c.toNat : Int) - 48) := by
        show valN s 0 * 10 + (((s.data.toList[0]?.getD 0).toNat : Int) - 48) = _
        rw [hcd]
        rfl
      omega
  have h0' : ((s.size : Int) == 0) = false := beq_eq_false_iff_ne.2 (by omega)
  have hpos' : (0 : Int) < (s.size : Int) := by omega
  have h17 : decide ((17 : Int) < (s.size : Int)) = false := by simp; omega
  have hm : ¬ (c.toNat : Int) = 45 := by omega
  have HD := Lib.hid hd; clear hd
  have HV := Lib.hid hv; clear hv
  rcases h with h | h
  · have h1 : decide ((1 : Int) < (s.size : Int)) = false := by simp; omega
    have HSZ := Lib.hid h; clear h
    clear hcd hcn
    go_enter Tryz.func19, Tryz.ntmps19
    go_wp2
    all_goals
      go_loopw [5, 6] (fun v i wr => ∃ (m : Int) (k : Nat), v = .int .i64 m ∧ i = .int .i64 k ∧ k ≤ s.size ∧ Hid (m = valN s k) ∧ wr = w) (fun _ i _ => s.size - (intOf i).toNat)
      case atStart => exact ⟨0, 0, rfl, rfl, Nat.zero_le _, Lib.hid rfl, rfl⟩
      case round =>
        obtain ⟨m, k, rfl, rfl, hk, HM, rfl⟩ := hrel
        by_cases hlt : k < s.size
        · obtain ⟨x, hx⟩ : ∃ x, s[k] = x := ⟨_, rfl⟩
          have hxd : s.data.toList[k]? = some x := by rw [← hx]; exact Lib.data_getElem? s k hlt
          have hdx := HD.out k x hxd
          have q1 : (48 : Int) ≤ (x.toNat : Int) := by omega
          have q2 : (x.toNat : Int) ≤ 57 := by omega
          have hst : valN s (k + 1) = m * 10 + ((x.toNat : Int) - 48) := by
            show valN s k * 10 + (((s.data.toList[k]?.getD 0).toNat : Int) - 48) = _
            rw [hxd, ← HM.out]
            rfl
          have hm9 := HV.out k (by omega)
          rw [← HM.out] at hm9
          obtain ⟨p1, p2⟩ := hm9
          have HST := Lib.hid hst; clear hst
          clear hdx hxd
          go_wp2
          go_roundw
          case rel => exact ⟨_, k + 1, rfl, by go_num, by omega, Lib.hid (by rw [HST.out]), by first | rfl | trivial⟩
          case measure => simp [intOf] <;> omega
        · go_wp2
          go_ret2
          have hke : k = s.size := by omega
          have hm := HM.out
          rw [hke] at hm
          exact ⟨by subst hm; rfl, rfl⟩
  · have h48 : ¬ (c.toNat : Int) = 48 := by have := h c hcd; omega
    clear hcd hcn h
    go_enter Tryz.func19, Tryz.ntmps19
    go_wp2
    go_loopw [5, 6] (fun v i wr => ∃ (m : Int) (k : Nat), v = .int .i64 m ∧ i = .int .i64 k ∧ k ≤ s.size ∧ Hid (m = valN s k) ∧ wr = w) (fun _ i _ => s.size - (intOf i).toNat)
    case atStart => exact ⟨0, 0, rfl, rfl, Nat.zero_le _, Lib.hid rfl, rfl⟩
    case round =>
      obtain ⟨m, k, rfl, rfl, hk, HM, rfl⟩ := hrel
      by_cases hlt : k < s.size
      · obtain ⟨x, hx⟩ : ∃ x, s[k] = x := ⟨_, rfl⟩
        have hxd : s.data.toList[k]? = some x := by rw [← hx]; exact Lib.data_getElem? s k hlt
        have hdx := HD.out k x hxd
        have q1 : (48 : Int) ≤ (x.toNat : Int) := by omega
        have q2 : (x.toNat : Int) ≤ 57 := by omega
        have hst : valN s (k + 1) = m * 10 + ((x.toNat : Int) - 48) := by
          show valN s k * 10 + (((s.data.toList[k]?.getD 0).toNat : Int) - 48) = _
          rw [hxd, ← HM.out]
          rfl
        have hm9 := HV.out k (by omega)
        rw [← HM.out] at hm9
        obtain ⟨p1, p2⟩ := hm9
        have HST := Lib.hid hst; clear hst
        clear hdx hxd
        go_wp2
        go_roundw
        case rel => exact ⟨_, k + 1, rfl, by go_num, by omega, Lib.hid (by rw [HST.out]), by first | rfl | trivial⟩
        case measure => simp [intOf] <;> omega
      · go_wp2
        go_ret2
        have hke : k = s.size := by omega
        have hm := HM.out
        rw [hke] at hm
        exact ⟨by subst hm; rfl, rfl⟩
theorem l19Num_tx (n : Nat) (hn : n < 100) (s : ByteArray) (hs : s.data.toList = dg n) (w : World) : Calls Tryz.prog 19 #[.string s] w (NumIs n w) := by
  have hz := size_of hs
  have hl := dg_len hn
  have hv : valN s s.size = n := by
    by_cases h1 : n < 10
    · rw [dg_one h1] at hs hz
      rw [hz]
      show (0 : Int) * 10 + (((s.data.toList[0]?.getD 0).toNat : Int) - 48) = _
      rw [hs]
      show (0 : Int) * 10 + (((UInt8.ofNat (48 + n)).toNat : Int) - 48) = _
      rw [dgb n h1]
      omega
    · rw [dg_two h1 hn] at hs hz
      rw [hz]
      show ((0 : Int) * 10 + (((s.data.toList[0]?.getD 0).toNat : Int) - 48)) * 10 + (((s.data.toList[1]?.getD 0).toNat : Int) - 48) = _
      rw [hs]
      show ((0 : Int) * 10 + (((UInt8.ofNat (48 + n / 10)).toNat : Int) - 48)) * 10 + (((UInt8.ofNat (48 + n % 10)).toNat : Int) - 48) = _
      rw [dgb (n / 10) (by omega), dgb (n % 10) (by omega)]
      omega
  have h := l19Num_val s (by omega) (by omega) (fun k x hx => dg_digit hn x (by rw [← hs]; exact List.mem_of_getElem? hx)) (by
    by_cases h1 : n < 10
    · left; rw [hz, dg_one h1]; rfl
    · right
      intro x hx
      rw [hs, dg_two h1 hn] at hx
      have hx' : UInt8.ofNat (48 + n / 10) = x := by simpa using hx
      rw [← hx', dgb (n / 10) (by omega)]
      omega) w
  rwa [hv] at h

def ParseEIs (f l t : Int) (w : World) (e : Ending) (w' : World) : Prop := e = .returned (.tuple #[.agg #[.int .i64 f, .int .i64 l, .int .i64 t], .bool true]) ∧ Below w.heap.size w w'
set_option maxHeartbeats 2000000 in
theorem l2Parse_tx (f t : Nat) (l : Int) (hf : f < 100) (ht : t < 100) (hl0 : 0 ≤ l) (hl1 : l < 6) (s : ByteArray) (hs : s.data.toList = edgT ((f : Int), l, (t : Int))) (w : World) : Calls Tryz.prog 20 #[.string s] w (ParseEIs f l t w) := by
  have hl : edgT ((f : Int), l, (t : Int)) = dg f ++ lb l :: dg t := by simp [edgT]
  rw [hl] at hs
  have hlf := dg_len hf
  have hlt' := dg_len ht
  have hsz : s.size = (dg f).length + 1 + (dg t).length := by
    rw [size_of hs]
    simp only [List.length_append, List.length_cons]
    omega
  obtain ⟨p, hp⟩ : ∃ p, (dg f).length = p := ⟨_, rfl⟩
  have hps : p < s.size := by omega
  have hs5 : s.size ≤ 5 := by omega
  have hlb := lb_ge l hl0 hl1
  have hlbn := lb_nat l hl0 hl1
  have hcp : s[p]'hps = lb l := byte_at hs p hps (by rw [List.getElem?_append_right (by omega), hp]; simp)
  have hlow : ∀ k (hk : k < s.size), k < p → ((s[k]'hk).toNat : Int) < 97 := fun k hk hkp => by
    have hkl : k < (dg f).length := by omega
    rw [byte_at hs k hk (c := (dg f)[k]) (by rw [List.getElem?_append_left hkl]; exact List.getElem?_eq_getElem hkl)]
    have := dg_digit hf _ (List.getElem_mem hkl)
    omega
  have hx1 : (s.extract 0 p).data.toList = dg f := by
    rw [ext_data, hs, List.drop_zero, Nat.sub_zero, ← hp, List.take_left']
    rfl
  have hx2 : (s.extract (p + 1) s.size).data.toList = dg t := by
    rw [ext_data, hs, show p + 1 = (dg f).length + 1 by omega, List.drop_append, List.drop_of_length_le (by omega)]
    simp only [List.nil_append, show (dg f).length + 1 - (dg f).length = 1 by omega, List.drop_succ_cons, List.drop_zero]
    exact List.take_of_length_le (by omega)
  have N1 := Lib.hid (fun wq => l19Num_tx f hf (s.extract 0 p) hx1 wq)
  have N2 := Lib.hid (fun wq => l19Num_tx t ht (s.extract (p + 1) s.size) hx2 wq)
  have HLOW := Lib.hid hlow; clear hlow
  have HS := Lib.hid hs; clear hs
  have HSZ := Lib.hid hsz; clear hsz
  have HP := Lib.hid hp; clear hp
  clear hx1 hx2 hl
  have hz0 := own_cells' w #[.int .i64 0, .int .i64 0, .int .i64 0] 41 3 rfl
  have hb0 := below_new' w 41 #[.int .i64 0, .int .i64 0, .int .i64 0]
  obtain ⟨w0, hw0⟩ : ∃ w0, (w.alloc (.cells #[.int .i64 0, .int .i64 0, .int .i64 0] 41)) = w0 := ⟨_, rfl⟩
  rw [hw0] at hz0 hb0
  go_enter Tryz.func20, Tryz.ntmps20
  go_wp2
  have z0 : w0.cell? ⟨w.heap.size, 0, none⟩ = some (.int .i64 0) := hz0.cell (by decide)
  have z1 : w0.cell? ⟨w.heap.size, 1, none⟩ = some (.int .i64 0) := hz0.cell (by decide)
  have z2 : w0.cell? ⟨w.heap.size, 2, none⟩ = some (.int .i64 0) := hz0.cell (by decide)
  have zf0 := hz0.frozen 0
  have zf1 := hz0.frozen 1
  have zf2 := hz0.frozen 2
  have HZ := Lib.hid hz0
  have HB := Lib.hid hb0
  clear hz0 hb0 hw0
  go_loopw [4] (fun i wr => ∃ k : Nat, i = .int .i64 k ∧ k ≤ p ∧ wr = w0) (fun i _ => p - (intOf i).toNat)
  case atStart => exact ⟨0, rfl, Nat.zero_le _, rfl⟩
  case round =>
    obtain ⟨k, rfl, hk, hwr⟩ := hrel
    subst hwr
    by_cases hlt : k < p
    · have hks : k < s.size := by omega
      have hlow := HLOW.out k hks hlt
      obtain ⟨c, hc⟩ : ∃ c, s[k] = c := ⟨_, rfl⟩
      rw [hc] at hlow
      go_wp2
      go_roundw
      case rel => exact ⟨k + 1, by go_num, by omega, by first | rfl | trivial⟩
      case measure => simp [intOf] <;> omega
    · obtain rfl : k = p := by omega
      obtain ⟨c, hc⟩ : ∃ c, s[k] = c := ⟨_, rfl⟩
      have hcl : c = lb l := by rw [← hc]; exact hcp
      have HC := Lib.hid hc
      have h1 : (97 : Int) ≤ (c.toNat : Int) := by rw [hcl]; omega
      have h2 : (c.toNat : Int) ≤ 102 := by rw [hcl]; omega
      have hcn : (c.toNat : Int) - 97 = l := by rw [hcl]; omega
      have hls := l1At_c s k c hps HC (by omega)
      have hlr : ltr c = l := by rw [hcl]; exact ltr_lb l hl0 hl1
      clear hcp hcl
      go_wp2_with fail
      refine (N1.out _).mono ?_
      rintro e w1 ⟨rfl, hw1⟩
      replace hw1 := hw1.symm
      subst hw1
      go_wp2_with fail
      refine (N2.out _).mono ?_
      rintro e w1 ⟨rfl, hw1⟩
      replace hw1 := hw1.symm
      subst hw1
      rw [hcn] at hls
      have HLS := Lib.hid hls
      clear hls hcn hlr
      go_wp2_with (go_at_call 48; refine (HLS.out _).mono ?_; rintro e w5 ⟨rfl, rfl⟩)
      all_goals
        obtain ⟨wf, hwf⟩ : ∃ wf, (((wr.setCell ⟨w.heap.size, 0, none⟩ (.int .i64 (f : Int))).setCell ⟨w.heap.size, 1, none⟩ (.int .i64 l)).setCell ⟨w.heap.size, 2, none⟩ (.int .i64 (t : Int))) = wf := ⟨_, rfl⟩
        have hfin := rowIs_set3 HZ.out (.int .i64 (f : Int)) (.int .i64 l) (.int .i64 (t : Int))
        have hbF : Below w.heap.size w _ := ((HB.out.setCell (p := ⟨w.heap.size, 0, none⟩) (by simp) (.int .i64 (f : Int))).setCell (p := ⟨w.heap.size, 1, none⟩) (by simp) (.int .i64 l)).setCell (p := ⟨w.heap.size, 2, none⟩) (by simp) (.int .i64 (t : Int))
        rw [hwf] at hfin hbF ⊢
        clear hwf
        have f0 : wf.cell? ⟨w.heap.size, 0, none⟩ = some (.int .i64 (f : Int)) := hfin.cell (by decide)
        have f1 : wf.cell? ⟨w.heap.size, 1, none⟩ = some (.int .i64 l) := hfin.cell (by decide)
        have f2 : wf.cell? ⟨w.heap.size, 2, none⟩ = some (.int .i64 (t : Int)) := hfin.cell (by decide)
        refine bodyPost_ret (v := .tuple #[.agg #[.int .i64 (f : Int), .int .i64 l, .int .i64 (t : Int)], .bool true]) ?_ rfl ?_
        · first | (
               simp [results, Tryz.results20, go_sem, f0, f1, f2]
               done) | (
               simp [results, Tryz.results20, go_sem, f0, f1, f2]
               intros
               simp_all)
        · exact ⟨rfl, hbF⟩
end Go.Proofs.YtnjakhojdhkihaaGreatDoor
