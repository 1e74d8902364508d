/- The reference's MergeWords, and the exact law. -/
import Derived.Test.YtkgbdglfpnmlgaaSMerge
namespace Go.Proofs.Ytkgbdglfpnmlgaa
open Go.RowKit
set_option linter.unusedVariables false
set_option linter.unusedSimpArgs false
set_option maxRecDepth 100000

theorem tail_of {s : ByteArray} {c : UInt8} {l : List UInt8} (h : s.data.toList = c :: l) : (s.extract 1 s.size).data.toList = l ∧ (s.extract 1 s.size).size = s.size - 1 := by
  have h1 : (s.extract 1 s.size).data.toList = l := by
    rw [ByteArray.data_extract, Array.toList_extract]
    simp only [List.extract, h, List.drop_succ_cons, List.drop_zero]
    apply List.take_of_length_le
    rw [← data_len, h]; simp
  refine ⟨h1, ?_⟩
  rw [← data_len, h1, ← data_len, h]; simp

def szOf : Value → Nat
  | .string s => s.size
  | _ => 0

def SMRel (a b : Int) (R : Option (List UInt8)) (B : Nat) (wb : World) (v0 v2 v10 : Value) (wr : World) : Prop :=
  ∃ (s t : ByteArray) (out : List UInt8) (ao : Option Addr) (n cap : Nat), v0 = .string s ∧ v2 = .string t ∧ v10 = .slice ao n cap ∧ BRow B wr (.slice ao n cap) out ∧ s.size ≤ 50000 ∧ t.size ≤ 50000 ∧
    s.data.toList.all (okL a) = true ∧ t.data.toList.all (okL b) = true ∧ comb a b out s.data.toList t.data.toList = R ∧ out.length ≤ 50000 ∧ Below B wb wr


set_option maxHeartbeats 1000000 in
theorem specMerge_in (s0 t0 : ByteArray) (a b : Int) (hs : s0.size ≤ 1048576) (ht : t0.size ≤ 1048576) (w : World) (hv : within s0.data.toList a = true) (hw : within t0.data.toList b = true) :
    Calls Try.prog 48 #[.string s0, .int .i64 a, .string t0, .int .i64 b] w (RetStr2 ((mergeW a b s0.data.toList t0.data.toList).getD []) (mergeW a b s0.data.toList t0.data.toList).isSome w) := by
  have hmc := merge_comb a b s0.data.toList t0.data.toList hv hw
  generalize hR : mergeW a b s0.data.toList t0.data.toList = R at *
  have hv2 := hv
  have hw2 := hw
  simp only [within, Bool.and_eq_true] at hv2 hw2
  obtain ⟨⟨ha, hsl⟩, hsall⟩ := hv2
  obtain ⟨⟨hb, htl⟩, htall⟩ := hw2
  have hsl2 : s0.size ≤ 50000 := by simpa [data_len] using hsl
  have htl2 : t0.size ≤ 50000 := by simpa [data_len] using htl
  obtain ⟨h0, h1⟩ := (isA_iff a).1 ha
  obtain ⟨h0b, h1b⟩ := (isA_iff b).1 hb
  have HMC := Lib.hid hmc; clear hmc
  have HV := Lib.hid hv; clear hv
  have HW := Lib.hid hw; clear hw
  have HS := Lib.hid hsall; clear hsall
  have HT := Lib.hid htall; clear htall
  have HRR := Lib.hid hR; clear hR
  clear ha hb hsl htl
  go_enter Try.func48, Try.ntmps48
  go_wp2_with fail
  refine (specWithin_any s0 a (by omega) _).mono ?_
  rintro e w' ⟨rfl, rfl⟩
  rw [HV.out]
  go_wp2_with fail
  refine (specWithin_any t0 b (by omega) _).mono ?_
  rintro e w' ⟨rfl, rfl⟩
  rw [HW.out]
  go_wp2
  go_loopw [0, 2, 10] (fun v0 v2 v10 wr => SMRel a b R w.heap.size w v0 v2 v10 wr) (fun v0 v2 _ _ => szOf v0 + szOf v2)
  case atStart => exact ⟨s0, t0, [], _, _, _, rfl, rfl, rfl, BRow.empty _ _ (Nat.le_refl _), hsl2, htl2, HS.out, HT.out, HMC.out.symm, by simp, (Below.refl _ _).alloc (Nat.le_refl _) _⟩
  case round =>
    obtain ⟨s, t, out, ao, n, cap, rfl, rfl, rfl, hrow, hss, hts, hsa, hta, hc, hol, hb3⟩ := hrel
    have hbel : Below w.heap.size w w := Below.refl _ _
    have hwB : w.heap.size ≤ w.heap.size := Nat.le_refl _
    have hws : w.heap.size ≤ wr.heap.size := hb3.size
    have hln := hrow.len
    have HR := Lib.hid hc
    have HSA := Lib.hid hsa
    have HTA := Lib.hid hta
    clear hc hsa hta
    by_cases hne : s.data.toList = [] ∧ t.data.toList = []
    · have hz1 : s.size = 0 := by rw [← data_len, hne.1]; rfl
      have hz2 : t.size = 0 := by rw [← data_len, hne.2]; rfl
      have hz1' : (s.size : Int) = 0 := by omega
      have hz2' : (t.size : Int) = 0 := by omega
      have hend := comb_end a b out hol
      rw [← hne.1] at hend
      have hend2 : comb a b out s.data.toList t.data.toList = some out := by
        have := comb_end a b out hol
        rw [hne.1, hne.2]; exact this
      have HE := Lib.hid hend2
      clear hend hend2 hne hz1 hz2 hln
      have hcv := run_string_of_row hrow
      go_wp2
      go_ret2
      rw [← HR.out, HE.out]
      exact ⟨_, rfl, rfl, hbel.trans (hb3.mono hwB)⟩
    · have hsc := scase a b _ _ HSA.out HTA.out hne
      have hpos : (0 : Int) < (s.size : Int) ∨ (0 : Int) < (t.size : Int) := by
        by_cases h1 : s.size = 0
        · right
          by_cases h2 : t.size = 0
          · exact absurd ⟨List.eq_nil_of_length_eq_zero h1, List.eq_nil_of_length_eq_zero h2⟩ hne
          · omega
        · left; omega
      clear hne
      have hsw : (s.size : Int) = 0 ∨ (0 : Int) < (s.size : Int) := by omega
      generalize hsg : s.data.toList = sl at hsc
      generalize htg : t.data.toList = tl at hsc
      cases hsc with
      | none v w' hsm hag =>
        have hnone : comb a b out s.data.toList t.data.toList = none := by rw [hsg, htg]; exact comb_no hag
        rw [← hsg, ← htg] at hsm
        have HSM := Lib.hid hsm; clear hsm
        have HNONE := Lib.hid hnone
        clear hnone hag hsg htg hln
        rcases hsw with hsw | hsw
        · have htw : (0 : Int) < (t.size : Int) := by omega
          have htw2 : 0 < t.size := by omega
          clear hpos
          go_wp2_with fail
          refine (l1Merge_any s t a b h0 h1 h0b h1b (by omega) (by omega) HSA.out HTA.out _).mono ?_
          rintro e w4 ⟨rfl, hb4⟩
          rw [HSM.out]
          have hrow4 := hrow.below hb4
          have hbq : Below w.heap.size w w4 := hb3.trans (hb4.mono hws)
          have hwsq : w.heap.size ≤ w4.heap.size := Nat.le_trans hws hb4.size
          clear hrow hb3 hws hb4
          go_wp2
          go_ret2
          rw [← HR.out, HNONE.out]
          exact ⟨_, rfl, rfl, hbel.trans (hbq.mono hwB)⟩
        · have hsw2 : 0 < s.size := by omega
          clear hpos
          go_wp2_with fail
          refine (l1Merge_any s t a b h0 h1 h0b h1b (by omega) (by omega) HSA.out HTA.out _).mono ?_
          rintro e w4 ⟨rfl, hb4⟩
          rw [HSM.out]
          have hrow4 := hrow.below hb4
          have hbq : Below w.heap.size w w4 := hb3.trans (hb4.mono hws)
          have hwsq : w.heap.size ≤ w4.heap.size := Nat.le_trans hws hb4.size
          clear hrow hb3 hws hb4
          go_wp2
          go_ret2
          rw [← HR.out, HNONE.out]
          exact ⟨_, rfl, rfl, hbel.trans (hbq.mono hwB)⟩
      | left c v w' hsm hbc hagi hmr =>
        obtain ⟨h2s, hc0⟩ := head_of hsg
        obtain ⟨htl, htz⟩ := tail_of hsg
        have hsa2 := HSA.out
        rw [hsg] at hsa2
        simp only [List.all_cons, Bool.and_eq_true] at hsa2
        have hx0 := okL_nonneg hsa2.1
        have hx1 := ltr_lt c
        have hx : (s[0].toNat : Int) - 97 = ltr c := by rw [hc0]; exact ltr_of_ok hx0
        have hlb := lb_ltr c hx0
        have hbx : hasB b (ltr c) = false := hbc
        have hax : hasB a (ltr c) = true := hsa2.1
        have hsw' : (0 : Int) < (s.size : Int) := by omega
        rw [← htg] at hsm
        have hcs := comb_step (out := out) hagi hmr
        have hfl := fun h => comb_full (out := out) h hmr
        rw [← hsg, ← htg] at hcs hfl
        rw [← hsg] at hsm
        have hall := hsa2.2
        have HALL := Lib.hid hall
        have HTL := Lib.hid htl
        have HTZ := Lib.hid htz
        have HCS := Lib.hid hcs
        have HFL := Lib.hid hfl
        have HLB := Lib.hid hlb
        have HSM := Lib.hid hsm; clear hsm
        clear hcs hfl hagi hmr hbc hc0 hsa2 hall htl htz hpos hsw hlb
        generalize ltr c = x at *
        have HX := Lib.hid hx; clear hx
        by_cases h5 : out.length = 50000
        · have hnone := HFL.out h5
          have HNONE := Lib.hid hnone
          clear hnone
          go_wp2_with fail
          refine (l1Merge_any s t a b h0 h1 h0b h1b (by omega) (by omega) HSA.out HTA.out _).mono ?_
          rintro e w4 ⟨rfl, hb4⟩
          rw [HSM.out]
          have hrow4 := hrow.below hb4
          have hbq : Below w.heap.size w w4 := hb3.trans (hb4.mono hws)
          have hwsq : w.heap.size ≤ w4.heap.size := Nat.le_trans hws hb4.size
          clear hrow hb3 hws hb4
          have hn5 : n = 50000 := by omega
          have hn5' : (n : Int) = 50000 := by omega
          clear hln h5 hn5
          have hfull : ((n : Int) == 50000) = true := by simp; omega
          go_wp2
          go_ret2
          rw [← HR.out, HNONE.out]
          exact ⟨_, rfl, rfl, hbel.trans (hbq.mono hwB)⟩
        · have hn5 : ((n : Int) == 50000) = false := by simp; omega
          have HLN := Lib.hid hln
          clear hln
          have h5' : out.length + 1 ≤ 50000 := by omega
          clear h5
          by_cases h2t : 0 < t.size
          · obtain ⟨d, hd⟩ : ∃ d, t[0] = d := ⟨_, rfl⟩
            have h2t' : (0 : Int) < (t.size : Int) := by omega
            have hok : okL b d = true := by rw [← hd]; exact all_at t (okL b) 0 h2t HTA.out
            have hy0 := okL_nonneg hok
            have hy1 := ltr_lt d
            have hy : (t[0].toNat : Int) - 97 = ltr d := by rw [hd]; exact ltr_of_ok hy0
            clear hok hd
            generalize ltr d = y at *
            have HY := Lib.hid hy; clear hy
            by_cases hxy : y = x
            · have hxyb : (y == x) = true := by simpa using hxy
              clear hxy
              go_wp2_with fail
              refine (l1Merge_any s t a b h0 h1 h0b h1b (by omega) (by omega) HSA.out HTA.out _).mono ?_
              rintro e w4 ⟨rfl, hb4⟩
              rw [HSM.out]
              have hrow4 := hrow.below hb4
              have hbq : Below w.heap.size w w4 := hb3.trans (hb4.mono hws)
              have hwsq : w.heap.size ≤ w4.heap.size := Nat.le_trans hws hb4.size
              clear hrow hb3 hws hb4
              go_wp2_with (first | (go_at_call 65; (with_reducible refine (l1At_0 s x h2s HX (by omega) _).mono ?_); rintro e w' ⟨rfl, rfl⟩) | (go_at_call 65; (with_reducible refine (l1At_0 t y h2t HY (by omega) _).mono ?_); rintro e w' ⟨rfl, rfl⟩) | (go_at_call 73; (with_reducible refine (l1Has_any _ _ (by omega) (by omega) (by omega) (by omega) _).mono ?_); rintro e w' ⟨rfl, rfl⟩) | (at_builtin; refine app_byte w4 (lb x) _ (lb_nat x hx0 hx1).symm w.heap.size rfl rfl _ _ rfl (.slice ao n cap) out rfl hrow4 rfl ?_ hwsq ?_))
              · omega
              intro ao2 n2 cap2 w5 hn2 hrow5 hkept
              have HN2 := Lib.hid hn2; clear hn2
              have hb5 := hkept.1 w hbq
              clear hkept
              go_wp2
              go_roundw
              case rel => exact ⟨_, t, out ++ [lb x], ao2, n2, cap2, rfl, rfl, rfl, hrow5, by rw [HTZ.out]; omega, hts, by rw [HTL.out]; exact HALL.out, HTA.out, by rw [HTL.out, HLB.out, htg, ← htg, ← HCS.out]; exact HR.out, by rw [List.length_append]; exact h5', hb5⟩
              case measure => simp [szOf, HTZ.out] <;> omega
            · have hxyb : (y == x) = false := by simpa using hxy
              clear hxy
              go_wp2_with fail
              refine (l1Merge_any s t a b h0 h1 h0b h1b (by omega) (by omega) HSA.out HTA.out _).mono ?_
              rintro e w4 ⟨rfl, hb4⟩
              rw [HSM.out]
              have hrow4 := hrow.below hb4
              have hbq : Below w.heap.size w w4 := hb3.trans (hb4.mono hws)
              have hwsq : w.heap.size ≤ w4.heap.size := Nat.le_trans hws hb4.size
              clear hrow hb3 hws hb4
              go_wp2_with (first | (go_at_call 65; (with_reducible refine (l1At_0 s x h2s HX (by omega) _).mono ?_); rintro e w' ⟨rfl, rfl⟩) | (go_at_call 65; (with_reducible refine (l1At_0 t y h2t HY (by omega) _).mono ?_); rintro e w' ⟨rfl, rfl⟩) | (go_at_call 73; (with_reducible refine (l1Has_any _ _ (by omega) (by omega) (by omega) (by omega) _).mono ?_); rintro e w' ⟨rfl, rfl⟩) | (at_builtin; refine app_byte w4 (lb x) _ (lb_nat x hx0 hx1).symm w.heap.size rfl rfl _ _ rfl (.slice ao n cap) out rfl hrow4 rfl ?_ hwsq ?_))
              · omega
              intro ao2 n2 cap2 w5 hn2 hrow5 hkept
              have HN2 := Lib.hid hn2; clear hn2
              have hb5 := hkept.1 w hbq
              clear hkept
              go_wp2
              go_roundw
              case rel => exact ⟨_, t, out ++ [lb x], ao2, n2, cap2, rfl, rfl, rfl, hrow5, by rw [HTZ.out]; omega, hts, by rw [HTL.out]; exact HALL.out, HTA.out, by rw [HTL.out, HLB.out, htg, ← htg, ← HCS.out]; exact HR.out, by rw [List.length_append]; exact h5', hb5⟩
              case measure => simp [szOf, HTZ.out] <;> omega
          · have h2t' : (t.size : Int) = 0 := by omega
            clear h2t
            go_wp2_with fail
            refine (l1Merge_any s t a b h0 h1 h0b h1b (by omega) (by omega) HSA.out HTA.out _).mono ?_
            rintro e w4 ⟨rfl, hb4⟩
            rw [HSM.out]
            have hrow4 := hrow.below hb4
            have hbq : Below w.heap.size w w4 := hb3.trans (hb4.mono hws)
            have hwsq : w.heap.size ≤ w4.heap.size := Nat.le_trans hws hb4.size
            clear hrow hb3 hws hb4
            go_wp2_with (first | (go_at_call 65; (with_reducible refine (l1At_0 s x h2s HX (by omega) _).mono ?_); rintro e w' ⟨rfl, rfl⟩) | (go_at_call 65; (with_reducible refine (l1At_0 t y h2t HY (by omega) _).mono ?_); rintro e w' ⟨rfl, rfl⟩) | (go_at_call 73; (with_reducible refine (l1Has_any _ _ (by omega) (by omega) (by omega) (by omega) _).mono ?_); rintro e w' ⟨rfl, rfl⟩) | (at_builtin; refine app_byte w4 (lb x) _ (lb_nat x hx0 hx1).symm w.heap.size rfl rfl _ _ rfl (.slice ao n cap) out rfl hrow4 rfl ?_ hwsq ?_))
            · omega
            intro ao2 n2 cap2 w5 hn2 hrow5 hkept
            have HN2 := Lib.hid hn2; clear hn2
            have hb5 := hkept.1 w hbq
            clear hkept
            go_wp2
            go_roundw
            case rel => exact ⟨_, t, out ++ [lb x], ao2, n2, cap2, rfl, rfl, rfl, hrow5, by rw [HTZ.out]; omega, hts, by rw [HTL.out]; exact HALL.out, HTA.out, by rw [HTL.out, HLB.out, htg, ← htg, ← HCS.out]; exact HR.out, by rw [List.length_append]; exact h5', hb5⟩
            case measure => simp [szOf, HTZ.out] <;> omega
      | right d v w' hsm hbc hagi hmr =>
        obtain ⟨h2t, hd0⟩ := head_of htg
        obtain ⟨htl, htz⟩ := tail_of htg
        have hta2 := HTA.out
        rw [htg] at hta2
        simp only [List.all_cons, Bool.and_eq_true] at hta2
        have hy0 := okL_nonneg hta2.1
        have hy1 := ltr_lt d
        have hy : (t[0].toNat : Int) - 97 = ltr d := by rw [hd0]; exact ltr_of_ok hy0
        have hlb := lb_ltr d hy0
        have hax : hasB a (ltr d) = false := hbc
        have hbx : hasB b (ltr d) = true := hta2.1
        have htw' : (0 : Int) < (t.size : Int) := by omega
        rw [← hsg] at hsm
        have hcs := comb_step (out := out) hagi hmr
        have hfl := fun h => comb_full (out := out) h hmr
        rw [← hsg, ← htg] at hcs hfl
        rw [← htg] at hsm
        have hall := hta2.2
        have HALL := Lib.hid hall
        have HTL := Lib.hid htl
        have HTZ := Lib.hid htz
        have HCS := Lib.hid hcs
        have HFL := Lib.hid hfl
        have HLB := Lib.hid hlb
        have HSM := Lib.hid hsm; clear hsm
        clear hcs hfl hagi hmr hbc hd0 hta2 hall htl htz hpos hsw hlb
        generalize ltr d = y at *
        have HY := Lib.hid hy; clear hy
        by_cases h5 : out.length = 50000
        · have hnone := HFL.out h5
          have HNONE := Lib.hid hnone
          clear hnone
          by_cases h2s : 0 < s.size
          · skip
            go_wp2_with fail
            refine (l1Merge_any s t a b h0 h1 h0b h1b (by omega) (by omega) HSA.out HTA.out _).mono ?_
            rintro e w4 ⟨rfl, hb4⟩
            rw [HSM.out]
            have hrow4 := hrow.below hb4
            have hbq : Below w.heap.size w w4 := hb3.trans (hb4.mono hws)
            have hwsq : w.heap.size ≤ w4.heap.size := Nat.le_trans hws hb4.size
            clear hrow hb3 hws hb4
            have hn5 : n = 50000 := by omega
            have hn5' : (n : Int) = 50000 := by omega
            clear hln h5 hn5
            have hfull : ((n : Int) == 50000) = true := by simp; omega
            go_wp2
            go_ret2
            rw [← HR.out, HNONE.out]
            exact ⟨_, rfl, rfl, hbel.trans (hbq.mono hwB)⟩
          · have h2s' : (s.size : Int) = 0 := by omega
            go_wp2_with fail
            refine (l1Merge_any s t a b h0 h1 h0b h1b (by omega) (by omega) HSA.out HTA.out _).mono ?_
            rintro e w4 ⟨rfl, hb4⟩
            rw [HSM.out]
            have hrow4 := hrow.below hb4
            have hbq : Below w.heap.size w w4 := hb3.trans (hb4.mono hws)
            have hwsq : w.heap.size ≤ w4.heap.size := Nat.le_trans hws hb4.size
            clear hrow hb3 hws hb4
            have hn5 : n = 50000 := by omega
            have hn5' : (n : Int) = 50000 := by omega
            clear hln h5 hn5
            have hfull : ((n : Int) == 50000) = true := by simp; omega
            go_wp2
            go_ret2
            rw [← HR.out, HNONE.out]
            exact ⟨_, rfl, rfl, hbel.trans (hbq.mono hwB)⟩
        · have hn5 : ((n : Int) == 50000) = false := by simp; omega
          have HLN := Lib.hid hln
          clear hln
          have h5' : out.length + 1 ≤ 50000 := by omega
          clear h5
          by_cases h2s : 0 < s.size
          · obtain ⟨c, hc⟩ : ∃ c, s[0] = c := ⟨_, rfl⟩
            have h2s' : (0 : Int) < (s.size : Int) := by omega
            have hok : okL a c = true := by rw [← hc]; exact all_at s (okL a) 0 h2s HSA.out
            have hx0 := okL_nonneg hok
            have hx1 := ltr_lt c
            have hx : (s[0].toNat : Int) - 97 = ltr c := by rw [hc]; exact ltr_of_ok hx0
            clear hok hc
            generalize ltr c = x at *
            have HX := Lib.hid hx; clear hx
            by_cases hxy : x = y
            · have hxyb : (x == y) = true := by simpa using hxy
              clear hxy
              go_wp2_with fail
              refine (l1Merge_any s t a b h0 h1 h0b h1b (by omega) (by omega) HSA.out HTA.out _).mono ?_
              rintro e w4 ⟨rfl, hb4⟩
              rw [HSM.out]
              have hrow4 := hrow.below hb4
              have hbq : Below w.heap.size w w4 := hb3.trans (hb4.mono hws)
              have hwsq : w.heap.size ≤ w4.heap.size := Nat.le_trans hws hb4.size
              clear hrow hb3 hws hb4
              go_wp2_with (first | (go_at_call 65; (with_reducible refine (l1At_0 s x h2s HX (by omega) _).mono ?_); rintro e w' ⟨rfl, rfl⟩) | (go_at_call 65; (with_reducible refine (l1At_0 t y h2t HY (by omega) _).mono ?_); rintro e w' ⟨rfl, rfl⟩) | (go_at_call 73; (with_reducible refine (l1Has_any _ _ (by omega) (by omega) (by omega) (by omega) _).mono ?_); rintro e w' ⟨rfl, rfl⟩) | (at_builtin; refine app_byte w4 (lb y) _ (lb_nat y hy0 hy1).symm w.heap.size rfl rfl _ _ rfl (.slice ao n cap) out rfl hrow4 rfl ?_ hwsq ?_))
              · omega
              intro ao2 n2 cap2 w5 hn2 hrow5 hkept
              have HN2 := Lib.hid hn2; clear hn2
              have hb5 := hkept.1 w hbq
              clear hkept
              go_wp2
              go_roundw
              case rel => exact ⟨s, _, out ++ [lb y], ao2, n2, cap2, rfl, rfl, rfl, hrow5, hss, by rw [HTZ.out]; omega, HSA.out, by rw [HTL.out]; exact HALL.out, by rw [HTL.out, HLB.out, hsg, ← hsg, ← HCS.out]; exact HR.out, by rw [List.length_append]; exact h5', hb5⟩
              case measure => simp [szOf, HTZ.out] <;> omega
            · have hxyb : (x == y) = false := by simpa using hxy
              clear hxy
              go_wp2_with fail
              refine (l1Merge_any s t a b h0 h1 h0b h1b (by omega) (by omega) HSA.out HTA.out _).mono ?_
              rintro e w4 ⟨rfl, hb4⟩
              rw [HSM.out]
              have hrow4 := hrow.below hb4
              have hbq : Below w.heap.size w w4 := hb3.trans (hb4.mono hws)
              have hwsq : w.heap.size ≤ w4.heap.size := Nat.le_trans hws hb4.size
              clear hrow hb3 hws hb4
              go_wp2_with (first | (go_at_call 65; (with_reducible refine (l1At_0 s x h2s HX (by omega) _).mono ?_); rintro e w' ⟨rfl, rfl⟩) | (go_at_call 65; (with_reducible refine (l1At_0 t y h2t HY (by omega) _).mono ?_); rintro e w' ⟨rfl, rfl⟩) | (go_at_call 73; (with_reducible refine (l1Has_any _ _ (by omega) (by omega) (by omega) (by omega) _).mono ?_); rintro e w' ⟨rfl, rfl⟩) | (at_builtin; refine app_byte w4 (lb y) _ (lb_nat y hy0 hy1).symm w.heap.size rfl rfl _ _ rfl (.slice ao n cap) out rfl hrow4 rfl ?_ hwsq ?_))
              · omega
              intro ao2 n2 cap2 w5 hn2 hrow5 hkept
              have HN2 := Lib.hid hn2; clear hn2
              have hb5 := hkept.1 w hbq
              clear hkept
              go_wp2
              go_roundw
              case rel => exact ⟨s, _, out ++ [lb y], ao2, n2, cap2, rfl, rfl, rfl, hrow5, hss, by rw [HTZ.out]; omega, HSA.out, by rw [HTL.out]; exact HALL.out, by rw [HTL.out, HLB.out, hsg, ← hsg, ← HCS.out]; exact HR.out, by rw [List.length_append]; exact h5', hb5⟩
              case measure => simp [szOf, HTZ.out] <;> omega
          · have h2s' : (s.size : Int) = 0 := by omega
            clear h2s
            go_wp2_with fail
            refine (l1Merge_any s t a b h0 h1 h0b h1b (by omega) (by omega) HSA.out HTA.out _).mono ?_
            rintro e w4 ⟨rfl, hb4⟩
            rw [HSM.out]
            have hrow4 := hrow.below hb4
            have hbq : Below w.heap.size w w4 := hb3.trans (hb4.mono hws)
            have hwsq : w.heap.size ≤ w4.heap.size := Nat.le_trans hws hb4.size
            clear hrow hb3 hws hb4
            go_wp2_with (first | (go_at_call 65; (with_reducible refine (l1At_0 s x h2s HX (by omega) _).mono ?_); rintro e w' ⟨rfl, rfl⟩) | (go_at_call 65; (with_reducible refine (l1At_0 t y h2t HY (by omega) _).mono ?_); rintro e w' ⟨rfl, rfl⟩) | (go_at_call 73; (with_reducible refine (l1Has_any _ _ (by omega) (by omega) (by omega) (by omega) _).mono ?_); rintro e w' ⟨rfl, rfl⟩) | (at_builtin; refine app_byte w4 (lb y) _ (lb_nat y hy0 hy1).symm w.heap.size rfl rfl _ _ rfl (.slice ao n cap) out rfl hrow4 rfl ?_ hwsq ?_))
            · omega
            intro ao2 n2 cap2 w5 hn2 hrow5 hkept
            have HN2 := Lib.hid hn2; clear hn2
            have hb5 := hkept.1 w hbq
            clear hkept
            go_wp2
            go_roundw
            case rel => exact ⟨s, _, out ++ [lb y], ao2, n2, cap2, rfl, rfl, rfl, hrow5, hss, by rw [HTZ.out]; omega, HSA.out, by rw [HTL.out]; exact HALL.out, by rw [HTL.out, HLB.out, hsg, ← hsg, ← HCS.out]; exact HR.out, by rw [List.length_append]; exact h5', hb5⟩
            case measure => simp [szOf, HTZ.out] <;> omega
      | both c v w' hsm hac hbc hagi hmr =>
        obtain ⟨h2s, hc0⟩ := head_of hsg
        obtain ⟨hsl, hsz⟩ := tail_of hsg
        obtain ⟨h2t, hd0⟩ := head_of htg
        obtain ⟨htl, htz⟩ := tail_of htg
        have hsa2 := HSA.out
        rw [hsg] at hsa2
        have hta2 := HTA.out
        rw [htg] at hta2
        simp only [List.all_cons, Bool.and_eq_true] at hsa2 hta2
        have hx0 := okL_nonneg hsa2.1
        have hx1 := ltr_lt c
        have hx : (s[0].toNat : Int) - 97 = ltr c := by rw [hc0]; exact ltr_of_ok hx0
        have hy : (t[0].toNat : Int) - 97 = ltr c := by rw [hd0]; exact ltr_of_ok hx0
        have hlb := lb_ltr c hx0
        have hax : hasB a (ltr c) = true := hac
        have hbx : hasB b (ltr c) = true := hbc
        have hsw' : (0 : Int) < (s.size : Int) := by omega
        have htw' : (0 : Int) < (t.size : Int) := by omega
        have hcs := comb_step (out := out) hagi hmr
        have hfl := fun h => comb_full (out := out) h hmr
        rw [← hsg, ← htg] at hcs hfl
        rw [← hsg, ← htg] at hsm
        have hall := hsa2.2
        have hall2 := hta2.2
        have HALL := Lib.hid hall
        have HALL2 := Lib.hid hall2
        have HSL := Lib.hid hsl
        have HSZ := Lib.hid hsz
        have HTL := Lib.hid htl
        have HTZ := Lib.hid htz
        have HCS := Lib.hid hcs
        have HFL := Lib.hid hfl
        have HLB := Lib.hid hlb
        have HSM := Lib.hid hsm; clear hsm
        clear hcs hfl hagi hmr hbc hac hc0 hd0 hsa2 hta2 hall hall2 hsl hsz htl htz hpos hsw hlb
        generalize ltr c = x at *
        have HX := Lib.hid hx; clear hx
        have HY := Lib.hid hy; clear hy
        by_cases h5 : out.length = 50000
        · have hnone := HFL.out h5
          have HNONE := Lib.hid hnone
          clear hnone
          go_wp2_with fail
          refine (l1Merge_any s t a b h0 h1 h0b h1b (by omega) (by omega) HSA.out HTA.out _).mono ?_
          rintro e w4 ⟨rfl, hb4⟩
          rw [HSM.out]
          have hrow4 := hrow.below hb4
          have hbq : Below w.heap.size w w4 := hb3.trans (hb4.mono hws)
          have hwsq : w.heap.size ≤ w4.heap.size := Nat.le_trans hws hb4.size
          clear hrow hb3 hws hb4
          have hn5 : n = 50000 := by omega
          have hn5' : (n : Int) = 50000 := by omega
          clear hln h5 hn5
          have hfull : ((n : Int) == 50000) = true := by simp; omega
          go_wp2
          go_ret2
          rw [← HR.out, HNONE.out]
          exact ⟨_, rfl, rfl, hbel.trans (hbq.mono hwB)⟩
        · have hn5 : ((n : Int) == 50000) = false := by simp; omega
          have HLN := Lib.hid hln
          clear hln
          have h5' : out.length + 1 ≤ 50000 := by omega
          clear h5
          go_wp2_with fail
          refine (l1Merge_any s t a b h0 h1 h0b h1b (by omega) (by omega) HSA.out HTA.out _).mono ?_
          rintro e w4 ⟨rfl, hb4⟩
          rw [HSM.out]
          have hrow4 := hrow.below hb4
          have hbq : Below w.heap.size w w4 := hb3.trans (hb4.mono hws)
          have hwsq : w.heap.size ≤ w4.heap.size := Nat.le_trans hws hb4.size
          clear hrow hb3 hws hb4
          go_wp2_with (first | (go_at_call 65; (with_reducible refine (l1At_0 s x h2s HX (by omega) _).mono ?_); rintro e w' ⟨rfl, rfl⟩) | (go_at_call 65; (with_reducible refine (l1At_0 t x h2t HY (by omega) _).mono ?_); rintro e w' ⟨rfl, rfl⟩) | (go_at_call 73; (with_reducible refine (l1Has_any _ _ (by omega) (by omega) (by omega) (by omega) _).mono ?_); rintro e w' ⟨rfl, rfl⟩) | (at_builtin; refine app_byte w4 (lb x) _ (lb_nat x hx0 hx1).symm w.heap.size rfl rfl _ _ rfl (.slice ao n cap) out rfl hrow4 rfl ?_ hwsq ?_))
          · omega
          intro ao2 n2 cap2 w5 hn2 hrow5 hkept
          have HN2 := Lib.hid hn2; clear hn2
          have hb5 := hkept.1 w hbq
          clear hkept
          go_wp2
          go_roundw
          case rel => exact ⟨_, _, out ++ [lb x], ao2, n2, cap2, rfl, rfl, rfl, hrow5, by rw [HSZ.out]; omega, by rw [HTZ.out]; omega, by rw [HSL.out]; exact HALL.out, by rw [HTL.out]; exact HALL2.out, by rw [HSL.out, HTL.out, HLB.out, ← HCS.out]; exact HR.out, by rw [List.length_append]; exact h5', hb5⟩
          case measure => simp [szOf, HSZ.out, HTZ.out] <;> omega

set_option maxHeartbeats 400000 in
theorem specMerge_any (s t : ByteArray) (a b : Int) (hs : s.size ≤ 1048576) (ht : t.size ≤ 1048576) (w : World) :
    Calls Try.prog 48 #[.string s, .int .i64 a, .string t, .int .i64 b] w (RetStr2 ((mergeW a b s.data.toList t.data.toList).getD []) (mergeW a b s.data.toList t.data.toList).isSome w) := by
  cases hv : within s.data.toList a with
  | false =>
    have hr : mergeW a b s.data.toList t.data.toList = none := by simp [mergeW, hv]
    have HR := Lib.hid hr; clear hr
    have HV := Lib.hid hv; clear hv
    go_enter Try.func48, Try.ntmps48
    go_wp2_with (go_at_call 76; (with_reducible refine (specWithin_any s a (by omega) _).mono ?_); rintro e w' ⟨rfl, rfl⟩; rw [HV.out])
    go_ret2
    rw [HR.out]
    exact ⟨_, rfl, rfl, Below.refl _ _⟩
  | true =>
    cases hw : within t.data.toList b with
    | false =>
      have hr : mergeW a b s.data.toList t.data.toList = none := by simp [mergeW, hw]
      have HR := Lib.hid hr; clear hr
      have HV := Lib.hid hv; clear hv
      have HW := Lib.hid hw; clear hw
      go_enter Try.func48, Try.ntmps48
      go_wp2_with fail
      refine (specWithin_any s a (by omega) _).mono ?_
      rintro e w' ⟨rfl, rfl⟩
      rw [HV.out]
      go_wp2_with fail
      refine (specWithin_any t b (by omega) _).mono ?_
      rintro e w' ⟨rfl, rfl⟩
      rw [HW.out]
      go_wp2
      go_ret2
      rw [HR.out]
      exact ⟨_, rfl, rfl, Below.refl _ _⟩
    | true => exact specMerge_in s t a b hs ht w hv hw


end Go.Proofs.Ytkgbdglfpnmlgaa
