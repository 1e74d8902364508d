/- The walk of the law TracesUpTo. -/
import Derived.Test.YtknhgfmjchfnjaaDoorSDraw4
import Derived.Test.YtknhgfmjchfnjaaDoorSysCntI
import Derived.Test.YtknhgfmjchfnjaaDoorSysImpl
import Derived.Test.YtknhgfmjchfnjaaDoorSysNum
import Derived.Test.YtknhgfmjchfnjaaDoorAt


namespace Go.Proofs.YtknhgfmjchfnjaaDoor
open Go.RowKit
set_option linter.unusedVariables false
set_option linter.unusedSimpArgs false
set_option maxRecDepth 100000
theorem trI {al st : Int} {a1 : Option Addr} {n1 c1 : Nat} {es : List Edg} {s : ByteArray} (hs : s.size ≤ 9223372036854775807) {b : Bool} (hb : decide (aftN al st es s.data.toList ≠ 0) = b) (w : World) (hT : Tab w) (h : EV w (.slice a1 n1 c1) es) :
    Calls Tryd.prog 14 #[.agg #[.int .i64 al, .int .i64 st, .slice a1 n1 c1], .string s] w (RB' (.bool b) w) := by
  subst hb
  exact implTrace_any al st a1 n1 c1 es s hs w hT h
set_option maxHeartbeats 4000000 in
theorem fnTracesUpTo_walk (a : Option Addr) (len cap : Nat) (zs : List Int) (w : World) (hT : Tab w) (hrow : IsRow w a len cap zs) : Calls Tryd.prog 5 #[.slice a len cap] w fun e w' => e = .returned (.bool true) ∧ Below w.heap.size w w' := by
  by_cases hl : 1048576 < len
  · have hl' : (1048576 : Int) < (len : Int) := by omega
    go_enter Tryd.func5, Tryd.ntmps5
    go_wp2
    go_ret
    exact ⟨rfl, Below.refl _ _⟩
  have hl' : (len : Int) ≤ 1048576 := by omega
  clear hl
  go_enter Tryd.func5, Tryd.ntmps5
  go_wp2_with fail
  refine (drawTraces_any a len cap zs w hrow).mono ?_
  rintro e w1 ⟨al, st, ad, n, c, es, k, rfl, hkb, hev, hes, hb1⟩
  have hev1 := (hev 0 (Nat.zero_le _)).ev
  obtain ⟨hkb1, hkb2⟩ := hkb
  clear hev hrow
  obtain ⟨x0, hx0⟩ : ∃ x0, w1.heap.size = x0 := ⟨_, rfl⟩
  obtain ⟨w2, hw2⟩ : ∃ w2, (w1.alloc (.cells #[.int .i64 al, .int .i64 st, .slice ad n c] 25)) = w2 := ⟨_, rfl⟩
  have hb2 := below_new' w1 25 #[.int .i64 al, .int .i64 st, .slice ad n c]
  have hx2 := sys_cells w1 al st (.slice ad n c) 25
  rw [hx0] at hx2
  rw [hw2] at hb2 hx2
  have B2 := Lib.hid (hb1.trans (hb2.mono hb1.size))
  have X2 := Lib.hid hx2
  have E2 := Lib.hid (hev1.below hb2)
  have T2 := Lib.hid ((hT.below hb1).below hb2)
  clear hb1 hb2 hx2 hev1 hT
  have c20 : w2.cell? ⟨x0, 0, none⟩ = some (.int .i64 al) := X2.out.cell (by decide)
  have c21 : w2.cell? ⟨x0, 1, none⟩ = some (.int .i64 st) := X2.out.cell (by decide)
  have c22 : w2.cell? ⟨x0, 2, none⟩ = some (.slice ad n c) := X2.out.cell (by decide)
  go_wp2_with fail
  refine (implCount_any al st ad n c es k w2 T2.out E2.out).mono ?_
  rintro e w3 ⟨rfl, hb3⟩
  have B3 := Lib.hid (B2.out.trans (hb3.mono B2.out.size))
  have X3 := Lib.hid (rowIs_below' X2.out hb3)
  have E3 := Lib.hid (E2.out.below hb3)
  have T3 := Lib.hid (T2.out.below hb3)
  clear c20 c21 c22 hb3
  have c30 : w3.cell? ⟨x0, 0, none⟩ = some (.int .i64 al) := X3.out.cell (by decide)
  have c31 : w3.cell? ⟨x0, 1, none⟩ = some (.int .i64 st) := X3.out.cell (by decide)
  have c32 : w3.cell? ⟨x0, 2, none⟩ = some (.slice ad n c) := X3.out.cell (by decide)
  go_wp2_with fail
  refine (specCount_any al st ad n c es k w3 E3.out).mono ?_
  rintro e w4 ⟨rfl, hb4⟩
  have B4 := Lib.hid (B3.out.trans (hb4.mono B3.out.size))
  have X4 := Lib.hid (rowIs_below' X3.out hb4)
  have E4 := Lib.hid (E3.out.below hb4)
  have T4 := Lib.hid (T3.out.below hb4)
  clear c30 c31 c32 hb4
  have c40 : w4.cell? ⟨x0, 0, none⟩ = some (.int .i64 al) := X4.out.cell (by decide)
  have c41 : w4.cell? ⟨x0, 1, none⟩ = some (.int .i64 st) := X4.out.cell (by decide)
  have c42 : w4.cell? ⟨x0, 2, none⟩ = some (.slice ad n c) := X4.out.cell (by decide)
  by_cases hv : sysV al st es = true ∧ 0 ≤ k ∧ k ≤ 7
  · obtain ⟨hv1, hk0, hk7⟩ := hv
    obtain ⟨K, rfl⟩ := Int.eq_ofNat_of_zero_le hk0
    have hg : trP al st es (K : Int) = (cntS es (lets al) K 1 : Nat) := by unfold trP; rw [if_pos ⟨hv1, by omega, by omega⟩, Int.toNat_natCast]
    have hle := Nat.le_trans (cntS_le es (lets al) (lets_len al) K 1) (seven_pow K (by omega))
    obtain ⟨G, hG⟩ : ∃ G, cntS es (lets al) K 1 = G := ⟨_, rfl⟩
    rw [hG] at hg hle
    have hG0 : decide ((G : Int) < 0) = false := by simp
    have hGG : ((G : Int) != (G : Int)) = false := by simp
    have hsp := fun wq h => specCount_any al st ad n c es (K : Int) wq h
    rw [hg] at hsp ⊢
    clear hg
    by_cases h3 : 3 < K
    · have h3b : decide ((3 : Int) < (K : Int)) = true := by simp; omega
      clear hG
      have HSP := Lib.hid hsp
      clear hsp
      go_wp2_with fail
      refine (HSP.out w4 E4.out).mono ?_
      rintro e w5 ⟨rfl, hb5⟩
      have B5 := Lib.hid (B4.out.trans (hb5.mono B4.out.size))
      have X5 := Lib.hid (rowIs_below' X4.out hb5)
      have E5 := Lib.hid (E4.out.below hb5)
      have T5 := Lib.hid (T4.out.below hb5)
      clear c40 c41 c42 hb5
      have c50 : w5.cell? ⟨x0, 0, none⟩ = some (.int .i64 al) := X5.out.cell (by decide)
      have c51 : w5.cell? ⟨x0, 1, none⟩ = some (.int .i64 st) := X5.out.cell (by decide)
      have c52 : w5.cell? ⟨x0, 2, none⟩ = some (.slice ad n c) := X5.out.cell (by decide)
      go_wp2
      go_ret
      exact ⟨ret_bool (by simp), B5.out⟩
    · have h3b : decide ((3 : Int) < (K : Int)) = false := by simp; omega
      clear hsp
      have hA := (sysV_facts hv1).1
      have hfam := fam_count (setW_fam es (lets al)) K
      rw [hG] at hfam
      have hL259 := lvl_300 (lets al).length K (lets_len al) (by omega)
      have hlow := fun m (h : m < lvl (lets al).length K) => wordAt_low al hA K m (by omega) h
      have hlong := fun l (h : l.all (okL al) = true) (h2 : lvl (lets al).length K ≤ numN al l) => num_long al hA l h K h2
      obtain ⟨Lv, hLv⟩ : ∃ Lv, lvl (lets al).length K = Lv := ⟨_, rfl⟩
      rw [hLv] at hfam hL259 hlow hlong
      have HA := Lib.hid hA
      have HFAM := Lib.hid hfam
      have HLOW := Lib.hid hlow
      have HLONG := Lib.hid hlong
      have HVV := Lib.hid hv1
      clear hA hfam hlow hlong hLv hv1 hG
      go_wp2
      go_loopw [6, 7] (fun cc i wr => ∃ m : Nat, m ≤ Lv ∧ i = .int .i64 m ∧ cc = .int .i64 (sumN (fun j => if setW es (lets al) j = 0 then 0 else 1) m : Nat) ∧ sumN (fun j => if setW es (lets al) j = 0 then 0 else 1) m ≤ m ∧ Below w.heap.size w wr ∧ wr.rowIs x0 25 3 (fun i => #[.int .i64 al, .int .i64 st, .slice ad n c][i]?.getD undef) ∧ EV wr (.slice ad n c) es ∧ Tab wr) (fun _ i _ => Lv + 1 - (intOf i).toNat)
      case atStart => exact ⟨0, Nat.zero_le _, rfl, rfl, Nat.zero_le _, B4.out, X4.out, E4.out, T4.out⟩
      case round =>
        obtain ⟨m, hm, rfl, rfl, hcm, hbel, hrowx, hee, htt⟩ := hrel
        have d0 : wr.cell? ⟨x0, 0, none⟩ = some (.int .i64 al) := hrowx.cell (by decide)
        have HB := Lib.hid hbel
        have HX := Lib.hid hrowx
        have HE := Lib.hid hee
        have HTT := Lib.hid htt
        clear hbel hrowx hee htt c40 c41 c42
        have hm300 : decide ((m : Int) < 300) = true := by simp; omega
        obtain ⟨C, hC⟩ : ∃ C, sumN (fun j => if setW es (lets al) j = 0 then 0 else 1) m = C := ⟨_, rfl⟩
        rw [hC] at hcm
        rw [hC]
        have HC := Lib.hid hC; clear hC
        by_cases hlt : m < Lv
        · obtain ⟨l, hl1, hl2, hl3, hl4⟩ := HLOW.out m hlt
          have hwi : within l al = true := by
            unfold within
            rw [HA.out, hl3]
            simp
            omega
          have hset := setW_word es al HA.out l hl3
          rw [hl4] at hset
          have haf := aftN_yes al st es l HVV.out hwi
          rw [hset] at haf
          have HLT := Lib.hid hlt
          have HL1 := Lib.hid hl1; clear hl1
          clear hwi hset hl3 hl4
          go_wp2_with fail
          refine (implAt_any (m : Int) al (by omega) wr).mono ?_
          rintro e w5 ⟨t, rfl, ht, hb5⟩
          rw [HL1.out]
          rw [HL1.out] at ht
          have ht' : t.data.toList = l := ht
          have hts : t.size = l.length := by rw [← ht', data_len]
          have htK : decide ((K : Int) < (t.size : Int)) = false := by simp; omega
          have htN : ¬ (K < t.size) := by omega
          have htI : ¬ ((K : Int) < (t.size : Int)) := by omega
          have hsz : t.size ≤ 9223372036854775807 := by omega
          obtain ⟨q, hq⟩ : ∃ q, decide (setW es (lets al) m ≠ 0) = q := ⟨_, rfl⟩
          have hit := fun w h1 h2 => trI (a1 := ad) (n1 := n) (c1 := c) (al := al) (st := st) (es := es) (s := t) (b := q) hsz (by rw [ht', haf]; exact hq) w h1 h2
          have HIT := Lib.hid hit
          have HB5 := Lib.hid (HB.out.trans (hb5.mono HB.out.size))
          have HX5 := Lib.hid (rowIs_below' HX.out hb5)
          have HE5 := Lib.hid (HE.out.below hb5)
          have HT5 := Lib.hid (HTT.out.below hb5)
          have v0 : w5.cell? ⟨x0, 0, none⟩ = some (.int .i64 al) := HX5.out.cell (by decide)
          have v1 : w5.cell? ⟨x0, 1, none⟩ = some (.int .i64 st) := HX5.out.cell (by decide)
          have v2 : w5.cell? ⟨x0, 2, none⟩ = some (.slice ad n c) := HX5.out.cell (by decide)
          have hs1 : sumN (fun j => if setW es (lets al) j = 0 then 0 else 1) (m + 1) = C + (if q = true then 1 else 0) := by
            rw [sumN, HC.out, ← hq]
            by_cases h0 : setW es (lets al) m = 0 <;> simp [h0]
          have HS1 := Lib.hid hs1; clear hs1
          clear hit hb5 d0 ht ht' haf hq hts hsz
          go_wp2_with fail
          refine (HIT.out w5 HT5.out HE5.out).mono ?_
          rintro e w6 ⟨rfl, hb6⟩
          have HB6 := Lib.hid (HB5.out.trans (hb6.mono HB5.out.size))
          have HX6 := Lib.hid (rowIs_below' HX5.out hb6)
          have HE6 := Lib.hid (HE5.out.below hb6)
          have HT6 := Lib.hid (HT5.out.below hb6)
          clear hb6 v0 v1 v2
          cases q with
          | true =>
            have HS2 := Lib.hid (show sumN (fun j => if setW es (lets al) j = 0 then 0 else 1) (m + 1) = C + 1 from HS1.out)
            go_wp2
            go_roundw
            case rel => exact ⟨m + 1, HLT.out, by go_num, by rw [HS2.out]; go_num, by rw [HS2.out]; omega, HB6.out, HX6.out, HE6.out, HT6.out⟩
            case measure => simp [intOf] <;> omega
          | false =>
            have HS2 := Lib.hid (show sumN (fun j => if setW es (lets al) j = 0 then 0 else 1) (m + 1) = C from HS1.out)
            go_wp2
            go_roundw
            case rel => exact ⟨m + 1, HLT.out, by go_num, by rw [HS2.out], by rw [HS2.out]; omega, HB6.out, HX6.out, HE6.out, HT6.out⟩
            case measure => simp [intOf] <;> omega
        · obtain rfl : m = Lv := by omega
          have hCG : C = G := by rw [← HC.out]; exact HFAM.out
          subst hCG
          have hCC : ((C : Int) == (C : Int)) = true := by simp
          cases ho : wordAt (m : Int) al with
          | none =>
            have HO := Lib.hid ho; clear ho
            go_wp2_with fail
            refine (implAt_any (m : Int) al (by omega) wr).mono ?_
            rintro e w5 ⟨t, rfl, ht, hb5⟩
            rw [HO.out]
            have HB5 := Lib.hid (HB.out.trans (hb5.mono HB.out.size))
            clear hb5 ht
            go_wp2
            go_ret
            exact ⟨rfl, HB5.out⟩
          | some l =>
            obtain ⟨-, -, h5, -, h6⟩ := wordAt_some ho
            have h7 := HLONG.out l h5 (by omega)
            have HO := Lib.hid ho; clear ho
            go_wp2_with fail
            refine (implAt_any (m : Int) al (by omega) wr).mono ?_
            rintro e w5 ⟨t, rfl, ht, hb5⟩
            rw [HO.out]
            rw [HO.out] at ht
            have ht' : t.data.toList = l := ht
            have hts : t.size = l.length := by rw [← ht', data_len]
            have htK : decide ((K : Int) < (t.size : Int)) = true := by simp; omega
            have htN : K < t.size := by omega
            have htI : (K : Int) < (t.size : Int) := by omega
            have HB5 := Lib.hid (HB.out.trans (hb5.mono HB.out.size))
            clear hb5 ht ht' hts h5 h6 h7
            go_wp2
            go_ret
            exact ⟨rfl, HB5.out⟩
  · have hg : trP al st es k = -1 := by unfold trP; rw [if_neg hv]
    have hsp := fun wq h => specCount_any al st ad n c es k wq h
    rw [hg] at hsp ⊢
    clear hg hv
    have HSP := Lib.hid hsp
    clear hsp
    go_wp2_with fail
    refine (HSP.out w4 E4.out).mono ?_
    rintro e w5 ⟨rfl, hb5⟩
    have B5 := Lib.hid (B4.out.trans (hb5.mono B4.out.size))
    have X5 := Lib.hid (rowIs_below' X4.out hb5)
    have E5 := Lib.hid (E4.out.below hb5)
    have T5 := Lib.hid (T4.out.below hb5)
    clear c40 c41 c42 hb5
    have c50 : w5.cell? ⟨x0, 0, none⟩ = some (.int .i64 al) := X5.out.cell (by decide)
    have c51 : w5.cell? ⟨x0, 1, none⟩ = some (.int .i64 st) := X5.out.cell (by decide)
    have c52 : w5.cell? ⟨x0, 2, none⟩ = some (.slice ad n c) := X5.out.cell (by decide)
    go_wp2
    go_ret
    exact ⟨ret_bool (by simp), B5.out⟩
end Go.Proofs.YtknhgfmjchfnjaaDoor
