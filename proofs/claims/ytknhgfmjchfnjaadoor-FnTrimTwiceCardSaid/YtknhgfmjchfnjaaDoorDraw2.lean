/- The reference's drawing of words: what is drawn lies in its bounds. -/
import Derived.Test.YtknhgfmjchfnjaaDoorDraw
namespace Go.Proofs.YtknhgfmjchfnjaaDoor
open Go.RowKit
set_option linter.unusedVariables false
set_option linter.unusedSimpArgs false
set_option maxRecDepth 100000

def WordRel (R p most : Nat) (w2 : World) (v8 v9 : Value) (wr : World) : Prop :=
  ∃ (k : Nat) (s : ByteArray) (p' : Nat), v9 = .int .i64 k ∧ v8 = .string s ∧ s.size + k ≤ most ∧ p' ≤ p + 1 + s.size ∧ RdOk R p' wr ∧ w2.grownBy wr (some R)

set_option maxHeartbeats 1000000 in
theorem l1Word_any (R p : Nat) (a : Int) (most : Int) (M : Nat) (hM : most = (M : Int)) (ha : isA a = true) (hm : M ≤ 100) (w : World) (h : RdOk R p w) (hp : p ≤ 900000) : Calls Tryd.prog 37 #[.pointer (some ⟨R, 0, none⟩), .int .i64 a, .int .i64 most] w (StrRet R p (M + 2) M w) := by
  subst hM
  obtain ⟨ha0, ha1⟩ := (isA_iff a).1 ha
  have hlx := lets_len a
  have hRlt := h.lt
  have HA := Lib.hid ha; clear ha
  go_enter Tryd.func37, Tryd.ntmps37
  go_wp2_with fail
  refine (l1Letters_any a ha0 (by omega) w).mono ?_
  rintro e w2 ⟨ao, cap, rfl, hown, hbel⟩
  have hr2 := h.below hbel
  generalize hmm : (lets a).length = m at *
  have HM := Lib.hid hmm
  clear hmm
  go_wp2_with fail
  refine (pick_any R p ((M : Int) + 1) w2 hr2 (by omega)).mono ?_
  rintro e w3 ⟨k0, rfl, hk, -, hr3, hg3⟩
  obtain ⟨hk0, hk1⟩ := hk (by omega)
  obtain ⟨K, rfl⟩ := Int.eq_ofNat_of_zero_le hk0
  clear hk
  go_wp2
  go_loopw [8, 9] (fun v8 v9 wr => WordRel R p M w2 v8 v9 wr) (fun _ v9 _ => (intOf v9).toNat)
  case atStart => exact ⟨K, _, p + 1, rfl, rfl, by simp [ByteArray.size]; omega, by omega, hr3, hg3⟩
  case round =>
    clear hr3 hg3 hk0 hk1
    obtain ⟨k, s, p', rfl, rfl, hsk, hpp, hrr, hgg⟩ := hrel
    by_cases hk : k = 0
    · subst hk
      go_wp2
      go_ret
      exact ⟨s, rfl, by omega, p', by omega, hrr, grown_trans (grown_below _ hbel) hgg⟩
    · have hkp : (0 : Int) < (k : Int) := by omega
      by_cases hm0 : m = 0
      · subst hm0
        go_wp2
        go_ret
        exact ⟨s, rfl, by omega, p', by omega, hrr, grown_trans (grown_below _ hbel) hgg⟩
      · have hmp : (0 : Int) < (m : Int) := by omega
        have hmp2 : 0 < m := by omega
        have hkp2 : 0 < k := by omega
        obtain ⟨g, rfl, -, hBg, hgs, hcap, hmax, hcells⟩ := hown.ne (by rw [HM.out]; exact hm0)
        have HC := Lib.hid hcells
        clear hcells
        clear hk hm0
        unfold maxLen at hmax
        go_wp2_with fail
        refine (pick_any R p' (m : Int) wr hrr (by omega)).mono ?_
        rintro e w4 ⟨j0, rfl, hj, -, hr4, hg4⟩
        obtain ⟨hj0, hj1⟩ := hj (by omega)
        obtain ⟨j, rfl⟩ := Int.eq_ofNat_of_zero_le hj0
        clear hj
        have hjm : j < m := by omega
        have hg5 := grown_trans hgg hg4
        have hcell := hg5.cell (HC.out j (by rw [HM.out]; exact hjm)) (by intro e; injection e with e; simp at e; omega)
        have hb := lets_getD a j (by rw [HM.out]; exact hjm)
        obtain ⟨x, hx⟩ : ∃ x, (lets a)[j]?.getD 0 = x := ⟨_, rfl⟩
        rw [hx] at hcell hb
        obtain ⟨hx0, hx1⟩ := hb
        clear hx hgg hg4 hrr
        go_wp2_with fail
        refine (l1Text_any x hx0 hx1 _).mono ?_
        rintro e w6 ⟨r2, rfl, hr2', hb6⟩
        have hsz2 : r2.size = 1 := size_of hr2'
        have hsum : (s.size : Int) + (r2.size : Int) ≤ 9223372036854775807 := by omega
        have HSZ := Lib.hid hsz2
        clear hr2' hsz2
        go_wp2
        go_roundw
        case rel => exact ⟨k - 1, s ++ r2, p' + 1, by go_num, rfl, by rw [append_size, HSZ.out]; omega, by rw [append_size, HSZ.out]; omega, hr4.below hb6, grown_trans hg5 (grown_below _ hb6)⟩
        case measure => simp [intOf] <;> omega

set_option maxHeartbeats 1000000 in
theorem l1Bad_any (R p N : Nat) (s : ByteArray) (hs : s.size ≤ N) (hN : N ≤ 100000) (w : World) (h : RdOk R p w) (hp : p ≤ 900000) : Calls Tryd.prog 38 #[.pointer (some ⟨R, 0, none⟩), .string s] w (StrRet R p 2 (N + 50001) w) := by
  go_enter Tryd.func38, Tryd.ntmps38
  go_wp2_with fail
  refine (pick_any R p 24 w h (by omega)).mono ?_
  rintro e w1 ⟨k, rfl, hk, -, hr1, hg1⟩
  obtain ⟨hk0, hk1⟩ := hk (by omega)
  clear hk
  have hcase : k = 0 ∨ k = 1 ∨ k = 2 ∨ k = 3 ∨ 4 ≤ k := by omega
  rcases hcase with rfl | rfl | rfl | rfl | hk
  · go_wp2_with fail
    refine (of_lit R (p + 1) [⟨#[103]⟩, ⟨#[65]⟩, ⟨#[96]⟩, ⟨#[32]⟩, ⟨#[97]⟩, ⟨#[0]⟩] _ _ w1 rfl hr1 (by omega) 6 rfl (by omega) (by omega)).mono ?_
    rintro e w' ⟨j, x, hj, hx, rfl, ha⟩
    have hsx := getD_sz _ 1 (by decide) hj hx
    have hsum : (s.size : Int) + (x.size : Int) ≤ 9223372036854775807 := by omega
    have HA := Lib.hid ha
    have HG := Lib.hid hg1
    clear hx hj ha hg1
    go_wp2
    go_ret
    exact ⟨s ++ x, rfl, by rw [append_size]; omega, adv_trans (K1 := 1) (K2 := 1) (by omega) HG.out HA.out (by omega)⟩
  · go_wp2_with fail
    refine (of_lit R (p + 1) [⟨#[98]⟩, ⟨#[120]⟩, ⟨#[45]⟩, ⟨#[102]⟩] _ _ w1 rfl hr1 (by omega) 4 rfl (by omega) (by omega)).mono ?_
    rintro e w' ⟨j, x, hj, hx, rfl, ha⟩
    have hsx := getD_sz _ 1 (by decide) hj hx
    have hsum : (x.size : Int) + (s.size : Int) ≤ 9223372036854775807 := by omega
    have HA := Lib.hid ha
    have HG := Lib.hid hg1
    clear hx hj ha hg1
    go_wp2
    go_ret
    exact ⟨x ++ s, rfl, by rw [append_size]; omega, adv_trans (K1 := 1) (K2 := 1) (by omega) HG.out HA.out (by omega)⟩
  · go_wp2_with fail
    refine (num_lit R (p + 1) [50000, 50001, 49999, 8] _ _ w1 rfl hr1 (by omega) 4 rfl (by omega) (by omega)).mono ?_
    rintro e w' ⟨j, x, hj, hx, rfl, ha⟩
    have hsx := getD_bd _ (fun x => 0 ≤ x ∧ x ≤ 50001) (by decide) hj hx
    obtain ⟨hx0, hx1⟩ := hsx
    have HA := Lib.hid ha
    have HG := Lib.hid hg1
    clear hx hj ha hg1
    go_wp2_with fail
    refine (l19Many_any _ x rfl hx0 (by omega) _).mono ?_
    rintro e w'' ⟨r, rfl, hr, rfl⟩
    have HR := Lib.hid hr
    clear hr
    go_wp2
    go_ret
    exact ⟨r, rfl, by have := HR.out; omega, adv_trans (K1 := 1) (K2 := 1) (by omega) HG.out HA.out (by omega)⟩
  · go_wp2_with fail
    refine (num_lit R (p + 1) [50000, 8, 7] _ _ w1 rfl hr1 (by omega) 3 rfl (by omega) (by omega)).mono ?_
    rintro e w' ⟨j, x, hj, hx, rfl, ha⟩
    have hsx := getD_bd _ (fun x => 0 ≤ x ∧ x ≤ 50001) (by decide) hj hx
    obtain ⟨hx0, hx1⟩ := hsx
    have HA := Lib.hid ha
    have HG := Lib.hid hg1
    clear hx hj ha hg1
    go_wp2_with fail
    refine (l19Many_any _ x rfl hx0 (by omega) _).mono ?_
    rintro e w'' ⟨r, rfl, hr, rfl⟩
    have HR := Lib.hid hr
    clear hr
    go_wp2
    go_ret
    exact ⟨r, rfl, by have := HR.out; omega, adv_trans (K1 := 1) (K2 := 1) (by omega) HG.out HA.out (by omega)⟩
  · have e0 : (k == 0) = false := by simp; omega
    have e1 : (k == 1) = false := by simp; omega
    have e2 : (k == 2) = false := by simp; omega
    have e3 : (k == 3) = false := by simp; omega
    go_wp2
    go_ret
    exact ⟨s, rfl, by omega, p + 1, by omega, hr1, hg1⟩

/-- What the walk is told of a slice of bytes that came in. -/
def IsRow (w : World) (a : Option Addr) (len cap : Nat) (zs : List Int) : Prop :=
  (a = none ∧ len = 0 ∧ cap = 0 ∧ zs = []) ∨
  ∃ x, a = some x ∧ len ≤ cap ∧ cap ≤ maxLen ∧ zs.length = cap ∧ (∀ i, i < zs.length → w.cell? (x.add i) = some (.int .u8 (zs.getD i 0))) ∧ ∀ n ∈ zs, (Lit.int .u8 n).wf = true
theorem IsRow.below {w w' : World} {a : Option Addr} {len cap : Nat} {zs : List Int} (h : IsRow w a len cap zs) (hb : Below w.heap.size w w') : IsRow w' a len cap zs := by
  rcases h with h | ⟨x, h1, h2, h3, h4, h5, h6⟩
  · exact .inl h
  · refine .inr ⟨x, h1, h2, h3, h4, fun i hi => ?_, h6⟩
    have hc := h5 i hi
    rw [hb.cell (p := x.add i) (World.block_lt_of_cell? w _ hc)]; exact hc
theorem wf_u8 (n : Int) (h : (Lit.int .u8 n).wf = true) : 0 ≤ n ∧ n ≤ 255 := by
  simp [Lit.wf, IntKind.min, IntKind.max, IntKind.bits, IntKind.signed] at h
  omega

/-- The reader is opened: block R. -/
def OpenRet (w : World) (e : Ending) (w' : World) : Prop := ∃ R, e = .returned (.pointer (some ⟨R, 0, none⟩)) ∧ RdOk R 0 w' ∧ w.heap.size ≤ R ∧ Below w.heap.size w w'

theorem rd_start (w : World) (bo : Option Addr) (n cap : Nat) (T : TypeId) (h : n = 0 ∨ ∃ b off, bo = some ⟨b, off, none⟩ ∧ b < w.heap.size ∧ n ≤ cap ∧ cap ≤ maxLen ∧ n ≤ 2000 ∧ ∀ j, j < n → ∃ z : Nat, z < 256 ∧ w.cell? ⟨b, off + j, none⟩ = some (.int .u8 (z : Int))) :
    RdOk w.heap.size 0 (w.alloc (.cells #[.slice bo n cap, .int .i64 0] T)) := by
  refine ⟨bo, n, cap, by simp, ?_, ?_, ?_, ?_⟩
  · have := World.cell?_alloc_mark w #[.slice bo n cap, .int .i64 0] T (0, 0) 0
    rw [this]; rfl
  · have := World.cell?_alloc_mark w #[.slice bo n cap, .int .i64 0] T (0, 0) 1
    rw [this]; rfl
  · have := World.frozen?_alloc_mark w #[.slice bo n cap, .int .i64 0] T 0 0 1
    rw [this]; rfl
  · rcases h with h | ⟨b, off, h6, h7, h8, h9, h10, h11⟩
    · exact .inl h
    · refine .inr ⟨b, off, h6, h7, h8, h9, h10, fun j hj => ?_⟩
      obtain ⟨z, hz, hc⟩ := h11 j hj
      exact ⟨z, hz, by rw [World.cell?_alloc_lt _ _ _ h7]; exact hc⟩

set_option maxHeartbeats 400000 in
theorem l19Open_any (a : Option Addr) (len cap : Nat) (zs : List Int) (w : World) (h : IsRow w a len cap zs) : Calls Tryd.prog 33 #[.slice a len cap] w (OpenRet w) := by
  rcases h with ⟨rfl, rfl, rfl, rfl⟩ | ⟨x, rfl, hl, hm, hz, hcell, hwz⟩
  · go_enter Tryd.func33, Tryd.ntmps33
    go_wp2
    go_ret
    exact ⟨_, rfl, rd_start w none 0 0 _ (.inl rfl), Nat.le_refl _, (Below.refl _ _).alloc (Nat.le_refl _) _⟩
  · by_cases h0 : len = 0
    · subst h0
      clear hcell hwz hz
      go_enter Tryd.func33, Tryd.ntmps33
      go_wp2
      go_ret
      exact ⟨_, rfl, rd_start w _ 0 cap _ (.inl rfl), Nat.le_refl _, (Below.refl _ _).alloc (Nat.le_refl _) _⟩
    · have hc0 := hcell 0 (by omega)
      obtain ⟨b, off, spot⟩ := x
      have hspot : spot = none := by simpa [Addr.add] using World.cell?_spot hc0
      subst hspot
      have hb : b < w.heap.size := by have := World.block_lt_of_cell? w _ hc0; rw [Addr.add_lit] at this; exact this
      have hcells : ∀ j, j < len → ∃ z : Nat, z < 256 ∧ w.cell? ⟨b, off + j, none⟩ = some (.int .u8 (z : Int)) := by
        intro j hj
        have hc := hcell j (by omega)
        rw [Addr.add_lit] at hc
        have hmem : zs.getD j 0 ∈ zs := by
          rw [List.getD_eq_getElem?_getD, List.getElem?_eq_getElem (by omega)]; exact List.getElem_mem _
        have hbd := wf_u8 _ (hwz _ hmem)
        obtain ⟨z, hz⟩ := Int.eq_ofNat_of_zero_le hbd.1
        exact ⟨z, by omega, by rw [hc, hz]⟩
      have HC := Lib.hid hcells
      clear hcells hcell hwz hz hc0 h0
      by_cases h2 : 2000 < len
      · have h2' : (2000 : Int) < (len : Int) := by omega
        have h2c : 2000 ≤ cap := by omega
        unfold maxLen at hm
        go_enter Tryd.func33, Tryd.ntmps33
        go_wp2
        go_ret
        exact ⟨_, rfl, rd_start w _ 2000 cap _ (.inr ⟨b, off, rfl, hb, h2c, hm, by omega, fun j hj => HC.out j (by omega)⟩), Nat.le_refl _, (Below.refl _ _).alloc (Nat.le_refl _) _⟩
      · have h2' : (len : Int) ≤ 2000 := by omega
        go_enter Tryd.func33, Tryd.ntmps33
        go_wp2
        go_ret
        exact ⟨_, rfl, rd_start w _ len cap _ (.inr ⟨b, off, rfl, hb, hl, hm, by omega, fun j hj => HC.out j hj⟩), Nat.le_refl _, (Below.refl _ _).alloc (Nat.le_refl _) _⟩

end Go.Proofs.YtknhgfmjchfnjaaDoor
