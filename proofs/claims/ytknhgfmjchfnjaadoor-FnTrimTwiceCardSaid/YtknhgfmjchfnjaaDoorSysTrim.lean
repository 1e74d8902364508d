/- TrimSystem on both sides: what they answer. -/
import Derived.Test.YtknhgfmjchfnjaaDoorSysKeep2
import Derived.Test.YtknhgfmjchfnjaaDoorSysReach

namespace Go.Proofs.YtknhgfmjchfnjaaDoor
open Go.RowKit
set_option linter.unusedVariables false
set_option linter.unusedSimpArgs false
set_option maxRecDepth 100000

theorem cnt_under (n r : Nat) (h : r < 2 ^ n) : ∀ d, cnt (n + d) r = cnt n r
  | 0 => rfl
  | d + 1 => by
    rw [← Nat.add_assoc, cnt_no _ _ (Nat.testBit_lt_two_pow (Nat.lt_of_lt_of_le h (Nat.pow_le_pow_right (by decide) (by omega)))), cnt_under n r h d]
/-- A valid system has at most 1536 edges. -/
def codeE (e : Edg) : Nat := e.1.toNat * 96 + e.2.1.toNat * 16 + e.2.2.toNat
theorem codeE_lt {a b : Edg} (h : ltE a b = true) (ha : (0 ≤ a.1 ∧ a.1 < 16) ∧ (0 ≤ a.2.1 ∧ a.2.1 < 6) ∧ 0 ≤ a.2.2 ∧ a.2.2 < 16) (hb : (0 ≤ b.1 ∧ b.1 < 16) ∧ (0 ≤ b.2.1 ∧ b.2.1 < 6) ∧ 0 ≤ b.2.2 ∧ b.2.2 < 16) : codeE a < codeE b := by
  unfold ltE at h
  unfold codeE
  split at h
  · rw [decide_eq_true_eq] at h; omega
  · split at h
    · rw [decide_eq_true_eq] at h; omega
    · rw [decide_eq_true_eq] at h; omega
theorem sysV_len {al st : Int} {es : List Edg} (h : sysV al st es = true) : es.length ≤ 1536 := by
  have hok := sysV_ok h
  have hst : ∀ k, k < es.length → stepOK al st es k = true := by
    unfold sysV at h
    simp only [Bool.and_eq_true, List.all_eq_true] at h
    exact fun k hk => h.2.2 k (List.mem_range.2 hk)
  have key : ∀ k, k < es.length → k ≤ codeE (Edg.at es k) := by
    intro k
    induction k with
    | zero => intro _; omega
    | succ k ih =>
      intro hk
      have h1 := hst (k + 1) hk
      unfold stepOK at h1
      simp only [Bool.and_eq_true, Bool.or_eq_true, decide_eq_true_eq] at h1
      rcases h1.2 with h2 | h2
      · omega
      · rw [Nat.add_sub_cancel] at h2
        have := codeE_lt h2 (hok.at k (by omega)) (hok.at (k + 1) hk)
        have := ih (by omega)
        omega
  rcases Nat.eq_zero_or_pos es.length with h0 | h0
  · omega
  · have h1 := key (es.length - 1) (by omega)
    have h2 := hok.at (es.length - 1) (by omega)
    unfold codeE at h1
    omega
def trimP (al st : Int) (es : List Edg) (al' st' : Int) (es' : List Edg) (b : Bool) : Prop :=
  if sysV al st es = true then ∃ r : Nat, IsReach es r ∧ al' = al ∧ st' = ((cnt 16 r : Nat) : Int) ∧ es' = keepE es r ∧ b = true else al' = 0 ∧ st' = 0 ∧ es' = [] ∧ b = false
theorem trimP_unique {al st : Int} {es : List Edg} {a1 s1 a2 s2 : Int} {e1 e2 : List Edg} {b1 b2 : Bool} (h : trimP al st es a1 s1 e1 b1) (h2 : trimP al st es a2 s2 e2 b2) : a1 = a2 ∧ s1 = s2 ∧ e1 = e2 ∧ b1 = b2 := by
  unfold trimP at h h2
  split at h
  · rw [if_pos (by assumption)] at h2
    obtain ⟨r, hr, rfl, rfl, rfl, rfl⟩ := h
    obtain ⟨q, hq, rfl, rfl, rfl, rfl⟩ := h2
    rw [hr.unique hq]
    exact ⟨rfl, rfl, rfl, rfl⟩
  · rw [if_neg (by assumption)] at h2
    obtain ⟨rfl, rfl, rfl, rfl⟩ := h
    obtain ⟨rfl, rfl, rfl, rfl⟩ := h2
    exact ⟨rfl, rfl, rfl, rfl⟩
def TrimRes (al st : Int) (es : List Edg) (w : World) (e : Ending) (w' : World) : Prop := ∃ (al' st' : Int) (a : Option Addr) (n c : Nat) (es' : List Edg) (b : Bool), e = .returned (.tuple #[.agg #[.int .i64 al', .int .i64 st', .slice a n c], .bool b]) ∧ n = es'.length ∧ (∀ B, B ≤ w.heap.size → EOwn B w' (.slice a n c) es') ∧ Below w.heap.size w w' ∧ trimP al st es al' st' es' b
set_option maxHeartbeats 4000000 in
theorem specTrim_any (al st : Int) (a1 : Option Addr) (n1 c1 : Nat) (es : List Edg) (w : World) (h : EV w (.slice a1 n1 c1) es) :
    Calls Tryd.prog 12 #[.agg #[.int .i64 al, .int .i64 st, .slice a1 n1 c1]] w (TrimRes al st es w) := by
  obtain ⟨X, hX⟩ : ∃ X, w.heap.size = X := ⟨_, rfl⟩
  have hx0 := sys_cells w al st (.slice a1 n1 c1) 25
  have hb0 := below_new' w 25 #[.int .i64 al, .int .i64 st, .slice a1 n1 c1]
  obtain ⟨wx, hwx⟩ : ∃ wx, (w.alloc (.cells #[.int .i64 al, .int .i64 st, .slice a1 n1 c1] 25)) = wx := ⟨_, rfl⟩
  have hsx : wx.heap.size = w.heap.size + 1 := by rw [← hwx]; simp
  rw [hwx] at hx0 hb0
  have hq0 := sys_cells wx 0 0 (.slice none 0 0) 25
  have hb1 := below_new' wx 25 #[.int .i64 0, .int .i64 0, .slice none 0 0]
  obtain ⟨wz, hwz⟩ : ∃ wz, (wx.alloc (.cells #[.int .i64 0, .int .i64 0, .slice none 0 0] 25)) = wz := ⟨_, rfl⟩
  have hsz : wz.heap.size = w.heap.size + 2 := by rw [← hwz]; simp; omega
  rw [hwz] at hq0 hb1
  rw [hsx] at hq0
  have HB := Lib.hid (hb0.trans (hb1.mono hb0.size))
  rw [hX] at hx0 hsx hsz hq0
  have HX := Lib.hid (rowIs_below' hx0 hb1)
  have HZ := Lib.hid hq0
  have c0 : wz.cell? ⟨X, 0, none⟩ = some (.int .i64 al) := HX.out.cell (by decide)
  have c1' : wz.cell? ⟨X, 1, none⟩ = some (.int .i64 st) := HX.out.cell (by decide)
  have c2' : wz.cell? ⟨X, 2, none⟩ = some (.slice a1 n1 c1) := HX.out.cell (by decide)
  have HE := Lib.hid (EV.below h HB.out)
  clear h hx0 hb0 hq0 hb1
  cases hv : sysV al st es with
  | false =>
    have htp : trimP al st es 0 0 [] false := by unfold trimP; rw [if_neg (by rw [hv]; decide)]; exact ⟨rfl, rfl, rfl, rfl⟩
    have HTP := Lib.hid htp; clear htp
    have HV := Lib.hid hv; clear hv
    go_enter Tryd.func12, Tryd.ntmps12
    go_wp2_with fail
    refine (specSysValid_any al st a1 n1 c1 es _ HE.out).mono ?_
    rintro e w1 ⟨rfl, hb1⟩
    rw [HV.out]
    have HB3 := Lib.hid (HB.out.trans (hb1.mono HB.out.size))
    have HZ3 := Lib.hid (rowIs_below' HZ.out hb1)
    clear hb1
    have HFIN := Lib.hid (rowIs_set3 HZ3.out (.int .i64 0) (.int .i64 0) (.slice none 0 0))
    have HBF := Lib.hid (((HB3.out.setCell (p := ⟨X + 1, 0, none⟩) (by simp; omega) (.int .i64 0)).setCell (p := ⟨X + 1, 1, none⟩) (by simp; omega) (.int .i64 0)).setCell (p := ⟨X + 1, 2, none⟩) (by simp; omega) (.slice none 0 0))
    have z0 : (w1).cell? ⟨X + 1, 0, none⟩ = some (.int .i64 0) := HZ3.out.cell (by decide)
    have z1 : (w1).cell? ⟨X + 1, 1, none⟩ = some (.int .i64 0) := HZ3.out.cell (by decide)
    have z2 : (w1).cell? ⟨X + 1, 2, none⟩ = some (.slice none 0 0) := HZ3.out.cell (by decide)
    have zf0 := HZ3.out.frozen 0
    have zf1 := HZ3.out.frozen 1
    have zf2 := HZ3.out.frozen 2
    obtain ⟨wf, hwf⟩ : ∃ wf, (((w1).setCell ⟨X + 1, 0, none⟩ (.int .i64 0)).setCell ⟨X + 1, 1, none⟩ (.int .i64 0)).setCell ⟨X + 1, 2, none⟩ (.slice none 0 0) = wf := ⟨_, rfl⟩
    rw [hwf] at HFIN HBF
    have f0 : wf.cell? ⟨X + 1, 0, none⟩ = some (.int .i64 0) := HFIN.out.cell (by decide)
    have f1 : wf.cell? ⟨X + 1, 1, none⟩ = some (.int .i64 0) := HFIN.out.cell (by decide)
    have f2 : wf.cell? ⟨X + 1, 2, none⟩ = some (.slice none 0 0) := HFIN.out.cell (by decide)
    go_wp2
    clear hwf
    refine bodyPost_ret (v := .tuple #[.agg #[.int .i64 0, .int .i64 0, .slice none 0 0], .bool false]) ?_ rfl ?_
    · simp [results, Tryd.results12, go_sem, f0, f1, f2]
    exact ⟨0, 0, none, 0, 0, [], false, rfl, rfl, fun B _ => EOwn.nil _ _, hX ▸ HBF.out, HTP.out⟩
  | true =>
    have hok := sysV_ok hv
    have hlen := sysV_len hv
    obtain ⟨-, hst1, hst2, hfe⟩ := sysV_facts hv
    have hto : ∀ e ∈ es, e.2.2.toNat < st.toNat := fun e he => by
      obtain ⟨-, ⟨q3, q4⟩, -⟩ := edgeOK_facts (hfe e he)
      omega
    obtain ⟨st, rfl⟩ := Int.eq_ofNat_of_zero_le (show 0 ≤ st by omega)
    rw [Int.toNat_natCast] at hto
    have HTO := Lib.hid hto; clear hto
    have HOK := Lib.hid hok; clear hok
    clear hfe
    have HV := Lib.hid hv; clear hv
    go_enter Tryd.func12, Tryd.ntmps12
    go_wp2_with fail
    refine (specSysValid_any al st a1 n1 c1 es _ HE.out).mono ?_
    rintro e w1 ⟨rfl, hb1⟩
    rw [HV.out]
    have HE1 := Lib.hid (EV.below HE.out hb1)
    have HX1 := Lib.hid (rowIs_below' HX.out hb1)
    have HZ1 := Lib.hid (rowIs_below' HZ.out hb1)
    have HB1 := Lib.hid (HB.out.trans (hb1.mono HB.out.size))
    have HBZ1 := Lib.hid hb1
    have hs1 : X + 2 ≤ w1.heap.size := by rw [← hsz]; exact hb1.size
    clear hb1 c0 c1' c2'
    go_wp2_with fail
    refine wp_region_held_drew (S := fun w' => w'.cell? ⟨X, 0, none⟩ = some (.int .i64 al) ∧ w'.cell? ⟨X, 1, none⟩ = some (.int .i64 (st : Int)) ∧ w'.cell? ⟨X, 2, none⟩ = some (.slice a1 n1 c1)) (by kernel_rfl) ⟨HX1.out.cell (by decide), HX1.out.cell (by decide), HX1.out.cell (by decide)⟩ (fun hHeld => ?_)
    obtain ⟨wd, hwd⟩ : ∃ wd, w1.drew = wd := ⟨_, rfl⟩
    have hbd : Below w1.heap.size w1 wd := by rw [← hwd]; exact (Below.refl w1.heap.size w1).drew
    rw [hwd] at hHeld ⊢
    have HE2 := Lib.hid (EV.below HE1.out hbd)
    have HX2 := Lib.hid (rowIs_below' HX1.out hbd)
    have HZ2 := Lib.hid (rowIs_below' HZ1.out hbd)
    have HB2 := Lib.hid (HB1.out.trans (hbd.mono HB1.out.size))
    have HBD := Lib.hid (HBZ1.out.trans (hbd.mono HBZ1.out.size))
    have hs2 : X + 2 ≤ wd.heap.size := Nat.le_trans hs1 hbd.size
    clear hbd hwd
    first | (refine wpAnyH_take (i := 0) (get_of_drop' rfl) (by kernel_rfl) (by kernel_rfl) (by kernel_rfl) (fun _ _ _ h => h) (Or.inr ⟨?_, rfl⟩) hHeld ?_; (focus (simp [Region.wanted, yielded, undef]; done)); (try simp only [Act.put, List.setIfInBounds_toArray, List.set_cons_zero, List.set_cons_succ])) | (refine wpAnyH_take (i := 0) (v := ?_) (get_of_drop' rfl) (by kernel_rfl) (by kernel_rfl) (by kernel_rfl) (fun _ _ _ h => h) (Or.inl ⟨?_, ?_⟩) hHeld ?_; rotate_left; (focus rfl); (focus (intro w hSw; (try dsimp only at hSw); go_simp; (try (with_reducible rfl)))); (try simp only [Act.put, List.setIfInBounds_toArray, List.set_cons_zero, List.set_cons_succ]))
    first | (refine wpAnyH_take (i := 1) (get_of_drop' rfl) (by kernel_rfl) (by kernel_rfl) (by kernel_rfl) (fun _ _ _ h => h) (Or.inr ⟨?_, rfl⟩) hHeld ?_; (focus (simp [Region.wanted, yielded, undef]; done)); (try simp only [Act.put, List.setIfInBounds_toArray, List.set_cons_zero, List.set_cons_succ])) | (refine wpAnyH_take (i := 1) (v := ?_) (get_of_drop' rfl) (by kernel_rfl) (by kernel_rfl) (by kernel_rfl) (fun _ _ _ h => h) (Or.inl ⟨?_, ?_⟩) hHeld ?_; rotate_left; (focus rfl); (focus (intro w hSw; (try dsimp only at hSw); go_simp; (try (with_reducible rfl)))); (try simp only [Act.put, List.setIfInBounds_toArray, List.set_cons_zero, List.set_cons_succ]))
    refine wpAnyH_ready (rs := [2]) (by kernel_rfl) (by simp) ?_
    refine AllReadyH.cons (get_of_drop' rfl) (fun K hK => ?_) AllReadyH.nil
    go_simp
    go_at_call 42
    refine (specReach_any al st a1 n1 c1 es _ HE2.out).mono ?_
    rintro e w2 ⟨r, rfl, hr, hb2⟩
    have hir : IsReach es r := by unfold reachP at hr; rwa [if_pos HV.out] at hr
    have hr16 : r < 65536 := hir.1
    have hcn : cnt 16 r = cnt st r := by
      have h := cnt_under st r (reach_lt hir st (by omega) HTO.out) (16 - st)
      rwa [show st + (16 - st) = 16 by omega] at h
    have HE3 := Lib.hid (EV.below HE2.out hb2)
    have HX3 := Lib.hid (rowIs_below' HX2.out hb2)
    have HZ3' := Lib.hid (rowIs_below' HZ2.out hb2)
    have HB3' := Lib.hid (HB2.out.trans (hb2.mono HB2.out.size))
    have hs3 : X + 2 ≤ w2.heap.size := Nat.le_trans hs2 hb2.size
    have HIR := Lib.hid hir; clear hir
    clear hr hb2
    go_wp2_with fail
    refine hK.out _ _ (And.intro (HX3.out.cell (by decide)) (And.intro (HX3.out.cell (by decide)) (HX3.out.cell (by decide)))) (fun hHeld => ?_)
    clear hK K
    try simp only [Act.put, List.setIfInBounds_toArray, List.set_cons_zero, List.set_cons_succ]
    refine wpAnyH_ready (rs := [3]) (by kernel_rfl) (by simp) ?_
    refine AllReadyH.cons (get_of_drop' rfl) (fun K hK => ?_) AllReadyH.nil
    go_simp
    go_at_call 41
    refine (l2Keep_any al st a1 n1 c1 es r _ HE3.out hr16 HOK.out (by omega) (by omega)).mono ?_
    rintro e w3 ⟨a, n, c, rfl, hn, ho, hb3⟩
    rw [← hcn]
    have HX4 := Lib.hid (rowIs_below' HX3.out hb3)
    have HZ3 := Lib.hid (rowIs_below' HZ3'.out hb3)
    have HB3 := Lib.hid (HB3'.out.trans (hb3.mono HB3'.out.size))
    have HO := Lib.hid (ho (X + 2) hs3)
    obtain ⟨m, hm⟩ : ∃ m, cnt 16 r = m := ⟨_, rfl⟩
    rw [hm]
    have HN := Lib.hid hn; clear hn
    clear ho hb3
    go_wp2_with fail
    refine hK.out _ _ (And.intro (HX4.out.cell (by decide)) (And.intro (HX4.out.cell (by decide)) (HX4.out.cell (by decide)))) (fun hHeld => ?_)
    clear hK K
    try simp only [Act.put, List.setIfInBounds_toArray, List.set_cons_zero, List.set_cons_succ]
    have htp : trimP al st es al (m : Nat) (keepE es r) true := by unfold trimP; rw [if_pos HV.out]; exact ⟨r, HIR.out, rfl, by rw [hm], rfl, rfl⟩
    have HTP := Lib.hid htp; clear htp
    have HOF := Lib.hid (((HO.out.set (j := 0) (u := .int .i64 al) (show X + 1 < X + 2 by omega)).set (j := 1) (u := .int .i64 (m : Int)) (show X + 1 < X + 2 by omega)).set (j := 2) (u := .slice a n c) (show X + 1 < X + 2 by omega))
    have HX5 := Lib.hid (((HX4.out.of_block (Below.heap_setCell _ ⟨X + 1, 0, none⟩ (.int .i64 al) _ (by simp))).of_block (Below.heap_setCell _ ⟨X + 1, 1, none⟩ (.int .i64 (m : Int)) _ (by simp))).of_block (Below.heap_setCell _ ⟨X + 1, 2, none⟩ (.slice a n c) _ (by simp)))
    have HFIN := Lib.hid (rowIs_set3 HZ3.out (.int .i64 al) (.int .i64 (m : Int)) (.slice a n c))
    have HBF := Lib.hid (((HB3.out.setCell (p := ⟨X + 1, 0, none⟩) (by simp; omega) (.int .i64 al)).setCell (p := ⟨X + 1, 1, none⟩) (by simp; omega) (.int .i64 (m : Int))).setCell (p := ⟨X + 1, 2, none⟩) (by simp; omega) (.slice a n c))
    have z0 : (w3).cell? ⟨X + 1, 0, none⟩ = some (.int .i64 0) := HZ3.out.cell (by decide)
    have z1 : (w3).cell? ⟨X + 1, 1, none⟩ = some (.int .i64 0) := HZ3.out.cell (by decide)
    have z2 : (w3).cell? ⟨X + 1, 2, none⟩ = some (.slice none 0 0) := HZ3.out.cell (by decide)
    have zf0 := HZ3.out.frozen 0
    have zf1 := HZ3.out.frozen 1
    have zf2 := HZ3.out.frozen 2
    obtain ⟨wf, hwf⟩ : ∃ wf, (((w3).setCell ⟨X + 1, 0, none⟩ (.int .i64 al)).setCell ⟨X + 1, 1, none⟩ (.int .i64 (m : Int))).setCell ⟨X + 1, 2, none⟩ (.slice a n c) = wf := ⟨_, rfl⟩
    rw [hwf] at HFIN HBF
    have f0 : wf.cell? ⟨X + 1, 0, none⟩ = some (.int .i64 al) := HFIN.out.cell (by decide)
    have f1 : wf.cell? ⟨X + 1, 1, none⟩ = some (.int .i64 (m : Int)) := HFIN.out.cell (by decide)
    have f2 : wf.cell? ⟨X + 1, 2, none⟩ = some (.slice a n c) := HFIN.out.cell (by decide)
    rw [hwf] at HX5 HOF
    refine wpAnyH_ready (rs := [4]) (by kernel_rfl) (by simp) ?_
    refine AllReadyH.cons (get_of_drop' rfl) (fun K hK => ?_) AllReadyH.nil
    go_simp
    try rw [hwf]
    clear hwf
    refine hK.out _ _ (And.intro (HX5.out.cell (by decide)) (And.intro (HX5.out.cell (by decide)) (HX5.out.cell (by decide)))) (fun hHeld => ?_)
    clear hK K
    try simp only [Act.put, List.setIfInBounds_toArray, List.set_cons_zero, List.set_cons_succ]
    refine wpAnyH_ready (rs := [5]) (by kernel_rfl) (by simp) ?_
    refine AllReadyH.cons (get_of_drop' rfl) (fun K hK => ?_) AllReadyH.nil
    go_simp
    refine hK.out _ _ (And.intro (HX5.out.cell (by decide)) (And.intro (HX5.out.cell (by decide)) (HX5.out.cell (by decide)))) (fun hHeld => ?_)
    clear hK K
    try simp only [Act.put, List.setIfInBounds_toArray, List.set_cons_zero, List.set_cons_succ]
    refine wpAnyH_done (by kernel_rfl) ?_ _
    go_wp2
    refine bodyPost_ret (v := .tuple #[.agg #[.int .i64 al, .int .i64 (m : Int), .slice a n c], .bool true]) ?_ rfl ?_
    · simp [results, Tryd.results12, go_sem, f0, f1, f2]
    exact ⟨al, (m : Int), a, n, c, keepE es r, true, rfl, HN.out, fun B hB => HOF.out.base (by omega), hX ▸ HBF.out, HTP.out⟩
set_option maxHeartbeats 4000000 in
theorem implTrim_any (al st : Int) (a1 : Option Addr) (n1 c1 : Nat) (es : List Edg) (w : World) (hT : Tab w) (h : EV w (.slice a1 n1 c1) es) :
    Calls Tryd.prog 11 #[.agg #[.int .i64 al, .int .i64 st, .slice a1 n1 c1]] w (TrimRes al st es w) := by
  obtain ⟨X, hX⟩ : ∃ X, w.heap.size = X := ⟨_, rfl⟩
  have hx0 := sys_cells w al st (.slice a1 n1 c1) 25
  have hb0 := below_new' w 25 #[.int .i64 al, .int .i64 st, .slice a1 n1 c1]
  obtain ⟨wx, hwx⟩ : ∃ wx, (w.alloc (.cells #[.int .i64 al, .int .i64 st, .slice a1 n1 c1] 25)) = wx := ⟨_, rfl⟩
  have hsx : wx.heap.size = w.heap.size + 1 := by rw [← hwx]; simp
  rw [hwx] at hx0 hb0
  have hq0 := sys_cells wx 0 0 (.slice none 0 0) 25
  have hb1 := below_new' wx 25 #[.int .i64 0, .int .i64 0, .slice none 0 0]
  obtain ⟨wz, hwz⟩ : ∃ wz, (wx.alloc (.cells #[.int .i64 0, .int .i64 0, .slice none 0 0] 25)) = wz := ⟨_, rfl⟩
  have hsz : wz.heap.size = w.heap.size + 2 := by rw [← hwz]; simp; omega
  rw [hwz] at hq0 hb1
  rw [hsx] at hq0
  have HB := Lib.hid (hb0.trans (hb1.mono hb0.size))
  rw [hX] at hx0 hsx hsz hq0
  have HX := Lib.hid (rowIs_below' hx0 hb1)
  have HZ := Lib.hid hq0
  have c0 : wz.cell? ⟨X, 0, none⟩ = some (.int .i64 al) := HX.out.cell (by decide)
  have c1' : wz.cell? ⟨X, 1, none⟩ = some (.int .i64 st) := HX.out.cell (by decide)
  have c2' : wz.cell? ⟨X, 2, none⟩ = some (.slice a1 n1 c1) := HX.out.cell (by decide)
  have HE := Lib.hid (EV.below h HB.out)
  clear h hx0 hb0 hq0 hb1
  have HT := Lib.hid (hT.below HB.out)
  cases hv : sysV al st es with
  | false =>
    have htp : trimP al st es 0 0 [] false := by unfold trimP; rw [if_neg (by rw [hv]; decide)]; exact ⟨rfl, rfl, rfl, rfl⟩
    have HTP := Lib.hid htp; clear htp
    have HV := Lib.hid hv; clear hv
    go_enter Tryd.func11, Tryd.ntmps11
    go_wp2_with fail
    refine (implSysValid_any al st a1 n1 c1 es _ HE.out).mono ?_
    rintro e w1 ⟨rfl, hb1⟩
    rw [HV.out]
    have HB3 := Lib.hid (HB.out.trans (hb1.mono HB.out.size))
    have HZ3 := Lib.hid (rowIs_below' HZ.out hb1)
    clear hb1
    have HFIN := Lib.hid (rowIs_set3 HZ3.out (.int .i64 0) (.int .i64 0) (.slice none 0 0))
    have HBF := Lib.hid (((HB3.out.setCell (p := ⟨X + 1, 0, none⟩) (by simp; omega) (.int .i64 0)).setCell (p := ⟨X + 1, 1, none⟩) (by simp; omega) (.int .i64 0)).setCell (p := ⟨X + 1, 2, none⟩) (by simp; omega) (.slice none 0 0))
    have z0 : (w1).cell? ⟨X + 1, 0, none⟩ = some (.int .i64 0) := HZ3.out.cell (by decide)
    have z1 : (w1).cell? ⟨X + 1, 1, none⟩ = some (.int .i64 0) := HZ3.out.cell (by decide)
    have z2 : (w1).cell? ⟨X + 1, 2, none⟩ = some (.slice none 0 0) := HZ3.out.cell (by decide)
    have zf0 := HZ3.out.frozen 0
    have zf1 := HZ3.out.frozen 1
    have zf2 := HZ3.out.frozen 2
    obtain ⟨wf, hwf⟩ : ∃ wf, (((w1).setCell ⟨X + 1, 0, none⟩ (.int .i64 0)).setCell ⟨X + 1, 1, none⟩ (.int .i64 0)).setCell ⟨X + 1, 2, none⟩ (.slice none 0 0) = wf := ⟨_, rfl⟩
    rw [hwf] at HFIN HBF
    have f0 : wf.cell? ⟨X + 1, 0, none⟩ = some (.int .i64 0) := HFIN.out.cell (by decide)
    have f1 : wf.cell? ⟨X + 1, 1, none⟩ = some (.int .i64 0) := HFIN.out.cell (by decide)
    have f2 : wf.cell? ⟨X + 1, 2, none⟩ = some (.slice none 0 0) := HFIN.out.cell (by decide)
    go_wp2
    clear hwf
    refine bodyPost_ret (v := .tuple #[.agg #[.int .i64 0, .int .i64 0, .slice none 0 0], .bool false]) ?_ rfl ?_
    · simp [results, Tryd.results11, go_sem, f0, f1, f2]
    exact ⟨0, 0, none, 0, 0, [], false, rfl, rfl, fun B _ => EOwn.nil _ _, hX ▸ HBF.out, HTP.out⟩
  | true =>
    have hok := sysV_ok hv
    have hlen := sysV_len hv
    obtain ⟨-, hst1, hst2, hfe⟩ := sysV_facts hv
    have hto : ∀ e ∈ es, e.2.2.toNat < st.toNat := fun e he => by
      obtain ⟨-, ⟨q3, q4⟩, -⟩ := edgeOK_facts (hfe e he)
      omega
    obtain ⟨st, rfl⟩ := Int.eq_ofNat_of_zero_le (show 0 ≤ st by omega)
    rw [Int.toNat_natCast] at hto
    have HTO := Lib.hid hto; clear hto
    have HOK := Lib.hid hok; clear hok
    clear hfe
    have HV := Lib.hid hv; clear hv
    go_enter Tryd.func11, Tryd.ntmps11
    go_wp2_with fail
    refine (implSysValid_any al st a1 n1 c1 es _ HE.out).mono ?_
    rintro e w1 ⟨rfl, hb1⟩
    rw [HV.out]
    have HE1 := Lib.hid (EV.below HE.out hb1)
    have HX1 := Lib.hid (rowIs_below' HX.out hb1)
    have HZ1 := Lib.hid (rowIs_below' HZ.out hb1)
    have HB1 := Lib.hid (HB.out.trans (hb1.mono HB.out.size))
    have HBZ1 := Lib.hid hb1
    have hs1 : X + 2 ≤ w1.heap.size := by rw [← hsz]; exact hb1.size
    clear hb1 c0 c1' c2'
    go_wp2_with fail
    refine wp_region_held_drew (S := fun w' => w'.cell? ⟨X, 0, none⟩ = some (.int .i64 al) ∧ w'.cell? ⟨X, 1, none⟩ = some (.int .i64 (st : Int)) ∧ w'.cell? ⟨X, 2, none⟩ = some (.slice a1 n1 c1)) (by kernel_rfl) ⟨HX1.out.cell (by decide), HX1.out.cell (by decide), HX1.out.cell (by decide)⟩ (fun hHeld => ?_)
    obtain ⟨wd, hwd⟩ : ∃ wd, w1.drew = wd := ⟨_, rfl⟩
    have hbd : Below w1.heap.size w1 wd := by rw [← hwd]; exact (Below.refl w1.heap.size w1).drew
    rw [hwd] at hHeld ⊢
    have HE2 := Lib.hid (EV.below HE1.out hbd)
    have HX2 := Lib.hid (rowIs_below' HX1.out hbd)
    have HZ2 := Lib.hid (rowIs_below' HZ1.out hbd)
    have HB2 := Lib.hid (HB1.out.trans (hbd.mono HB1.out.size))
    have HBD := Lib.hid (HBZ1.out.trans (hbd.mono HBZ1.out.size))
    have hs2 : X + 2 ≤ wd.heap.size := Nat.le_trans hs1 hbd.size
    clear hbd hwd
    first | (refine wpAnyH_take (i := 0) (get_of_drop' rfl) (by kernel_rfl) (by kernel_rfl) (by kernel_rfl) (fun _ _ _ h => h) (Or.inr ⟨?_, rfl⟩) hHeld ?_; (focus (simp [Region.wanted, yielded, undef]; done)); (try simp only [Act.put, List.setIfInBounds_toArray, List.set_cons_zero, List.set_cons_succ])) | (refine wpAnyH_take (i := 0) (v := ?_) (get_of_drop' rfl) (by kernel_rfl) (by kernel_rfl) (by kernel_rfl) (fun _ _ _ h => h) (Or.inl ⟨?_, ?_⟩) hHeld ?_; rotate_left; (focus rfl); (focus (intro w hSw; (try dsimp only at hSw); go_simp; (try (with_reducible rfl)))); (try simp only [Act.put, List.setIfInBounds_toArray, List.set_cons_zero, List.set_cons_succ]))
    first | (refine wpAnyH_take (i := 1) (get_of_drop' rfl) (by kernel_rfl) (by kernel_rfl) (by kernel_rfl) (fun _ _ _ h => h) (Or.inr ⟨?_, rfl⟩) hHeld ?_; (focus (simp [Region.wanted, yielded, undef]; done)); (try simp only [Act.put, List.setIfInBounds_toArray, List.set_cons_zero, List.set_cons_succ])) | (refine wpAnyH_take (i := 1) (v := ?_) (get_of_drop' rfl) (by kernel_rfl) (by kernel_rfl) (by kernel_rfl) (fun _ _ _ h => h) (Or.inl ⟨?_, ?_⟩) hHeld ?_; rotate_left; (focus rfl); (focus (intro w hSw; (try dsimp only at hSw); go_simp; (try (with_reducible rfl)))); (try simp only [Act.put, List.setIfInBounds_toArray, List.set_cons_zero, List.set_cons_succ]))
    refine wpAnyH_ready (rs := [2]) (by kernel_rfl) (by simp) ?_
    refine AllReadyH.cons (get_of_drop' rfl) (fun K hK => ?_) AllReadyH.nil
    go_simp
    go_at_call 24
    refine (implReach_any al st a1 n1 c1 es _ (HT.out.below HBD.out) HE2.out).mono ?_
    rintro e w2 ⟨r, rfl, hr, hb2⟩
    have hir : IsReach es r := by unfold reachP at hr; rwa [if_pos HV.out] at hr
    have hr16 : r < 65536 := hir.1
    have hcn : cnt 16 r = cnt st r := by
      have h := cnt_under st r (reach_lt hir st (by omega) HTO.out) (16 - st)
      rwa [show st + (16 - st) = 16 by omega] at h
    have HE3 := Lib.hid (EV.below HE2.out hb2)
    have HX3 := Lib.hid (rowIs_below' HX2.out hb2)
    have HZ3' := Lib.hid (rowIs_below' HZ2.out hb2)
    have HB3' := Lib.hid (HB2.out.trans (hb2.mono HB2.out.size))
    have hs3 : X + 2 ≤ w2.heap.size := Nat.le_trans hs2 hb2.size
    have HIR := Lib.hid hir; clear hir
    clear hr hb2
    go_wp2_with fail
    refine hK.out _ _ (And.intro (HX3.out.cell (by decide)) (And.intro (HX3.out.cell (by decide)) (HX3.out.cell (by decide)))) (fun hHeld => ?_)
    clear hK K
    try simp only [Act.put, List.setIfInBounds_toArray, List.set_cons_zero, List.set_cons_succ]
    refine wpAnyH_ready (rs := [3]) (by kernel_rfl) (by simp) ?_
    refine AllReadyH.cons (get_of_drop' rfl) (fun K hK => ?_) AllReadyH.nil
    go_simp
    go_at_call 39
    refine (subSystem_any al st a1 n1 c1 es r _ HE3.out hr16 HOK.out (by omega)).mono ?_
    rintro e w3 ⟨a, n, c, rfl, hn, ho, hb3⟩
    skip
    have HX4 := Lib.hid (rowIs_below' HX3.out hb3)
    have HZ3 := Lib.hid (rowIs_below' HZ3'.out hb3)
    have HB3 := Lib.hid (HB3'.out.trans (hb3.mono HB3'.out.size))
    have HO := Lib.hid (ho (X + 2) hs3)
    obtain ⟨m, hm⟩ : ∃ m, cnt 16 r = m := ⟨_, rfl⟩
    rw [hm]
    have HN := Lib.hid hn; clear hn
    clear ho hb3
    go_wp2_with fail
    refine hK.out _ _ (And.intro (HX4.out.cell (by decide)) (And.intro (HX4.out.cell (by decide)) (HX4.out.cell (by decide)))) (fun hHeld => ?_)
    clear hK K
    try simp only [Act.put, List.setIfInBounds_toArray, List.set_cons_zero, List.set_cons_succ]
    have htp : trimP al st es al (m : Nat) (keepE es r) true := by unfold trimP; rw [if_pos HV.out]; exact ⟨r, HIR.out, rfl, by rw [hm], rfl, rfl⟩
    have HTP := Lib.hid htp; clear htp
    have HOF := Lib.hid (((HO.out.set (j := 0) (u := .int .i64 al) (show X + 1 < X + 2 by omega)).set (j := 1) (u := .int .i64 (m : Int)) (show X + 1 < X + 2 by omega)).set (j := 2) (u := .slice a n c) (show X + 1 < X + 2 by omega))
    have HX5 := Lib.hid (((HX4.out.of_block (Below.heap_setCell _ ⟨X + 1, 0, none⟩ (.int .i64 al) _ (by simp))).of_block (Below.heap_setCell _ ⟨X + 1, 1, none⟩ (.int .i64 (m : Int)) _ (by simp))).of_block (Below.heap_setCell _ ⟨X + 1, 2, none⟩ (.slice a n c) _ (by simp)))
    have HFIN := Lib.hid (rowIs_set3 HZ3.out (.int .i64 al) (.int .i64 (m : Int)) (.slice a n c))
    have HBF := Lib.hid (((HB3.out.setCell (p := ⟨X + 1, 0, none⟩) (by simp; omega) (.int .i64 al)).setCell (p := ⟨X + 1, 1, none⟩) (by simp; omega) (.int .i64 (m : Int))).setCell (p := ⟨X + 1, 2, none⟩) (by simp; omega) (.slice a n c))
    have z0 : (w3).cell? ⟨X + 1, 0, none⟩ = some (.int .i64 0) := HZ3.out.cell (by decide)
    have z1 : (w3).cell? ⟨X + 1, 1, none⟩ = some (.int .i64 0) := HZ3.out.cell (by decide)
    have z2 : (w3).cell? ⟨X + 1, 2, none⟩ = some (.slice none 0 0) := HZ3.out.cell (by decide)
    have zf0 := HZ3.out.frozen 0
    have zf1 := HZ3.out.frozen 1
    have zf2 := HZ3.out.frozen 2
    obtain ⟨wf, hwf⟩ : ∃ wf, (((w3).setCell ⟨X + 1, 0, none⟩ (.int .i64 al)).setCell ⟨X + 1, 1, none⟩ (.int .i64 (m : Int))).setCell ⟨X + 1, 2, none⟩ (.slice a n c) = wf := ⟨_, rfl⟩
    rw [hwf] at HFIN HBF
    have f0 : wf.cell? ⟨X + 1, 0, none⟩ = some (.int .i64 al) := HFIN.out.cell (by decide)
    have f1 : wf.cell? ⟨X + 1, 1, none⟩ = some (.int .i64 (m : Int)) := HFIN.out.cell (by decide)
    have f2 : wf.cell? ⟨X + 1, 2, none⟩ = some (.slice a n c) := HFIN.out.cell (by decide)
    rw [hwf] at HX5 HOF
    refine wpAnyH_ready (rs := [4]) (by kernel_rfl) (by simp) ?_
    refine AllReadyH.cons (get_of_drop' rfl) (fun K hK => ?_) AllReadyH.nil
    go_simp
    try rw [hwf]
    clear hwf
    refine hK.out _ _ (And.intro (HX5.out.cell (by decide)) (And.intro (HX5.out.cell (by decide)) (HX5.out.cell (by decide)))) (fun hHeld => ?_)
    clear hK K
    try simp only [Act.put, List.setIfInBounds_toArray, List.set_cons_zero, List.set_cons_succ]
    refine wpAnyH_ready (rs := [5]) (by kernel_rfl) (by simp) ?_
    refine AllReadyH.cons (get_of_drop' rfl) (fun K hK => ?_) AllReadyH.nil
    go_simp
    refine hK.out _ _ (And.intro (HX5.out.cell (by decide)) (And.intro (HX5.out.cell (by decide)) (HX5.out.cell (by decide)))) (fun hHeld => ?_)
    clear hK K
    try simp only [Act.put, List.setIfInBounds_toArray, List.set_cons_zero, List.set_cons_succ]
    refine wpAnyH_done (by kernel_rfl) ?_ _
    go_wp2
    refine bodyPost_ret (v := .tuple #[.agg #[.int .i64 al, .int .i64 (m : Int), .slice a n c], .bool true]) ?_ rfl ?_
    · simp [results, Tryd.results11, go_sem, f0, f1, f2]
    exact ⟨al, (m : Int), a, n, c, keepE es r, true, rfl, HN.out, fun B hB => HOF.out.base (by omega), hX ▸ HBF.out, HTP.out⟩
end Go.Proofs.YtknhgfmjchfnjaaDoor
