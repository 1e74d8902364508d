/- The part of a system that has the states of a set: the reference's l2Keep. -/
import Derived.Test.YtknhgfmjchfnjaaDoorSysKeep

namespace Go.Proofs.YtknhgfmjchfnjaaDoor
open Go.RowKit
set_option linter.unusedVariables false
set_option linter.unusedSimpArgs false
set_option maxRecDepth 100000

set_option maxHeartbeats 8000000 in
theorem l2Keep_any (al : Int) (st : Nat) (a1 : Option Addr) (n1 c1 : Nat) (es : List Edg) (s : Nat) (w : World) (h : EV w (.slice a1 n1 c1) es) (hs : s < 65536) (hok : OkE es) (hes : es.length ≤ 100000) (hst16 : st ≤ 16) :
    Calls Tryd.prog 41 #[.agg #[.int .i64 al, .int .i64 (st : Int), .slice a1 n1 c1], .int .i64 s] w (SubRes al (cnt st s : Nat) (keepE es s) w) := by
  obtain ⟨hn, hcap, hmax, hcell⟩ := h.at
  have hx0 := sys_cells w al st (.slice a1 n1 c1) 25
  have hb0 := below_new' w 25 #[.int .i64 al, .int .i64 st, .slice a1 n1 c1]
  obtain ⟨wx, hwx⟩ : ∃ wx, (w.alloc (.cells #[.int .i64 al, .int .i64 st, .slice a1 n1 c1] 25)) = wx := ⟨_, rfl⟩
  have hsx : wx.heap.size = w.heap.size + 1 := by rw [← hwx]; simp
  rw [hwx] at hx0 hb0
  have hq0 := sys_cells wx 0 0 (.slice none 0 0) 25
  have hb1 := below_new' wx 25 #[.int .i64 0, .int .i64 0, .slice none 0 0]
  obtain ⟨wz, hwz⟩ : ∃ wz, (wx.alloc (.cells #[.int .i64 0, .int .i64 0, .slice none 0 0] 25)) = wz := ⟨_, rfl⟩
  have hsz : wz.heap.size = w.heap.size + 2 := by rw [← hwz]; simp; omega
  rw [hwz] at hq0 hb1
  obtain ⟨X, hX⟩ : ∃ X, w.heap.size = X := ⟨_, rfl⟩
  rw [hsx] at hq0
  rw [hX] at hx0 hsx hsz hq0
  have hX1 := rowIs_below' hx0 hb1
  have HBz := Lib.hid (hb0.trans (hb1.mono hb0.size))
  have HQz := Lib.hid hq0
  have HXz := Lib.hid hX1
  have c0 : wz.cell? ⟨X, 0, none⟩ = some (.int .i64 al) := hX1.cell (by decide)
  have c1' : wz.cell? ⟨X, 1, none⟩ = some (.int .i64 st) := hX1.cell (by decide)
  have c2' : wz.cell? ⟨X, 2, none⟩ = some (.slice a1 n1 c1) := hX1.cell (by decide)
  have HC := Lib.hid hcell; clear hcell
  have HN := Lib.hid hn; clear hn
  have HOK := Lib.hid hok; clear hok
  have hwu : IntKind.u64.wrap (s : Int) = (s : Int) := wrapU s (by omega)
  have HONE := Lib.hid (fun wq => l2Rank_any s st hs hst16 wq)
  obtain ⟨m, hm⟩ : ∃ m, cnt st s = m := ⟨_, rfl⟩
  rw [hm] at HONE ⊢
  clear h hx0 hb0 hq0 hb1 hX1 hm
  go_enter Tryd.func41, Tryd.ntmps41
  go_wp2_with fail
  go_cut [5] from 8 to 15 (fun s5 wc => s5 = .pointer (some ⟨X + 2, 0, none⟩) ∧ Below wz.heap.size wz wc ∧ wc.heap.size = X + 3 ∧ wc.rowIs (X + 2) 25 3 (fun i => #[.int .i64 al, .int .i64 m, .slice none 0 0][i]?.getD undef))
  case first =>
    refine wp_region_held_drew (S := fun w' => w'.cell? ⟨X, 0, none⟩ = some (.int .i64 al) ∧ w'.cell? ⟨X, 1, none⟩ = some (.int .i64 st)) (by kernel_rfl) ⟨c0, c1'⟩ (fun hHeld => ?_)
    first | (refine wpAnyH_take (i := 0) (get_of_drop' rfl) (by kernel_rfl) (by kernel_rfl) (by kernel_rfl) (fun _ _ _ h => h) (Or.inr ⟨?_, rfl⟩) hHeld ?_; (focus (simp [Region.wanted, yielded, undef]; done)); (try simp only [Act.put, List.setIfInBounds_toArray, List.set_cons_zero, List.set_cons_succ])) | (refine wpAnyH_take (i := 0) (v := ?_) (get_of_drop' rfl) (by kernel_rfl) (by kernel_rfl) (by kernel_rfl) (fun _ _ _ h => h) (Or.inl ⟨?_, ?_⟩) hHeld ?_; rotate_left; (focus rfl); (focus (intro w hSw; (try dsimp only at hSw); go_simp; (try (with_reducible rfl)))); (try simp only [Act.put, List.setIfInBounds_toArray, List.set_cons_zero, List.set_cons_succ]))
    first | (refine wpAnyH_take (i := 1) (get_of_drop' rfl) (by kernel_rfl) (by kernel_rfl) (by kernel_rfl) (fun _ _ _ h => h) (Or.inr ⟨?_, rfl⟩) hHeld ?_; (focus (simp [Region.wanted, yielded, undef]; done)); (try simp only [Act.put, List.setIfInBounds_toArray, List.set_cons_zero, List.set_cons_succ])) | (refine wpAnyH_take (i := 1) (v := ?_) (get_of_drop' rfl) (by kernel_rfl) (by kernel_rfl) (by kernel_rfl) (fun _ _ _ h => h) (Or.inl ⟨?_, ?_⟩) hHeld ?_; rotate_left; (focus rfl); (focus (intro w hSw; (try dsimp only at hSw); go_simp; (try (with_reducible rfl)))); (try simp only [Act.put, List.setIfInBounds_toArray, List.set_cons_zero, List.set_cons_succ]))
    first | (refine wpAnyH_take (i := 2) (get_of_drop' rfl) (by kernel_rfl) (by kernel_rfl) (by kernel_rfl) (fun _ _ _ h => h) (Or.inr ⟨?_, rfl⟩) hHeld ?_; (focus (simp [Region.wanted, yielded, undef]; done)); (try simp only [Act.put, List.setIfInBounds_toArray, List.set_cons_zero, List.set_cons_succ])) | (refine wpAnyH_take (i := 2) (v := ?_) (get_of_drop' rfl) (by kernel_rfl) (by kernel_rfl) (by kernel_rfl) (fun _ _ _ h => h) (Or.inl ⟨?_, ?_⟩) hHeld ?_; rotate_left; (focus rfl); (focus (intro w hSw; (try dsimp only at hSw); go_simp; (try (with_reducible rfl)))); (try simp only [Act.put, List.setIfInBounds_toArray, List.set_cons_zero, List.set_cons_succ]))
    first | (refine wpAnyH_take (i := 3) (get_of_drop' rfl) (by kernel_rfl) (by kernel_rfl) (by kernel_rfl) (fun _ _ _ h => h) (Or.inr ⟨?_, rfl⟩) hHeld ?_; (focus (simp [Region.wanted, yielded, undef]; done)); (try simp only [Act.put, List.setIfInBounds_toArray, List.set_cons_zero, List.set_cons_succ])) | (refine wpAnyH_take (i := 3) (v := ?_) (get_of_drop' rfl) (by kernel_rfl) (by kernel_rfl) (by kernel_rfl) (fun _ _ _ h => h) (Or.inl ⟨?_, ?_⟩) hHeld ?_; rotate_left; (focus rfl); (focus (intro w hSw; (try dsimp only at hSw); go_simp; (try (with_reducible rfl)))); (try simp only [Act.put, List.setIfInBounds_toArray, List.set_cons_zero, List.set_cons_succ]))
    first | (refine wpAnyH_take (i := 4) (get_of_drop' rfl) (by kernel_rfl) (by kernel_rfl) (by kernel_rfl) (fun _ _ _ h => h) (Or.inr ⟨?_, rfl⟩) hHeld ?_; (focus (simp [Region.wanted, yielded, undef]; done)); (try simp only [Act.put, List.setIfInBounds_toArray, List.set_cons_zero, List.set_cons_succ])) | (refine wpAnyH_take (i := 4) (v := ?_) (get_of_drop' rfl) (by kernel_rfl) (by kernel_rfl) (by kernel_rfl) (fun _ _ _ h => h) (Or.inl ⟨?_, ?_⟩) hHeld ?_; rotate_left; (focus rfl); (focus (intro w hSw; (try dsimp only at hSw); go_simp; (try (with_reducible rfl)))); (try simp only [Act.put, List.setIfInBounds_toArray, List.set_cons_zero, List.set_cons_succ]))
    obtain ⟨w6, hw6⟩ : ∃ w6, (wz.drew.alloc (.cells #[.int .i64 0, .int .i64 0, .slice none 0 0] 25)) = w6 := ⟨_, rfl⟩
    have hb6 := below_new' wz.drew 25 #[.int .i64 0, .int .i64 0, .slice none 0 0]
    have hr6 := sys_cells wz.drew 0 0 (.slice none 0 0) 25
    have hs6 : w6.heap.size = X + 3 := by rw [← hw6]; simp; omega
    rw [hw6] at hb6 hr6
    have hr6' : w6.rowIs (X + 2) 25 3 (fun i => #[.int .i64 0, .int .i64 0, .slice none 0 0][i]?.getD undef) := by rw [← hsz]; exact hr6
    have hbz6 : Below wz.heap.size wz w6 := ((Below.refl wz.heap.size wz).drew).trans hb6
    have c6 : w6.cell? ⟨X, 0, none⟩ = some (.int .i64 al) ∧ w6.cell? ⟨X, 1, none⟩ = some (.int .i64 (st : Int)) := ⟨keep_cell hbz6 c0, keep_cell hbz6 c1'⟩
    have s0 : w6.cell? ⟨X + 2, 0, none⟩ = some (.int .i64 0) := hr6'.cell (by decide)
    have s1 : w6.cell? ⟨X + 2, 1, none⟩ = some (.int .i64 0) := hr6'.cell (by decide)
    have s2 : w6.cell? ⟨X + 2, 2, none⟩ = some (.slice none 0 0) := hr6'.cell (by decide)
    have sf0 := hr6'.frozen 0
    have sf1 := hr6'.frozen 1
    have sf2 := hr6'.frozen 2
    have HRF := Lib.hid (rowIs_set3 hr6' (.int .i64 al) (.int .i64 m) (.slice none 0 0))
    have HBF := Lib.hid (show Below wz.heap.size wz (((w6.setCell ⟨X + 2, 0, none⟩ (.int .i64 al)).setCell ⟨X + 2, 1, none⟩ (.int .i64 m)).setCell ⟨X + 2, 2, none⟩ (.slice none 0 0)) from ((hbz6.setCell (p := ⟨X + 2, 0, none⟩) (by simp; omega) _).setCell (p := ⟨X + 2, 1, none⟩) (by simp; omega) _).setCell (p := ⟨X + 2, 2, none⟩) (by simp; omega) _)
    have HCF := Lib.hid (And.intro (keep_cell HBF.out c0) (keep_cell HBF.out c1'))
    refine wpAnyH_ready (rs := [5, 7]) (by kernel_rfl) (by simp) ?_
    refine AllReadyH.cons (get_of_drop' rfl) (fun K hK => ?_) ?_
    · go_simp
      go_at_call 77
      refine (HONE.out _).mono ?_
      rintro e w' ⟨rfl, rfl⟩
      go_wp2_with fail
      refine hK.out _ _ (And.intro c0 c1') (fun hHeld => ?_)
      clear hK K
      try simp only [Act.put, List.setIfInBounds_toArray, List.set_cons_zero, List.set_cons_succ]
      first | (refine wpAnyH_take (i := 6) (get_of_drop' rfl) (by kernel_rfl) (by kernel_rfl) (by kernel_rfl) (fun _ _ _ h => h) (Or.inr ⟨?_, rfl⟩) hHeld ?_; (focus (simp [Region.wanted, yielded, undef]; done)); (try simp only [Act.put, List.setIfInBounds_toArray, List.set_cons_zero, List.set_cons_succ])) | (refine wpAnyH_take (i := 6) (v := ?_) (get_of_drop' rfl) (by kernel_rfl) (by kernel_rfl) (by kernel_rfl) (fun _ _ _ h => h) (Or.inl ⟨?_, ?_⟩) hHeld ?_; rotate_left; (focus rfl); (focus (intro w hSw; (try dsimp only at hSw); go_simp; (try (with_reducible rfl)))); (try simp only [Act.put, List.setIfInBounds_toArray, List.set_cons_zero, List.set_cons_succ]))
      refine wpAnyH_ready (rs := [7]) (by kernel_rfl) (by simp) ?_
      refine AllReadyH.cons (get_of_drop' rfl) (fun K hK => ?_) AllReadyH.nil
      go_simp
      refine hK.out _ _ c6 (fun hHeld => ?_)
      clear hK K
      try simp only [Act.put, List.setIfInBounds_toArray, List.set_cons_zero, List.set_cons_succ]
      refine wpAnyH_ready (rs := [8]) (by kernel_rfl) (by simp) ?_
      refine AllReadyH.cons (get_of_drop' rfl) (fun K hK => ?_) AllReadyH.nil
      go_simp
      refine hK.out _ _ HCF.out (fun hHeld => ?_)
      clear hK K
      try simp only [Act.put, List.setIfInBounds_toArray, List.set_cons_zero, List.set_cons_succ]
      refine wpAnyH_done (by kernel_rfl) ?_ _
      go_wp2_with fail
      go_meet
      case rel => exact ⟨rfl, HBF.out, by simpa using hs6, HRF.out⟩
    · refine AllReadyH.cons (get_of_drop' rfl) (fun K hK => ?_) AllReadyH.nil
      go_simp
      refine hK.out _ _ c6 (fun hHeld => ?_)
      clear hK K
      try simp only [Act.put, List.setIfInBounds_toArray, List.set_cons_zero, List.set_cons_succ]
      refine wpAnyH_ready (rs := [5]) (by kernel_rfl) (by simp) ?_
      refine AllReadyH.cons (get_of_drop' rfl) (fun K hK => ?_) AllReadyH.nil
      go_simp
      go_at_call 77
      refine (HONE.out _).mono ?_
      rintro e w' ⟨rfl, rfl⟩
      go_wp2_with fail
      refine hK.out _ _ c6 (fun hHeld => ?_)
      clear hK K
      try simp only [Act.put, List.setIfInBounds_toArray, List.set_cons_zero, List.set_cons_succ]
      first | (refine wpAnyH_take (i := 6) (get_of_drop' rfl) (by kernel_rfl) (by kernel_rfl) (by kernel_rfl) (fun _ _ _ h => h) (Or.inr ⟨?_, rfl⟩) hHeld ?_; (focus (simp [Region.wanted, yielded, undef]; done)); (try simp only [Act.put, List.setIfInBounds_toArray, List.set_cons_zero, List.set_cons_succ])) | (refine wpAnyH_take (i := 6) (v := ?_) (get_of_drop' rfl) (by kernel_rfl) (by kernel_rfl) (by kernel_rfl) (fun _ _ _ h => h) (Or.inl ⟨?_, ?_⟩) hHeld ?_; rotate_left; (focus rfl); (focus (intro w hSw; (try dsimp only at hSw); go_simp; (try (with_reducible rfl)))); (try simp only [Act.put, List.setIfInBounds_toArray, List.set_cons_zero, List.set_cons_succ]))
      refine wpAnyH_ready (rs := [8]) (by kernel_rfl) (by simp) ?_
      refine AllReadyH.cons (get_of_drop' rfl) (fun K hK => ?_) AllReadyH.nil
      go_simp
      refine hK.out _ _ HCF.out (fun hHeld => ?_)
      clear hK K
      try simp only [Act.put, List.setIfInBounds_toArray, List.set_cons_zero, List.set_cons_succ]
      refine wpAnyH_done (by kernel_rfl) ?_ _
      go_wp2_with fail
      go_meet
      case rel => exact ⟨rfl, HBF.out, by simpa using hs6, HRF.out⟩
  case rest =>
    obtain ⟨rfl, hbc, hsc, hrc⟩ := hcut
    obtain ⟨S, hS⟩ : ∃ S, X + 2 = S := ⟨_, rfl⟩
    rw [hS] at hrc ⊢
    have hSL : S < wc.heap.size := by omega
    have hwS : w.heap.size ≤ S := by omega
    have HBL := Lib.hid (HBz.out.trans (hbc.mono HBz.out.size))
    have HQL := Lib.hid (rowIs_below' HQz.out hbc)
    have HRL := Lib.hid hrc
    have x2 : wc.cell? ⟨X, 2, none⟩ = some (.slice a1 n1 c1) := keep_cell hbc c2'
    clear hbc hrc c0 c1' c2' HBz HQz HXz HONE hwu
    go_wp2
    go_loopw [6] (fun i wr => ∃ (k n c : Nat) (a : Option Addr), i = .int .i64 k ∧ k ≤ n1 ∧ PSt S al m wc wr (.slice a n c) (keepE (es.take k) s) ∧ n = (keepE (es.take k) s).length) (fun i _ => n1 - (intOf i).toNat)
    case atStart => exact ⟨0, 0, 0, none, rfl, Nat.zero_le _, ⟨HRL.out, EOwn.nil _ _, hSL, Onl.refl _ _⟩, rfl⟩
    case round =>
      obtain ⟨k, n, c, a, rfl, hk, hp, hnk⟩ := hrel
      have hbx := below_onl HBL.out hp.2.2.2 (fun q hq => by subst hq; exact hwS)
      have hkl := keepE_len (es.take k) s
      have hkt : (es.take k).length ≤ k := by rw [List.length_take]; omega
      have x2' : wr.cell? ⟨X, 2, none⟩ = some (.slice a1 n1 c1) := hp.2.2.2.cell x2 (fun e => by omega)
      have HNK := Lib.hid hnk; clear hnk
      by_cases hlt : k < n1
      · rcases HC.out with h0 | ⟨b, off, rfl, hb, hc⟩
        · omega
        · have hu := hc k hlt
          rw [← cell_below hbx hb, ← cell_below hbx hb, ← cell_below hbx hb] at hu
          have hlt' : k < es.length := by rw [← HN.out]; exact hlt
          have htk := take_snoc_e es k hlt'
          have hek := HOK.out.at k hlt'
          obtain ⟨f, l, t, he⟩ : ∃ f l t, Edg.at es k = (f, l, t) := ⟨_, _, _, rfl⟩
          rw [he] at hu hek htk
          obtain ⟨e0, e1, e2⟩ := hu
          dsimp only at e0 e1 e2 hek
          obtain ⟨⟨hf0, hf1⟩, -, ht0, ht1⟩ := hek
          obtain ⟨f, rfl⟩ := Int.eq_ofNat_of_zero_le hf0
          obtain ⟨t, rfl⟩ := Int.eq_ofNat_of_zero_le ht0
          have hlb : (keepE (es.take k) s).length ≤ 1000000 := by omega
          obtain ⟨x5, hx5⟩ : ∃ x5, wr.heap.size = x5 := ⟨_, rfl⟩
          obtain ⟨wq, hwq⟩ : ∃ wq, (wr.alloc (.cells #[.int .i64 (f : Int), .int .i64 l, .int .i64 (t : Int)] 58)) = wq := ⟨_, rfl⟩
          have hr5 := own_cells' wr #[.int .i64 (f : Int), .int .i64 l, .int .i64 (t : Int)] 58 3 rfl
          have hb5 := below_new' wr 58 #[.int .i64 (f : Int), .int .i64 l, .int .i64 (t : Int)]
          rw [hx5] at hr5
          rw [hwq] at hr5 hb5
          have g0 : wq.cell? ⟨x5, 0, none⟩ = some (.int .i64 (f : Int)) := hr5.cell (by decide)
          have g1 : wq.cell? ⟨x5, 1, none⟩ = some (.int .i64 l) := hr5.cell (by decide)
          have g2 : wq.cell? ⟨x5, 2, none⟩ = some (.int .i64 (t : Int)) := hr5.cell (by decide)
          have hown5 : ∀ g, (Value.slice a n c).ownBlock = some g → g < x5 := fun g hg => by rw [← hx5]; exact (World.ownsRow.lt hp.2.1 g hg).2
          have hpq := hp.below hb5
          have q2 : wq.cell? ⟨S, 2, none⟩ = some (.slice a n c) := hpq.1.cell (by decide)
          have hLw : wc.heap.size ≤ wq.heap.size := hpq.2.2.2.2.2.2.1
          have hx5q : x5 < wq.heap.size := World.rowIs.lt hr5
          have hx5S : S < x5 := by have := World.rowIs.lt hp.1; omega
          have HPq := Lib.hid hpq
          have HR5 := Lib.hid hr5
          have HTK := Lib.hid htk; clear htk
          clear hc he hlt' hp hbx hb5 hr5 hpq hkl hkt
          cases hhf : hasB (s : Int) (f : Int) with
          | false =>
            have hst : keepE (es.take (k + 1)) s = keepE (es.take k) s := by rw [HTK.out, keepE_no _ _ _ (by rw [hhf]; rfl)]
            have HST := Lib.hid hst; clear hst
            have HHF := Lib.hid hhf; clear hhf
            go_wp2_with (go_at_call 78; (with_reducible refine (l1Has_any _ _ (by omega) (by omega) (by omega) (by omega) _).mono ?_); rintro e w' ⟨rfl, rfl⟩; rw [HHF.out])
            go_roundw
            case rel => exact ⟨k + 1, n, c, a, by go_num, by omega, by rw [HST.out]; exact HPq.out, by rw [HST.out]; exact HNK.out⟩
            case measure => simp [intOf] <;> omega
          | true =>
            cases hht : hasB (s : Int) (t : Int) with
            | false =>
              have hst : keepE (es.take (k + 1)) s = keepE (es.take k) s := by rw [HTK.out, keepE_no _ _ _ (by rw [hhf, hht]; rfl)]
              have HST := Lib.hid hst; clear hst
              have HHF := Lib.hid hhf; clear hhf
              have HHT := Lib.hid hht; clear hht
              go_wp2_with (go_at_call 78; refine (l1Has_any _ _ (by omega) (by omega) (by omega) (by omega) _).mono ?_; rintro e w9 ⟨rfl, rfl⟩; (first | rw [HHT.out] | rw [HHF.out]))
              go_roundw
              case rel => exact ⟨k + 1, n, c, a, by go_num, by omega, by rw [HST.out]; exact HPq.out, by rw [HST.out]; exact HNK.out⟩
              case measure => simp [intOf] <;> omega
            | true =>
              have hst : keepE (es.take (k + 1)) s = keepE (es.take k) s ++ [((cnt f s : Int), l, (cnt t s : Int))] := by rw [HTK.out, keepE_yes _ _ _ hhf hht]; rfl
              have HST := Lib.hid hst; clear hst
              have HHF := Lib.hid hhf; clear hhf
              have HHT := Lib.hid hht; clear hht
              have hrf := fun wq => l2Rank_any s f hs (by omega) wq
              have hrt := fun wq => l2Rank_any s t hs (by omega) wq
              obtain ⟨cf, hcf⟩ : ∃ cf, cnt f s = cf := ⟨_, rfl⟩
              obtain ⟨ct, hct⟩ : ∃ ct, cnt t s = ct := ⟨_, rfl⟩
              rw [hcf] at hrf HST
              rw [hct] at hrt HST
              have HRF := Lib.hid hrf
              have HRT := Lib.hid hrt
              clear hrf hrt hcf hct
              go_wp2_with (go_at_call 78; refine (l1Has_any _ _ (by omega) (by omega) (by omega) (by omega) _).mono ?_; rintro e w9 ⟨rfl, rfl⟩; (first | rw [HHT.out] | rw [HHF.out]))
              obtain ⟨wd, hwd⟩ : ∃ wd, wq.drew = wd := ⟨_, rfl⟩
              have hbd : Below wq.heap.size wq wd := by rw [← hwd]; exact (Below.refl wq.heap.size wq).drew
              have hpd := HPq.out.below hbd
              have hrd := rowIs_below' HR5.out hbd
              have hsd : wd.cell? ⟨x5, 0, none⟩ = some (.int .i64 (f : Int)) ∧ wd.cell? ⟨x5, 1, none⟩ = some (.int .i64 l) ∧ wd.cell? ⟨x5, 2, none⟩ = some (.int .i64 (t : Int)) := ⟨hrd.cell (by decide), hrd.cell (by decide), hrd.cell (by decide)⟩
              have v2 : wd.cell? ⟨S, 2, none⟩ = some (.slice a n c) := hpd.1.cell (by decide)
              have hLd : wc.heap.size ≤ wd.heap.size := hpd.2.2.2.2.2.2.1
              have hbA := below_new' wd 58 #[.int .i64 (cf : Int), .int .i64 l, .int .i64 (ct : Int)]
              have HSA := Lib.hid (show (wd.alloc (.cells #[.int .i64 (cf : Int), .int .i64 l, .int .i64 (ct : Int)] 58)).cell? ⟨x5, 0, none⟩ = some (.int .i64 (f : Int)) ∧ (wd.alloc (.cells #[.int .i64 (cf : Int), .int .i64 l, .int .i64 (ct : Int)] 58)).cell? ⟨x5, 1, none⟩ = some (.int .i64 l) ∧ (wd.alloc (.cells #[.int .i64 (cf : Int), .int .i64 l, .int .i64 (ct : Int)] 58)).cell? ⟨x5, 2, none⟩ = some (.int .i64 (t : Int)) from ⟨keep_cell hbA hsd.1, keep_cell hbA hsd.2.1, keep_cell hbA hsd.2.2⟩)
              have v2A : (wd.alloc (.cells #[.int .i64 (cf : Int), .int .i64 l, .int .i64 (ct : Int)] 58)).cell? ⟨S, 2, none⟩ = some (.slice a n c) := keep_cell hbA v2
              have HSD := Lib.hid hsd
              have HPd := Lib.hid hpd
              have HRd := Lib.hid hrd
              refine wp_region_held_drew (S := fun w' => w'.cell? ⟨x5, 0, none⟩ = some (.int .i64 (f : Int)) ∧ w'.cell? ⟨x5, 1, none⟩ = some (.int .i64 l) ∧ w'.cell? ⟨x5, 2, none⟩ = some (.int .i64 (t : Int))) (by kernel_rfl) ⟨g0, g1, g2⟩ (fun hHeld => ?_)
              rw [hwd] at hHeld ⊢
              clear hwd hbd hpd hrd hsd hbA g0 g1 g2 q2
              first | (refine wpAnyH_take (i := 0) (get_of_drop' rfl) (by kernel_rfl) (by kernel_rfl) (by kernel_rfl) (fun _ _ _ h => h) (Or.inr ⟨?_, rfl⟩) hHeld ?_; (focus (simp [Region.wanted, yielded, undef]; done)); (try simp only [Act.put, List.setIfInBounds_toArray, List.set_cons_zero, List.set_cons_succ])) | (refine wpAnyH_take (i := 0) (v := ?_) (get_of_drop' rfl) (by kernel_rfl) (by kernel_rfl) (by kernel_rfl) (fun _ _ _ h => h) (Or.inl ⟨?_, ?_⟩) hHeld ?_; rotate_left; (focus rfl); (focus (intro w hSw; (try dsimp only at hSw); go_simp; (try (with_reducible rfl)))); (try simp only [Act.put, List.setIfInBounds_toArray, List.set_cons_zero, List.set_cons_succ]))
              first | (refine wpAnyH_take (i := 2) (get_of_drop' rfl) (by kernel_rfl) (by kernel_rfl) (by kernel_rfl) (fun _ _ _ h => h) (Or.inr ⟨?_, rfl⟩) hHeld ?_; (focus (simp [Region.wanted, yielded, undef]; done)); (try simp only [Act.put, List.setIfInBounds_toArray, List.set_cons_zero, List.set_cons_succ])) | (refine wpAnyH_take (i := 2) (v := ?_) (get_of_drop' rfl) (by kernel_rfl) (by kernel_rfl) (by kernel_rfl) (fun _ _ _ h => h) (Or.inl ⟨?_, ?_⟩) hHeld ?_; rotate_left; (focus rfl); (focus (intro w hSw; (try dsimp only at hSw); go_simp; (try (with_reducible rfl)))); (try simp only [Act.put, List.setIfInBounds_toArray, List.set_cons_zero, List.set_cons_succ]))
              first | (refine wpAnyH_take (i := 3) (get_of_drop' rfl) (by kernel_rfl) (by kernel_rfl) (by kernel_rfl) (fun _ _ _ h => h) (Or.inr ⟨?_, rfl⟩) hHeld ?_; (focus (simp [Region.wanted, yielded, undef]; done)); (try simp only [Act.put, List.setIfInBounds_toArray, List.set_cons_zero, List.set_cons_succ])) | (refine wpAnyH_take (i := 3) (v := ?_) (get_of_drop' rfl) (by kernel_rfl) (by kernel_rfl) (by kernel_rfl) (fun _ _ _ h => h) (Or.inl ⟨?_, ?_⟩) hHeld ?_; rotate_left; (focus rfl); (focus (intro w hSw; (try dsimp only at hSw); go_simp; (try (with_reducible rfl)))); (try simp only [Act.put, List.setIfInBounds_toArray, List.set_cons_zero, List.set_cons_succ]))
              first | (refine wpAnyH_take (i := 4) (get_of_drop' rfl) (by kernel_rfl) (by kernel_rfl) (by kernel_rfl) (fun _ _ _ h => h) (Or.inr ⟨?_, rfl⟩) hHeld ?_; (focus (simp [Region.wanted, yielded, undef]; done)); (try simp only [Act.put, List.setIfInBounds_toArray, List.set_cons_zero, List.set_cons_succ])) | (refine wpAnyH_take (i := 4) (v := ?_) (get_of_drop' rfl) (by kernel_rfl) (by kernel_rfl) (by kernel_rfl) (fun _ _ _ h => h) (Or.inl ⟨?_, ?_⟩) hHeld ?_; rotate_left; (focus rfl); (focus (intro w hSw; (try dsimp only at hSw); go_simp; (try (with_reducible rfl)))); (try simp only [Act.put, List.setIfInBounds_toArray, List.set_cons_zero, List.set_cons_succ]))
              first | (refine wpAnyH_take (i := 6) (get_of_drop' rfl) (by kernel_rfl) (by kernel_rfl) (by kernel_rfl) (fun _ _ _ h => h) (Or.inr ⟨?_, rfl⟩) hHeld ?_; (focus (simp [Region.wanted, yielded, undef]; done)); (try simp only [Act.put, List.setIfInBounds_toArray, List.set_cons_zero, List.set_cons_succ])) | (refine wpAnyH_take (i := 6) (v := ?_) (get_of_drop' rfl) (by kernel_rfl) (by kernel_rfl) (by kernel_rfl) (fun _ _ _ h => h) (Or.inl ⟨?_, ?_⟩) hHeld ?_; rotate_left; (focus rfl); (focus (intro w hSw; (try dsimp only at hSw); go_simp; (try (with_reducible rfl)))); (try simp only [Act.put, List.setIfInBounds_toArray, List.set_cons_zero, List.set_cons_succ]))
              first | (refine wpAnyH_take (i := 7) (get_of_drop' rfl) (by kernel_rfl) (by kernel_rfl) (by kernel_rfl) (fun _ _ _ h => h) (Or.inr ⟨?_, rfl⟩) hHeld ?_; (focus (simp [Region.wanted, yielded, undef]; done)); (try simp only [Act.put, List.setIfInBounds_toArray, List.set_cons_zero, List.set_cons_succ])) | (refine wpAnyH_take (i := 7) (v := ?_) (get_of_drop' rfl) (by kernel_rfl) (by kernel_rfl) (by kernel_rfl) (fun _ _ _ h => h) (Or.inl ⟨?_, ?_⟩) hHeld ?_; rotate_left; (focus rfl); (focus (intro w hSw; (try dsimp only at hSw); go_simp; (try (with_reducible rfl)))); (try simp only [Act.put, List.setIfInBounds_toArray, List.set_cons_zero, List.set_cons_succ]))
              first | (refine wpAnyH_take (i := 8) (get_of_drop' rfl) (by kernel_rfl) (by kernel_rfl) (by kernel_rfl) (fun _ _ _ h => h) (Or.inr ⟨?_, rfl⟩) hHeld ?_; (focus (simp [Region.wanted, yielded, undef]; done)); (try simp only [Act.put, List.setIfInBounds_toArray, List.set_cons_zero, List.set_cons_succ])) | (refine wpAnyH_take (i := 8) (v := ?_) (get_of_drop' rfl) (by kernel_rfl) (by kernel_rfl) (by kernel_rfl) (fun _ _ _ h => h) (Or.inl ⟨?_, ?_⟩) hHeld ?_; rotate_left; (focus rfl); (focus (intro w hSw; (try dsimp only at hSw); go_simp; (try (with_reducible rfl)))); (try simp only [Act.put, List.setIfInBounds_toArray, List.set_cons_zero, List.set_cons_succ]))
              first | (refine wpAnyH_take (i := 9) (get_of_drop' rfl) (by kernel_rfl) (by kernel_rfl) (by kernel_rfl) (fun _ _ _ h => h) (Or.inr ⟨?_, rfl⟩) hHeld ?_; (focus (simp [Region.wanted, yielded, undef]; done)); (try simp only [Act.put, List.setIfInBounds_toArray, List.set_cons_zero, List.set_cons_succ])) | (refine wpAnyH_take (i := 9) (v := ?_) (get_of_drop' rfl) (by kernel_rfl) (by kernel_rfl) (by kernel_rfl) (fun _ _ _ h => h) (Or.inl ⟨?_, ?_⟩) hHeld ?_; rotate_left; (focus rfl); (focus (intro w hSw; (try dsimp only at hSw); go_simp; (try (with_reducible rfl)))); (try simp only [Act.put, List.setIfInBounds_toArray, List.set_cons_zero, List.set_cons_succ]))
              first | (refine wpAnyH_take (i := 10) (get_of_drop' rfl) (by kernel_rfl) (by kernel_rfl) (by kernel_rfl) (fun _ _ _ h => h) (Or.inr ⟨?_, rfl⟩) hHeld ?_; (focus (simp [Region.wanted, yielded, undef]; done)); (try simp only [Act.put, List.setIfInBounds_toArray, List.set_cons_zero, List.set_cons_succ])) | (refine wpAnyH_take (i := 10) (v := ?_) (get_of_drop' rfl) (by kernel_rfl) (by kernel_rfl) (by kernel_rfl) (fun _ _ _ h => h) (Or.inl ⟨?_, ?_⟩) hHeld ?_; rotate_left; (focus rfl); (focus (intro w hSw; (try dsimp only at hSw); go_simp; (try (with_reducible rfl)))); (try simp only [Act.put, List.setIfInBounds_toArray, List.set_cons_zero, List.set_cons_succ]))
              refine wpAnyH_ready (rs := [1, 5]) (by kernel_rfl) (by simp) ?_
              refine AllReadyH.cons (get_of_drop' rfl) (fun K hK => ?_) ?_
              · go_simp
                refine hK.out _ _ HSD.out (fun hHeld => ?_)
                clear hK K
                try simp only [Act.put, List.setIfInBounds_toArray, List.set_cons_zero, List.set_cons_succ]
                refine wpAnyH_ready (rs := [5]) (by kernel_rfl) (by simp) ?_
                refine AllReadyH.cons (get_of_drop' rfl) (fun K hK => ?_) AllReadyH.nil
                go_simp
                go_at_call 77
                refine (HRF.out _).mono ?_
                rintro e w' ⟨rfl, rfl⟩
                go_wp2_with fail
                refine hK.out _ _ HSD.out (fun hHeld => ?_)
                clear hK K
                try simp only [Act.put, List.setIfInBounds_toArray, List.set_cons_zero, List.set_cons_succ]
                refine wpAnyH_ready (rs := [11]) (by kernel_rfl) (by simp) ?_
                refine AllReadyH.cons (get_of_drop' rfl) (fun K hK => ?_) AllReadyH.nil
                go_simp
                go_at_call 77
                refine (HRT.out _).mono ?_
                rintro e w' ⟨rfl, rfl⟩
                go_wp2_with fail
                refine hK.out _ _ HSD.out (fun hHeld => ?_)
                clear hK K
                try simp only [Act.put, List.setIfInBounds_toArray, List.set_cons_zero, List.set_cons_succ]
                first | (refine wpAnyH_take (i := 12) (get_of_drop' rfl) (by kernel_rfl) (by kernel_rfl) (by kernel_rfl) (fun _ _ _ h => h) (Or.inr ⟨?_, rfl⟩) hHeld ?_; (focus (simp [Region.wanted, yielded, undef]; done)); (try simp only [Act.put, List.setIfInBounds_toArray, List.set_cons_zero, List.set_cons_succ])) | (refine wpAnyH_take (i := 12) (v := ?_) (get_of_drop' rfl) (by kernel_rfl) (by kernel_rfl) (by kernel_rfl) (fun _ _ _ h => h) (Or.inl ⟨?_, ?_⟩) hHeld ?_; rotate_left; (focus rfl); (focus (intro w hSw; (try dsimp only at hSw); go_simp; (try (with_reducible rfl)))); (try simp only [Act.put, List.setIfInBounds_toArray, List.set_cons_zero, List.set_cons_succ]))
                refine wpAnyH_ready (rs := [13]) (by kernel_rfl) (by simp) ?_
                refine AllReadyH.cons (get_of_drop' rfl) (fun K hK => ?_) AllReadyH.nil
                go_simp
                refine hK.out _ _ HSA.out (fun hHeld => ?_)
                clear hK K
                try simp only [Act.put, List.setIfInBounds_toArray, List.set_cons_zero, List.set_cons_succ]
                refine wpAnyH_ready (rs := [14]) (by kernel_rfl) (by simp) ?_
                refine AllReadyH.cons (get_of_drop' rfl) (fun K hK => ?_) AllReadyH.nil
                rw [if_pos (by rfl)]
                refine wp_app_edge wd ((cf : Int), l, (ct : Int)) wc.heap.size _ _ rfl _ (keepE (es.take k) s) rfl HPd.out.2.1 rfl (by omega) (by omega) ?_
                intro ao' n' cap' w5 hn' hown' hkept
                have hr5' := HRd.out.of_block (hkept.2.block x5 (World.rowIs.lt HRd.out) (fun e => absurd (hown5 x5 e.symm) (Nat.lt_irrefl _)))
                have hp5 := HPd.out.app hkept hown'
                have s2 : w5.cell? ⟨S, 2, none⟩ = some (.slice a n c) := (HPd.out.1.of_block ((hkept.1 wd (Below.refl _ _)).block S hSL)).cell (by decide)
                have s3 := (HPd.out.1.of_block ((hkept.1 wd (Below.refl _ _)).block S hSL)).frozen 2
                have hh5 : w5.cell? ⟨x5, 0, none⟩ = some (.int .i64 (f : Int)) ∧ w5.cell? ⟨x5, 1, none⟩ = some (.int .i64 l) ∧ w5.cell? ⟨x5, 2, none⟩ = some (.int .i64 (t : Int)) := ⟨hr5'.cell (by decide), hr5'.cell (by decide), hr5'.cell (by decide)⟩
                have HP5 := Lib.hid hp5
                have HN5 := Lib.hid hn'; clear hn'
                clear hp5 hown'
                refine hK.out _ _ hh5 (fun hHeld => ?_)
                clear hK K
                try simp only [Act.put, List.setIfInBounds_toArray, List.set_cons_zero, List.set_cons_succ]
                first | (refine wpAnyH_take (i := 15) (get_of_drop' rfl) (by kernel_rfl) (by kernel_rfl) (by kernel_rfl) (fun _ _ _ h => h) (Or.inr ⟨?_, rfl⟩) hHeld ?_; (focus (simp [Region.wanted, yielded, undef]; done)); (try simp only [Act.put, List.setIfInBounds_toArray, List.set_cons_zero, List.set_cons_succ])) | (refine wpAnyH_take (i := 15) (v := ?_) (get_of_drop' rfl) (by kernel_rfl) (by kernel_rfl) (by kernel_rfl) (fun _ _ _ h => h) (Or.inl ⟨?_, ?_⟩) hHeld ?_; rotate_left; (focus rfl); (focus (intro w hSw; (try dsimp only at hSw); go_simp; (try (with_reducible rfl)))); (try simp only [Act.put, List.setIfInBounds_toArray, List.set_cons_zero, List.set_cons_succ]))
                clear hkept
                have hr6' : (w5.setCell ⟨S, 2, none⟩ (.slice ao' n' cap')).rowIs x5 58 3 _ := hr5'.of_block (Below.heap_setCell _ _ _ _ (by simp; omega))
                have HH6 := Lib.hid (show (w5.setCell ⟨S, 2, none⟩ (.slice ao' n' cap')).cell? ⟨x5, 0, none⟩ = some (.int .i64 (f : Int)) ∧ (w5.setCell ⟨S, 2, none⟩ (.slice ao' n' cap')).cell? ⟨x5, 1, none⟩ = some (.int .i64 l) ∧ (w5.setCell ⟨S, 2, none⟩ (.slice ao' n' cap')).cell? ⟨x5, 2, none⟩ = some (.int .i64 (t : Int)) from ⟨hr6'.cell (by decide), hr6'.cell (by decide), hr6'.cell (by decide)⟩)
                clear hr5' hr6' hh5
                refine wpAnyH_ready (rs := [16]) (by kernel_rfl) (by simp) ?_
                refine AllReadyH.cons (get_of_drop' rfl) (fun K hK => ?_) AllReadyH.nil
                go_simp
                refine hK.out _ _ HH6.out (fun hHeld => ?_)
                clear hK K
                try simp only [Act.put, List.setIfInBounds_toArray, List.set_cons_zero, List.set_cons_succ]
                refine wpAnyH_done (by kernel_rfl) ?_ _
                go_wp2
                go_roundw
                case rel => exact ⟨k + 1, n', cap', ao', by go_num, by omega, by rw [HST.out]; exact HP5.out, by rw [HST.out, HN5.out]; simp⟩
                case measure => simp [intOf] <;> omega
              · refine AllReadyH.cons (get_of_drop' rfl) (fun K hK => ?_) AllReadyH.nil
                go_simp
                go_at_call 77
                refine (HRF.out _).mono ?_
                rintro e w' ⟨rfl, rfl⟩
                go_wp2_with fail
                refine hK.out _ _ HSD.out (fun hHeld => ?_)
                clear hK K
                try simp only [Act.put, List.setIfInBounds_toArray, List.set_cons_zero, List.set_cons_succ]
                refine wpAnyH_ready (rs := [1, 11]) (by kernel_rfl) (by simp) ?_
                refine AllReadyH.cons (get_of_drop' rfl) (fun K hK => ?_) ?_
                · go_simp
                  refine hK.out _ _ HSD.out (fun hHeld => ?_)
                  clear hK K
                  try simp only [Act.put, List.setIfInBounds_toArray, List.set_cons_zero, List.set_cons_succ]
                  refine wpAnyH_ready (rs := [11]) (by kernel_rfl) (by simp) ?_
                  refine AllReadyH.cons (get_of_drop' rfl) (fun K hK => ?_) AllReadyH.nil
                  go_simp
                  go_at_call 77
                  refine (HRT.out _).mono ?_
                  rintro e w' ⟨rfl, rfl⟩
                  go_wp2_with fail
                  refine hK.out _ _ HSD.out (fun hHeld => ?_)
                  clear hK K
                  try simp only [Act.put, List.setIfInBounds_toArray, List.set_cons_zero, List.set_cons_succ]
                  first | (refine wpAnyH_take (i := 12) (get_of_drop' rfl) (by kernel_rfl) (by kernel_rfl) (by kernel_rfl) (fun _ _ _ h => h) (Or.inr ⟨?_, rfl⟩) hHeld ?_; (focus (simp [Region.wanted, yielded, undef]; done)); (try simp only [Act.put, List.setIfInBounds_toArray, List.set_cons_zero, List.set_cons_succ])) | (refine wpAnyH_take (i := 12) (v := ?_) (get_of_drop' rfl) (by kernel_rfl) (by kernel_rfl) (by kernel_rfl) (fun _ _ _ h => h) (Or.inl ⟨?_, ?_⟩) hHeld ?_; rotate_left; (focus rfl); (focus (intro w hSw; (try dsimp only at hSw); go_simp; (try (with_reducible rfl)))); (try simp only [Act.put, List.setIfInBounds_toArray, List.set_cons_zero, List.set_cons_succ]))
                  refine wpAnyH_ready (rs := [13]) (by kernel_rfl) (by simp) ?_
                  refine AllReadyH.cons (get_of_drop' rfl) (fun K hK => ?_) AllReadyH.nil
                  go_simp
                  refine hK.out _ _ HSA.out (fun hHeld => ?_)
                  clear hK K
                  try simp only [Act.put, List.setIfInBounds_toArray, List.set_cons_zero, List.set_cons_succ]
                  refine wpAnyH_ready (rs := [14]) (by kernel_rfl) (by simp) ?_
                  refine AllReadyH.cons (get_of_drop' rfl) (fun K hK => ?_) AllReadyH.nil
                  rw [if_pos (by rfl)]
                  refine wp_app_edge wd ((cf : Int), l, (ct : Int)) wc.heap.size _ _ rfl _ (keepE (es.take k) s) rfl HPd.out.2.1 rfl (by omega) (by omega) ?_
                  intro ao' n' cap' w5 hn' hown' hkept
                  have hr5' := HRd.out.of_block (hkept.2.block x5 (World.rowIs.lt HRd.out) (fun e => absurd (hown5 x5 e.symm) (Nat.lt_irrefl _)))
                  have hp5 := HPd.out.app hkept hown'
                  have s2 : w5.cell? ⟨S, 2, none⟩ = some (.slice a n c) := (HPd.out.1.of_block ((hkept.1 wd (Below.refl _ _)).block S hSL)).cell (by decide)
                  have s3 := (HPd.out.1.of_block ((hkept.1 wd (Below.refl _ _)).block S hSL)).frozen 2
                  have hh5 : w5.cell? ⟨x5, 0, none⟩ = some (.int .i64 (f : Int)) ∧ w5.cell? ⟨x5, 1, none⟩ = some (.int .i64 l) ∧ w5.cell? ⟨x5, 2, none⟩ = some (.int .i64 (t : Int)) := ⟨hr5'.cell (by decide), hr5'.cell (by decide), hr5'.cell (by decide)⟩
                  have HP5 := Lib.hid hp5
                  have HN5 := Lib.hid hn'; clear hn'
                  clear hp5 hown'
                  refine hK.out _ _ hh5 (fun hHeld => ?_)
                  clear hK K
                  try simp only [Act.put, List.setIfInBounds_toArray, List.set_cons_zero, List.set_cons_succ]
                  first | (refine wpAnyH_take (i := 15) (get_of_drop' rfl) (by kernel_rfl) (by kernel_rfl) (by kernel_rfl) (fun _ _ _ h => h) (Or.inr ⟨?_, rfl⟩) hHeld ?_; (focus (simp [Region.wanted, yielded, undef]; done)); (try simp only [Act.put, List.setIfInBounds_toArray, List.set_cons_zero, List.set_cons_succ])) | (refine wpAnyH_take (i := 15) (v := ?_) (get_of_drop' rfl) (by kernel_rfl) (by kernel_rfl) (by kernel_rfl) (fun _ _ _ h => h) (Or.inl ⟨?_, ?_⟩) hHeld ?_; rotate_left; (focus rfl); (focus (intro w hSw; (try dsimp only at hSw); go_simp; (try (with_reducible rfl)))); (try simp only [Act.put, List.setIfInBounds_toArray, List.set_cons_zero, List.set_cons_succ]))
                  clear hkept
                  have hr6' : (w5.setCell ⟨S, 2, none⟩ (.slice ao' n' cap')).rowIs x5 58 3 _ := hr5'.of_block (Below.heap_setCell _ _ _ _ (by simp; omega))
                  have HH6 := Lib.hid (show (w5.setCell ⟨S, 2, none⟩ (.slice ao' n' cap')).cell? ⟨x5, 0, none⟩ = some (.int .i64 (f : Int)) ∧ (w5.setCell ⟨S, 2, none⟩ (.slice ao' n' cap')).cell? ⟨x5, 1, none⟩ = some (.int .i64 l) ∧ (w5.setCell ⟨S, 2, none⟩ (.slice ao' n' cap')).cell? ⟨x5, 2, none⟩ = some (.int .i64 (t : Int)) from ⟨hr6'.cell (by decide), hr6'.cell (by decide), hr6'.cell (by decide)⟩)
                  clear hr5' hr6' hh5
                  refine wpAnyH_ready (rs := [16]) (by kernel_rfl) (by simp) ?_
                  refine AllReadyH.cons (get_of_drop' rfl) (fun K hK => ?_) AllReadyH.nil
                  go_simp
                  refine hK.out _ _ HH6.out (fun hHeld => ?_)
                  clear hK K
                  try simp only [Act.put, List.setIfInBounds_toArray, List.set_cons_zero, List.set_cons_succ]
                  refine wpAnyH_done (by kernel_rfl) ?_ _
                  go_wp2
                  go_roundw
                  case rel => exact ⟨k + 1, n', cap', ao', by go_num, by omega, by rw [HST.out]; exact HP5.out, by rw [HST.out, HN5.out]; simp⟩
                  case measure => simp [intOf] <;> omega
                · refine AllReadyH.cons (get_of_drop' rfl) (fun K hK => ?_) AllReadyH.nil
                  go_simp
                  go_at_call 77
                  refine (HRT.out _).mono ?_
                  rintro e w' ⟨rfl, rfl⟩
                  go_wp2_with fail
                  refine hK.out _ _ HSD.out (fun hHeld => ?_)
                  clear hK K
                  try simp only [Act.put, List.setIfInBounds_toArray, List.set_cons_zero, List.set_cons_succ]
                  first | (refine wpAnyH_take (i := 12) (get_of_drop' rfl) (by kernel_rfl) (by kernel_rfl) (by kernel_rfl) (fun _ _ _ h => h) (Or.inr ⟨?_, rfl⟩) hHeld ?_; (focus (simp [Region.wanted, yielded, undef]; done)); (try simp only [Act.put, List.setIfInBounds_toArray, List.set_cons_zero, List.set_cons_succ])) | (refine wpAnyH_take (i := 12) (v := ?_) (get_of_drop' rfl) (by kernel_rfl) (by kernel_rfl) (by kernel_rfl) (fun _ _ _ h => h) (Or.inl ⟨?_, ?_⟩) hHeld ?_; rotate_left; (focus rfl); (focus (intro w hSw; (try dsimp only at hSw); go_simp; (try (with_reducible rfl)))); (try simp only [Act.put, List.setIfInBounds_toArray, List.set_cons_zero, List.set_cons_succ]))
                  refine wpAnyH_ready (rs := [1, 13]) (by kernel_rfl) (by simp) ?_
                  refine AllReadyH.cons (get_of_drop' rfl) (fun K hK => ?_) ?_
                  · go_simp
                    refine hK.out _ _ HSD.out (fun hHeld => ?_)
                    clear hK K
                    try simp only [Act.put, List.setIfInBounds_toArray, List.set_cons_zero, List.set_cons_succ]
                    refine wpAnyH_ready (rs := [13]) (by kernel_rfl) (by simp) ?_
                    refine AllReadyH.cons (get_of_drop' rfl) (fun K hK => ?_) AllReadyH.nil
                    go_simp
                    refine hK.out _ _ HSA.out (fun hHeld => ?_)
                    clear hK K
                    try simp only [Act.put, List.setIfInBounds_toArray, List.set_cons_zero, List.set_cons_succ]
                    refine wpAnyH_ready (rs := [14]) (by kernel_rfl) (by simp) ?_
                    refine AllReadyH.cons (get_of_drop' rfl) (fun K hK => ?_) AllReadyH.nil
                    rw [if_pos (by rfl)]
                    refine wp_app_edge wd ((cf : Int), l, (ct : Int)) wc.heap.size _ _ rfl _ (keepE (es.take k) s) rfl HPd.out.2.1 rfl (by omega) (by omega) ?_
                    intro ao' n' cap' w5 hn' hown' hkept
                    have hr5' := HRd.out.of_block (hkept.2.block x5 (World.rowIs.lt HRd.out) (fun e => absurd (hown5 x5 e.symm) (Nat.lt_irrefl _)))
                    have hp5 := HPd.out.app hkept hown'
                    have s2 : w5.cell? ⟨S, 2, none⟩ = some (.slice a n c) := (HPd.out.1.of_block ((hkept.1 wd (Below.refl _ _)).block S hSL)).cell (by decide)
                    have s3 := (HPd.out.1.of_block ((hkept.1 wd (Below.refl _ _)).block S hSL)).frozen 2
                    have hh5 : w5.cell? ⟨x5, 0, none⟩ = some (.int .i64 (f : Int)) ∧ w5.cell? ⟨x5, 1, none⟩ = some (.int .i64 l) ∧ w5.cell? ⟨x5, 2, none⟩ = some (.int .i64 (t : Int)) := ⟨hr5'.cell (by decide), hr5'.cell (by decide), hr5'.cell (by decide)⟩
                    have HP5 := Lib.hid hp5
                    have HN5 := Lib.hid hn'; clear hn'
                    clear hp5 hown'
                    refine hK.out _ _ hh5 (fun hHeld => ?_)
                    clear hK K
                    try simp only [Act.put, List.setIfInBounds_toArray, List.set_cons_zero, List.set_cons_succ]
                    first | (refine wpAnyH_take (i := 15) (get_of_drop' rfl) (by kernel_rfl) (by kernel_rfl) (by kernel_rfl) (fun _ _ _ h => h) (Or.inr ⟨?_, rfl⟩) hHeld ?_; (focus (simp [Region.wanted, yielded, undef]; done)); (try simp only [Act.put, List.setIfInBounds_toArray, List.set_cons_zero, List.set_cons_succ])) | (refine wpAnyH_take (i := 15) (v := ?_) (get_of_drop' rfl) (by kernel_rfl) (by kernel_rfl) (by kernel_rfl) (fun _ _ _ h => h) (Or.inl ⟨?_, ?_⟩) hHeld ?_; rotate_left; (focus rfl); (focus (intro w hSw; (try dsimp only at hSw); go_simp; (try (with_reducible rfl)))); (try simp only [Act.put, List.setIfInBounds_toArray, List.set_cons_zero, List.set_cons_succ]))
                    clear hkept
                    have hr6' : (w5.setCell ⟨S, 2, none⟩ (.slice ao' n' cap')).rowIs x5 58 3 _ := hr5'.of_block (Below.heap_setCell _ _ _ _ (by simp; omega))
                    have HH6 := Lib.hid (show (w5.setCell ⟨S, 2, none⟩ (.slice ao' n' cap')).cell? ⟨x5, 0, none⟩ = some (.int .i64 (f : Int)) ∧ (w5.setCell ⟨S, 2, none⟩ (.slice ao' n' cap')).cell? ⟨x5, 1, none⟩ = some (.int .i64 l) ∧ (w5.setCell ⟨S, 2, none⟩ (.slice ao' n' cap')).cell? ⟨x5, 2, none⟩ = some (.int .i64 (t : Int)) from ⟨hr6'.cell (by decide), hr6'.cell (by decide), hr6'.cell (by decide)⟩)
                    clear hr5' hr6' hh5
                    refine wpAnyH_ready (rs := [16]) (by kernel_rfl) (by simp) ?_
                    refine AllReadyH.cons (get_of_drop' rfl) (fun K hK => ?_) AllReadyH.nil
                    go_simp
                    refine hK.out _ _ HH6.out (fun hHeld => ?_)
                    clear hK K
                    try simp only [Act.put, List.setIfInBounds_toArray, List.set_cons_zero, List.set_cons_succ]
                    refine wpAnyH_done (by kernel_rfl) ?_ _
                    go_wp2
                    go_roundw
                    case rel => exact ⟨k + 1, n', cap', ao', by go_num, by omega, by rw [HST.out]; exact HP5.out, by rw [HST.out, HN5.out]; simp⟩
                    case measure => simp [intOf] <;> omega
                  · refine AllReadyH.cons (get_of_drop' rfl) (fun K hK => ?_) AllReadyH.nil
                    go_simp
                    refine hK.out _ _ HSA.out (fun hHeld => ?_)
                    clear hK K
                    try simp only [Act.put, List.setIfInBounds_toArray, List.set_cons_zero, List.set_cons_succ]
                    refine wpAnyH_ready (rs := [1]) (by kernel_rfl) (by simp) ?_
                    refine AllReadyH.cons (get_of_drop' rfl) (fun K hK => ?_) AllReadyH.nil
                    go_simp
                    refine hK.out _ _ HSA.out (fun hHeld => ?_)
                    clear hK K
                    try simp only [Act.put, List.setIfInBounds_toArray, List.set_cons_zero, List.set_cons_succ]
                    refine wpAnyH_ready (rs := [14]) (by kernel_rfl) (by simp) ?_
                    refine AllReadyH.cons (get_of_drop' rfl) (fun K hK => ?_) AllReadyH.nil
                    rw [if_pos (by rfl)]
                    refine wp_app_edge wd ((cf : Int), l, (ct : Int)) wc.heap.size _ _ rfl _ (keepE (es.take k) s) rfl HPd.out.2.1 rfl (by omega) (by omega) ?_
                    intro ao' n' cap' w5 hn' hown' hkept
                    have hr5' := HRd.out.of_block (hkept.2.block x5 (World.rowIs.lt HRd.out) (fun e => absurd (hown5 x5 e.symm) (Nat.lt_irrefl _)))
                    have hp5 := HPd.out.app hkept hown'
                    have s2 : w5.cell? ⟨S, 2, none⟩ = some (.slice a n c) := (HPd.out.1.of_block ((hkept.1 wd (Below.refl _ _)).block S hSL)).cell (by decide)
                    have s3 := (HPd.out.1.of_block ((hkept.1 wd (Below.refl _ _)).block S hSL)).frozen 2
                    have hh5 : w5.cell? ⟨x5, 0, none⟩ = some (.int .i64 (f : Int)) ∧ w5.cell? ⟨x5, 1, none⟩ = some (.int .i64 l) ∧ w5.cell? ⟨x5, 2, none⟩ = some (.int .i64 (t : Int)) := ⟨hr5'.cell (by decide), hr5'.cell (by decide), hr5'.cell (by decide)⟩
                    have HP5 := Lib.hid hp5
                    have HN5 := Lib.hid hn'; clear hn'
                    clear hp5 hown'
                    refine hK.out _ _ hh5 (fun hHeld => ?_)
                    clear hK K
                    try simp only [Act.put, List.setIfInBounds_toArray, List.set_cons_zero, List.set_cons_succ]
                    first | (refine wpAnyH_take (i := 15) (get_of_drop' rfl) (by kernel_rfl) (by kernel_rfl) (by kernel_rfl) (fun _ _ _ h => h) (Or.inr ⟨?_, rfl⟩) hHeld ?_; (focus (simp [Region.wanted, yielded, undef]; done)); (try simp only [Act.put, List.setIfInBounds_toArray, List.set_cons_zero, List.set_cons_succ])) | (refine wpAnyH_take (i := 15) (v := ?_) (get_of_drop' rfl) (by kernel_rfl) (by kernel_rfl) (by kernel_rfl) (fun _ _ _ h => h) (Or.inl ⟨?_, ?_⟩) hHeld ?_; rotate_left; (focus rfl); (focus (intro w hSw; (try dsimp only at hSw); go_simp; (try (with_reducible rfl)))); (try simp only [Act.put, List.setIfInBounds_toArray, List.set_cons_zero, List.set_cons_succ]))
                    clear hkept
                    have hr6' : (w5.setCell ⟨S, 2, none⟩ (.slice ao' n' cap')).rowIs x5 58 3 _ := hr5'.of_block (Below.heap_setCell _ _ _ _ (by simp; omega))
                    have HH6 := Lib.hid (show (w5.setCell ⟨S, 2, none⟩ (.slice ao' n' cap')).cell? ⟨x5, 0, none⟩ = some (.int .i64 (f : Int)) ∧ (w5.setCell ⟨S, 2, none⟩ (.slice ao' n' cap')).cell? ⟨x5, 1, none⟩ = some (.int .i64 l) ∧ (w5.setCell ⟨S, 2, none⟩ (.slice ao' n' cap')).cell? ⟨x5, 2, none⟩ = some (.int .i64 (t : Int)) from ⟨hr6'.cell (by decide), hr6'.cell (by decide), hr6'.cell (by decide)⟩)
                    clear hr5' hr6' hh5
                    refine wpAnyH_ready (rs := [16]) (by kernel_rfl) (by simp) ?_
                    refine AllReadyH.cons (get_of_drop' rfl) (fun K hK => ?_) AllReadyH.nil
                    go_simp
                    refine hK.out _ _ HH6.out (fun hHeld => ?_)
                    clear hK K
                    try simp only [Act.put, List.setIfInBounds_toArray, List.set_cons_zero, List.set_cons_succ]
                    refine wpAnyH_done (by kernel_rfl) ?_ _
                    go_wp2
                    go_roundw
                    case rel => exact ⟨k + 1, n', cap', ao', by go_num, by omega, by rw [HST.out]; exact HP5.out, by rw [HST.out, HN5.out]; simp⟩
                    case measure => simp [intOf] <;> omega
      · have hkn : k = n1 := by omega
        subst hkn
        have htk : es.take k = es := by rw [HN.out]; exact List.take_length
        have q0 : wr.cell? ⟨S, 0, none⟩ = some (.int .i64 al) := hp.1.cell (by decide)
        have q1 : wr.cell? ⟨S, 1, none⟩ = some (.int .i64 m) := hp.1.cell (by decide)
        have q2 : wr.cell? ⟨S, 2, none⟩ = some (.slice a n c) := hp.1.cell (by decide)
        have hZ := hp.2.2.2.row HQL.out (fun e => by omega)
        have z0 : wr.cell? ⟨X + 1, 0, none⟩ = some (.int .i64 0) := hZ.cell (by decide)
        have z1 : wr.cell? ⟨X + 1, 1, none⟩ = some (.int .i64 0) := hZ.cell (by decide)
        have z2 : wr.cell? ⟨X + 1, 2, none⟩ = some (.slice none 0 0) := hZ.cell (by decide)
        have zf0 := hZ.frozen 0
        have zf1 := hZ.frozen 1
        have zf2 := hZ.frozen 2
        have HFIN := Lib.hid (rowIs_set3 hZ (.int .i64 al) (.int .i64 m) (.slice a n c))
        have HBF := Lib.hid (((hbx.setCell (p := ⟨X + 1, 0, none⟩) (by simp; omega) (.int .i64 al)).setCell (p := ⟨X + 1, 1, none⟩) (by simp; omega) (.int .i64 m)).setCell (p := ⟨X + 1, 2, none⟩) (by simp; omega) (.slice a n c))
        have hZL : X + 1 < wc.heap.size := by omega
        have HOF := Lib.hid ((((hp.2.1.set (v := .slice a n c) hZL (j := 0) (u := .int .i64 al)).set hZL (j := 1) (u := .int .i64 m)).set hZL (j := 2) (u := .slice a n c)))
        rw [htk] at HOF HNK
        have HTK := Lib.hid htk
        clear htk hZ hp hbx hkl hkt
        obtain ⟨wf, hwf⟩ : ∃ wf, (((wr.setCell ⟨X + 1, 0, none⟩ (.int .i64 al)).setCell ⟨X + 1, 1, none⟩ (.int .i64 m)).setCell ⟨X + 1, 2, none⟩ (.slice a n c)) = wf := ⟨_, rfl⟩
        rw [hwf] at HFIN HBF HOF
        have f0 : wf.cell? ⟨X + 1, 0, none⟩ = some (.int .i64 al) := HFIN.out.cell (by decide)
        have f1 : wf.cell? ⟨X + 1, 1, none⟩ = some (.int .i64 m) := HFIN.out.cell (by decide)
        have f2 : wf.cell? ⟨X + 1, 2, none⟩ = some (.slice a n c) := HFIN.out.cell (by decide)
        go_wp2
        clear hwf
        refine bodyPost_ret (v := .agg #[.int .i64 al, .int .i64 m, .slice a n c]) ?_ rfl ?_
        · simp [results, Tryd.results41, go_sem, f0, f1, f2]
        exact ⟨a, n, c, rfl, HNK.out, fun B hB => HOF.out.base (by omega), hX ▸ HBF.out⟩
end Go.Proofs.YtknhgfmjchfnjaaDoor
