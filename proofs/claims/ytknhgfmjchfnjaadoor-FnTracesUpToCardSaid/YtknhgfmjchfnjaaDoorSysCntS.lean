/- TracesUpTo of the reference. -/
import Derived.Test.YtknhgfmjchfnjaaDoorSysCount
import Derived.Test.YtknhgfmjchfnjaaDoorSysStep
import Derived.Test.YtknhgfmjchfnjaaDoorLetters
import Derived.Test.YtknhgfmjchfnjaaDoorDState
import Derived.Deep.RegionHeld3

namespace Go.Proofs.YtknhgfmjchfnjaaDoor
open Go.RowKit
set_option linter.unusedVariables false
set_option linter.unusedSimpArgs false
set_option maxRecDepth 100000

theorem take_snoc_i (l : List Int) (k : Nat) (h : k < l.length) : l.take (k + 1) = l.take k ++ [l[k]?.getD 0] := by
  rw [List.take_add_one, List.getElem?_eq_getElem h]; rfl
theorem sumL_take (f : Int → Nat) (l : List Int) (k : Nat) (h : k < l.length) : sumL f (l.take (k + 1)) = sumL f (l.take k) + f (l[k]?.getD 0) := by
  rw [take_snoc_i l k h, sumL_snoc]
theorem sumL_take_le (f : Int → Nat) (l : List Int) : ∀ k, sumL f (l.take k) ≤ sumL f l := by
  induction l with
  | nil => intro k; rw [List.take_nil]; exact Nat.le_refl _
  | cons a r ih =>
    intro k
    cases k with
    | zero => exact Nat.zero_le _
    | succ k =>
      have := ih k
      simp only [List.take_succ_cons, sumL]
      omega
set_option maxHeartbeats 4000000 in
theorem l2Count_any (al st : Int) (a1 : Option Addr) (n1 c1 : Nat) (es : List Edg) (hok : OkE es) (hal0 : 0 ≤ al) (hal1 : al < 64) : ∀ (n : Nat), n ≤ 7 → ∀ (s : Nat), s < 65536 → ∀ w : World, EV w (.slice a1 n1 c1) es →
    Calls Tryd.prog 52 #[.agg #[.int .i64 al, .int .i64 st, .slice a1 n1 c1], .int .i64 s, .int .i64 n] w (RB' (.int .i64 (cntS es (lets al) n s : Nat)) w) := by
  intro n
  induction n with
  | zero =>
    intro hn7 s hs w h
    have B0 := Lib.hid (below_new' w 25 #[.int .i64 al, .int .i64 st, .slice a1 n1 c1])
    have R0 := Lib.hid (sys_cells w al st (.slice a1 n1 c1) 25)
    have H := Lib.hid h; clear h
    by_cases hz : s = 0
    · subst hz
      go_enter Tryd.func52, Tryd.ntmps52
      go_wp2
      go_ret
      exact ⟨rfl, B0.out⟩
    · have hz' : ¬ (s : Int) = 0 := by omega
      have hr : cntS es (lets al) 0 s = 1 := by simp [cntS, hz]
      have HR := Lib.hid hr; clear hr
      go_enter Tryd.func52, Tryd.ntmps52
      go_wp2_with fail
      refine (l1Letters_any al hal0 (by omega) _).mono ?_
      rintro e w1 ⟨ao, cap, rfl, hown, hb1⟩
      have B1 := Lib.hid (B0.out.trans (hb1.mono B0.out.size))
      have R1 := Lib.hid (rowIs_below' R0.out hb1)
      obtain ⟨z, hzz⟩ : ∃ z, (lets al).length = z := ⟨_, rfl⟩
      have hz6 : z ≤ 6 := by rw [← hzz]; exact lets_len al
      rw [hzz]
      clear hown hb1 hzz
      go_wp2
      go_loopw [7, 9] (fun o i wr => i = .int .i64 0 ∧ o = .int .i64 1 ∧ wr = w1) (fun _ i _ => 0)
      case atStart => exact ⟨rfl, rfl, rfl⟩
      case round =>
        obtain ⟨rfl, rfl, rfl⟩ := hrel
        go_wp2
        all_goals
          go_ret
          exact ⟨ret_int (by rw [HR.out]; rfl), B1.out⟩
  | succ n ih =>
    intro hn7 s hs w h
    have B0 := Lib.hid (below_new' w 25 #[.int .i64 al, .int .i64 st, .slice a1 n1 c1])
    have R0 := Lib.hid (sys_cells w al st (.slice a1 n1 c1) 25)
    have H := Lib.hid h; clear h
    have IH := Lib.hid ih; clear ih
    by_cases hz : s = 0
    · subst hz
      go_enter Tryd.func52, Tryd.ntmps52
      go_wp2
      go_ret
      exact ⟨ret_int (by rw [cntS_zero]; rfl), B0.out⟩
    · have hz' : ¬ (s : Int) = 0 := by omega
      have hr := cntS_succ es (lets al) n s hz
      have hbnd := Nat.le_trans (cntS_le es (lets al) (lets_len al) (n + 1) s) (seven_pow (n + 1) hn7)
      rw [hr] at hbnd
      have hsub := sumL_take_le (fun x => cntS es (lets al) n (stepN es s x)) (lets al)
      have HSUB := Lib.hid hsub; clear hsub
      have HR := Lib.hid hr; clear hr
      have HOK := Lib.hid hok; clear hok
      have hcast : ((n + 1 : Nat) : Int) - 1 = (n : Int) := by omega
      have hwn : IntKind.i64.wrap (n : Int) = (n : Int) := by rw [IntKind.wrap_i64]; omega
      go_enter Tryd.func52, Tryd.ntmps52
      go_wp2_with fail
      refine (l1Letters_any al hal0 (by omega) _).mono ?_
      rintro e w1 ⟨ao, cap, rfl, hown, hb1⟩
      have B1 := Lib.hid (B0.out.trans (hb1.mono B0.out.size))
      have R1 := Lib.hid (rowIs_below' R0.out hb1)
      have O1 := Lib.hid hown
      obtain ⟨z, hzz⟩ : ∃ z, (lets al).length = z := ⟨_, rfl⟩
      have hz6 : z ≤ 6 := by rw [← hzz]; exact lets_len al
      have HATS := Lib.hid (show ∀ j, j < z → 0 ≤ (lets al)[j]?.getD 0 ∧ (lets al)[j]?.getD 0 < 6 from fun j hj => by
        have hj' : j < (lets al).length := by rw [hzz]; exact hj
        have := lets_at al j hj'
        rw [List.getElem?_eq_getElem hj']
        exact this)
      rw [hzz]
      have HZ := Lib.hid hzz; clear hzz
      clear hown hb1
      go_wp2
      go_loopw [7, 9] (fun o i wr => ∃ k : Nat, k ≤ z ∧ i = .int .i64 k ∧ o = .int .i64 (1 + sumL (fun x => cntS es (lets al) n (stepN es s x)) ((lets al).take k) : Nat) ∧ Below w.heap.size w wr ∧ wr.rowIs w.heap.size 25 3 (fun i => #[.int .i64 al, .int .i64 st, .slice a1 n1 c1][i]?.getD undef) ∧ ∃ B, IRow B wr (.slice ao z cap) (lets al)) (fun _ i _ => z - (intOf i).toNat)
      case atStart => exact ⟨0, by omega, rfl, rfl, B1.out, R1.out, _, by rw [← HZ.out]; exact O1.out⟩
      case round =>
        obtain ⟨k, hk, rfl, rfl, hbel, hrow, B, hown⟩ := hrel
        have hle := HSUB.out k
        have HBEL := Lib.hid hbel
        have HROW := Lib.hid hrow
        have HOWN := Lib.hid hown
        have c0 : wr.cell? ⟨w.heap.size, 0, none⟩ = some (.int .i64 al) := hrow.cell (by decide)
        have c1' : wr.cell? ⟨w.heap.size, 1, none⟩ = some (.int .i64 st) := hrow.cell (by decide)
        have c2' : wr.cell? ⟨w.heap.size, 2, none⟩ = some (.slice a1 n1 c1) := hrow.cell (by decide)
        by_cases hlt : k < z
        · have hsum := sumL_take (fun x => cntS es (lets al) n (stepN es s x)) (lets al) k (by rw [HZ.out]; exact hlt)
          have hle2 := HSUB.out (k + 1)
          rcases hown.shape with ⟨hnil, hnil2⟩ | ⟨g, cap', hv, -, hg, -, -, hcell, -⟩
          · have := HZ.out
            rw [hnil2] at this
            simp at this
            omega
          · injection hv with hv1 hv2 hv3
            subst hv1
            have hck := hcell k (by rw [HZ.out]; exact hlt)
            have hx' := HATS.out k hlt
            obtain ⟨x, hxe⟩ : ∃ x, (lets al)[k]?.getD 0 = x := ⟨_, rfl⟩
            rw [hxe] at hck hsum hx'
            have hsl := stepN_lt HOK.out s x
            obtain ⟨y, hy⟩ : ∃ y, stepN es s x = y := ⟨_, rfl⟩
            obtain ⟨q, hq⟩ : ∃ q, sumL (fun x => cntS es (lets al) n (stepN es s x)) ((lets al).take k) = q := ⟨_, rfl⟩
            obtain ⟨v, hv⟩ : ∃ v, cntS es (lets al) n y = v := ⟨_, rfl⟩
            have hsum' : sumL (fun x => cntS es (lets al) n (stepN es s x)) ((lets al).take (k + 1)) = q + v := by rw [hsum, hq]; show q + cntS es (lets al) n (stepN es s x) = q + v; rw [hy, hv]
            rw [hsum'] at hle2
            have hwv : IntKind.i64.wrap (1 + (q : Int) + (v : Int)) = ((1 + (q + v) : Nat) : Int) := by rw [IntKind.wrap_i64]; omega
            have HWV := Lib.hid hwv; clear hwv
            rw [hq] at hle ⊢
            have hstep := fun wq h => l2Step_any al st x a1 n1 c1 es s wq h hs HOK.out
            have hrec := fun wq h => IH.out (by omega) y (by omega) wq h
            rw [hy] at hstep
            rw [hv] at hrec
            have HSTEP := Lib.hid hstep; clear hstep
            have HREC := Lib.hid hrec; clear hrec
            have HSUM := Lib.hid hsum'; clear hsum'
            clear hown hbel hrow hcell hsum hxe hy hq hv hv2 hv3
            go_wp2_with fail
            have HS := Lib.hid (fun (w' : World) (hb : Below wr.heap.size wr w') => (show (w'.cell? ⟨w.heap.size, 0, none⟩ = some (.int .i64 al) ∧ w'.cell? ⟨w.heap.size, 1, none⟩ = some (.int .i64 st) ∧ w'.cell? ⟨w.heap.size, 2, none⟩ = some (.slice a1 n1 c1)) ∧ w'.cell? ⟨g, k, none⟩ = some (.int .i64 x) from ⟨⟨keep_cell hb c0, keep_cell hb c1', keep_cell hb c2'⟩, keep_cell hb hck⟩))
            refine wp_region_held_drew (S := fun w' => (w'.cell? ⟨w.heap.size, 0, none⟩ = some (.int .i64 al) ∧ w'.cell? ⟨w.heap.size, 1, none⟩ = some (.int .i64 st) ∧ w'.cell? ⟨w.heap.size, 2, none⟩ = some (.slice a1 n1 c1)) ∧ w'.cell? ⟨g, k, none⟩ = some (.int .i64 x)) (by kernel_rfl) (HS.out _ (Below.refl _ _).drew) (fun hHeld => ?_)
            have hbd : Below wr.heap.size wr wr.drew := (Below.refl _ _).drew
            have HBD := Lib.hid hbd
            have HED := Lib.hid (EV.drew (EV.below H.out HBEL.out))
            clear hbd
            first | (refine wpAnyH_take (i := 0) (get_of_drop' rfl) (by kernel_rfl) (by kernel_rfl) (by kernel_rfl) (fun _ _ _ h => h) (Or.inr ⟨?_, rfl⟩) hHeld ?_; (focus (simp [Region.wanted, yielded, undef]; done)); (try simp only [Act.put, List.setIfInBounds_toArray, List.set_cons_zero, List.set_cons_succ])) | (refine wpAnyH_take (i := 0) (v := ?_) (get_of_drop' rfl) (by kernel_rfl) (by kernel_rfl) (by kernel_rfl) (fun _ _ _ h => h) (Or.inl ⟨?_, ?_⟩) hHeld ?_; rotate_left; (focus rfl); (focus (intro w hSw; (try dsimp only at hSw); go_simp; (try (with_reducible rfl)))); (try simp only [Act.put, List.setIfInBounds_toArray, List.set_cons_zero, List.set_cons_succ]))
            first | (refine wpAnyH_take (i := 1) (get_of_drop' rfl) (by kernel_rfl) (by kernel_rfl) (by kernel_rfl) (fun _ _ _ h => h) (Or.inr ⟨?_, rfl⟩) hHeld ?_; (focus (simp [Region.wanted, yielded, undef]; done)); (try simp only [Act.put, List.setIfInBounds_toArray, List.set_cons_zero, List.set_cons_succ])) | (refine wpAnyH_take (i := 1) (v := ?_) (get_of_drop' rfl) (by kernel_rfl) (by kernel_rfl) (by kernel_rfl) (fun _ _ _ h => h) (Or.inl ⟨?_, ?_⟩) hHeld ?_; rotate_left; (focus rfl); (focus (intro w hSw; (try dsimp only at hSw); go_simp; (try (with_reducible rfl)))); (try simp only [Act.put, List.setIfInBounds_toArray, List.set_cons_zero, List.set_cons_succ]))
            first | (refine wpAnyH_take (i := 2) (get_of_drop' rfl) (by kernel_rfl) (by kernel_rfl) (by kernel_rfl) (fun _ _ _ h => h) (Or.inr ⟨?_, rfl⟩) hHeld ?_; (focus (simp [Region.wanted, yielded, undef]; done)); (try simp only [Act.put, List.setIfInBounds_toArray, List.set_cons_zero, List.set_cons_succ])) | (refine wpAnyH_take (i := 2) (v := ?_) (get_of_drop' rfl) (by kernel_rfl) (by kernel_rfl) (by kernel_rfl) (fun _ _ _ h => h) (Or.inl ⟨?_, ?_⟩) hHeld ?_; rotate_left; (focus rfl); (focus (intro w hSw; (try dsimp only at hSw); go_simp; (try (with_reducible rfl)))); (try simp only [Act.put, List.setIfInBounds_toArray, List.set_cons_zero, List.set_cons_succ]))
            first | (refine wpAnyH_take (i := 3) (get_of_drop' rfl) (by kernel_rfl) (by kernel_rfl) (by kernel_rfl) (fun _ _ _ h => h) (Or.inr ⟨?_, rfl⟩) hHeld ?_; (focus (simp [Region.wanted, yielded, undef]; done)); (try simp only [Act.put, List.setIfInBounds_toArray, List.set_cons_zero, List.set_cons_succ])) | (refine wpAnyH_take (i := 3) (v := ?_) (get_of_drop' rfl) (by kernel_rfl) (by kernel_rfl) (by kernel_rfl) (fun _ _ _ h => h) (Or.inl ⟨?_, ?_⟩) hHeld ?_; rotate_left; (focus rfl); (focus (intro w hSw; (try dsimp only at hSw); go_simp; (try (with_reducible rfl)))); (try simp only [Act.put, List.setIfInBounds_toArray, List.set_cons_zero, List.set_cons_succ]))
            first | (refine wpAnyH_take (i := 4) (get_of_drop' rfl) (by kernel_rfl) (by kernel_rfl) (by kernel_rfl) (fun _ _ _ h => h) (Or.inr ⟨?_, rfl⟩) hHeld ?_; (focus (simp [Region.wanted, yielded, undef]; done)); (try simp only [Act.put, List.setIfInBounds_toArray, List.set_cons_zero, List.set_cons_succ])) | (refine wpAnyH_take (i := 4) (v := ?_) (get_of_drop' rfl) (by kernel_rfl) (by kernel_rfl) (by kernel_rfl) (fun _ _ _ h => h) (Or.inl ⟨?_, ?_⟩) hHeld ?_; rotate_left; (focus rfl); (focus (intro w hSw; (try dsimp only at hSw); go_simp; (try (with_reducible rfl)))); (try simp only [Act.put, List.setIfInBounds_toArray, List.set_cons_zero, List.set_cons_succ]))
            first | (refine wpAnyH_take (i := 5) (get_of_drop' rfl) (by kernel_rfl) (by kernel_rfl) (by kernel_rfl) (fun _ _ _ h => h) (Or.inr ⟨?_, rfl⟩) hHeld ?_; (focus (simp [Region.wanted, yielded, undef]; done)); (try simp only [Act.put, List.setIfInBounds_toArray, List.set_cons_zero, List.set_cons_succ])) | (refine wpAnyH_take (i := 5) (v := ?_) (get_of_drop' rfl) (by kernel_rfl) (by kernel_rfl) (by kernel_rfl) (fun _ _ _ h => h) (Or.inl ⟨?_, ?_⟩) hHeld ?_; rotate_left; (focus rfl); (focus (intro w hSw; (try dsimp only at hSw); go_simp; (try (with_reducible rfl)))); (try simp only [Act.put, List.setIfInBounds_toArray, List.set_cons_zero, List.set_cons_succ]))
            first | (refine wpAnyH_take (i := 6) (get_of_drop' rfl) (by kernel_rfl) (by kernel_rfl) (by kernel_rfl) (fun _ _ _ h => h) (Or.inr ⟨?_, rfl⟩) hHeld ?_; (focus (simp [Region.wanted, yielded, undef]; done)); (try simp only [Act.put, List.setIfInBounds_toArray, List.set_cons_zero, List.set_cons_succ])) | (refine wpAnyH_take (i := 6) (v := ?_) (get_of_drop' rfl) (by kernel_rfl) (by kernel_rfl) (by kernel_rfl) (fun _ _ _ h => h) (Or.inl ⟨?_, ?_⟩) hHeld ?_; rotate_left; (focus rfl); (focus (intro w hSw; (try dsimp only at hSw); go_simp; (try (with_reducible rfl)))); (try simp only [Act.put, List.setIfInBounds_toArray, List.set_cons_zero, List.set_cons_succ]))
            first | (refine wpAnyH_take (i := 7) (get_of_drop' rfl) (by kernel_rfl) (by kernel_rfl) (by kernel_rfl) (fun _ _ _ h => h) (Or.inr ⟨?_, rfl⟩) hHeld ?_; (focus (simp [Region.wanted, yielded, undef]; done)); (try simp only [Act.put, List.setIfInBounds_toArray, List.set_cons_zero, List.set_cons_succ])) | (refine wpAnyH_take (i := 7) (v := ?_) (get_of_drop' rfl) (by kernel_rfl) (by kernel_rfl) (by kernel_rfl) (fun _ _ _ h => h) (Or.inl ⟨?_, ?_⟩) hHeld ?_; rotate_left; (focus rfl); (focus (intro w hSw; (try dsimp only at hSw); go_simp; (try (with_reducible rfl)))); (try simp only [Act.put, List.setIfInBounds_toArray, List.set_cons_zero, List.set_cons_succ]))
            first | (refine wpAnyH_take (i := 9) (get_of_drop' rfl) (by kernel_rfl) (by kernel_rfl) (by kernel_rfl) (fun _ _ _ h => h) (Or.inr ⟨?_, rfl⟩) hHeld ?_; (focus (simp [Region.wanted, yielded, undef]; done)); (try simp only [Act.put, List.setIfInBounds_toArray, List.set_cons_zero, List.set_cons_succ])) | (refine wpAnyH_take (i := 9) (v := ?_) (get_of_drop' rfl) (by kernel_rfl) (by kernel_rfl) (by kernel_rfl) (fun _ _ _ h => h) (Or.inl ⟨?_, ?_⟩) hHeld ?_; rotate_left; (focus rfl); (focus (intro w hSw; (try dsimp only at hSw); go_simp; (try (with_reducible rfl)))); (try simp only [Act.put, List.setIfInBounds_toArray, List.set_cons_zero, List.set_cons_succ]))
            first | (refine wpAnyH_take (i := 10) (get_of_drop' rfl) (by kernel_rfl) (by kernel_rfl) (by kernel_rfl) (fun _ _ _ h => h) (Or.inr ⟨?_, rfl⟩) hHeld ?_; (focus (simp [Region.wanted, yielded, undef]; done)); (try simp only [Act.put, List.setIfInBounds_toArray, List.set_cons_zero, List.set_cons_succ])) | (refine wpAnyH_take (i := 10) (v := ?_) (get_of_drop' rfl) (by kernel_rfl) (by kernel_rfl) (by kernel_rfl) (fun _ _ _ h => h) (Or.inl ⟨?_, ?_⟩) hHeld ?_; rotate_left; (focus rfl); (focus (intro w hSw; (try dsimp only at hSw); go_simp; (try (with_reducible rfl)))); (try simp only [Act.put, List.setIfInBounds_toArray, List.set_cons_zero, List.set_cons_succ]))
            refine wpAnyH_ready (rs := [8]) (by kernel_rfl) (by simp) ?_
            refine AllReadyH.cons (get_of_drop' rfl) (fun K hK => ?_) AllReadyH.nil
            go_simp
            go_at_call 64
            refine (HSTEP.out _ HED.out).mono ?_
            rintro e w5 ⟨rfl, hb5⟩
            have HB5 := Lib.hid (HBD.out.trans hb5)
            clear hb5
            go_wp2_with fail
            refine hK.out _ _ (HS.out w5 HB5.out) (fun hHeld => ?_)
            clear hK K
            try simp only [Act.put, List.setIfInBounds_toArray, List.set_cons_zero, List.set_cons_succ]
            refine wpAnyH_ready (rs := [11]) (by kernel_rfl) (by simp) ?_
            refine AllReadyH.cons (get_of_drop' rfl) (fun K hK => ?_) AllReadyH.nil
            go_simp
            go_at_call 52
            refine (HREC.out _ (EV.below (EV.below H.out HBEL.out) HB5.out)).mono ?_
            rintro e w6 ⟨rfl, hb6⟩
            have HB6 := Lib.hid (HB5.out.trans (hb6.mono HB5.out.size))
            clear hb6
            go_wp2_with fail
            refine hK.out _ _ (HS.out w6 HB6.out) (fun hHeld => ?_)
            clear hK K
            try simp only [Act.put, List.setIfInBounds_toArray, List.set_cons_zero, List.set_cons_succ]
            first | (refine wpAnyH_take (i := 12) (get_of_drop' rfl) (by kernel_rfl) (by kernel_rfl) (by kernel_rfl) (fun _ _ _ h => h) (Or.inr ⟨?_, rfl⟩) hHeld ?_; (focus (simp [Region.wanted, yielded, undef]; done)); (try simp only [Act.put, List.setIfInBounds_toArray, List.set_cons_zero, List.set_cons_succ])) | (refine wpAnyH_take (i := 12) (v := ?_) (get_of_drop' rfl) (by kernel_rfl) (by kernel_rfl) (by kernel_rfl) (fun _ _ _ h => h) (Or.inl ⟨?_, ?_⟩) hHeld ?_; rotate_left; (focus rfl); (focus (intro w hSw; (try dsimp only at hSw); go_simp; (try (with_reducible rfl)))); (try simp only [Act.put, List.setIfInBounds_toArray, List.set_cons_zero, List.set_cons_succ]))
            first | (refine wpAnyH_take (i := 13) (get_of_drop' rfl) (by kernel_rfl) (by kernel_rfl) (by kernel_rfl) (fun _ _ _ h => h) (Or.inr ⟨?_, rfl⟩) hHeld ?_; (focus (simp [Region.wanted, yielded, undef]; done)); (try simp only [Act.put, List.setIfInBounds_toArray, List.set_cons_zero, List.set_cons_succ])) | (refine wpAnyH_take (i := 13) (v := ?_) (get_of_drop' rfl) (by kernel_rfl) (by kernel_rfl) (by kernel_rfl) (fun _ _ _ h => h) (Or.inl ⟨?_, ?_⟩) hHeld ?_; rotate_left; (focus rfl); (focus (intro w hSw; (try dsimp only at hSw); go_simp; (try (with_reducible rfl)))); (try simp only [Act.put, List.setIfInBounds_toArray, List.set_cons_zero, List.set_cons_succ]))
            refine wpAnyH_done (by kernel_rfl) ?_ _
            go_wp2
            go_roundw
            case rel => exact ⟨k + 1, by omega, by go_num, by rw [HSUM.out]; exact congrArg (Value.int .i64) HWV.out, HBEL.out.trans (HB6.out.mono HBEL.out.size), rowIs_below' HROW.out HB6.out, B, HOWN.out.below HB6.out⟩
            case measure => simp [intOf] <;> omega
        · obtain rfl : k = z := by omega
          have hall : (lets al).take k = lets al := by rw [← HZ.out]; exact List.take_length
          have HALL := Lib.hid hall; clear hall
          clear hown hbel hrow
          go_wp2
          go_ret
          exact ⟨ret_int (by rw [HALL.out, HR.out]), HBEL.out⟩
set_option maxHeartbeats 1000000 in
theorem specCount_any (al st : Int) (a1 : Option Addr) (n1 c1 : Nat) (es : List Edg) (n : Int) (w : World) (h : EV w (.slice a1 n1 c1) es) :
    Calls Tryd.prog 20 #[.agg #[.int .i64 al, .int .i64 st, .slice a1 n1 c1], .int .i64 n] w (RB' (.int .i64 (trP al st es n)) w) := by
  have B0 := Lib.hid (below_new' w 25 #[.int .i64 al, .int .i64 st, .slice a1 n1 c1])
  have R0 := Lib.hid (sys_cells w al st (.slice a1 n1 c1) 25)
  have H := Lib.hid h; clear h
  cases hv : sysV al st es with
  | false =>
    have hr : trP al st es n = -1 := by unfold trP; rw [if_neg (fun h => by rw [hv] at h; cases h.1)]
    have HR := Lib.hid hr; clear hr
    have HV := Lib.hid hv; clear hv
    go_enter Tryd.func20, Tryd.ntmps20
    go_wp2_with fail
    refine (specSysValid_any al st a1 n1 c1 es _ (EV.below H.out B0.out)).mono ?_
    rintro e w1 ⟨rfl, hb1⟩
    rw [HV.out]
    have B1 := Lib.hid (B0.out.trans (hb1.mono B0.out.size))
    clear hb1
    go_wp2
    go_ret
    exact ⟨ret_int HR.out.symm, B1.out⟩
  | true =>
    have hok := sysV_ok hv
    have hal := (isA_iff al).1 (sysV_facts hv).1
    have HOK := Lib.hid hok; clear hok
    have HV := Lib.hid hv; clear hv
    by_cases hn : 0 ≤ n ∧ n ≤ 7
    · have hr : trP al st es n = (cntS es (lets al) n.toNat 1 : Nat) := by unfold trP; rw [if_pos ⟨HV.out, hn⟩]
      obtain ⟨m, rfl⟩ := Int.eq_ofNat_of_zero_le hn.1
      rw [Int.toNat_natCast] at hr
      have hm7 : m ≤ 7 := by omega
      have HR := Lib.hid hr; clear hr
      clear hn
      go_enter Tryd.func20, Tryd.ntmps20
      go_wp2_with fail
      refine (specSysValid_any al st a1 n1 c1 es _ (EV.below H.out B0.out)).mono ?_
      rintro e w1 ⟨rfl, hb1⟩
      rw [HV.out]
      have B1 := Lib.hid (B0.out.trans (hb1.mono B0.out.size))
      have R1 := Lib.hid (rowIs_below' R0.out hb1)
      have c0 : w1.cell? ⟨w.heap.size, 0, none⟩ = some (.int .i64 al) := R1.out.cell (by decide)
      have c1' : w1.cell? ⟨w.heap.size, 1, none⟩ = some (.int .i64 st) := R1.out.cell (by decide)
      have c2' : w1.cell? ⟨w.heap.size, 2, none⟩ = some (.slice a1 n1 c1) := R1.out.cell (by decide)
      clear hb1
      go_wp2_with fail
      refine (l2Count_any al st a1 n1 c1 es HOK.out (by omega) (by omega) m hm7 1 (by omega) _ (EV.below H.out B1.out)).mono ?_
      rintro e w2 ⟨rfl, hb2⟩
      have B2 := Lib.hid (B1.out.trans (hb2.mono B1.out.size))
      clear hb2
      go_wp2
      go_ret
      exact ⟨ret_int HR.out.symm, B2.out⟩
    · have hr : trP al st es n = -1 := by unfold trP; rw [if_neg (fun h => hn h.2)]
      have HR := Lib.hid hr; clear hr
      go_enter Tryd.func20, Tryd.ntmps20
      go_wp2_with fail
      refine (specSysValid_any al st a1 n1 c1 es _ (EV.below H.out B0.out)).mono ?_
      rintro e w1 ⟨rfl, hb1⟩
      rw [HV.out]
      have B1 := Lib.hid (B0.out.trans (hb1.mono B0.out.size))
      clear hb1
      by_cases h0 : n < 0
      · go_wp2
        go_ret
        exact ⟨ret_int HR.out.symm, B1.out⟩
      · have h7 : 7 < n := by omega
        go_wp2
        go_ret
        exact ⟨ret_int HR.out.symm, B1.out⟩
end Go.Proofs.YtknhgfmjchfnjaaDoor
