/- ParseAutomaton of the reference: that it ends with an automaton and a word. -/
import Derived.Test.YtagegbhchljggaaAParse1
import Derived.Test.YtagegbhchljggaaAFormat
import Derived.Test.YtagegbhchljggaaParse
import Derived.Test.YtagegbhchljggaaAWrong

namespace Go.Proofs.Ytagegbhchljggaa
open Go.RowKit
set_option linter.unusedVariables false
set_option linter.unusedSimpArgs false
set_option maxRecDepth 100000

def ParseARes (w : World) (e : Ending) (w' : World) : Prop := ∃ (al : Int) (a1 : Option Addr) (n1 c1 : Nat) (a2 : Option Addr) (n2 c2 : Nat) (us : List Value) (xss : List (List Int)) (bs : List Bool) (b : Bool),
  e = .returned (.tuple #[.agg #[.int .i64 al, .slice a1 n1 c1, .slice a2 n2 c2], .bool b]) ∧ AX w.heap.size w' (.slice a1 n1 c1) (.slice a2 n2 c2) us xss bs ∧ xss.length ≤ 100 ∧ bs.length ≤ 100 ∧ (∀ l ∈ xss, l.length ≤ 100) ∧ Below w.heap.size w w'
theorem sown_box {B S m j : Nat} {w : World} {pv u : Value} {ss : List ByteArray} {f : Nat → Value} (h : SOwn B w pv ss) (hr : w.rowIs S 28 m f) : SOwn B (w.setCell ⟨S, j, none⟩ u) pv ss := World.ownsRow.kept h (grown_cell w S j u) (.inr (own_box h hr (by decide)))
set_option maxHeartbeats 8000000 in
theorem specParseAut_any (s : ByteArray) (hs : s.size ≤ 60) (w : World) : Calls Try.prog 76 #[.string s] w (ParseARes w) := by
  have hb0 := below_newA w 28 #[.int .i64 0, .slice none 0 0, .slice none 0 0]
  have hz0 := own_cells w #[.int .i64 0, .slice none 0 0, .slice none 0 0] 28 3 rfl
  go_enter Try.func76, Try.ntmps76
  go_wp2_with fail
  obtain ⟨w0, hw0⟩ : ∃ w0, (w.alloc (.cells #[.int .i64 0, .slice none 0 0, .slice none 0 0] 28)) = w0 := ⟨_, rfl⟩
  have hs0 : w0.heap.size = w.heap.size + 1 := by rw [← hw0]; simp
  rw [hw0] at hb0 hz0 ⊢
  clear hw0
  obtain ⟨Z, hZ⟩ : ∃ Z, w.heap.size = Z := ⟨_, rfl⟩
  rw [hZ] at hb0 hz0 ⊢
  refine (l19Cut_at 32 s (by omega) w0).mono ?_
  rintro e w1 ⟨n, cap, ao, ss, rfl, hn, hone, hns, hown, hall, hb1⟩
  have HB1 := Lib.hid (hb0.trans (hb1.mono (by omega)))
  have HZ1 := Lib.hid (rowIs_below hz0 hb1)
  have hw1 : w0.heap.size ≤ w1.heap.size := hb1.size
  obtain ⟨-, hncap, hcapm, g, rfl, hBg, hg1, hcells⟩ := hown.at (by omega : 0 < n)
  unfold maxLen at hcapm
  have HOWN1 := Lib.hid (show SOwn Z w1 (.slice (some ⟨g, 0, none⟩) n cap) ss from ownsRow_base hown (by omega))
  have HALL := Lib.hid hall; clear hall
  have HN := Lib.hid hn; clear hn
  have hc0 := hcells 0 (by omega)
  obtain ⟨s0, hs0'⟩ : ∃ s0, ss[0]?.getD ByteArray.empty = s0 := ⟨_, rfl⟩
  have hsz : ∀ j, j < n → (ss[j]?.getD ByteArray.empty).size ≤ 60 := fun j hj => by
    have hj' : j < ss.length := by rw [← HN.out]; exact hj
    rw [List.getElem?_eq_getElem hj', Option.getD_some]
    have := HALL.out _ (List.getElem_mem hj')
    omega
  have hz00 := hsz 0 (by omega)
  rw [hs0'] at hc0 hz00
  have HSZ := Lib.hid hsz; clear hsz
  clear hb0 hz0 hb1 hown hcells hs0'
  go_wp2_with fail
  refine (specParse_any s0 (by omega) w1).mono ?_
  rintro e w2 ⟨rfl, hb2⟩
  unfold ParseRet
  obtain ⟨al, hal⟩ : ∃ al, (parseN s0.data.toList : Int) = al := ⟨_, rfl⟩
  obtain ⟨ok, hok⟩ : ∃ ok, parseB s0.data.toList = ok := ⟨_, rfl⟩
  rw [hal, hok]
  have HB2 := Lib.hid (HB1.out.trans (hb2.mono (by omega)))
  have HZ2 := Lib.hid (rowIs_below HZ1.out hb2)
  have HOWN2 := Lib.hid (HOWN1.out.below hb2)
  have hw2 : w1.heap.size ≤ w2.heap.size := hb2.size
  clear hal hok hb2 hc0 HB1 HZ1 HOWN1
  cases ok with
  | false =>
    have z0 : w2.cell? ⟨Z, 0, none⟩ = some (.int .i64 0) := HZ2.out.cell (by decide)
    have z1 : w2.cell? ⟨Z, 1, none⟩ = some (.slice none 0 0) := HZ2.out.cell (by decide)
    have z2 : w2.cell? ⟨Z, 2, none⟩ = some (.slice none 0 0) := HZ2.out.cell (by decide)
    have zf0 := HZ2.out.frozen 0
    have zf1 := HZ2.out.frozen 1
    have zf2 := HZ2.out.frozen 2
    go_wp2
    obtain ⟨wf, hwf⟩ : ∃ wf, (((w2.setCell ⟨Z, 0, none⟩ (.int .i64 0)).setCell ⟨Z, 1, none⟩ (.slice none 0 0)).setCell ⟨Z, 2, none⟩ (.slice none 0 0)) = wf := ⟨_, rfl⟩
    have hfin := rowIs_set3A HZ2.out (.int .i64 0) (.slice none 0 0) (.slice none 0 0)
    have hbF : Below Z w _ := ((HB2.out.setCell (p := ⟨Z, 0, none⟩) (Nat.le_refl _) (.int .i64 0)).setCell (p := ⟨Z, 1, none⟩) (Nat.le_refl _) (.slice none 0 0)).setCell (p := ⟨Z, 2, none⟩) (Nat.le_refl _) (.slice none 0 0)
    rw [hwf] at hfin hbF ⊢
    clear hwf
    have f0 : wf.cell? ⟨Z, 0, none⟩ = some (.int .i64 0) := hfin.cell (by decide)
    have f1 : wf.cell? ⟨Z, 1, none⟩ = some (.slice none 0 0) := hfin.cell (by decide)
    have f2 : wf.cell? ⟨Z, 2, none⟩ = some (.slice none 0 0) := hfin.cell (by decide)
    refine bodyPost_ret (v := .tuple #[.agg #[.int .i64 0, .slice none 0 0, .slice none 0 0], .bool false]) ?_ rfl ?_
    · simp [results, Try.results76, go_sem, f0, f1, f2]
    · exact ⟨_, _, _, _, _, _, _, [], [], [], _, rfl, AX.nil _ _, by simp, by simp, (fun l hl => by cases hl), hZ ▸ hbF⟩
  | true =>
    go_wp2_with fail
    obtain ⟨S, hS⟩ : ∃ S, w2.heap.size = S := ⟨_, rfl⟩
    have hs3 := own_cells w2 #[.int .i64 al, .slice none 0 0, .slice none 0 0] 28 3 rfl
    have hb3 := below_newA w2 28 #[.int .i64 al, .slice none 0 0, .slice none 0 0]
    obtain ⟨wL, hwL⟩ : ∃ wL, (w2.alloc (.cells #[.int .i64 al, .slice none 0 0, .slice none 0 0] 28)) = wL := ⟨_, rfl⟩
    rw [hS] at hs3
    rw [hwL] at hs3 hb3 ⊢
    rw [hS]
    have haq : AQ none Z S al w wL (.slice none 0 0) (.slice none 0 0) [] [] [] := ⟨AX.nil _ _, grown_below none (by rw [hZ]; exact HB2.out.trans (hb3.mono (by omega))), rowIs_below HZ2.out hb3, hs3, hZ, by omega, fun r hr => by cases hr⟩
    have HAQ := Lib.hid haq
    have HOWN := Lib.hid (HOWN2.out.below hb3)
    clear hs3 hb3 haq HB2 HZ2 HOWN2 hwL
    go_loopw [8] (fun i wr => ∃ (k : Nat) (v1 v2 : Value) (us : List Value) (xss : List (List Int)) (bs : List Bool), i = .int .i64 k ∧ 1 ≤ k ∧ k ≤ n ∧ AQ none Z S al w wr v1 v2 us xss bs ∧ SOwn Z wr (.slice (some ⟨g, 0, none⟩) n cap) ss ∧ xss.length + 1 ≤ k ∧ bs.length + 1 ≤ k ∧ (∀ l ∈ xss, l.length ≤ 100)) (fun i _ => n - (intOf i).toNat)
    case atStart => exact ⟨1, _, _, _, _, _, rfl, Nat.le_refl _, hone, HAQ.out, HOWN.out, by simp, by simp, (fun l hl => by cases hl)⟩
    case round =>
      clear HAQ HOWN
      obtain ⟨k, v1, v2, us, xss, bs, rfl, hk1, hk, haq, hown, hxl, hbl, hxx⟩ := hrel
      have hux : us.length = xss.length := haq.1.1.2.1
      have HUX := Lib.hid hux; clear hux
      have HXX := Lib.hid hxx; clear hxx
      by_cases hlt : k < n
      · obtain ⟨-, -, -, g', hgg, hBg', hg1', hcells⟩ := hown.at (by omega : 0 < n)
        injection hgg with hgg
        injection hgg with hgg
        subst hgg
        have e1 := hcells k hlt
        have hzk := HSZ.out k hlt
        obtain ⟨sk, hsk⟩ : ∃ sk, ss[k]?.getD ByteArray.empty = sk := ⟨_, rfl⟩
        rw [hsk] at e1 hzk
        have HSK := Lib.hid (fun (w' : World) (ho : SOwn Z w' (.slice (some ⟨g, 0, none⟩) n cap) ss) => (show w'.cell? ⟨g, k, none⟩ = some (.string sk) from by
          obtain ⟨-, -, -, g', hgg, -, -, hcells⟩ := ho.at (by omega : 0 < n)
          injection hgg with hgg
          injection hgg with hgg
          subst hgg
          rw [← hsk]
          exact hcells k hlt))
        have HAQ := Lib.hid haq
        have HOWN := Lib.hid hown
        have HZX := Lib.hid haq.2.2.1
        have HBX := Lib.hid (aq_bel haq)
        clear haq hown hcells hsk
        by_cases h0 : sk.size = 0
        · have hs0 : sk = ByteArray.empty := ByteArray.ext (Array.eq_empty_of_size_eq_zero h0)
          subst hs0
          have z0 : wr.cell? ⟨Z, 0, none⟩ = some (.int .i64 0) := HZX.out.cell (by decide)
          have z1 : wr.cell? ⟨Z, 1, none⟩ = some (.slice none 0 0) := HZX.out.cell (by decide)
          have z2 : wr.cell? ⟨Z, 2, none⟩ = some (.slice none 0 0) := HZX.out.cell (by decide)
          have zf0 := HZX.out.frozen 0
          have zf1 := HZX.out.frozen 1
          have zf2 := HZX.out.frozen 2
          go_wp2
          obtain ⟨wf, hwf⟩ : ∃ wf, (((wr.setCell ⟨Z, 0, none⟩ (.int .i64 0)).setCell ⟨Z, 1, none⟩ (.slice none 0 0)).setCell ⟨Z, 2, none⟩ (.slice none 0 0)) = wf := ⟨_, rfl⟩
          have hfin := rowIs_set3A HZX.out (.int .i64 0) (.slice none 0 0) (.slice none 0 0)
          have hbF : Below Z w _ := ((HBX.out.setCell (p := ⟨Z, 0, none⟩) (Nat.le_refl _) (.int .i64 0)).setCell (p := ⟨Z, 1, none⟩) (Nat.le_refl _) (.slice none 0 0)).setCell (p := ⟨Z, 2, none⟩) (Nat.le_refl _) (.slice none 0 0)
          rw [hwf] at hfin hbF ⊢
          clear hwf
          have f0 : wf.cell? ⟨Z, 0, none⟩ = some (.int .i64 0) := hfin.cell (by decide)
          have f1 : wf.cell? ⟨Z, 1, none⟩ = some (.slice none 0 0) := hfin.cell (by decide)
          have f2 : wf.cell? ⟨Z, 2, none⟩ = some (.slice none 0 0) := hfin.cell (by decide)
          refine bodyPost_ret (v := .tuple #[.agg #[.int .i64 0, .slice none 0 0, .slice none 0 0], .bool false]) ?_ rfl ?_
          · simp [results, Try.results76, go_sem, f0, f1, f2]
          · exact ⟨_, _, _, _, _, _, _, [], [], [], _, rfl, AX.nil _ _, by simp, by simp, (fun l hl => by cases hl), hZ ▸ hbF⟩
        · have hemp := notEmpty h0
          have hpos : 0 < sk.size := by omega
          have hpos' : (0 : Int) < (sk.size : Int) := by omega
          have h1le : (1 : Int) ≤ (sk.size : Int) := by omega
          have hts : (sk.extract 1 sk.size).size = sk.size - 1 := by simp
          go_wp2_with fail
          refine (l3Parse_any (sk.extract 1 sk.size) (by omega) wr).mono ?_
          rintro e w5 ⟨ar, nr, cr, row, b, rfl, hrow, hrl, hb5⟩
          have hrl' : row.length ≤ 100 := by omega
          have haq5 := HAQ.out.below hb5
          have HZ5 := Lib.hid haq5.2.2.1
          have HB5 := Lib.hid (aq_bel haq5)
          have ho5 := HOWN.out.below hb5
          have e5 := HSK.out w5 ho5
          have HOWN5 := Lib.hid ho5
          obtain ⟨q0, q1, q2⟩ := haq5.cells
          have HAQ5 := Lib.hid haq5
          have HROW5 := Lib.hid hrow
          have HLO := Lib.hid (fun g hg => (World.ownsRow.lt hrow g hg).1)
          clear hb5 ho5 haq5 hrow hrl hts e1
          cases b with
          | false =>
            clear q0 q1 q2
            have z0 : w5.cell? ⟨Z, 0, none⟩ = some (.int .i64 0) := HZ5.out.cell (by decide)
            have z1 : w5.cell? ⟨Z, 1, none⟩ = some (.slice none 0 0) := HZ5.out.cell (by decide)
            have z2 : w5.cell? ⟨Z, 2, none⟩ = some (.slice none 0 0) := HZ5.out.cell (by decide)
            have zf0 := HZ5.out.frozen 0
            have zf1 := HZ5.out.frozen 1
            have zf2 := HZ5.out.frozen 2
            go_wp2
            obtain ⟨wf, hwf⟩ : ∃ wf, (((w5.setCell ⟨Z, 0, none⟩ (.int .i64 0)).setCell ⟨Z, 1, none⟩ (.slice none 0 0)).setCell ⟨Z, 2, none⟩ (.slice none 0 0)) = wf := ⟨_, rfl⟩
            have hfin := rowIs_set3A HZ5.out (.int .i64 0) (.slice none 0 0) (.slice none 0 0)
            have hbF : Below Z w _ := ((HB5.out.setCell (p := ⟨Z, 0, none⟩) (Nat.le_refl _) (.int .i64 0)).setCell (p := ⟨Z, 1, none⟩) (Nat.le_refl _) (.slice none 0 0)).setCell (p := ⟨Z, 2, none⟩) (Nat.le_refl _) (.slice none 0 0)
            rw [hwf] at hfin hbF ⊢
            clear hwf
            have f0 : wf.cell? ⟨Z, 0, none⟩ = some (.int .i64 0) := hfin.cell (by decide)
            have f1 : wf.cell? ⟨Z, 1, none⟩ = some (.slice none 0 0) := hfin.cell (by decide)
            have f2 : wf.cell? ⟨Z, 2, none⟩ = some (.slice none 0 0) := hfin.cell (by decide)
            refine bodyPost_ret (v := .tuple #[.agg #[.int .i64 0, .slice none 0 0, .slice none 0 0], .bool false]) ?_ rfl ?_
            · simp [results, Try.results76, go_sem, f0, f1, f2]
            · exact ⟨_, _, _, _, _, _, _, [], [], [], _, rfl, AX.nil _ _, by simp, by simp, (fun l hl => by cases hl), hZ ▸ hbF⟩
          | true =>
            have hun : w5.ownsRow Z 44 1 v1 us.length (us.map id) := by rw [List.map_id]; exact HAQ5.out.1.1.1
            have HUN := Lib.hid hun
            have hul : us.length ≤ 1000000 := by have := HUX.out; omega
            have hZ5 := HAQ5.out.low
            clear hun
            go_wp2_with (at_builtin; refine appL_rows w5 Z rfl _ _ rfl (.slice ar nr cr) rfl v1 us rfl HUN.out rfl hul hZ5 ?_)
            intro ao1 m1 cap1 w6 hm1 hown6 hkept
            subst hm1
            have hs6 := HAQ5.out.box1 hkept
            have s1 : w6.cell? ⟨S, 1, none⟩ = some v1 := hs6.cell (by decide)
            have s2 := hs6.frozen 1
            have hd7 := HAQ5.out.app1 (x := row) (HROW5.out.base HAQ.out.low) HAQ.out.lt HLO.out hkept (by simpa using hown6)
            have ho7 := sown_box (j := 1) (u := .slice ao1 (us.length + 1) cap1) (sown_kept HOWN5.out HUN.out (by decide) hkept.2) hs6
            obtain ⟨w7, hw7⟩ : ∃ w7, w6.setCell ⟨S, 1, none⟩ (.slice ao1 (us.length + 1) cap1) = w7 := ⟨_, rfl⟩
            rw [hw7] at hd7 ho7
            have HAQ7 := Lib.hid hd7.1
            have HOWN7 := Lib.hid ho7
            have e7 := HSK.out w7 ho7
            have q7 := hd7.1.cells.2.2
            clear hd7 ho7 hs6 hkept hown6 q0 q1 q2 e5 HAQ5 HUN
            have e7d : w7.drew.cell? ⟨g, k, none⟩ = some (.string sk) := e7
            have q7d : w7.drew.cell? ⟨S, 2, none⟩ = some v2 := q7
            obtain ⟨c0, hc0⟩ : ∃ c0, sk[0] = c0 := ⟨_, rfl⟩
            have e7x := keep_cellA (below_newA w7 4 #[.bool ((c0.toNat : Int) == 43)]) e7
            have q7x := keep_cellA (below_newA w7 4 #[.bool ((c0.toNat : Int) == 43)]) q7
            go_wp2_with fail
            refine wp_region_held_drew (S := fun w' => w'.cell? ⟨g, k, none⟩ = some (.string sk)) (by kernel_rfl) e7d (fun hHeld => ?_)
            first | (refine wpAnyH_take (i := 0) (get_of_drop rfl) (by kernel_rfl) (by kernel_rfl) (by kernel_rfl) (fun _ _ _ h => h) (Or.inr ⟨?_, rfl⟩) hHeld ?_; (focus (simp [Region.wanted, yielded, undef]; done)); (try simp only [Act.put, List.setIfInBounds_toArray, List.set_cons_zero, List.set_cons_succ])) | (refine wpAnyH_take (i := 0) (v := ?_) (get_of_drop rfl) (by kernel_rfl) (by kernel_rfl) (by kernel_rfl) (fun _ _ _ h => h) (Or.inl ⟨?_, ?_⟩) hHeld ?_; rotate_left; (focus rfl); (focus (intro w hSw; (try dsimp only at hSw); go_simp; (try (with_reducible rfl)))); (try simp only [Act.put, List.setIfInBounds_toArray, List.set_cons_zero, List.set_cons_succ]))
            first | (refine wpAnyH_take (i := 2) (get_of_drop rfl) (by kernel_rfl) (by kernel_rfl) (by kernel_rfl) (fun _ _ _ h => h) (Or.inr ⟨?_, rfl⟩) hHeld ?_; (focus (simp [Region.wanted, yielded, undef]; done)); (try simp only [Act.put, List.setIfInBounds_toArray, List.set_cons_zero, List.set_cons_succ])) | (refine wpAnyH_take (i := 2) (v := ?_) (get_of_drop rfl) (by kernel_rfl) (by kernel_rfl) (by kernel_rfl) (fun _ _ _ h => h) (Or.inl ⟨?_, ?_⟩) hHeld ?_; rotate_left; (focus rfl); (focus (intro w hSw; (try dsimp only at hSw); go_simp; (try (with_reducible rfl)))); (try simp only [Act.put, List.setIfInBounds_toArray, List.set_cons_zero, List.set_cons_succ]))
            first | (refine wpAnyH_take (i := 3) (get_of_drop rfl) (by kernel_rfl) (by kernel_rfl) (by kernel_rfl) (fun _ _ _ h => h) (Or.inr ⟨?_, rfl⟩) hHeld ?_; (focus (simp [Region.wanted, yielded, undef]; done)); (try simp only [Act.put, List.setIfInBounds_toArray, List.set_cons_zero, List.set_cons_succ])) | (refine wpAnyH_take (i := 3) (v := ?_) (get_of_drop rfl) (by kernel_rfl) (by kernel_rfl) (by kernel_rfl) (fun _ _ _ h => h) (Or.inl ⟨?_, ?_⟩) hHeld ?_; rotate_left; (focus rfl); (focus (intro w hSw; (try dsimp only at hSw); go_simp; (try (with_reducible rfl)))); (try simp only [Act.put, List.setIfInBounds_toArray, List.set_cons_zero, List.set_cons_succ]))
            first | (refine wpAnyH_take (i := 4) (get_of_drop rfl) (by kernel_rfl) (by kernel_rfl) (by kernel_rfl) (fun _ _ _ h => h) (Or.inr ⟨?_, rfl⟩) hHeld ?_; (focus (simp [Region.wanted, yielded, undef]; done)); (try simp only [Act.put, List.setIfInBounds_toArray, List.set_cons_zero, List.set_cons_succ])) | (refine wpAnyH_take (i := 4) (v := ?_) (get_of_drop rfl) (by kernel_rfl) (by kernel_rfl) (by kernel_rfl) (fun _ _ _ h => h) (Or.inl ⟨?_, ?_⟩) hHeld ?_; rotate_left; (focus rfl); (focus (intro w hSw; (try dsimp only at hSw); go_simp; (try (with_reducible rfl)))); (try simp only [Act.put, List.setIfInBounds_toArray, List.set_cons_zero, List.set_cons_succ]))
            first | (refine wpAnyH_take (i := 5) (get_of_drop rfl) (by kernel_rfl) (by kernel_rfl) (by kernel_rfl) (fun _ _ _ h => h) (Or.inr ⟨?_, rfl⟩) hHeld ?_; (focus (simp [Region.wanted, yielded, undef]; done)); (try simp only [Act.put, List.setIfInBounds_toArray, List.set_cons_zero, List.set_cons_succ])) | (refine wpAnyH_take (i := 5) (v := ?_) (get_of_drop rfl) (by kernel_rfl) (by kernel_rfl) (by kernel_rfl) (fun _ _ _ h => h) (Or.inl ⟨?_, ?_⟩) hHeld ?_; rotate_left; (focus rfl); (focus (intro w hSw; (try dsimp only at hSw); go_simp; (try (with_reducible rfl)))); (try simp only [Act.put, List.setIfInBounds_toArray, List.set_cons_zero, List.set_cons_succ]))
            first | (refine wpAnyH_take (i := 6) (get_of_drop rfl) (by kernel_rfl) (by kernel_rfl) (by kernel_rfl) (fun _ _ _ h => h) (Or.inr ⟨?_, rfl⟩) hHeld ?_; (focus (simp [Region.wanted, yielded, undef]; done)); (try simp only [Act.put, List.setIfInBounds_toArray, List.set_cons_zero, List.set_cons_succ])) | (refine wpAnyH_take (i := 6) (v := ?_) (get_of_drop rfl) (by kernel_rfl) (by kernel_rfl) (by kernel_rfl) (fun _ _ _ h => h) (Or.inl ⟨?_, ?_⟩) hHeld ?_; rotate_left; (focus rfl); (focus (intro w hSw; (try dsimp only at hSw); go_simp; (try (with_reducible rfl)))); (try simp only [Act.put, List.setIfInBounds_toArray, List.set_cons_zero, List.set_cons_succ]))
            first | (refine wpAnyH_take (i := 7) (get_of_drop rfl) (by kernel_rfl) (by kernel_rfl) (by kernel_rfl) (fun _ _ _ h => h) (Or.inr ⟨?_, rfl⟩) hHeld ?_; (focus (simp [Region.wanted, yielded, undef]; done)); (try simp only [Act.put, List.setIfInBounds_toArray, List.set_cons_zero, List.set_cons_succ])) | (refine wpAnyH_take (i := 7) (v := ?_) (get_of_drop rfl) (by kernel_rfl) (by kernel_rfl) (by kernel_rfl) (fun _ _ _ h => h) (Or.inl ⟨?_, ?_⟩) hHeld ?_; rotate_left; (focus rfl); (focus (intro w hSw; (try dsimp only at hSw); go_simp; (try (with_reducible rfl)))); (try simp only [Act.put, List.setIfInBounds_toArray, List.set_cons_zero, List.set_cons_succ]))
            refine wpAnyH_ready (rs := [1, 8]) (by kernel_rfl) (by simp) ?_
            refine AllReadyH.cons (get_of_drop rfl) (fun K hK => ?_) ?_
            · go_simp
              refine hK.out _ _ e7d (fun hHeld => ?_)
              clear hK K
              try simp only [Act.put, List.setIfInBounds_toArray, List.set_cons_zero, List.set_cons_succ]
              refine wpAnyH_ready (rs := [8]) (by kernel_rfl) (by simp) ?_
              refine AllReadyH.cons (get_of_drop rfl) (fun K hK => ?_) AllReadyH.nil
              go_simp
              refine hK.out _ _ e7x (fun hHeld => ?_)
              clear hK K
              try simp only [Act.put, List.setIfInBounds_toArray, List.set_cons_zero, List.set_cons_succ]
              refine wpAnyH_ready (rs := [9]) (by kernel_rfl) (by simp) ?_
              refine AllReadyH.cons (get_of_drop rfl) (fun K hK => ?_) AllReadyH.nil
              rw [if_pos (by rfl)]
              refine appK_bool w7.drew Z rfl _ _ rfl _ v2 bs rfl HAQ7.out.drew.1.2 rfl (by omega) HAQ7.out.drew.low ?_
              intro ao2 m2 cap2 w8 hm2 hown8 hkept8
              subst hm2
              have hs8 := HAQ7.out.drew.box2 hkept8
              have s3 : w8.cell? ⟨S, 2, none⟩ = some v2 := hs8.cell (by decide)
              have s4 := hs8.frozen 2
              have ho8 : SOwn Z w8 (.slice (some ⟨g, 0, none⟩) n cap) ss := sown_kept (w := w7.drew) HOWN7.out HAQ7.out.drew.1.2 (by decide) hkept8.2
              have ho9 := sown_box (j := 2) (u := .slice ao2 (bs.length + 1) cap2) ho8 hs8
              refine hK.out _ _ (HSK.out w8 ho8) (fun hHeld => ?_)
              clear hK K
              try simp only [Act.put, List.setIfInBounds_toArray, List.set_cons_zero, List.set_cons_succ]
              first | (refine wpAnyH_take (i := 10) (get_of_drop rfl) (by kernel_rfl) (by kernel_rfl) (by kernel_rfl) (fun _ _ _ h => h) (Or.inr ⟨?_, rfl⟩) hHeld ?_; (focus (simp [Region.wanted, yielded, undef]; done)); (try simp only [Act.put, List.setIfInBounds_toArray, List.set_cons_zero, List.set_cons_succ])) | (refine wpAnyH_take (i := 10) (v := ?_) (get_of_drop rfl) (by kernel_rfl) (by kernel_rfl) (by kernel_rfl) (fun _ _ _ h => h) (Or.inl ⟨?_, ?_⟩) hHeld ?_; rotate_left; (focus rfl); (focus (intro w hSw; (try dsimp only at hSw); go_simp; (try (with_reducible rfl)))); (try simp only [Act.put, List.setIfInBounds_toArray, List.set_cons_zero, List.set_cons_succ]))
              refine wpAnyH_ready (rs := [11]) (by kernel_rfl) (by simp) ?_
              refine AllReadyH.cons (get_of_drop rfl) (fun K hK => ?_) AllReadyH.nil
              have HD9 := Lib.hid (HAQ7.out.drew.app2 hkept8 hown8).1
              have HO9 := Lib.hid ho9
              clear hs8 hkept8 hown8 ho8 ho9
              go_simp
              refine hK.out _ _ (HSK.out _ HO9.out) (fun hHeld => ?_)
              clear hK K
              try simp only [Act.put, List.setIfInBounds_toArray, List.set_cons_zero, List.set_cons_succ]
              refine wpAnyH_done (by kernel_rfl) ?_ _
              go_wp2
              go_roundw
              case rel => exact ⟨k + 1, _, _, _, _, _, by go_num, by omega, by omega, HD9.out, HO9.out, by simp; omega, by simp; omega, lens_push HXX.out hrl'⟩
              case measure => simp [intOf] <;> omega
            · refine AllReadyH.cons (get_of_drop rfl) (fun K hK => ?_) AllReadyH.nil
              go_simp
              refine hK.out _ _ e7x (fun hHeld => ?_)
              clear hK K
              try simp only [Act.put, List.setIfInBounds_toArray, List.set_cons_zero, List.set_cons_succ]
              refine wpAnyH_ready (rs := [1]) (by kernel_rfl) (by simp) ?_
              refine AllReadyH.cons (get_of_drop rfl) (fun K hK => ?_) AllReadyH.nil
              go_simp
              refine hK.out _ _ e7x (fun hHeld => ?_)
              clear hK K
              try simp only [Act.put, List.setIfInBounds_toArray, List.set_cons_zero, List.set_cons_succ]
              refine wpAnyH_ready (rs := [9]) (by kernel_rfl) (by simp) ?_
              refine AllReadyH.cons (get_of_drop rfl) (fun K hK => ?_) AllReadyH.nil
              rw [if_pos (by rfl)]
              refine appK_bool w7.drew Z rfl _ _ rfl _ v2 bs rfl HAQ7.out.drew.1.2 rfl (by omega) HAQ7.out.drew.low ?_
              intro ao2 m2 cap2 w8 hm2 hown8 hkept8
              subst hm2
              have hs8 := HAQ7.out.drew.box2 hkept8
              have s3 : w8.cell? ⟨S, 2, none⟩ = some v2 := hs8.cell (by decide)
              have s4 := hs8.frozen 2
              have ho8 : SOwn Z w8 (.slice (some ⟨g, 0, none⟩) n cap) ss := sown_kept (w := w7.drew) HOWN7.out HAQ7.out.drew.1.2 (by decide) hkept8.2
              have ho9 := sown_box (j := 2) (u := .slice ao2 (bs.length + 1) cap2) ho8 hs8
              refine hK.out _ _ (HSK.out w8 ho8) (fun hHeld => ?_)
              clear hK K
              try simp only [Act.put, List.setIfInBounds_toArray, List.set_cons_zero, List.set_cons_succ]
              first | (refine wpAnyH_take (i := 10) (get_of_drop rfl) (by kernel_rfl) (by kernel_rfl) (by kernel_rfl) (fun _ _ _ h => h) (Or.inr ⟨?_, rfl⟩) hHeld ?_; (focus (simp [Region.wanted, yielded, undef]; done)); (try simp only [Act.put, List.setIfInBounds_toArray, List.set_cons_zero, List.set_cons_succ])) | (refine wpAnyH_take (i := 10) (v := ?_) (get_of_drop rfl) (by kernel_rfl) (by kernel_rfl) (by kernel_rfl) (fun _ _ _ h => h) (Or.inl ⟨?_, ?_⟩) hHeld ?_; rotate_left; (focus rfl); (focus (intro w hSw; (try dsimp only at hSw); go_simp; (try (with_reducible rfl)))); (try simp only [Act.put, List.setIfInBounds_toArray, List.set_cons_zero, List.set_cons_succ]))
              refine wpAnyH_ready (rs := [11]) (by kernel_rfl) (by simp) ?_
              refine AllReadyH.cons (get_of_drop rfl) (fun K hK => ?_) AllReadyH.nil
              have HD9 := Lib.hid (HAQ7.out.drew.app2 hkept8 hown8).1
              have HO9 := Lib.hid ho9
              clear hs8 hkept8 hown8 ho8 ho9
              go_simp
              refine hK.out _ _ (HSK.out _ HO9.out) (fun hHeld => ?_)
              clear hK K
              try simp only [Act.put, List.setIfInBounds_toArray, List.set_cons_zero, List.set_cons_succ]
              refine wpAnyH_done (by kernel_rfl) ?_ _
              go_wp2
              go_roundw
              case rel => exact ⟨k + 1, _, _, _, _, _, by go_num, by omega, by omega, HD9.out, HO9.out, by simp; omega, by simp; omega, lens_push HXX.out hrl'⟩
              case measure => simp [intOf] <;> omega
      · obtain rfl : k = n := by omega
        obtain ⟨a5, c5, hv5⟩ := own_shape haq.1.1.1
        obtain ⟨a6, c6, hv6⟩ := own_shape haq.1.2
        subst hv5 hv6
        obtain ⟨q0, q1, q2⟩ := haq.cells
        have HAQ := Lib.hid haq
        clear haq hown
        go_wp2_with fail
        refine (specFormatAut_any al a5 us.length c5 a6 bs.length c6 xss bs wr (RO.mv HAQ.out.1.1) (TRow.bv HAQ.out.1.2)).mono ?_
        rintro e w5 ⟨r, rfl, hr, hb5⟩
        have haq5 := HAQ.out.below hb5
        have HZ5 := Lib.hid haq5.2.2.1
        have HB5 := Lib.hid (aq_bel haq5)
        have HAQ5 := Lib.hid haq5
        clear q0 q1 q2 hb5
        obtain ⟨q0, q1, q2⟩ := haq5.cells
        clear haq5
        have z0 : w5.cell? ⟨Z, 0, none⟩ = some (.int .i64 0) := HZ5.out.cell (by decide)
        have z1 : w5.cell? ⟨Z, 1, none⟩ = some (.slice none 0 0) := HZ5.out.cell (by decide)
        have z2 : w5.cell? ⟨Z, 2, none⟩ = some (.slice none 0 0) := HZ5.out.cell (by decide)
        have zf0 := HZ5.out.frozen 0
        have zf1 := HZ5.out.frozen 1
        have zf2 := HZ5.out.frozen 2
        cases hq : (r.toList == s.toList) with
        | false =>
          go_wp2
          obtain ⟨wf, hwf⟩ : ∃ wf, (((w5.setCell ⟨Z, 0, none⟩ (.int .i64 0)).setCell ⟨Z, 1, none⟩ (.slice none 0 0)).setCell ⟨Z, 2, none⟩ (.slice none 0 0)) = wf := ⟨_, rfl⟩
          have hfin := rowIs_set3A HZ5.out (.int .i64 0) (.slice none 0 0) (.slice none 0 0)
          have hbF : Below Z w _ := ((HB5.out.setCell (p := ⟨Z, 0, none⟩) (Nat.le_refl _) (.int .i64 0)).setCell (p := ⟨Z, 1, none⟩) (Nat.le_refl _) (.slice none 0 0)).setCell (p := ⟨Z, 2, none⟩) (Nat.le_refl _) (.slice none 0 0)
          rw [hwf] at hfin hbF ⊢
          clear hwf
          have f0 : wf.cell? ⟨Z, 0, none⟩ = some (.int .i64 0) := hfin.cell (by decide)
          have f1 : wf.cell? ⟨Z, 1, none⟩ = some (.slice none 0 0) := hfin.cell (by decide)
          have f2 : wf.cell? ⟨Z, 2, none⟩ = some (.slice none 0 0) := hfin.cell (by decide)
          refine bodyPost_ret (v := .tuple #[.agg #[.int .i64 0, .slice none 0 0, .slice none 0 0], .bool false]) ?_ rfl ?_
          · simp [results, Try.results76, go_sem, f0, f1, f2]
          · exact ⟨_, _, _, _, _, _, _, [], [], [], _, rfl, AX.nil _ _, by simp, by simp, (fun l hl => by cases hl), hZ ▸ hbF⟩
        | true =>
          go_wp2
          have hfin := HAQ5.out.fin
          obtain ⟨wf, hwf⟩ : ∃ wf, (((w5.setCell ⟨Z, 0, none⟩ (.int .i64 al)).setCell ⟨Z, 1, none⟩ (.slice a5 us.length c5)).setCell ⟨Z, 2, none⟩ (.slice a6 bs.length c6)) = wf := ⟨_, rfl⟩
          rw [hwf] at hfin ⊢
          clear hwf
          obtain ⟨d1, d2, d3, -⟩ := hfin
          have f0 : wf.cell? ⟨Z, 0, none⟩ = some (.int .i64 al) := d3.cell (by decide)
          have f1 : wf.cell? ⟨Z, 1, none⟩ = some (.slice a5 us.length c5) := d3.cell (by decide)
          have f2 : wf.cell? ⟨Z, 2, none⟩ = some (.slice a6 bs.length c6) := d3.cell (by decide)
          refine bodyPost_ret (v := .tuple #[.agg #[.int .i64 al, .slice a5 us.length c5, .slice a6 bs.length c6], .bool true]) ?_ rfl ?_
          · simp [results, Try.results76, go_sem, f0, f1, f2]
          · exact ⟨al, a5, _, c5, a6, _, c6, us, xss, bs, true, rfl, d1.base (by omega), by omega, by omega, HXX.out, ⟨d2.os, d2.tape, d2.output, d2.size, fun q hq => d2.block q hq (by simp)⟩⟩
end Go.Proofs.Ytagegbhchljggaa
