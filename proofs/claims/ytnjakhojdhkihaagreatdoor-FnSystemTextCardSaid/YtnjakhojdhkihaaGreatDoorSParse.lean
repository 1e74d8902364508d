/- ParseSystem of the reference: that it ends with a system and a word. -/
import Derived.Test.YtnjakhojdhkihaaGreatDoorSText3
import Derived.Test.YtnjakhojdhkihaaGreatDoorParse
namespace Go.Proofs.YtnjakhojdhkihaaGreatDoor
open Go.RowKit
set_option linter.unusedVariables false
set_option linter.unusedSimpArgs false
set_option maxRecDepth 100000

/-- A system under way in a box, no reader about. -/
def PSt (S : Nat) (al st : Int) (wL w : World) (v : Value) (es : List Edg) : Prop :=
  w.rowIs S 24 3 (fun i => #[.int .i64 al, .int .i64 st, v][i]?.getD undef) ∧ EOwn wL.heap.size w v es ∧ S < wL.heap.size ∧ Onl (fun q => q = S) wL w
theorem Onl.belowT {S : Nat → Prop} {a b c : World} (h : Onl S a b) (hb : Below b.heap.size b c) : Onl S a c :=
  ⟨hb.os.trans h.1, hb.tape.trans h.2.1, hb.output.trans h.2.2.1, Nat.le_trans h.2.2.2.1 hb.size, fun k hk hn => (hb.block k (Nat.lt_of_lt_of_le hk h.2.2.2.1)).trans (h.2.2.2.2 k hk hn)⟩
theorem PSt.below {S : Nat} {al st : Int} {wL w w' : World} {v : Value} {es : List Edg} (h : PSt S al st wL w v es) (hb : Below w.heap.size w w') : PSt S al st wL w' v es :=
  ⟨rowIs_below' h.1 hb, h.2.1.below hb, h.2.2.1, h.2.2.2.belowT hb⟩
theorem PSt.app {S : Nat} {al st : Int} {wL w w5 : World} {v v' : Value} {es es' : List Edg} (h : PSt S al st wL w v es) (hk : Kept wL.heap.size w w5 v) (ho : EOwn wL.heap.size w5 v' es') : PSt S al st wL (w5.setCell ⟨S, 2, none⟩ v') v' es' := by
  obtain ⟨h2, h3, h5, h6⟩ := h
  have hsz := h6.2.2.2.1
  have hB : Below wL.heap.size w w5 := hk.1 w (Below.refl _ _)
  have hblk : ∀ k, k < wL.heap.size → w5.heap[k]? = w.heap[k]? := hB.block
  refine ⟨?_, ho.set h5, h5, ?_⟩
  · exact ((h2.of_block (hblk S h5)).set 2 v').congr (fun j hj => by
      obtain rfl | rfl | rfl : j = 0 ∨ j = 1 ∨ j = 2 := by omega
      all_goals rfl)
  · refine ⟨hB.os.trans h6.1, hB.tape.trans h6.2.1, hB.output.trans h6.2.2.1, ?_, fun k hk hn => ?_⟩
    · have := hB.size; simp; omega
    · rw [Below.heap_setCell _ _ _ _ (by simp; exact fun e => hn e), hblk k hk]
      exact h6.2.2.2.2 k hk hn
theorem below_onl {S : Nat → Prop} {w0 wL w : World} (h0 : Below w0.heap.size w0 wL) (h : Onl S wL w) (hS : ∀ q, S q → w0.heap.size ≤ q) : Below w0.heap.size w0 w :=
  ⟨h.1.trans h0.os, h.2.1.trans h0.tape, h.2.2.1.trans h0.output, Nat.le_trans h0.size h.2.2.2.1, fun k hk => (h.2.2.2.2 k (Nat.lt_of_lt_of_le hk h0.size) (fun e => by have := hS k e; omega)).trans (h0.block k hk)⟩
def ParseSRes (w : World) (e : Ending) (w' : World) : Prop := ∃ (al st : Int) (a : Option Addr) (n c : Nat) (es : List Edg) (b : Bool), e = .returned (.tuple #[.agg #[.int .i64 al, .int .i64 st, .slice a n c], .bool b]) ∧ es.length ≤ 1000 ∧ (∀ R, R < w.heap.size → EVR R w' (.slice a n c) es) ∧ Below w.heap.size w w'
theorem evr_nil (R : Nat) (w : World) : EVR R w (.slice none 0 0) [] := ⟨none, 0, rfl, Nat.le_refl _, by decide, .inl rfl⟩
set_option maxHeartbeats 8000000 in
theorem specParseSys_any (s : ByteArray) (hs : s.size ≤ 900) (w : World) : Calls Tryz.prog 5 #[.string s] w (ParseSRes w) := by
  have hb0 := below_new' w 24 #[.int .i64 0, .int .i64 0, .slice none 0 0]
  have hz0 := sys_cells w 0 0 (.slice none 0 0) 24
  go_enter Tryz.func5, Tryz.ntmps5
  go_wp2_with fail
  obtain ⟨w0, hw0⟩ : ∃ w0, (w.alloc (.cells #[.int .i64 0, .int .i64 0, .slice none 0 0] 24)) = w0 := ⟨_, rfl⟩
  rw [hw0] at hb0 hz0 ⊢
  clear hw0
  refine (l19Cut_any s (by omega) w0).mono ?_
  rintro e w1 ⟨n, cap, ao, ss, rfl, hn, hns, hown, hall, hb1⟩
  have HB1 := Lib.hid (hb0.trans (hb1.mono hb0.size))
  have HZ1 := Lib.hid (rowIs_below' hz0 hb1)
  have HOWN := Lib.hid hown; clear hown
  have HALL := Lib.hid hall; clear hall
  have HN := Lib.hid hn; clear hn
  clear hb0 hz0 hb1
  by_cases h2 : (n : Int) < 2
  · have z0 : w1.cell? ⟨w.heap.size, 0, none⟩ = some (.int .i64 0) := HZ1.out.cell (by decide)
    have z1 : w1.cell? ⟨w.heap.size, 1, none⟩ = some (.int .i64 0) := HZ1.out.cell (by decide)
    have z2 : w1.cell? ⟨w.heap.size, 2, none⟩ = some (.slice none 0 0) := HZ1.out.cell (by decide)
    have zf0 := HZ1.out.frozen 0
    have zf1 := HZ1.out.frozen 1
    have zf2 := HZ1.out.frozen 2
    go_wp2
    obtain ⟨wf, hwf⟩ : ∃ wf, (((w1.setCell ⟨w.heap.size, 0, none⟩ (.int .i64 0)).setCell ⟨w.heap.size, 1, none⟩ (.int .i64 0)).setCell ⟨w.heap.size, 2, none⟩ (.slice none 0 0)) = wf := ⟨_, rfl⟩
    have hfin := rowIs_set3 HZ1.out (.int .i64 0) (.int .i64 0) (.slice none 0 0)
    have hbF : Below w.heap.size w _ := ((HB1.out.setCell (p := ⟨w.heap.size, 0, none⟩) (by simp) (.int .i64 0)).setCell (p := ⟨w.heap.size, 1, none⟩) (by simp) (.int .i64 0)).setCell (p := ⟨w.heap.size, 2, none⟩) (by simp) (.slice none 0 0)
    rw [hwf] at hfin hbF ⊢
    clear hwf
    have f0 : wf.cell? ⟨w.heap.size, 0, none⟩ = some (.int .i64 0) := hfin.cell (by decide)
    have f1 : wf.cell? ⟨w.heap.size, 1, none⟩ = some (.int .i64 0) := hfin.cell (by decide)
    have f2 : wf.cell? ⟨w.heap.size, 2, none⟩ = some (.slice none 0 0) := hfin.cell (by decide)
    refine bodyPost_ret (v := .tuple #[.agg #[.int .i64 0, .int .i64 0, .slice none 0 0], .bool false]) ?_ rfl ?_
    · simp [results, Tryz.results5, go_sem, f0, f1, f2]
    · exact ⟨_, _, _, _, _, [], _, rfl, by simp, fun R _ => evr_nil R wf, hbF⟩
  · obtain ⟨-, hncap, hcapm, g, rfl, hBg, hg1, hcells⟩ := HOWN.out.at (by omega : 0 < n)
    unfold maxLen at hcapm
    have hc0 := hcells 0 (by omega)
    have hc1 := hcells 1 (by omega)
    obtain ⟨s0, hs0⟩ : ∃ s0, ss[0]?.getD ByteArray.empty = s0 := ⟨_, rfl⟩
    obtain ⟨s1, hs1⟩ : ∃ s1, ss[1]?.getD ByteArray.empty = s1 := ⟨_, rfl⟩
    have hsz : ∀ j, j < n → (ss[j]?.getD ByteArray.empty).size ≤ 900 := fun j hj => by
      have hj' : j < ss.length := by rw [← HN.out]; exact hj
      rw [List.getElem?_eq_getElem hj', Option.getD_some]
      have := HALL.out _ (List.getElem_mem hj')
      omega
    have hz0 := hsz 0 (by omega)
    have hz1 := hsz 1 (by omega)
    rw [hs0] at hc0 hz0
    rw [hs1] at hc1 hz1
    have HCELL := Lib.hid hcells
    have HSZ := Lib.hid hsz; clear hsz
    clear hcells hs0 hs1
    go_wp2_with fail
    refine (specParse_any s0 (by omega) w1).mono ?_
    rintro e w2 ⟨rfl, hb2⟩
    unfold ParseRet
    obtain ⟨al, hal⟩ : ∃ al, (parseN s0.data.toList : Int) = al := ⟨_, rfl⟩
    obtain ⟨ok, hok⟩ : ∃ ok, parseB s0.data.toList = ok := ⟨_, rfl⟩
    rw [hal, hok]
    have d1 : w2.cell? ⟨g, 1, none⟩ = some (.string s1) := keep_cell hb2 hc1
    have HB2 := Lib.hid (HB1.out.trans (hb2.mono HB1.out.size))
    have HZ2 := Lib.hid (rowIs_below' HZ1.out hb2)
    have HK2 := Lib.hid hb2
    clear hal hok hb2 hc0 hc1
    go_wp2_with fail
    refine (l19Num_any s1 (by omega) w2).mono ?_
    rintro e w3 ⟨st, fine, rfl, hw3⟩
    replace hw3 := hw3.symm
    subst hw3
    cases ok with
    | false =>
      have z0 : w2.cell? ⟨w.heap.size, 0, none⟩ = some (.int .i64 0) := HZ2.out.cell (by decide)
      have z1 : w2.cell? ⟨w.heap.size, 1, none⟩ = some (.int .i64 0) := HZ2.out.cell (by decide)
      have z2 : w2.cell? ⟨w.heap.size, 2, none⟩ = some (.slice none 0 0) := HZ2.out.cell (by decide)
      have zf0 := HZ2.out.frozen 0
      have zf1 := HZ2.out.frozen 1
      have zf2 := HZ2.out.frozen 2
      go_wp2
      obtain ⟨wf, hwf⟩ : ∃ wf, (((w2.setCell ⟨w.heap.size, 0, none⟩ (.int .i64 0)).setCell ⟨w.heap.size, 1, none⟩ (.int .i64 0)).setCell ⟨w.heap.size, 2, none⟩ (.slice none 0 0)) = wf := ⟨_, rfl⟩
      have hfin := rowIs_set3 HZ2.out (.int .i64 0) (.int .i64 0) (.slice none 0 0)
      have hbF : Below w.heap.size w _ := ((HB2.out.setCell (p := ⟨w.heap.size, 0, none⟩) (by simp) (.int .i64 0)).setCell (p := ⟨w.heap.size, 1, none⟩) (by simp) (.int .i64 0)).setCell (p := ⟨w.heap.size, 2, none⟩) (by simp) (.slice none 0 0)
      rw [hwf] at hfin hbF ⊢
      clear hwf
      have f0 : wf.cell? ⟨w.heap.size, 0, none⟩ = some (.int .i64 0) := hfin.cell (by decide)
      have f1 : wf.cell? ⟨w.heap.size, 1, none⟩ = some (.int .i64 0) := hfin.cell (by decide)
      have f2 : wf.cell? ⟨w.heap.size, 2, none⟩ = some (.slice none 0 0) := hfin.cell (by decide)
      refine bodyPost_ret (v := .tuple #[.agg #[.int .i64 0, .int .i64 0, .slice none 0 0], .bool false]) ?_ rfl ?_
      · simp [results, Tryz.results5, go_sem, f0, f1, f2]
      · exact ⟨_, _, _, _, _, [], _, rfl, by simp, fun R _ => evr_nil R wf, hbF⟩
    | true =>
      cases fine with
      | false =>
        have z0 : w2.cell? ⟨w.heap.size, 0, none⟩ = some (.int .i64 0) := HZ2.out.cell (by decide)
        have z1 : w2.cell? ⟨w.heap.size, 1, none⟩ = some (.int .i64 0) := HZ2.out.cell (by decide)
        have z2 : w2.cell? ⟨w.heap.size, 2, none⟩ = some (.slice none 0 0) := HZ2.out.cell (by decide)
        have zf0 := HZ2.out.frozen 0
        have zf1 := HZ2.out.frozen 1
        have zf2 := HZ2.out.frozen 2
        go_wp2
        obtain ⟨wf, hwf⟩ : ∃ wf, (((w2.setCell ⟨w.heap.size, 0, none⟩ (.int .i64 0)).setCell ⟨w.heap.size, 1, none⟩ (.int .i64 0)).setCell ⟨w.heap.size, 2, none⟩ (.slice none 0 0)) = wf := ⟨_, rfl⟩
        have hfin := rowIs_set3 HZ2.out (.int .i64 0) (.int .i64 0) (.slice none 0 0)
        have hbF : Below w.heap.size w _ := ((HB2.out.setCell (p := ⟨w.heap.size, 0, none⟩) (by simp) (.int .i64 0)).setCell (p := ⟨w.heap.size, 1, none⟩) (by simp) (.int .i64 0)).setCell (p := ⟨w.heap.size, 2, none⟩) (by simp) (.slice none 0 0)
        rw [hwf] at hfin hbF ⊢
        clear hwf
        have f0 : wf.cell? ⟨w.heap.size, 0, none⟩ = some (.int .i64 0) := hfin.cell (by decide)
        have f1 : wf.cell? ⟨w.heap.size, 1, none⟩ = some (.int .i64 0) := hfin.cell (by decide)
        have f2 : wf.cell? ⟨w.heap.size, 2, none⟩ = some (.slice none 0 0) := hfin.cell (by decide)
        refine bodyPost_ret (v := .tuple #[.agg #[.int .i64 0, .int .i64 0, .slice none 0 0], .bool false]) ?_ rfl ?_
        · simp [results, Tryz.results5, go_sem, f0, f1, f2]
        · exact ⟨_, _, _, _, _, [], _, rfl, by simp, fun R _ => evr_nil R wf, hbF⟩
      | true =>
        go_wp2_with fail
        obtain ⟨S, hS⟩ : ∃ S, w2.heap.size = S := ⟨_, rfl⟩
        obtain ⟨wL, hwL⟩ : ∃ wL, (w2.alloc (.cells #[.int .i64 al, .int .i64 st, .slice none 0 0] 24)) = wL := ⟨_, rfl⟩
        have hs3 := sys_cells w2 al st (.slice none 0 0) 24
        have hb3 := below_new' w2 24 #[.int .i64 al, .int .i64 st, .slice none 0 0]
        rw [hS] at hs3
        rw [hwL] at hs3 hb3 ⊢
        rw [hS]
        have HS := Lib.hid hs3
        have HB3 := Lib.hid (HB2.out.trans (hb3.mono HB2.out.size))
        have HZ3 := Lib.hid (rowIs_below' HZ2.out hb3)
        have HC3 := Lib.hid (fun (j : Nat) (hj : j < n) => (show wL.cell? ⟨g, j, none⟩ = some (.string (ss[j]?.getD ByteArray.empty)) from keep_cell hb3 (keep_cell HK2.out (HCELL.out j hj))))
        have hSL : S < wL.heap.size := World.rowIs.lt hs3
        have hgS : g < S := by have := HK2.out.size; omega
        have hZS : w.heap.size < S := by
          have := World.rowIs.lt HZ1.out
          have := HK2.out.size
          omega
        have hwS : w.heap.size ≤ S := by omega
        clear hwL hs3 hb3 hS
        go_loopw [10] (fun i wr => ∃ (k n' c : Nat) (a : Option Addr) (es : List Edg), i = .int .i64 k ∧ 2 ≤ k ∧ k ≤ n ∧ PSt S al st wL wr (.slice a n' c) es ∧ n' = es.length ∧ es.length + 2 ≤ k) (fun i _ => n - (intOf i).toNat)
        case atStart => exact ⟨2, 0, 0, none, [], rfl, Nat.le_refl _, by omega, ⟨HS.out, EOwn.nil _ _, hSL, Onl.refl _ _⟩, rfl, by simp⟩
        case round =>
          obtain ⟨k, n', c', a', es, rfl, hk2, hk, hp, hn', hes⟩ := hrel
          have HN' := Lib.hid hn'; clear hn'
          have hbx := below_onl HB3.out hp.2.2.2 (fun q hq => by subst hq; exact hwS)
          by_cases hlt : k < n
          · have e1 : wr.cell? ⟨g, k, none⟩ = some (.string (ss[k]?.getD ByteArray.empty)) := hp.2.2.2.cell (HC3.out k hlt) (fun e => by omega)
            have hzk := HSZ.out k hlt
            obtain ⟨sk, hsk⟩ : ∃ sk, ss[k]?.getD ByteArray.empty = sk := ⟨_, rfl⟩
            rw [hsk] at e1 hzk
            have HP := Lib.hid hp
            have HBX := Lib.hid hbx
            have HZX := Lib.hid (hp.2.2.2.row HZ3.out (fun e => by omega))
            clear hp hbx hsk
            go_wp2_with fail
            refine (l2Parse_any sk (by omega) wr).mono ?_
            rintro e w5 ⟨f, l, t, good, rfl, hb5⟩
            have HP5 := Lib.hid (HP.out.below hb5)
            have HB5 := Lib.hid (HBX.out.trans (hb5.mono HBX.out.size))
            have HZ5 := Lib.hid (rowIs_below' HZX.out hb5)
            clear hb5 e1
            cases good with
            | false =>
              obtain ⟨w6, hw6⟩ : ∃ w6, (w5.alloc (.cells #[.int .i64 f, .int .i64 l, .int .i64 t] 41)) = w6 := ⟨_, rfl⟩
              have hb6 := below_new' w5 41 #[.int .i64 f, .int .i64 l, .int .i64 t]
              rw [hw6] at hb6
              have HB6 := Lib.hid (HB5.out.trans (hb6.mono HB5.out.size))
              have HZ6 := Lib.hid (rowIs_below' HZ5.out hb6)
              clear hb6
              have z0 : w6.cell? ⟨w.heap.size, 0, none⟩ = some (.int .i64 0) := HZ6.out.cell (by decide)
              have z1 : w6.cell? ⟨w.heap.size, 1, none⟩ = some (.int .i64 0) := HZ6.out.cell (by decide)
              have z2 : w6.cell? ⟨w.heap.size, 2, none⟩ = some (.slice none 0 0) := HZ6.out.cell (by decide)
              have zf0 := HZ6.out.frozen 0
              have zf1 := HZ6.out.frozen 1
              have zf2 := HZ6.out.frozen 2
              go_wp2
              obtain ⟨wf, hwf⟩ : ∃ wf, (((w6.setCell ⟨w.heap.size, 0, none⟩ (.int .i64 0)).setCell ⟨w.heap.size, 1, none⟩ (.int .i64 0)).setCell ⟨w.heap.size, 2, none⟩ (.slice none 0 0)) = wf := ⟨_, rfl⟩
              have hfin := rowIs_set3 HZ6.out (.int .i64 0) (.int .i64 0) (.slice none 0 0)
              have hbF : Below w.heap.size w _ := ((HB6.out.setCell (p := ⟨w.heap.size, 0, none⟩) (by simp) (.int .i64 0)).setCell (p := ⟨w.heap.size, 1, none⟩) (by simp) (.int .i64 0)).setCell (p := ⟨w.heap.size, 2, none⟩) (by simp) (.slice none 0 0)
              rw [hwf] at hfin hbF ⊢
              clear hwf
              have f0 : wf.cell? ⟨w.heap.size, 0, none⟩ = some (.int .i64 0) := hfin.cell (by decide)
              have f1 : wf.cell? ⟨w.heap.size, 1, none⟩ = some (.int .i64 0) := hfin.cell (by decide)
              have f2 : wf.cell? ⟨w.heap.size, 2, none⟩ = some (.slice none 0 0) := hfin.cell (by decide)
              refine bodyPost_ret (v := .tuple #[.agg #[.int .i64 0, .int .i64 0, .slice none 0 0], .bool false]) ?_ rfl ?_
              · simp [results, Tryz.results5, go_sem, f0, f1, f2]
              · exact ⟨_, _, _, _, _, [], _, rfl, by simp, fun R _ => evr_nil R wf, hbF⟩
            | true =>
              obtain ⟨x0, hx0⟩ : ∃ x0, w5.heap.size = x0 := ⟨_, rfl⟩
              obtain ⟨w6, hw6⟩ : ∃ w6, (w5.alloc (.cells #[.int .i64 f, .int .i64 l, .int .i64 t] 41)) = w6 := ⟨_, rfl⟩
              have hr6 := own_cells' w5 #[.int .i64 f, .int .i64 l, .int .i64 t] 41 3 rfl
              have hb6 := below_new' w5 41 #[.int .i64 f, .int .i64 l, .int .i64 t]
              rw [hx0] at hr6
              rw [hw6] at hr6 hb6
              have g0 : w6.cell? ⟨x0, 0, none⟩ = some (.int .i64 f) := hr6.cell (by decide)
              have g1 : w6.cell? ⟨x0, 1, none⟩ = some (.int .i64 l) := hr6.cell (by decide)
              have g2 : w6.cell? ⟨x0, 2, none⟩ = some (.int .i64 t) := hr6.cell (by decide)
              have hp6 := HP5.out.below hb6
              have q2 : w6.cell? ⟨S, 2, none⟩ = some (.slice a' n' c') := hp6.1.cell (by decide)
              have hLw : wL.heap.size ≤ w6.heap.size := hp6.2.2.2.2.2.2.1
              have HP6 := Lib.hid hp6
              clear hr6 hb6 hp6
              go_wp2_with (at_builtin; refine app_edge w6 (f, l, t) wL.heap.size rfl rfl _ _ rfl (.slice a' n' c') es rfl HP6.out.2.1 rfl (by omega) hLw ?_)
              intro ao2 n2 cap2 w7 hn2 hown2 hkept
              have hp7 := HP6.out.app hkept hown2
              have s2 : w7.cell? ⟨S, 2, none⟩ = some (.slice a' n' c') := (HP6.out.1.of_block ((hkept.1 w6 (Below.refl _ _)).block S hSL)).cell (by decide)
              have s3 := (HP6.out.1.of_block ((hkept.1 w6 (Below.refl _ _)).block S hSL)).frozen 2
              have HP7 := Lib.hid hp7
              have HN2 := Lib.hid hn2; clear hn2
              clear hp7 hkept hown2
              go_wp2
              go_roundw
              case rel => exact ⟨k + 1, n2, cap2, ao2, es ++ [(f, l, t)], by go_num, by omega, by omega, HP7.out, by rw [HN2.out]; simp, by simp; omega⟩
              case measure => simp [intOf] <;> omega
          · have q0 : wr.cell? ⟨S, 0, none⟩ = some (.int .i64 al) := hp.1.cell (by decide)
            have q1 : wr.cell? ⟨S, 1, none⟩ = some (.int .i64 st) := hp.1.cell (by decide)
            have q2 : wr.cell? ⟨S, 2, none⟩ = some (.slice a' n' c') := hp.1.cell (by decide)
            have HP := Lib.hid hp
            have HBX := Lib.hid hbx
            have HZX := Lib.hid (hp.2.2.2.row HZ3.out (fun e => by omega))
            have hev : EVR w.heap.size wr (.slice a' n' c') es := hp.2.1.evr (by omega)
            have HEV := Lib.hid hev
            clear hp hbx hev
            go_wp2_with fail
            refine (specFormat_any al st a' n' c' es wr HEV.out.ev (by omega)).mono ?_
            rintro e w5 ⟨r, rfl, -, hb5⟩
            have hp5 := HP.out.below hb5
            have p0 : w5.cell? ⟨S, 0, none⟩ = some (.int .i64 al) := hp5.1.cell (by decide)
            have p1 : w5.cell? ⟨S, 1, none⟩ = some (.int .i64 st) := hp5.1.cell (by decide)
            have p2 : w5.cell? ⟨S, 2, none⟩ = some (.slice a' n' c') := hp5.1.cell (by decide)
            have HP5 := Lib.hid hp5
            have HB5 := Lib.hid (HBX.out.trans (hb5.mono HBX.out.size))
            have HZ5 := Lib.hid (rowIs_below' HZX.out hb5)
            clear hp5 hb5 q0 q1 q2
            have z0 : w5.cell? ⟨w.heap.size, 0, none⟩ = some (.int .i64 0) := HZ5.out.cell (by decide)
            have z1 : w5.cell? ⟨w.heap.size, 1, none⟩ = some (.int .i64 0) := HZ5.out.cell (by decide)
            have z2 : w5.cell? ⟨w.heap.size, 2, none⟩ = some (.slice none 0 0) := HZ5.out.cell (by decide)
            have zf0 := HZ5.out.frozen 0
            have zf1 := HZ5.out.frozen 1
            have zf2 := HZ5.out.frozen 2
            go_wp2
            all_goals first | (
                 obtain ⟨wf, hwf⟩ : ∃ wf, (((w5.setCell ⟨w.heap.size, 0, none⟩ (.int .i64 al)).setCell ⟨w.heap.size, 1, none⟩ (.int .i64 st)).setCell ⟨w.heap.size, 2, none⟩ (.slice a' n' c')) = wf := ⟨_, rfl⟩
                 have hfin := rowIs_set3 HZ5.out (.int .i64 al) (.int .i64 st) (.slice a' n' c')
                 have hbF : Below w.heap.size w _ := ((HB5.out.setCell (p := ⟨w.heap.size, 0, none⟩) (by simp) (.int .i64 al)).setCell (p := ⟨w.heap.size, 1, none⟩) (by simp) (.int .i64 st)).setCell (p := ⟨w.heap.size, 2, none⟩) (by simp) (.slice a' n' c')
                 have hZL : w.heap.size < wL.heap.size := by omega
                 have hown5 := ((HP5.out.2.1.set (j := 0) (u := .int .i64 al) hZL).set (j := 1) (u := .int .i64 st) hZL).set (j := 2) (u := .slice a' n' c') hZL
                 rw [hwf] at hfin hbF hown5 ⊢
                 clear hwf
                 have f0 : wf.cell? ⟨w.heap.size, 0, none⟩ = some (.int .i64 al) := hfin.cell (by decide)
                 have f1 : wf.cell? ⟨w.heap.size, 1, none⟩ = some (.int .i64 st) := hfin.cell (by decide)
                 have f2 : wf.cell? ⟨w.heap.size, 2, none⟩ = some (.slice a' n' c') := hfin.cell (by decide)
                 refine bodyPost_ret (v := .tuple #[.agg #[.int .i64 al, .int .i64 st, .slice a' n' c'], .bool true]) ?_ rfl ?_
                 · simp [results, Tryz.results5, go_sem, f0, f1, f2]
                 · exact ⟨_, _, _, _, _, es, _, rfl, by omega, fun R hR => hown5.evr (by omega), hbF⟩) | (
                 obtain ⟨wf, hwf⟩ : ∃ wf, (((w5.setCell ⟨w.heap.size, 0, none⟩ (.int .i64 0)).setCell ⟨w.heap.size, 1, none⟩ (.int .i64 0)).setCell ⟨w.heap.size, 2, none⟩ (.slice none 0 0)) = wf := ⟨_, rfl⟩
                 have hfin := rowIs_set3 HZ5.out (.int .i64 0) (.int .i64 0) (.slice none 0 0)
                 have hbF : Below w.heap.size w _ := ((HB5.out.setCell (p := ⟨w.heap.size, 0, none⟩) (by simp) (.int .i64 0)).setCell (p := ⟨w.heap.size, 1, none⟩) (by simp) (.int .i64 0)).setCell (p := ⟨w.heap.size, 2, none⟩) (by simp) (.slice none 0 0)
                 rw [hwf] at hfin hbF ⊢
                 clear hwf
                 have f0 : wf.cell? ⟨w.heap.size, 0, none⟩ = some (.int .i64 0) := hfin.cell (by decide)
                 have f1 : wf.cell? ⟨w.heap.size, 1, none⟩ = some (.int .i64 0) := hfin.cell (by decide)
                 have f2 : wf.cell? ⟨w.heap.size, 2, none⟩ = some (.slice none 0 0) := hfin.cell (by decide)
                 refine bodyPost_ret (v := .tuple #[.agg #[.int .i64 0, .int .i64 0, .slice none 0 0], .bool false]) ?_ rfl ?_
                 · simp [results, Tryz.results5, go_sem, f0, f1, f2]
                 · exact ⟨_, _, _, _, _, [], _, rfl, by simp, fun R _ => evr_nil R wf, hbF⟩
                 )
end Go.Proofs.YtnjakhojdhkihaaGreatDoor
