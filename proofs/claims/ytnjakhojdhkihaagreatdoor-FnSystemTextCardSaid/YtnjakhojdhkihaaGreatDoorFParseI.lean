/- ParseSystem of the program: a text is read where it is the text of a valid system, and then as that system. -/
import Derived.Test.YtnjakhojdhkihaaGreatDoorFParseS
import Derived.Test.YtnjakhojdhkihaaGreatDoorFImpl
import Derived.Test.YtnjakhojdhkihaaGreatDoorFLib

namespace Go.Proofs.YtnjakhojdhkihaaGreatDoor
open Go.RowKit
set_option linter.unusedVariables false
set_option linter.unusedSimpArgs false
set_option maxRecDepth 100000

theorem atoi_for (P : Prop) (m : Nat) (s : ByteArray) (hs : s.size ≤ 2000000) (hP : P → m < 100 ∧ s.data.toList = dg m) (w : World) (hv : Vars w) :
    Calls Tryz.prog 23 #[.string s] w (fun e w' => ∃ (v : Int) (ev : Value), e = .returned (.tuple #[.int .i64 v, ev]) ∧ (ev = .nilIface ∨ ∃ te pe, ev = .iface te pe) ∧ Below w.heap.size w w' ∧ (P → v = m ∧ ev = .nilIface)) := by
  by_cases h : P
  · refine (atoi_tx m (hP h).1 s (hP h).2 w).mono ?_
    rintro e w' ⟨rfl, hb⟩
    exact ⟨_, _, rfl, .inl rfl, hb, fun _ => ⟨rfl, rfl⟩⟩
  · refine (atoi_any s hs w hv).mono ?_
    rintro e w' ⟨v, ev, rfl, hev, hb⟩
    exact ⟨_, _, rfl, hev, hb, fun h2 => absurd h2 h⟩
theorem idxAny_for (P : Prop) (e0 : Edg) (s : ByteArray) (hs : s.size ≤ 2000000) (hP : P → Ok1 e0 ∧ s.data.toList = edgT e0) (w : World) :
    Calls Tryz.prog 24 #[.string s, .string ⟨#[97, 98, 99, 100, 101, 102]⟩] w (fun e w' => ∃ i : Int, e = .returned (.int .i64 i) ∧ -1 ≤ i ∧ i < s.size ∧ Below w.heap.size w w' ∧ (P → i = ((dg e0.1.toNat).length : Nat))) := by
  by_cases h : P
  · obtain ⟨hok, hd⟩ := hP h
    obtain ⟨f, l, t⟩ := e0
    obtain ⟨⟨h1, h2⟩, ⟨h3, h4⟩, h5, h6⟩ := hok
    dsimp only at h1 h2 h3 h4 h5 h6
    obtain ⟨f, rfl⟩ := Int.eq_ofNat_of_zero_le h1
    obtain ⟨t, rfl⟩ := Int.eq_ofNat_of_zero_le h5
    refine (idxAny_edge f t l (by omega) (by omega) h3 h4 s hd w).mono ?_
    rintro e w' ⟨rfl, hb⟩
    have hz := size_of hd
    simp only [edgT, List.length_append, List.length_cons, List.length_nil, Int.toNat_natCast] at hz
    exact ⟨_, rfl, by omega, by omega, hb, fun _ => rfl⟩
  · refine (idxAny_any s hs w).mono ?_
    rintro e w' ⟨⟨i, rfl, h1, h2⟩, hb⟩
    exact ⟨_, rfl, h1, h2, hb, fun h2 => absurd h2 h⟩
theorem edge_pieces {e0 : Edg} {s : ByteArray} (hok : Ok1 e0) (hs : s.data.toList = edgT e0) {p : Nat} (hp : p = (dg e0.1.toNat).length) :
    (s.extract 0 p).data.toList = dg e0.1.toNat ∧ (s.extract (p + 1) s.size).data.toList = dg e0.2.2.toNat ∧ ∀ c, s.data.toList[p]? = some c → ltr c = e0.2.1 := by
  have hl : edgT e0 = dg e0.1.toNat ++ lb e0.2.1 :: dg e0.2.2.toNat := by simp [edgT]
  rw [hl] at hs
  have hz := size_of hs
  simp only [List.length_append, List.length_cons] at hz
  subst hp
  refine ⟨?_, ?_, fun c hc => ?_⟩
  · rw [ext_data, hs, List.drop_zero, Nat.sub_zero, List.take_left']
    rfl
  · rw [ext_data, hs, List.drop_append, List.drop_of_length_le (by omega)]
    simp only [List.nil_append, show (dg e0.1.toNat).length + 1 - (dg e0.1.toNat).length = 1 by omega, List.drop_succ_cons, List.drop_zero]
    exact List.take_of_length_le (by omega)
  · rw [hs, List.getElem?_append_right (Nat.le_refl _)] at hc
    simp at hc
    rw [← hc]
    exact ltr_lb _ hok.2.1.1 hok.2.1.2
theorem wp_app_edgeL {o : Oper} {a : Act} {K : Act → World → Prop} {Q : Exit → Act → World → Prop} (wr : World) (e : Edg) (B : Nat) (s y : Operand)
    (ho : o.op = .call { callee := .builtin .append, args := #[s, y], argTypes := #[22, 22] }) (v : Value) (es : List Edg) (hs : a.eval s = v) (hown : EOwn B wr v es)
    (hy : a.eval y = .slice (some ⟨wr.heap.size, 0, none⟩) 1 1) (hb : es.length ≤ 10000000) (hB : B ≤ wr.heap.size)
    (h : ∀ ao n cap w1, n = es.length + 1 → EOwn B w1 (.slice ao n cap) (es ++ [e]) → Kept B wr w1 v → K (a.put o.dst (.slice ao n cap)) w1) :
    o.wp Tryz.prog a (wr.alloc (.cells #[.int .i64 e.1, .int .i64 e.2.1, .int .i64 e.2.2] 41)) K Q := by
  obtain ⟨i0, hi, hz0, hz1, hz2⟩ := info_parts Tryz.infoEdge
  refine wp_append_own _ s y 22 ho B 41 i0 (.agg #[.int .i64 0, .int .i64 0, .int .i64 0]) 3 24 Tryz.underlying22 hi hz0 hz1 hz2 rfl (by decide) v es.length (eflat es) hs (World.ownsRow.alloc hown _) ⟨wr.heap.size, 0, none⟩ 1 1 (eflat [e]) hy rfl (edge_one_new _ _) (eflat_one _) (by unfold maxLen; omega) (by omega) (by simp; omega) ?_
  intro v' w1 hown' hgrow _
  have hg2 : wr.grownBy w1 v.ownBlock := by
    refine ⟨hgrow.os, hgrow.tape, hgrow.output, ?_, fun k hk hne => ?_⟩
    · have := hgrow.size; simp at this; omega
    · rw [hgrow.block k (by simp; omega) hne]; exact Below.heap_alloc wr _ k hk
  have hown2 : EOwn B w1 v' (es ++ [e]) := by unfold EOwn; rw [eflat_app]; simpa using hown'
  have hK : Kept B wr w1 v := ⟨fun w0 h0 => h0.grown hg2 hB (fun k hk => (World.ownsRow.lt hown k hk).1), hg2⟩
  rcases hown'.2 with ⟨rfl, h0⟩ | ⟨g, cap, cur, rfl, _⟩
  · omega
  · exact h _ _ _ w1 rfl hown2 hK
set_option maxHeartbeats 8000000 in
theorem implParseSys_for (al0 st0 : Int) (es0 : List Edg) (s : ByteArray) (hs : s.size ≤ 1048576) (w : World) (hv : Vars w) : Calls Tryz.prog 6 #[.string s] w (ParseFor s al0 st0 es0 w) := by
  have hb0 := below_new' w 24 #[.int .i64 0, .int .i64 0, .slice none 0 0]
  have hz0 := sys_cells w 0 0 (.slice none 0 0) 24
  have HVR := Lib.hid hv; clear hv
  go_enter Tryz.func6, Tryz.ntmps6
  go_wp2_with fail
  obtain ⟨w0, hw0⟩ : ∃ w0, (w.alloc (.cells #[.int .i64 0, .int .i64 0, .slice none 0 0] 24)) = w0 := ⟨_, rfl⟩
  rw [hw0] at hb0 hz0 ⊢
  clear hw0
  refine (split_tx s (by omega) w0 (HVR.out.below hb0)).mono ?_
  rintro e w1 ⟨ss, rfl, hcut, hw1⟩
  replace hcut := hcut.symm
  have hb1 : Below w0.heap.size w0 w1 := by rw [hw1]; exact below_new' _ _ _
  have hcell : ∀ j, j < ss.length → w1.cell? ⟨w0.heap.size, j, none⟩ = some (.string (ss[j]?.getD ByteArray.empty)) := by rw [hw1]; exact lit_strs w0 ss _
  have HB1 := Lib.hid (hb0.trans (hb1.mono hb0.size))
  have HZ1 := Lib.hid (rowIs_below' hz0 hb1)
  have hg1 : w0.heap.size < w1.heap.size := by rw [hw1]; simp
  have hwg : w.heap.size < w0.heap.size := World.rowIs.lt hz0
  obtain ⟨g, hg⟩ : ∃ g, w0.heap.size = g := ⟨_, rfl⟩
  rw [hg] at hcell hg1 hwg ⊢
  have hall : ∀ x ∈ ss, x.size ≤ s.size := fun x hx => by
    have hm : x.data.toList ∈ ss.map (·.data.toList) := List.mem_map.2 ⟨x, hx, rfl⟩
    rw [← hcut] at hm
    have := cutL_all _ _ hm
    rw [data_len, data_len] at this
    exact this
  have hns : ss.length ≤ s.size + 1 := by
    have := cutL_len s.data.toList
    rw [hcut, List.length_map, data_len] at this
    exact this
  have HALL := Lib.hid hall; clear hall
  have HCUT := Lib.hid hcut; clear hcut
  have HCELL := Lib.hid hcell; clear hcell
  obtain ⟨n, hn⟩ : ∃ n, ss.length = n := ⟨_, rfl⟩
  rw [hn] at hns ⊢
  replace hn := hn.symm
  have HN := Lib.hid hn; clear hn
  clear hb0 hz0 hb1 hw1 hg
  by_cases h2 : (n : Int) < 2
  · have hno : ¬ Canon s.data.toList al0 st0 es0 := fun hc => by
      have h1 := (pieces HCUT.out hc).1
      have := HN.out
      omega
    have HNO := Lib.hid hno; clear hno
    have z0 : w1.cell? ⟨w.heap.size, 0, none⟩ = some (.int .i64 0) := HZ1.out.cell (by decide)
    have z1 : w1.cell? ⟨w.heap.size, 1, none⟩ = some (.int .i64 0) := HZ1.out.cell (by decide)
    have z2 : w1.cell? ⟨w.heap.size, 2, none⟩ = some (.slice none 0 0) := HZ1.out.cell (by decide)
    have zf0 := HZ1.out.frozen 0
    have zf1 := HZ1.out.frozen 1
    have zf2 := HZ1.out.frozen 2
    go_wp2
    obtain ⟨wf, hwf⟩ : ∃ wf, (((w1.setCell ⟨w.heap.size, 0, none⟩ (.int .i64 0)).setCell ⟨w.heap.size, 1, none⟩ (.int .i64 0)).setCell ⟨w.heap.size, 2, none⟩ (.slice none 0 0)) = wf := ⟨_, rfl⟩
    have hfin := rowIs_set3 HZ1.out (.int .i64 0) (.int .i64 0) (.slice none 0 0)
    have hbF : Below w.heap.size w _ := ((HB1.out.setCell (p := ⟨w.heap.size, 0, none⟩) (by simp) (.int .i64 0)).setCell (p := ⟨w.heap.size, 1, none⟩) (by simp) (.int .i64 0)).setCell (p := ⟨w.heap.size, 2, none⟩) (by simp) (.slice none 0 0)
    rw [hwf] at hfin hbF ⊢
    clear hwf
    have f0 : wf.cell? ⟨w.heap.size, 0, none⟩ = some (.int .i64 0) := hfin.cell (by decide)
    have f1 : wf.cell? ⟨w.heap.size, 1, none⟩ = some (.int .i64 0) := hfin.cell (by decide)
    have f2 : wf.cell? ⟨w.heap.size, 2, none⟩ = some (.slice none 0 0) := hfin.cell (by decide)
    refine bodyPost_ret (v := .tuple #[.agg #[.int .i64 0, .int .i64 0, .slice none 0 0], .bool false]) ?_ rfl ?_
    · simp [results, Tryz.results6, go_sem, f0, f1, f2]
    · exact ⟨0, 0, none, 0, 0, [], false, rfl, rfl, by simp, EOwn.nil _ _, hbF, fun h => (by cases h), fun _ => ⟨rfl, rfl, rfl⟩, fun hc => (HNO.out hc).elim⟩
  · have hn2 : 2 ≤ n := by omega
    have h2' : decide ((n : Int) < 2) = false := by simp; omega
    clear h2
    have hc0 := HCELL.out 0 (by have := HN.out; omega)
    have hc1 := HCELL.out 1 (by have := HN.out; omega)
    obtain ⟨s0, hs0⟩ : ∃ s0, ss[0]?.getD ByteArray.empty = s0 := ⟨_, rfl⟩
    obtain ⟨s1, hs1⟩ : ∃ s1, ss[1]?.getD ByteArray.empty = s1 := ⟨_, rfl⟩
    have hs1' : 1 ≤ s.size := by omega
    have hsz : ∀ j, j < n → (ss[j]?.getD ByteArray.empty).size ≤ 1048576 := fun j hj => by
      have hj' : j < ss.length := by rw [← HN.out]; exact hj
      rw [List.getElem?_eq_getElem hj', Option.getD_some]
      have := HALL.out _ (List.getElem_mem hj')
      omega
    have hz0 := hsz 0 (by omega)
    have hz1 := hsz 1 (by omega)
    rw [hs0] at hc0 hz0
    rw [hs1] at hc1 hz1
    have hp0 : Canon s.data.toList al0 st0 es0 → s0.data.toList = fmtA al0 := fun hc => by rw [← hs0]; exact (pieces HCUT.out hc).2.1
    have hp1 : Canon s.data.toList al0 st0 es0 → st0.toNat < 100 ∧ s1.data.toList = dg st0.toNat := fun hc => by
      have := hc.parts
      exact ⟨by omega, by rw [← hs1]; exact (pieces HCUT.out hc).2.2.1⟩
    have HP0 := Lib.hid hp0; clear hp0
    have HP1 := Lib.hid hp1; clear hp1
    have HSZ := Lib.hid hsz; clear hsz
    clear hs0 hs1
    go_wp2_with fail
    refine (implParse_any s0 (by omega) w1).mono ?_
    rintro e w2 ⟨rfl, hb2⟩
    unfold ParseRet
    obtain ⟨al, hal⟩ : ∃ al, (parseN s0.data.toList : Int) = al := ⟨_, rfl⟩
    obtain ⟨ok, hok⟩ : ∃ ok, parseB s0.data.toList = ok := ⟨_, rfl⟩
    rw [hal, hok]
    have hpa : Canon s.data.toList al0 st0 es0 → al = al0 ∧ ok = true := fun hc => by
      have h := parse_fmt (al := al0) hc.parts.2.1
      rw [← HP0.out hc, hal, hok] at h
      exact ⟨h.2, h.1⟩
    have HPA := Lib.hid hpa; clear hpa
    have d1 : w2.cell? ⟨g, 1, none⟩ = some (.string s1) := keep_cell hb2 hc1
    have HB2 := Lib.hid (HB1.out.trans (hb2.mono HB1.out.size))
    have HZ2 := Lib.hid (rowIs_below' HZ1.out hb2)
    have HK2 := Lib.hid hb2
    clear hal hok hb2 hc0 hc1
    go_wp2_with fail
    refine (atoi_for (Canon s.data.toList al0 st0 es0) st0.toNat s1 (by omega) HP1.out w2 (HVR.out.below HB2.out)).mono ?_
    rintro e w3 ⟨st, ev, rfl, hev, hb3, hps⟩
    have HPS := Lib.hid hps; clear hps
    have HB3 := Lib.hid (HB2.out.trans (hb3.mono HB2.out.size))
    have HZ3 := Lib.hid (rowIs_below' HZ2.out hb3)
    have HK3 := Lib.hid (HK2.out.trans (hb3.mono HK2.out.size))
    clear hb3 d1 HB2 HZ2 HK2
    cases ok with
    | false =>
      have hno : ¬ Canon s.data.toList al0 st0 es0 := fun hc => by have := (HPA.out hc).2; cases this
      have HNO := Lib.hid hno; clear hno
      clear hev
      have z0 : w3.cell? ⟨w.heap.size, 0, none⟩ = some (.int .i64 0) := HZ3.out.cell (by decide)
      have z1 : w3.cell? ⟨w.heap.size, 1, none⟩ = some (.int .i64 0) := HZ3.out.cell (by decide)
      have z2 : w3.cell? ⟨w.heap.size, 2, none⟩ = some (.slice none 0 0) := HZ3.out.cell (by decide)
      have zf0 := HZ3.out.frozen 0
      have zf1 := HZ3.out.frozen 1
      have zf2 := HZ3.out.frozen 2
      go_wp2
      obtain ⟨wf, hwf⟩ : ∃ wf, (((w3.setCell ⟨w.heap.size, 0, none⟩ (.int .i64 0)).setCell ⟨w.heap.size, 1, none⟩ (.int .i64 0)).setCell ⟨w.heap.size, 2, none⟩ (.slice none 0 0)) = wf := ⟨_, rfl⟩
      have hfin := rowIs_set3 HZ3.out (.int .i64 0) (.int .i64 0) (.slice none 0 0)
      have hbF : Below w.heap.size w _ := ((HB3.out.setCell (p := ⟨w.heap.size, 0, none⟩) (by simp) (.int .i64 0)).setCell (p := ⟨w.heap.size, 1, none⟩) (by simp) (.int .i64 0)).setCell (p := ⟨w.heap.size, 2, none⟩) (by simp) (.slice none 0 0)
      rw [hwf] at hfin hbF ⊢
      clear hwf
      have f0 : wf.cell? ⟨w.heap.size, 0, none⟩ = some (.int .i64 0) := hfin.cell (by decide)
      have f1 : wf.cell? ⟨w.heap.size, 1, none⟩ = some (.int .i64 0) := hfin.cell (by decide)
      have f2 : wf.cell? ⟨w.heap.size, 2, none⟩ = some (.slice none 0 0) := hfin.cell (by decide)
      refine bodyPost_ret (v := .tuple #[.agg #[.int .i64 0, .int .i64 0, .slice none 0 0], .bool false]) ?_ rfl ?_
      · simp [results, Tryz.results6, go_sem, f0, f1, f2]
      · exact ⟨0, 0, none, 0, 0, [], false, rfl, rfl, by simp, EOwn.nil _ _, hbF, fun h => (by cases h), fun _ => ⟨rfl, rfl, rfl⟩, fun hc => (HNO.out hc).elim⟩
    | true =>
      rcases hev with rfl | ⟨te, pe, rfl⟩
      · obtain ⟨S, hS⟩ : ∃ S, w3.heap.size = S := ⟨_, rfl⟩
        obtain ⟨wL, hwL⟩ : ∃ wL, (w3.alloc (.cells #[.int .i64 al, .int .i64 st, .slice none 0 0] 24)) = wL := ⟨_, rfl⟩
        have hs3 := sys_cells w3 al st (.slice none 0 0) 24
        have hb3 := below_new' w3 24 #[.int .i64 al, .int .i64 st, .slice none 0 0]
        rw [hS] at hs3
        rw [hwL] at hs3 hb3
        have HS := Lib.hid hs3
        have HB4 := Lib.hid (HB3.out.trans (hb3.mono HB3.out.size))
        have HZ4 := Lib.hid (rowIs_below' HZ3.out hb3)
        have HC3 := Lib.hid (fun (j : Nat) (hj : j < n - 2) => (show wL.cell? ⟨g, 2 + j, none⟩ = some (.string (ss[j + 2]?.getD ByteArray.empty)) from by
          have := keep_cell hb3 (keep_cell HK3.out (HCELL.out (j + 2) (by have := HN.out; omega)))
          rw [Nat.add_comm 2 j]
          exact this))
        have hSL : S < wL.heap.size := World.rowIs.lt hs3
        have hgS : g < S := by have := HK3.out.size; omega
        have hZS : w.heap.size < S := by omega
        have hwS : w.heap.size ≤ S := by omega
        have HWL := Lib.hid hwL; clear hwL
        have HSS := Lib.hid hS; clear hS
        clear hs3 hb3 HB3 HZ3 HK3
        have HB3 := HB4
        have HZ3 := HZ4
        clear HB4 HZ4
        by_cases hn22 : n = 2
        · go_wp2_with fail
          rw [HWL.out, HSS.out]
          go_loopw [50] (fun i wr => ∃ (k n' c : Nat) (a : Option Addr) (es : List Edg), i = .int .i64 k ∧ k ≤ 0 ∧ PSt S al st wL wr (.slice a n' c) es ∧ n' = es.length ∧ es.length ≤ k ∧ Hid (Canon s.data.toList al0 st0 es0 → es = es0.take k)) (fun i _ => 0 - (intOf i).toNat)
          case atStart => exact ⟨0, 0, 0, none, [], rfl, Nat.zero_le _, ⟨HS.out, EOwn.nil _ _, hSL, Onl.refl _ _⟩, rfl, by simp, Lib.hid (fun _ => by simp)⟩
          case round =>
            obtain ⟨k, n', c', a', es, rfl, hk, hp, hn', hes, HES⟩ := hrel
            have HN' := Lib.hid hn'; clear hn'
            have hbx := below_onl HB3.out hp.2.2.2 (fun q hq => by subst hq; exact hwS)
            have hlt : ¬ k < 0 := by omega
            have hkn : k + 2 = n := by omega
            have HKN := Lib.hid hkn; clear hkn
            have q0 : wr.cell? ⟨S, 0, none⟩ = some (.int .i64 al) := hp.1.cell (by decide)
            have q1 : wr.cell? ⟨S, 1, none⟩ = some (.int .i64 st) := hp.1.cell (by decide)
            have q2 : wr.cell? ⟨S, 2, none⟩ = some (.slice a' n' c') := hp.1.cell (by decide)
            have HP := Lib.hid hp
            have HBX := Lib.hid hbx
            have HZX := Lib.hid (hp.2.2.2.row HZ3.out (fun e => by omega))
            have hev : EVR w.heap.size wr (.slice a' n' c') es := hp.2.1.evr (by omega)
            have HEV := Lib.hid hev
            clear hp hbx hev
            go_wp2_with fail
            refine (implFormat_tx al st a' n' c' es wr HEV.out.ev (by omega)).mono ?_
            rintro e w5 ⟨r, rfl, hrd, hb5⟩
            have hp5 := HP.out.below hb5
            have p0 : w5.cell? ⟨S, 0, none⟩ = some (.int .i64 al) := hp5.1.cell (by decide)
            have p1 : w5.cell? ⟨S, 1, none⟩ = some (.int .i64 st) := hp5.1.cell (by decide)
            have p2 : w5.cell? ⟨S, 2, none⟩ = some (.slice a' n' c') := hp5.1.cell (by decide)
            have HP5 := Lib.hid hp5
            have HB5 := Lib.hid (HBX.out.trans (hb5.mono HBX.out.size))
            have HZ5 := Lib.hid (rowIs_below' HZX.out hb5)
            clear hp5 hb5 q0 q1 q2
            have hall2 : Canon s.data.toList al0 st0 es0 → al = al0 ∧ st = st0 ∧ es = es0 := fun hc => by
              have h1 := (pieces HCUT.out hc).1
              have h2 := hc.parts
              have hst := (HPS.out hc).1
              refine ⟨(HPA.out hc).1, by omega, ?_⟩
              rw [HES.out hc, List.take_of_length_le (by have := HN.out; have := HKN.out; omega)]
            have HALL2 := Lib.hid hall2; clear hall2
            by_cases heq : r = s
            · subst heq
              have hcn : Canon r.data.toList al st es := fmtS_canon hrd.symm (fun e => by
                have := data_len r
                rw [e] at this
                simp at this
                omega)
              have HCN := Lib.hid hcn; clear hcn
              have heq : (r.toList == r.toList) = true := by simp
              have z0 : w5.cell? ⟨w.heap.size, 0, none⟩ = some (.int .i64 0) := HZ5.out.cell (by decide)
              have z1 : w5.cell? ⟨w.heap.size, 1, none⟩ = some (.int .i64 0) := HZ5.out.cell (by decide)
              have z2 : w5.cell? ⟨w.heap.size, 2, none⟩ = some (.slice none 0 0) := HZ5.out.cell (by decide)
              have zf0 := HZ5.out.frozen 0
              have zf1 := HZ5.out.frozen 1
              have zf2 := HZ5.out.frozen 2
              clear hrd
              go_wp2
              obtain ⟨wf, hwf⟩ : ∃ wf, (((w5.setCell ⟨w.heap.size, 0, none⟩ (.int .i64 al)).setCell ⟨w.heap.size, 1, none⟩ (.int .i64 st)).setCell ⟨w.heap.size, 2, none⟩ (.slice a' n' c')) = wf := ⟨_, rfl⟩
              have hfin := rowIs_set3 HZ5.out (.int .i64 al) (.int .i64 st) (.slice a' n' c')
              have hbF : Below w.heap.size w _ := ((HB5.out.setCell (p := ⟨w.heap.size, 0, none⟩) (by simp) (.int .i64 al)).setCell (p := ⟨w.heap.size, 1, none⟩) (by simp) (.int .i64 st)).setCell (p := ⟨w.heap.size, 2, none⟩) (by simp) (.slice a' n' c')
              have hZL : w.heap.size < wL.heap.size := by omega
              have hown5 := EOwn.set3 (u0 := .int .i64 al) (u1 := .int .i64 st) (u2 := .slice a' n' c') HP5.out.2.1 hZL
              rw [hwf] at hfin hbF hown5 ⊢
              clear hwf
              have f0 : wf.cell? ⟨w.heap.size, 0, none⟩ = some (.int .i64 al) := hfin.cell (by decide)
              have f1 : wf.cell? ⟨w.heap.size, 1, none⟩ = some (.int .i64 st) := hfin.cell (by decide)
              have f2 : wf.cell? ⟨w.heap.size, 2, none⟩ = some (.slice a' n' c') := hfin.cell (by decide)
              refine bodyPost_ret (v := .tuple #[.agg #[.int .i64 al, .int .i64 st, .slice a' n' c'], .bool true]) ?_ rfl ?_
              · simp [results, Tryz.results6, go_sem, f0, f1, f2]
              · exact ⟨_, _, _, _, _, es, _, rfl, HN'.out, by omega, hown5.lower (Nat.le_of_lt hZL), hbF, fun _ => HCN.out, fun h => (by cases h), fun hc => ⟨(HALL2.out hc).1, (HALL2.out hc).2.1, (HALL2.out hc).2.2, rfl⟩⟩
            · have hno : ¬ Canon s.data.toList al0 st0 es0 := fun hc => by
                obtain ⟨h1, h2, h3⟩ := HALL2.out hc
                refine heq (bytes_eq ?_)
                rw [hrd, h1, h2, h3]
                exact hc.fmt
              have HNO := Lib.hid hno; clear hno
              have hne : (r.toList == s.toList) = false := by
                rw [ByteArray.toList_eq, ByteArray.toList_eq]
                simp only [beq_eq_false_iff_ne, ne_eq]
                exact fun e => heq (bytes_eq e)
              clear heq hrd
              have z0 : w5.cell? ⟨w.heap.size, 0, none⟩ = some (.int .i64 0) := HZ5.out.cell (by decide)
              have z1 : w5.cell? ⟨w.heap.size, 1, none⟩ = some (.int .i64 0) := HZ5.out.cell (by decide)
              have z2 : w5.cell? ⟨w.heap.size, 2, none⟩ = some (.slice none 0 0) := HZ5.out.cell (by decide)
              have zf0 := HZ5.out.frozen 0
              have zf1 := HZ5.out.frozen 1
              have zf2 := HZ5.out.frozen 2
              go_wp2
              obtain ⟨wf, hwf⟩ : ∃ wf, (((w5.setCell ⟨w.heap.size, 0, none⟩ (.int .i64 0)).setCell ⟨w.heap.size, 1, none⟩ (.int .i64 0)).setCell ⟨w.heap.size, 2, none⟩ (.slice none 0 0)) = wf := ⟨_, rfl⟩
              have hfin := rowIs_set3 HZ5.out (.int .i64 0) (.int .i64 0) (.slice none 0 0)
              have hbF : Below w.heap.size w _ := ((HB5.out.setCell (p := ⟨w.heap.size, 0, none⟩) (by simp) (.int .i64 0)).setCell (p := ⟨w.heap.size, 1, none⟩) (by simp) (.int .i64 0)).setCell (p := ⟨w.heap.size, 2, none⟩) (by simp) (.slice none 0 0)
              rw [hwf] at hfin hbF ⊢
              clear hwf
              have f0 : wf.cell? ⟨w.heap.size, 0, none⟩ = some (.int .i64 0) := hfin.cell (by decide)
              have f1 : wf.cell? ⟨w.heap.size, 1, none⟩ = some (.int .i64 0) := hfin.cell (by decide)
              have f2 : wf.cell? ⟨w.heap.size, 2, none⟩ = some (.slice none 0 0) := hfin.cell (by decide)
              refine bodyPost_ret (v := .tuple #[.agg #[.int .i64 0, .int .i64 0, .slice none 0 0], .bool false]) ?_ rfl ?_
              · simp [results, Tryz.results6, go_sem, f0, f1, f2]
              · exact ⟨0, 0, none, 0, 0, [], false, rfl, rfl, by simp, EOwn.nil _ _, hbF, fun h => (by cases h), fun _ => ⟨rfl, rfl, rfl⟩, fun hc => (HNO.out hc).elim⟩
        · go_wp2_with fail
          rw [HWL.out, HSS.out]
          go_loopw [50] (fun i wr => ∃ (k n' c : Nat) (a : Option Addr) (es : List Edg), i = .int .i64 k ∧ k ≤ n - 2 ∧ PSt S al st wL wr (.slice a n' c) es ∧ n' = es.length ∧ es.length ≤ k ∧ Hid (Canon s.data.toList al0 st0 es0 → es = es0.take k)) (fun i _ => n - 2 - (intOf i).toNat)
          case atStart => exact ⟨0, 0, 0, none, [], rfl, Nat.zero_le _, ⟨HS.out, EOwn.nil _ _, hSL, Onl.refl _ _⟩, rfl, by simp, Lib.hid (fun _ => by simp)⟩
          case round =>
            obtain ⟨k, n', c', a', es, rfl, hk, hp, hn', hes, HES⟩ := hrel
            have HN' := Lib.hid hn'; clear hn'
            have hbx := below_onl HB3.out hp.2.2.2 (fun q hq => by subst hq; exact hwS)
            by_cases hlt : k < n - 2
            · have e1 : wr.cell? ⟨g, 2 + k, none⟩ = some (.string (ss[k + 2]?.getD ByteArray.empty)) := hp.2.2.2.cell (HC3.out k hlt) (fun e => by omega)
              have hzk := HSZ.out (k + 2) (by omega)
              obtain ⟨sk, hsk⟩ : ∃ sk, ss[k + 2]?.getD ByteArray.empty = sk := ⟨_, rfl⟩
              have hpe : Canon s.data.toList al0 st0 es0 → Ok1 (Edg.at es0 k) ∧ sk.data.toList = edgT (Edg.at es0 k) := fun hc => by
                have h1 := pieces HCUT.out hc
                have hkl : k < es0.length := by have := HN.out; omega
                exact ⟨hc.parts.2.2.2.2 _ hkl, by rw [← hsk]; exact h1.2.2.2 _ hkl⟩
              have HPE := Lib.hid hpe; clear hpe
              rw [hsk] at e1 hzk
              have HP := Lib.hid hp
              have HBX := Lib.hid hbx
              have HZX := Lib.hid (hp.2.2.2.row HZ3.out (fun e => by omega))
              clear hp hbx hsk
              go_wp2_with fail
              refine (idxAny_for (Canon s.data.toList al0 st0 es0) (Edg.at es0 k) sk (by omega) HPE.out wr).mono ?_
              rintro e w4 ⟨i, rfl, hi0, hi1, hb4, hpi⟩
              have HPI := Lib.hid hpi; clear hpi
              have HP4 := Lib.hid (HP.out.below hb4)
              have HB4 := Lib.hid (HBX.out.trans (hb4.mono HBX.out.size))
              have HZ4 := Lib.hid (rowIs_below' HZX.out hb4)
              clear hb4 e1
              by_cases hin : i < 0
              · have hno : ¬ Canon s.data.toList al0 st0 es0 := fun hc => by
                  have := HPI.out hc
                  omega
                have HNO := Lib.hid hno; clear hno
                have z0 : w4.cell? ⟨w.heap.size, 0, none⟩ = some (.int .i64 0) := HZ4.out.cell (by decide)
                have z1 : w4.cell? ⟨w.heap.size, 1, none⟩ = some (.int .i64 0) := HZ4.out.cell (by decide)
                have z2 : w4.cell? ⟨w.heap.size, 2, none⟩ = some (.slice none 0 0) := HZ4.out.cell (by decide)
                have zf0 := HZ4.out.frozen 0
                have zf1 := HZ4.out.frozen 1
                have zf2 := HZ4.out.frozen 2
                go_wp2
                obtain ⟨wf, hwf⟩ : ∃ wf, (((w4.setCell ⟨w.heap.size, 0, none⟩ (.int .i64 0)).setCell ⟨w.heap.size, 1, none⟩ (.int .i64 0)).setCell ⟨w.heap.size, 2, none⟩ (.slice none 0 0)) = wf := ⟨_, rfl⟩
                have hfin := rowIs_set3 HZ4.out (.int .i64 0) (.int .i64 0) (.slice none 0 0)
                have hbF : Below w.heap.size w _ := ((HB4.out.setCell (p := ⟨w.heap.size, 0, none⟩) (by simp) (.int .i64 0)).setCell (p := ⟨w.heap.size, 1, none⟩) (by simp) (.int .i64 0)).setCell (p := ⟨w.heap.size, 2, none⟩) (by simp) (.slice none 0 0)
                rw [hwf] at hfin hbF ⊢
                clear hwf
                have f0 : wf.cell? ⟨w.heap.size, 0, none⟩ = some (.int .i64 0) := hfin.cell (by decide)
                have f1 : wf.cell? ⟨w.heap.size, 1, none⟩ = some (.int .i64 0) := hfin.cell (by decide)
                have f2 : wf.cell? ⟨w.heap.size, 2, none⟩ = some (.slice none 0 0) := hfin.cell (by decide)
                refine bodyPost_ret (v := .tuple #[.agg #[.int .i64 0, .int .i64 0, .slice none 0 0], .bool false]) ?_ rfl ?_
                · simp [results, Tryz.results6, go_sem, f0, f1, f2]
                · exact ⟨0, 0, none, 0, 0, [], false, rfl, rfl, by simp, EOwn.nil _ _, hbF, fun h => (by cases h), fun _ => ⟨rfl, rfl, rfl⟩, fun hc => (HNO.out hc).elim⟩
              · obtain ⟨p, rfl⟩ := Int.eq_ofNat_of_zero_le (by omega : 0 ≤ i)
                have hps : p < sk.size := by omega
                have hep : Canon s.data.toList al0 st0 es0 → (sk.extract 0 p).data.toList = dg (Edg.at es0 k).1.toNat ∧ (sk.extract (p + 1) sk.size).data.toList = dg (Edg.at es0 k).2.2.toNat ∧ ∀ c, sk.data.toList[p]? = some c → ltr c = (Edg.at es0 k).2.1 := fun hc =>
                  edge_pieces (HPE.out hc).1 (HPE.out hc).2 (by have := HPI.out hc; omega)
                have hq1 : Canon s.data.toList al0 st0 es0 → (Edg.at es0 k).1.toNat < 100 ∧ (sk.extract 0 p).data.toList = dg (Edg.at es0 k).1.toNat := fun hc => by
                  obtain ⟨⟨⟨o1, o2⟩, o3, o4, o5⟩, -⟩ := HPE.out hc
                  exact ⟨by omega, (hep hc).1⟩
                have hq2 : Canon s.data.toList al0 st0 es0 → (Edg.at es0 k).2.2.toNat < 100 ∧ (sk.extract (p + 1) sk.size).data.toList = dg (Edg.at es0 k).2.2.toNat := fun hc => by
                  obtain ⟨⟨⟨o1, o2⟩, o3, o4, o5⟩, -⟩ := HPE.out hc
                  exact ⟨by omega, (hep hc).2.1⟩
                have hsz1 : (sk.extract 0 p).size ≤ 2000000 := by simp; omega
                have hsz2 : (sk.extract (p + 1) sk.size).size ≤ 2000000 := by simp; omega
                have HEP := Lib.hid hep; clear hep
                have HQ1 := Lib.hid hq1; clear hq1
                have HQ2 := Lib.hid hq2; clear hq2
                have HSZ1 := Lib.hid hsz1; clear hsz1
                have HSZ2 := Lib.hid hsz2; clear hsz2
                clear hin
                go_wp2_with fail
                refine (atoi_for (Canon s.data.toList al0 st0 es0) (Edg.at es0 k).1.toNat (sk.extract 0 p) HSZ1.out HQ1.out w4 (HVR.out.below HB4.out)).mono ?_
                rintro e w5 ⟨f, ev1, rfl, hev1, hb5, hpf⟩
                have HPF := Lib.hid hpf; clear hpf
                have HP5 := Lib.hid (HP4.out.below hb5)
                have HB5 := Lib.hid (HB4.out.trans (hb5.mono HB4.out.size))
                have HZ5 := Lib.hid (rowIs_below' HZ4.out hb5)
                clear hb5
                have HEV1 := Lib.hid hev1; clear hev1
                go_wp2_with fail
                refine (atoi_for (Canon s.data.toList al0 st0 es0) (Edg.at es0 k).2.2.toNat (sk.extract (p + 1) sk.size) HSZ2.out HQ2.out w5 (HVR.out.below HB5.out)).mono ?_
                rintro e w6 ⟨t, ev2, rfl, hev2, hb6, hpt⟩
                have HPT := Lib.hid hpt; clear hpt
                have HP6 := Lib.hid (HP5.out.below hb6)
                have HB6 := Lib.hid (HB5.out.trans (hb6.mono HB5.out.size))
                have HZ6 := Lib.hid (rowIs_below' HZ5.out hb6)
                clear hb6
                rcases HEV1.out with rfl | ⟨te, pe, rfl⟩
                · rcases hev2 with rfl | ⟨te, pe, rfl⟩
                  · obtain ⟨c, hc⟩ : ∃ c, sk[p]'hps = c := ⟨_, rfl⟩
                    have hcd : sk.data.toList[p]? = some c := by rw [← hc]; exact Lib.data_getElem? sk p hps
                    obtain ⟨l, hlx⟩ : ∃ l, ltr c = l := ⟨_, rfl⟩
                    have HES2 : Hid (Canon s.data.toList al0 st0 es0 → es ++ [(f, l, t)] = es0.take (k + 1)) := by
                      refine Lib.hid (fun hcn => ?_)
                      have hkl : k < es0.length := by
                        have h1 := (pieces HCUT.out hcn).1
                        have := HN.out
                        omega
                      have h1 := (HPF.out hcn).1
                      have h2 := (HPT.out hcn).1
                      have h3 := (HEP.out hcn).2.2 c hcd
                      obtain ⟨⟨⟨o1, o2⟩, o3, o4, o5⟩, -⟩ := HPE.out hcn
                      rw [take_snoc_e es0 _ hkl, ← HES.out hcn]
                      congr 2
                      rw [h1, h2, ← hlx, h3, Int.toNat_of_nonneg o1, Int.toNat_of_nonneg o4]
                    have HCB := Lib.hid hc
                    have HCD := Lib.hid hcd; clear hcd
                    have hpq := HP6.out.below (Below.refl w6.heap.size w6).drew
                    have q2 : w6.drew.cell? ⟨S, 2, none⟩ = some (.slice a' n' c') := hpq.1.cell (by decide)
                    have q3 : (w6.alloc (.cells #[.int .i64 f, .int .i64 l, .int .i64 t] 41)).cell? ⟨S, 2, none⟩ = some (.slice a' n' c') := keep_cell (below_new' _ _ _) q2
                    have hLw : wL.heap.size ≤ w6.drew.heap.size := hpq.2.2.2.2.2.2.1
                    have HPQ := Lib.hid hpq
                    clear hc hpq
                    go_wp2_with fail
                    refine wp_region_held_drew (S := fun _ => True) (by kernel_rfl) trivial (fun hHeld => ?_)
                    first | (refine wpAnyH_take (i := 0) (get_of_drop' rfl) (by kernel_rfl) (by kernel_rfl) (by kernel_rfl) (fun _ _ _ h => h) (Or.inr ⟨?_, rfl⟩) hHeld ?_; (focus (simp [Region.wanted, yielded, undef]; done)); (try simp only [Act.put, List.setIfInBounds_toArray, List.set_cons_zero, List.set_cons_succ])) | (refine wpAnyH_take (i := 0) (v := ?_) (get_of_drop' rfl) (by kernel_rfl) (by kernel_rfl) (by kernel_rfl) (fun _ _ _ h => h) (Or.inl ⟨?_, ?_⟩) hHeld ?_; rotate_left; (focus rfl); (focus (intro w hSw; (try dsimp only at hSw); go_simp; (try (with_reducible rfl)))); (try simp only [Act.put, List.setIfInBounds_toArray, List.set_cons_zero, List.set_cons_succ]))
                    first | (refine wpAnyH_take (i := 2) (get_of_drop' rfl) (by kernel_rfl) (by kernel_rfl) (by kernel_rfl) (fun _ _ _ h => h) (Or.inr ⟨?_, rfl⟩) hHeld ?_; (focus (simp [Region.wanted, yielded, undef]; done)); (try simp only [Act.put, List.setIfInBounds_toArray, List.set_cons_zero, List.set_cons_succ])) | (refine wpAnyH_take (i := 2) (v := ?_) (get_of_drop' rfl) (by kernel_rfl) (by kernel_rfl) (by kernel_rfl) (fun _ _ _ h => h) (Or.inl ⟨?_, ?_⟩) hHeld ?_; rotate_left; (focus rfl); (focus (intro w hSw; (try dsimp only at hSw); go_simp; (try (with_reducible rfl)))); (try simp only [Act.put, List.setIfInBounds_toArray, List.set_cons_zero, List.set_cons_succ]))
                    first | (refine wpAnyH_take (i := 3) (get_of_drop' rfl) (by kernel_rfl) (by kernel_rfl) (by kernel_rfl) (fun _ _ _ h => h) (Or.inr ⟨?_, rfl⟩) hHeld ?_; (focus (simp [Region.wanted, yielded, undef]; done)); (try simp only [Act.put, List.setIfInBounds_toArray, List.set_cons_zero, List.set_cons_succ])) | (refine wpAnyH_take (i := 3) (v := ?_) (get_of_drop' rfl) (by kernel_rfl) (by kernel_rfl) (by kernel_rfl) (fun _ _ _ h => h) (Or.inl ⟨?_, ?_⟩) hHeld ?_; rotate_left; (focus rfl); (focus (intro w hSw; (try dsimp only at hSw); go_simp; (try (with_reducible rfl)))); (try simp only [Act.put, List.setIfInBounds_toArray, List.set_cons_zero, List.set_cons_succ]))
                    first | (refine wpAnyH_take (i := 4) (get_of_drop' rfl) (by kernel_rfl) (by kernel_rfl) (by kernel_rfl) (fun _ _ _ h => h) (Or.inr ⟨?_, rfl⟩) hHeld ?_; (focus (simp [Region.wanted, yielded, undef]; done)); (try simp only [Act.put, List.setIfInBounds_toArray, List.set_cons_zero, List.set_cons_succ])) | (refine wpAnyH_take (i := 4) (v := ?_) (get_of_drop' rfl) (by kernel_rfl) (by kernel_rfl) (by kernel_rfl) (fun _ _ _ h => h) (Or.inl ⟨?_, ?_⟩) hHeld ?_; rotate_left; (focus rfl); (focus (intro w hSw; (try dsimp only at hSw); go_simp; (try (with_reducible rfl)))); (try simp only [Act.put, List.setIfInBounds_toArray, List.set_cons_zero, List.set_cons_succ]))
                    first | (refine wpAnyH_take (i := 6) (get_of_drop' rfl) (by kernel_rfl) (by kernel_rfl) (by kernel_rfl) (fun _ _ _ h => h) (Or.inr ⟨?_, rfl⟩) hHeld ?_; (focus (simp [Region.wanted, yielded, undef]; done)); (try simp only [Act.put, List.setIfInBounds_toArray, List.set_cons_zero, List.set_cons_succ])) | (refine wpAnyH_take (i := 6) (v := ?_) (get_of_drop' rfl) (by kernel_rfl) (by kernel_rfl) (by kernel_rfl) (fun _ _ _ h => h) (Or.inl ⟨?_, ?_⟩) hHeld ?_; rotate_left; (focus rfl); (focus (intro w hSw; (try dsimp only at hSw); go_simp; (try (with_reducible rfl)))); (try simp only [Act.put, List.setIfInBounds_toArray, List.set_cons_zero, List.set_cons_succ]))
                    refine wpAnyH_ready (rs := [1, 5]) (by kernel_rfl) (by simp) ?_
                    refine AllReadyH.cons (get_of_drop' rfl) (fun K hK => ?_) ?_
                    · go_simp
                      refine hK.out _ _ trivial (fun hHeld => ?_)
                      clear hK K
                      try simp only [Act.put, List.setIfInBounds_toArray, List.set_cons_zero, List.set_cons_succ]
                      refine wpAnyH_ready (rs := [5]) (by kernel_rfl) (by simp) ?_
                      refine AllReadyH.cons (get_of_drop' rfl) (fun K hK => ?_) AllReadyH.nil
                      go_simp
                      go_at_call 25
                      refine (letterAt_c sk p c hps HCB (by omega) _).mono ?_
                      rintro e w' ⟨rfl, rfl⟩
                      rw [hlx]
                      go_wp2_with fail
                      refine hK.out _ _ trivial (fun hHeld => ?_)
                      clear hK K
                      try simp only [Act.put, List.setIfInBounds_toArray, List.set_cons_zero, List.set_cons_succ]
                      first | (refine wpAnyH_take (i := 7) (get_of_drop' rfl) (by kernel_rfl) (by kernel_rfl) (by kernel_rfl) (fun _ _ _ h => h) (Or.inr ⟨?_, rfl⟩) hHeld ?_; (focus (simp [Region.wanted, yielded, undef]; done)); (try simp only [Act.put, List.setIfInBounds_toArray, List.set_cons_zero, List.set_cons_succ])) | (refine wpAnyH_take (i := 7) (v := ?_) (get_of_drop' rfl) (by kernel_rfl) (by kernel_rfl) (by kernel_rfl) (fun _ _ _ h => h) (Or.inl ⟨?_, ?_⟩) hHeld ?_; rotate_left; (focus rfl); (focus (intro w hSw; (try dsimp only at hSw); go_simp; (try (with_reducible rfl)))); (try simp only [Act.put, List.setIfInBounds_toArray, List.set_cons_zero, List.set_cons_succ]))
                      refine wpAnyH_ready (rs := [8]) (by kernel_rfl) (by simp) ?_
                      refine AllReadyH.cons (get_of_drop' rfl) (fun K hK => ?_) AllReadyH.nil
                      go_simp
                      refine hK.out _ _ trivial (fun hHeld => ?_)
                      clear hK K
                      try simp only [Act.put, List.setIfInBounds_toArray, List.set_cons_zero, List.set_cons_succ]
                      refine wpAnyH_ready (rs := [9]) (by kernel_rfl) (by simp) ?_
                      refine AllReadyH.cons (get_of_drop' rfl) (fun K hK => ?_) AllReadyH.nil
                      rw [if_pos (by rfl)]
                      refine wp_app_edgeL w6.drew (f, l, t) wL.heap.size _ _ rfl _ es rfl HPQ.out.2.1 rfl (by omega) hLw ?_
                      intro ao' m' cap' w7 hn2 hown' hkept
                      refine hK.out _ _ trivial (fun hHeld => ?_)
                      clear hK K
                      try simp only [Act.put, List.setIfInBounds_toArray, List.set_cons_zero, List.set_cons_succ]
                      first | (refine wpAnyH_take (i := 10) (get_of_drop' rfl) (by kernel_rfl) (by kernel_rfl) (by kernel_rfl) (fun _ _ _ h => h) (Or.inr ⟨?_, rfl⟩) hHeld ?_; (focus (simp [Region.wanted, yielded, undef]; done)); (try simp only [Act.put, List.setIfInBounds_toArray, List.set_cons_zero, List.set_cons_succ])) | (refine wpAnyH_take (i := 10) (v := ?_) (get_of_drop' rfl) (by kernel_rfl) (by kernel_rfl) (by kernel_rfl) (fun _ _ _ h => h) (Or.inl ⟨?_, ?_⟩) hHeld ?_; rotate_left; (focus rfl); (focus (intro w hSw; (try dsimp only at hSw); go_simp; (try (with_reducible rfl)))); (try simp only [Act.put, List.setIfInBounds_toArray, List.set_cons_zero, List.set_cons_succ]))
                      refine wpAnyH_ready (rs := [11]) (by kernel_rfl) (by simp) ?_
                      refine AllReadyH.cons (get_of_drop' rfl) (fun K hK => ?_) AllReadyH.nil
                      have hp5 := HPQ.out.app hkept hown'
                      have s2 : w7.cell? ⟨S, 2, none⟩ = some (.slice a' n' c') := (HPQ.out.1.of_block ((hkept.1 w6.drew (Below.refl _ _)).block S hSL)).cell (by decide)
                      have s3 := (HPQ.out.1.of_block ((hkept.1 w6.drew (Below.refl _ _)).block S hSL)).frozen 2
                      have HP7 := Lib.hid hp5
                      have HN2 := Lib.hid hn2; clear hn2
                      clear hp5 hkept hown'
                      go_simp
                      refine hK.out _ _ trivial (fun hHeld => ?_)
                      clear hK K
                      try simp only [Act.put, List.setIfInBounds_toArray, List.set_cons_zero, List.set_cons_succ]
                      refine wpAnyH_done (by kernel_rfl) ?_ _
                      go_wp2
                      go_roundw
                      case rel => exact ⟨k + 1, m', cap', ao', es ++ [(f, l, t)], by go_num, by omega, HP7.out, by rw [HN2.out]; simp, by simp; omega, HES2⟩
                      case measure => simp [intOf] <;> omega
                    · refine AllReadyH.cons (get_of_drop' rfl) (fun K hK => ?_) AllReadyH.nil
                      go_simp
                      go_at_call 25
                      refine (letterAt_c sk p c hps HCB (by omega) _).mono ?_
                      rintro e w' ⟨rfl, rfl⟩
                      rw [hlx]
                      go_wp2_with fail
                      refine hK.out _ _ trivial (fun hHeld => ?_)
                      clear hK K
                      try simp only [Act.put, List.setIfInBounds_toArray, List.set_cons_zero, List.set_cons_succ]
                      first | (refine wpAnyH_take (i := 7) (get_of_drop' rfl) (by kernel_rfl) (by kernel_rfl) (by kernel_rfl) (fun _ _ _ h => h) (Or.inr ⟨?_, rfl⟩) hHeld ?_; (focus (simp [Region.wanted, yielded, undef]; done)); (try simp only [Act.put, List.setIfInBounds_toArray, List.set_cons_zero, List.set_cons_succ])) | (refine wpAnyH_take (i := 7) (v := ?_) (get_of_drop' rfl) (by kernel_rfl) (by kernel_rfl) (by kernel_rfl) (fun _ _ _ h => h) (Or.inl ⟨?_, ?_⟩) hHeld ?_; rotate_left; (focus rfl); (focus (intro w hSw; (try dsimp only at hSw); go_simp; (try (with_reducible rfl)))); (try simp only [Act.put, List.setIfInBounds_toArray, List.set_cons_zero, List.set_cons_succ]))
                      refine wpAnyH_ready (rs := [1, 8]) (by kernel_rfl) (by simp) ?_
                      refine AllReadyH.cons (get_of_drop' rfl) (fun K hK => ?_) ?_
                      · go_simp
                        refine hK.out _ _ trivial (fun hHeld => ?_)
                        clear hK K
                        try simp only [Act.put, List.setIfInBounds_toArray, List.set_cons_zero, List.set_cons_succ]
                        refine wpAnyH_ready (rs := [8]) (by kernel_rfl) (by simp) ?_
                        refine AllReadyH.cons (get_of_drop' rfl) (fun K hK => ?_) AllReadyH.nil
                        go_simp
                        refine hK.out _ _ trivial (fun hHeld => ?_)
                        clear hK K
                        try simp only [Act.put, List.setIfInBounds_toArray, List.set_cons_zero, List.set_cons_succ]
                        refine wpAnyH_ready (rs := [9]) (by kernel_rfl) (by simp) ?_
                        refine AllReadyH.cons (get_of_drop' rfl) (fun K hK => ?_) AllReadyH.nil
                        rw [if_pos (by rfl)]
                        refine wp_app_edgeL w6.drew (f, l, t) wL.heap.size _ _ rfl _ es rfl HPQ.out.2.1 rfl (by omega) hLw ?_
                        intro ao' m' cap' w7 hn2 hown' hkept
                        refine hK.out _ _ trivial (fun hHeld => ?_)
                        clear hK K
                        try simp only [Act.put, List.setIfInBounds_toArray, List.set_cons_zero, List.set_cons_succ]
                        first | (refine wpAnyH_take (i := 10) (get_of_drop' rfl) (by kernel_rfl) (by kernel_rfl) (by kernel_rfl) (fun _ _ _ h => h) (Or.inr ⟨?_, rfl⟩) hHeld ?_; (focus (simp [Region.wanted, yielded, undef]; done)); (try simp only [Act.put, List.setIfInBounds_toArray, List.set_cons_zero, List.set_cons_succ])) | (refine wpAnyH_take (i := 10) (v := ?_) (get_of_drop' rfl) (by kernel_rfl) (by kernel_rfl) (by kernel_rfl) (fun _ _ _ h => h) (Or.inl ⟨?_, ?_⟩) hHeld ?_; rotate_left; (focus rfl); (focus (intro w hSw; (try dsimp only at hSw); go_simp; (try (with_reducible rfl)))); (try simp only [Act.put, List.setIfInBounds_toArray, List.set_cons_zero, List.set_cons_succ]))
                        refine wpAnyH_ready (rs := [11]) (by kernel_rfl) (by simp) ?_
                        refine AllReadyH.cons (get_of_drop' rfl) (fun K hK => ?_) AllReadyH.nil
                        have hp5 := HPQ.out.app hkept hown'
                        have s2 : w7.cell? ⟨S, 2, none⟩ = some (.slice a' n' c') := (HPQ.out.1.of_block ((hkept.1 w6.drew (Below.refl _ _)).block S hSL)).cell (by decide)
                        have s3 := (HPQ.out.1.of_block ((hkept.1 w6.drew (Below.refl _ _)).block S hSL)).frozen 2
                        have HP7 := Lib.hid hp5
                        have HN2 := Lib.hid hn2; clear hn2
                        clear hp5 hkept hown'
                        go_simp
                        refine hK.out _ _ trivial (fun hHeld => ?_)
                        clear hK K
                        try simp only [Act.put, List.setIfInBounds_toArray, List.set_cons_zero, List.set_cons_succ]
                        refine wpAnyH_done (by kernel_rfl) ?_ _
                        go_wp2
                        go_roundw
                        case rel => exact ⟨k + 1, m', cap', ao', es ++ [(f, l, t)], by go_num, by omega, HP7.out, by rw [HN2.out]; simp, by simp; omega, HES2⟩
                        case measure => simp [intOf] <;> omega
                      · refine AllReadyH.cons (get_of_drop' rfl) (fun K hK => ?_) AllReadyH.nil
                        go_simp
                        refine hK.out _ _ trivial (fun hHeld => ?_)
                        clear hK K
                        try simp only [Act.put, List.setIfInBounds_toArray, List.set_cons_zero, List.set_cons_succ]
                        refine wpAnyH_ready (rs := [1]) (by kernel_rfl) (by simp) ?_
                        refine AllReadyH.cons (get_of_drop' rfl) (fun K hK => ?_) AllReadyH.nil
                        go_simp
                        refine hK.out _ _ trivial (fun hHeld => ?_)
                        clear hK K
                        try simp only [Act.put, List.setIfInBounds_toArray, List.set_cons_zero, List.set_cons_succ]
                        refine wpAnyH_ready (rs := [9]) (by kernel_rfl) (by simp) ?_
                        refine AllReadyH.cons (get_of_drop' rfl) (fun K hK => ?_) AllReadyH.nil
                        rw [if_pos (by rfl)]
                        refine wp_app_edgeL w6.drew (f, l, t) wL.heap.size _ _ rfl _ es rfl HPQ.out.2.1 rfl (by omega) hLw ?_
                        intro ao' m' cap' w7 hn2 hown' hkept
                        refine hK.out _ _ trivial (fun hHeld => ?_)
                        clear hK K
                        try simp only [Act.put, List.setIfInBounds_toArray, List.set_cons_zero, List.set_cons_succ]
                        first | (refine wpAnyH_take (i := 10) (get_of_drop' rfl) (by kernel_rfl) (by kernel_rfl) (by kernel_rfl) (fun _ _ _ h => h) (Or.inr ⟨?_, rfl⟩) hHeld ?_; (focus (simp [Region.wanted, yielded, undef]; done)); (try simp only [Act.put, List.setIfInBounds_toArray, List.set_cons_zero, List.set_cons_succ])) | (refine wpAnyH_take (i := 10) (v := ?_) (get_of_drop' rfl) (by kernel_rfl) (by kernel_rfl) (by kernel_rfl) (fun _ _ _ h => h) (Or.inl ⟨?_, ?_⟩) hHeld ?_; rotate_left; (focus rfl); (focus (intro w hSw; (try dsimp only at hSw); go_simp; (try (with_reducible rfl)))); (try simp only [Act.put, List.setIfInBounds_toArray, List.set_cons_zero, List.set_cons_succ]))
                        refine wpAnyH_ready (rs := [11]) (by kernel_rfl) (by simp) ?_
                        refine AllReadyH.cons (get_of_drop' rfl) (fun K hK => ?_) AllReadyH.nil
                        have hp5 := HPQ.out.app hkept hown'
                        have s2 : w7.cell? ⟨S, 2, none⟩ = some (.slice a' n' c') := (HPQ.out.1.of_block ((hkept.1 w6.drew (Below.refl _ _)).block S hSL)).cell (by decide)
                        have s3 := (HPQ.out.1.of_block ((hkept.1 w6.drew (Below.refl _ _)).block S hSL)).frozen 2
                        have HP7 := Lib.hid hp5
                        have HN2 := Lib.hid hn2; clear hn2
                        clear hp5 hkept hown'
                        go_simp
                        refine hK.out _ _ trivial (fun hHeld => ?_)
                        clear hK K
                        try simp only [Act.put, List.setIfInBounds_toArray, List.set_cons_zero, List.set_cons_succ]
                        refine wpAnyH_done (by kernel_rfl) ?_ _
                        go_wp2
                        go_roundw
                        case rel => exact ⟨k + 1, m', cap', ao', es ++ [(f, l, t)], by go_num, by omega, HP7.out, by rw [HN2.out]; simp, by simp; omega, HES2⟩
                        case measure => simp [intOf] <;> omega
                  · have hno : ¬ Canon s.data.toList al0 st0 es0 := fun hc => by have := (HPT.out hc).2; cases this
                    have HNO := Lib.hid hno; clear hno
                    have z0 : w6.cell? ⟨w.heap.size, 0, none⟩ = some (.int .i64 0) := HZ6.out.cell (by decide)
                    have z1 : w6.cell? ⟨w.heap.size, 1, none⟩ = some (.int .i64 0) := HZ6.out.cell (by decide)
                    have z2 : w6.cell? ⟨w.heap.size, 2, none⟩ = some (.slice none 0 0) := HZ6.out.cell (by decide)
                    have zf0 := HZ6.out.frozen 0
                    have zf1 := HZ6.out.frozen 1
                    have zf2 := HZ6.out.frozen 2
                    go_wp2
                    obtain ⟨wf, hwf⟩ : ∃ wf, (((w6.setCell ⟨w.heap.size, 0, none⟩ (.int .i64 0)).setCell ⟨w.heap.size, 1, none⟩ (.int .i64 0)).setCell ⟨w.heap.size, 2, none⟩ (.slice none 0 0)) = wf := ⟨_, rfl⟩
                    have hfin := rowIs_set3 HZ6.out (.int .i64 0) (.int .i64 0) (.slice none 0 0)
                    have hbF : Below w.heap.size w _ := ((HB6.out.setCell (p := ⟨w.heap.size, 0, none⟩) (by simp) (.int .i64 0)).setCell (p := ⟨w.heap.size, 1, none⟩) (by simp) (.int .i64 0)).setCell (p := ⟨w.heap.size, 2, none⟩) (by simp) (.slice none 0 0)
                    rw [hwf] at hfin hbF ⊢
                    clear hwf
                    have f0 : wf.cell? ⟨w.heap.size, 0, none⟩ = some (.int .i64 0) := hfin.cell (by decide)
                    have f1 : wf.cell? ⟨w.heap.size, 1, none⟩ = some (.int .i64 0) := hfin.cell (by decide)
                    have f2 : wf.cell? ⟨w.heap.size, 2, none⟩ = some (.slice none 0 0) := hfin.cell (by decide)
                    refine bodyPost_ret (v := .tuple #[.agg #[.int .i64 0, .int .i64 0, .slice none 0 0], .bool false]) ?_ rfl ?_
                    · simp [results, Tryz.results6, go_sem, f0, f1, f2]
                    · exact ⟨0, 0, none, 0, 0, [], false, rfl, rfl, by simp, EOwn.nil _ _, hbF, fun h => (by cases h), fun _ => ⟨rfl, rfl, rfl⟩, fun hc => (HNO.out hc).elim⟩
                · have hno : ¬ Canon s.data.toList al0 st0 es0 := fun hc => by have := (HPF.out hc).2; cases this
                  have HNO := Lib.hid hno; clear hno
                  clear hev2
                  have z0 : w6.cell? ⟨w.heap.size, 0, none⟩ = some (.int .i64 0) := HZ6.out.cell (by decide)
                  have z1 : w6.cell? ⟨w.heap.size, 1, none⟩ = some (.int .i64 0) := HZ6.out.cell (by decide)
                  have z2 : w6.cell? ⟨w.heap.size, 2, none⟩ = some (.slice none 0 0) := HZ6.out.cell (by decide)
                  have zf0 := HZ6.out.frozen 0
                  have zf1 := HZ6.out.frozen 1
                  have zf2 := HZ6.out.frozen 2
                  go_wp2
                  obtain ⟨wf, hwf⟩ : ∃ wf, (((w6.setCell ⟨w.heap.size, 0, none⟩ (.int .i64 0)).setCell ⟨w.heap.size, 1, none⟩ (.int .i64 0)).setCell ⟨w.heap.size, 2, none⟩ (.slice none 0 0)) = wf := ⟨_, rfl⟩
                  have hfin := rowIs_set3 HZ6.out (.int .i64 0) (.int .i64 0) (.slice none 0 0)
                  have hbF : Below w.heap.size w _ := ((HB6.out.setCell (p := ⟨w.heap.size, 0, none⟩) (by simp) (.int .i64 0)).setCell (p := ⟨w.heap.size, 1, none⟩) (by simp) (.int .i64 0)).setCell (p := ⟨w.heap.size, 2, none⟩) (by simp) (.slice none 0 0)
                  rw [hwf] at hfin hbF ⊢
                  clear hwf
                  have f0 : wf.cell? ⟨w.heap.size, 0, none⟩ = some (.int .i64 0) := hfin.cell (by decide)
                  have f1 : wf.cell? ⟨w.heap.size, 1, none⟩ = some (.int .i64 0) := hfin.cell (by decide)
                  have f2 : wf.cell? ⟨w.heap.size, 2, none⟩ = some (.slice none 0 0) := hfin.cell (by decide)
                  refine bodyPost_ret (v := .tuple #[.agg #[.int .i64 0, .int .i64 0, .slice none 0 0], .bool false]) ?_ rfl ?_
                  · simp [results, Tryz.results6, go_sem, f0, f1, f2]
                  · exact ⟨0, 0, none, 0, 0, [], false, rfl, rfl, by simp, EOwn.nil _ _, hbF, fun h => (by cases h), fun _ => ⟨rfl, rfl, rfl⟩, fun hc => (HNO.out hc).elim⟩
            · have hkn : k + 2 = n := by omega
              have HKN := Lib.hid hkn; clear hkn
              have q0 : wr.cell? ⟨S, 0, none⟩ = some (.int .i64 al) := hp.1.cell (by decide)
              have q1 : wr.cell? ⟨S, 1, none⟩ = some (.int .i64 st) := hp.1.cell (by decide)
              have q2 : wr.cell? ⟨S, 2, none⟩ = some (.slice a' n' c') := hp.1.cell (by decide)
              have HP := Lib.hid hp
              have HBX := Lib.hid hbx
              have HZX := Lib.hid (hp.2.2.2.row HZ3.out (fun e => by omega))
              have hev : EVR w.heap.size wr (.slice a' n' c') es := hp.2.1.evr (by omega)
              have HEV := Lib.hid hev
              clear hp hbx hev
              go_wp2_with fail
              refine (implFormat_tx al st a' n' c' es wr HEV.out.ev (by omega)).mono ?_
              rintro e w5 ⟨r, rfl, hrd, hb5⟩
              have hp5 := HP.out.below hb5
              have p0 : w5.cell? ⟨S, 0, none⟩ = some (.int .i64 al) := hp5.1.cell (by decide)
              have p1 : w5.cell? ⟨S, 1, none⟩ = some (.int .i64 st) := hp5.1.cell (by decide)
              have p2 : w5.cell? ⟨S, 2, none⟩ = some (.slice a' n' c') := hp5.1.cell (by decide)
              have HP5 := Lib.hid hp5
              have HB5 := Lib.hid (HBX.out.trans (hb5.mono HBX.out.size))
              have HZ5 := Lib.hid (rowIs_below' HZX.out hb5)
              clear hp5 hb5 q0 q1 q2
              have hall2 : Canon s.data.toList al0 st0 es0 → al = al0 ∧ st = st0 ∧ es = es0 := fun hc => by
                have h1 := (pieces HCUT.out hc).1
                have h2 := hc.parts
                have hst := (HPS.out hc).1
                refine ⟨(HPA.out hc).1, by omega, ?_⟩
                rw [HES.out hc, List.take_of_length_le (by have := HN.out; have := HKN.out; omega)]
              have HALL2 := Lib.hid hall2; clear hall2
              by_cases heq : r = s
              · subst heq
                have hcn : Canon r.data.toList al st es := fmtS_canon hrd.symm (fun e => by
                  have := data_len r
                  rw [e] at this
                  simp at this
                  omega)
                have HCN := Lib.hid hcn; clear hcn
                have heq : (r.toList == r.toList) = true := by simp
                have z0 : w5.cell? ⟨w.heap.size, 0, none⟩ = some (.int .i64 0) := HZ5.out.cell (by decide)
                have z1 : w5.cell? ⟨w.heap.size, 1, none⟩ = some (.int .i64 0) := HZ5.out.cell (by decide)
                have z2 : w5.cell? ⟨w.heap.size, 2, none⟩ = some (.slice none 0 0) := HZ5.out.cell (by decide)
                have zf0 := HZ5.out.frozen 0
                have zf1 := HZ5.out.frozen 1
                have zf2 := HZ5.out.frozen 2
                clear hrd
                go_wp2
                obtain ⟨wf, hwf⟩ : ∃ wf, (((w5.setCell ⟨w.heap.size, 0, none⟩ (.int .i64 al)).setCell ⟨w.heap.size, 1, none⟩ (.int .i64 st)).setCell ⟨w.heap.size, 2, none⟩ (.slice a' n' c')) = wf := ⟨_, rfl⟩
                have hfin := rowIs_set3 HZ5.out (.int .i64 al) (.int .i64 st) (.slice a' n' c')
                have hbF : Below w.heap.size w _ := ((HB5.out.setCell (p := ⟨w.heap.size, 0, none⟩) (by simp) (.int .i64 al)).setCell (p := ⟨w.heap.size, 1, none⟩) (by simp) (.int .i64 st)).setCell (p := ⟨w.heap.size, 2, none⟩) (by simp) (.slice a' n' c')
                have hZL : w.heap.size < wL.heap.size := by omega
                have hown5 := EOwn.set3 (u0 := .int .i64 al) (u1 := .int .i64 st) (u2 := .slice a' n' c') HP5.out.2.1 hZL
                rw [hwf] at hfin hbF hown5 ⊢
                clear hwf
                have f0 : wf.cell? ⟨w.heap.size, 0, none⟩ = some (.int .i64 al) := hfin.cell (by decide)
                have f1 : wf.cell? ⟨w.heap.size, 1, none⟩ = some (.int .i64 st) := hfin.cell (by decide)
                have f2 : wf.cell? ⟨w.heap.size, 2, none⟩ = some (.slice a' n' c') := hfin.cell (by decide)
                refine bodyPost_ret (v := .tuple #[.agg #[.int .i64 al, .int .i64 st, .slice a' n' c'], .bool true]) ?_ rfl ?_
                · simp [results, Tryz.results6, go_sem, f0, f1, f2]
                · exact ⟨_, _, _, _, _, es, _, rfl, HN'.out, by omega, hown5.lower (Nat.le_of_lt hZL), hbF, fun _ => HCN.out, fun h => (by cases h), fun hc => ⟨(HALL2.out hc).1, (HALL2.out hc).2.1, (HALL2.out hc).2.2, rfl⟩⟩
              · have hno : ¬ Canon s.data.toList al0 st0 es0 := fun hc => by
                  obtain ⟨h1, h2, h3⟩ := HALL2.out hc
                  refine heq (bytes_eq ?_)
                  rw [hrd, h1, h2, h3]
                  exact hc.fmt
                have HNO := Lib.hid hno; clear hno
                have hne : (r.toList == s.toList) = false := by
                  rw [ByteArray.toList_eq, ByteArray.toList_eq]
                  simp only [beq_eq_false_iff_ne, ne_eq]
                  exact fun e => heq (bytes_eq e)
                clear heq hrd
                have z0 : w5.cell? ⟨w.heap.size, 0, none⟩ = some (.int .i64 0) := HZ5.out.cell (by decide)
                have z1 : w5.cell? ⟨w.heap.size, 1, none⟩ = some (.int .i64 0) := HZ5.out.cell (by decide)
                have z2 : w5.cell? ⟨w.heap.size, 2, none⟩ = some (.slice none 0 0) := HZ5.out.cell (by decide)
                have zf0 := HZ5.out.frozen 0
                have zf1 := HZ5.out.frozen 1
                have zf2 := HZ5.out.frozen 2
                go_wp2
                obtain ⟨wf, hwf⟩ : ∃ wf, (((w5.setCell ⟨w.heap.size, 0, none⟩ (.int .i64 0)).setCell ⟨w.heap.size, 1, none⟩ (.int .i64 0)).setCell ⟨w.heap.size, 2, none⟩ (.slice none 0 0)) = wf := ⟨_, rfl⟩
                have hfin := rowIs_set3 HZ5.out (.int .i64 0) (.int .i64 0) (.slice none 0 0)
                have hbF : Below w.heap.size w _ := ((HB5.out.setCell (p := ⟨w.heap.size, 0, none⟩) (by simp) (.int .i64 0)).setCell (p := ⟨w.heap.size, 1, none⟩) (by simp) (.int .i64 0)).setCell (p := ⟨w.heap.size, 2, none⟩) (by simp) (.slice none 0 0)
                rw [hwf] at hfin hbF ⊢
                clear hwf
                have f0 : wf.cell? ⟨w.heap.size, 0, none⟩ = some (.int .i64 0) := hfin.cell (by decide)
                have f1 : wf.cell? ⟨w.heap.size, 1, none⟩ = some (.int .i64 0) := hfin.cell (by decide)
                have f2 : wf.cell? ⟨w.heap.size, 2, none⟩ = some (.slice none 0 0) := hfin.cell (by decide)
                refine bodyPost_ret (v := .tuple #[.agg #[.int .i64 0, .int .i64 0, .slice none 0 0], .bool false]) ?_ rfl ?_
                · simp [results, Tryz.results6, go_sem, f0, f1, f2]
                · exact ⟨0, 0, none, 0, 0, [], false, rfl, rfl, by simp, EOwn.nil _ _, hbF, fun h => (by cases h), fun _ => ⟨rfl, rfl, rfl⟩, fun hc => (HNO.out hc).elim⟩
      · have hno : ¬ Canon s.data.toList al0 st0 es0 := fun hc => by have := (HPS.out hc).2; cases this
        have HNO := Lib.hid hno; clear hno
        have z0 : w3.cell? ⟨w.heap.size, 0, none⟩ = some (.int .i64 0) := HZ3.out.cell (by decide)
        have z1 : w3.cell? ⟨w.heap.size, 1, none⟩ = some (.int .i64 0) := HZ3.out.cell (by decide)
        have z2 : w3.cell? ⟨w.heap.size, 2, none⟩ = some (.slice none 0 0) := HZ3.out.cell (by decide)
        have zf0 := HZ3.out.frozen 0
        have zf1 := HZ3.out.frozen 1
        have zf2 := HZ3.out.frozen 2
        go_wp2
        obtain ⟨wf, hwf⟩ : ∃ wf, (((w3.setCell ⟨w.heap.size, 0, none⟩ (.int .i64 0)).setCell ⟨w.heap.size, 1, none⟩ (.int .i64 0)).setCell ⟨w.heap.size, 2, none⟩ (.slice none 0 0)) = wf := ⟨_, rfl⟩
        have hfin := rowIs_set3 HZ3.out (.int .i64 0) (.int .i64 0) (.slice none 0 0)
        have hbF : Below w.heap.size w _ := ((HB3.out.setCell (p := ⟨w.heap.size, 0, none⟩) (by simp) (.int .i64 0)).setCell (p := ⟨w.heap.size, 1, none⟩) (by simp) (.int .i64 0)).setCell (p := ⟨w.heap.size, 2, none⟩) (by simp) (.slice none 0 0)
        rw [hwf] at hfin hbF ⊢
        clear hwf
        have f0 : wf.cell? ⟨w.heap.size, 0, none⟩ = some (.int .i64 0) := hfin.cell (by decide)
        have f1 : wf.cell? ⟨w.heap.size, 1, none⟩ = some (.int .i64 0) := hfin.cell (by decide)
        have f2 : wf.cell? ⟨w.heap.size, 2, none⟩ = some (.slice none 0 0) := hfin.cell (by decide)
        refine bodyPost_ret (v := .tuple #[.agg #[.int .i64 0, .int .i64 0, .slice none 0 0], .bool false]) ?_ rfl ?_
        · simp [results, Tryz.results6, go_sem, f0, f1, f2]
        · exact ⟨0, 0, none, 0, 0, [], false, rfl, rfl, by simp, EOwn.nil _ _, hbF, fun h => (by cases h), fun _ => ⟨rfl, rfl, rfl⟩, fun hc => (HNO.out hc).elim⟩
end Go.Proofs.YtnjakhojdhkihaaGreatDoor
