/- ParseSystem of the reference: a text is read where it is the text of a valid system, and then as that system. -/
import Derived.Test.YtnjakhojdhkihaaGreatDoorFNum
import Derived.Test.YtnjakhojdhkihaaGreatDoorFSpec
import Derived.Test.YtnjakhojdhkihaaGreatDoorSParse
namespace Go.Proofs.YtnjakhojdhkihaaGreatDoor
open Go.RowKit
set_option linter.unusedVariables false
set_option linter.unusedSimpArgs false
set_option maxRecDepth 100000

theorem l19Num_for (P : Prop) (m : Nat) (s : ByteArray) (hs : s.size ≤ 2000000) (hP : P → m < 100 ∧ s.data.toList = dg m) (w : World) :
    Calls Tryz.prog 19 #[.string s] w (fun e w' => ∃ (n : Int) (b : Bool), e = .returned (.tuple #[.int .i64 n, .bool b]) ∧ w' = w ∧ (P → n = m ∧ b = true)) := by
  by_cases h : P
  · refine (l19Num_tx m (hP h).1 s (hP h).2 w).mono ?_
    rintro e w' ⟨rfl, rfl⟩
    exact ⟨_, _, rfl, rfl, fun _ => ⟨rfl, rfl⟩⟩
  · refine (l19Num_any s hs w).mono ?_
    rintro e w' ⟨n, b, rfl, rfl⟩
    exact ⟨_, _, rfl, rfl, fun h2 => absurd h2 h⟩
/-- An edge in the bounds of every valid system. -/
def Ok1 (e : Edg) : Prop := (0 ≤ e.1 ∧ e.1 < 16) ∧ (0 ≤ e.2.1 ∧ e.2.1 < 6) ∧ 0 ≤ e.2.2 ∧ e.2.2 < 16
theorem l2Parse_for (P : Prop) (e0 : Edg) (s : ByteArray) (hs : s.size ≤ 2000000) (hP : P → Ok1 e0 ∧ s.data.toList = edgT e0) (w : World) :
    Calls Tryz.prog 20 #[.string s] w (fun e w' => ∃ (f l t : Int) (b : Bool), e = .returned (.tuple #[.agg #[.int .i64 f, .int .i64 l, .int .i64 t], .bool b]) ∧ Below w.heap.size w w' ∧ (P → (f, l, t) = e0 ∧ b = true)) := by
  by_cases h : P
  · obtain ⟨hok, hd⟩ := hP h
    obtain ⟨f, l, t⟩ := e0
    obtain ⟨⟨h1, h2⟩, ⟨h3, h4⟩, h5, h6⟩ := hok
    dsimp only at h1 h2 h3 h4 h5 h6
    obtain ⟨f, rfl⟩ := Int.eq_ofNat_of_zero_le h1
    obtain ⟨t, rfl⟩ := Int.eq_ofNat_of_zero_le h5
    refine (l2Parse_tx f t l (by omega) (by omega) h3 h4 s hd w).mono ?_
    rintro e w' ⟨rfl, hb⟩
    exact ⟨_, _, _, _, rfl, hb, fun _ => ⟨rfl, rfl⟩⟩
  · refine (l2Parse_any s hs w).mono ?_
    rintro e w' ⟨f, l, t, b, rfl, hb⟩
    exact ⟨_, _, _, _, rfl, hb, fun h2 => absurd h2 h⟩
/-- What a parser of a text owes: where it says yes, the text is the system's; where no, the system is empty; and it says yes at the text of the system (al0, st0, es0). -/
def PF (l : List UInt8) (al0 st0 : Int) (es0 : List Edg) (al st : Int) (es : List Edg) (b : Bool) : Prop :=
  (b = true → Canon l al st es) ∧ (b = false → al = 0 ∧ st = 0 ∧ es = []) ∧ (Canon l al0 st0 es0 → al = al0 ∧ st = st0 ∧ es = es0 ∧ b = true)
def ParseFor (s : ByteArray) (al0 st0 : Int) (es0 : List Edg) (w : World) (e : Ending) (w' : World) : Prop := ∃ (al st : Int) (a : Option Addr) (n c : Nat) (es : List Edg) (b : Bool), e = .returned (.tuple #[.agg #[.int .i64 al, .int .i64 st, .slice a n c], .bool b]) ∧ n = es.length ∧ es.length ≤ s.size ∧ EOwn w.heap.size w' (.slice a n c) es ∧ Below w.heap.size w w' ∧ PF s.data.toList al0 st0 es0 al st es b
theorem Canon.parts {l : List UInt8} {al st : Int} {es : List Edg} (h : Canon l al st es) : cutL l = sysParts al st es ∧ isA al = true ∧ 1 ≤ st ∧ st ≤ 16 ∧ ∀ k, k < es.length → Ok1 (Edg.at es k) := by
  obtain ⟨h1, h2, h3, -⟩ := sysV_facts h.1
  refine ⟨by rw [← h.2]; exact cut_sysT ⟨by omega, by omega⟩ (sysV_ok h.1), h1, h2, h3, fun k hk => (sysV_ok h.1).at k hk⟩
theorem parts_at {al st : Int} {es : List Edg} (k : Nat) (hk : k < es.length) : (sysParts al st es)[k + 2]? = some (edgT (Edg.at es k)) := by
  unfold sysParts Edg.at
  rw [List.getElem?_cons_succ, List.getElem?_cons_succ, List.getElem?_map, List.getElem?_eq_getElem hk]
  rfl
theorem parts_len (al st : Int) (es : List Edg) : (sysParts al st es).length = es.length + 2 := by simp [sysParts]
/-- The pieces of a text, where it is the system's. -/
theorem pieces {ss : List ByteArray} {l : List UInt8} {al st : Int} {es : List Edg} (hc : cutL l = ss.map (·.data.toList)) (h : Canon l al st es) :
    ss.length = es.length + 2 ∧ (ss[0]?.getD ByteArray.empty).data.toList = fmtA al ∧ (ss[1]?.getD ByteArray.empty).data.toList = dg st.toNat ∧ ∀ k, k < es.length → (ss[k + 2]?.getD ByteArray.empty).data.toList = edgT (Edg.at es k) := by
  have hp := h.parts.1
  rw [hc] at hp
  have hl := congrArg List.length hp
  rw [List.length_map, parts_len] at hl
  have key : ∀ j x, (sysParts al st es)[j]? = some x → (ss[j]?.getD ByteArray.empty).data.toList = x := fun j x hx => by
    rw [← hp, List.getElem?_map] at hx
    cases hj : ss[j]? with
    | none => rw [hj] at hx; cases hx
    | some y =>
      rw [hj] at hx
      simpa using hx
  exact ⟨hl, key 0 _ rfl, key 1 _ rfl, fun k hk => key (k + 2) _ (parts_at k hk)⟩
theorem EOwn.set3 {B S : Nat} {w : World} {v u0 u1 u2 : Value} {es : List Edg} (h : EOwn B w v es) (hS : S < B) : EOwn B (((w.setCell ⟨S, 0, none⟩ u0).setCell ⟨S, 1, none⟩ u1).setCell ⟨S, 2, none⟩ u2) v es := ((h.set hS).set hS).set hS
theorem EOwn.lower {B B' : Nat} {w : World} {v : Value} {es : List Edg} (h : EOwn B w v es) (hB : B' ≤ B) : EOwn B' w v es := by
  refine ⟨h.1, ?_⟩
  rcases h.2 with h2 | ⟨g, c, cur, hv, hg, rest⟩
  · exact .inl h2
  · exact .inr ⟨g, c, cur, hv, Nat.le_trans hB hg, rest⟩
theorem bytes_eq {a b : ByteArray} (h : a.data.toList = b.data.toList) : a = b := by
  cases a; cases b
  simp at h
  simp [h]
theorem app_edgeL {P : Program} {ops : Array Oper} {rest : List Oper} {o : Oper} {a : Act} {Q : Exit → Act → World → Prop} (wr : World) (e : Edg) (B : Nat) (hP : P = Tryz.prog) (hg : o.guard = none) (s y : Operand)
    (ho : o.op = .call { callee := .builtin .append, args := #[s, y], argTypes := #[22, 22] }) (v : Value) (es : List Edg) (hs : a.eval s = v) (hown : EOwn B wr v es)
    (hy : a.eval y = .slice (some ⟨wr.heap.size, 0, none⟩) 1 1) (hb : es.length ≤ 10000000) (hB : B ≤ wr.heap.size)
    (h : ∀ ao n cap w1, n = es.length + 1 → EOwn B w1 (.slice ao n cap) (es ++ [e]) → Kept B wr w1 v → wpList P ops Q rest (a.put o.dst (.slice ao n cap)) w1) :
    wpList P ops Q (o :: rest) a (wr.alloc (.cells #[.int .i64 e.1, .int .i64 e.2.1, .int .i64 e.2.2] 41)) := by
  subst hP
  obtain ⟨i0, hi, hz0, hz1, hz2⟩ := info_parts Tryz.infoEdge
  refine wpList_append_own _ hg s y 22 ho B 41 i0 (.agg #[.int .i64 0, .int .i64 0, .int .i64 0]) 3 24 Tryz.underlying22 hi hz0 hz1 hz2 rfl (by decide) v es.length (eflat es) hs (World.ownsRow.alloc hown _) ⟨wr.heap.size, 0, none⟩ 1 1 (eflat [e]) hy rfl (edge_one_new _ _) (eflat_one _) (by unfold maxLen; omega) (by omega) (by simp; omega) ?_
  intro v' w1 hown' hgrow _
  have hg2 : wr.grownBy w1 v.ownBlock := by
    refine ⟨hgrow.os, hgrow.tape, hgrow.output, ?_, fun k hk hne => ?_⟩
    · have := hgrow.size; simp at this; omega
    · rw [hgrow.block k (by simp; omega) hne]; exact Below.heap_alloc wr _ k hk
  have hown2 : EOwn B w1 v' (es ++ [e]) := by unfold EOwn; rw [eflat_app]; simpa using hown'
  have hK : Kept B wr w1 v := ⟨fun w0 h0 => h0.grown hg2 hB (fun k hk => (World.ownsRow.lt hown k hk).1), hg2⟩
  rcases hown'.2 with ⟨rfl, h0⟩ | ⟨g, cap, cur, rfl, _⟩
  · omega
  · exact h _ _ _ w1 rfl hown2 hK
set_option maxHeartbeats 8000000 in
theorem specParseSys_for (al0 st0 : Int) (es0 : List Edg) (s : ByteArray) (hs : s.size ≤ 1048576) (w : World) : Calls Tryz.prog 5 #[.string s] w (ParseFor s al0 st0 es0 w) := by
  have hb0 := below_new' w 24 #[.int .i64 0, .int .i64 0, .slice none 0 0]
  have hz0 := sys_cells w 0 0 (.slice none 0 0) 24
  go_enter Tryz.func5, Tryz.ntmps5
  go_wp2_with fail
  obtain ⟨w0, hw0⟩ : ∃ w0, (w.alloc (.cells #[.int .i64 0, .int .i64 0, .slice none 0 0] 24)) = w0 := ⟨_, rfl⟩
  rw [hw0] at hb0 hz0 ⊢
  clear hw0
  refine (l19Cut_tx s (by omega) w0).mono ?_
  rintro e w1 ⟨n, cap, ao, ss, rfl, hn, hns, hown, hcut, hb1⟩
  have HB1 := Lib.hid (hb0.trans (hb1.mono hb0.size))
  have HZ1 := Lib.hid (rowIs_below' hz0 hb1)
  have HOWN := Lib.hid hown; clear hown
  have hall : ∀ x ∈ ss, x.size ≤ s.size := fun x hx => by
    have hm : x.data.toList ∈ ss.map (·.data.toList) := List.mem_map.2 ⟨x, hx, rfl⟩
    rw [← hcut] at hm
    have := cutL_all _ _ hm
    rw [data_len, data_len] at this
    exact this
  have HALL := Lib.hid hall; clear hall
  have HN := Lib.hid hn; clear hn
  have HCUT := Lib.hid hcut; clear hcut
  clear hb0 hz0 hb1
  by_cases h2 : (n : Int) < 2
  · have z0 : w1.cell? ⟨w.heap.size, 0, none⟩ = some (.int .i64 0) := HZ1.out.cell (by decide)
    have z1 : w1.cell? ⟨w.heap.size, 1, none⟩ = some (.int .i64 0) := HZ1.out.cell (by decide)
    have z2 : w1.cell? ⟨w.heap.size, 2, none⟩ = some (.slice none 0 0) := HZ1.out.cell (by decide)
    have zf0 := HZ1.out.frozen 0
    have zf1 := HZ1.out.frozen 1
    have zf2 := HZ1.out.frozen 2
    have hno : ¬ Canon s.data.toList al0 st0 es0 := fun hc => by
      have h1 := (pieces HCUT.out hc).1
      have := HN.out
      omega
    have HNO := Lib.hid hno; clear hno
    go_wp2
    obtain ⟨wf, hwf⟩ : ∃ wf, (((w1.setCell ⟨w.heap.size, 0, none⟩ (.int .i64 0)).setCell ⟨w.heap.size, 1, none⟩ (.int .i64 0)).setCell ⟨w.heap.size, 2, none⟩ (.slice none 0 0)) = wf := ⟨_, rfl⟩
    have hfin := rowIs_set3 HZ1.out (.int .i64 0) (.int .i64 0) (.slice none 0 0)
    have hbF : Below w.heap.size w _ := ((HB1.out.setCell (p := ⟨w.heap.size, 0, none⟩) (by simp) (.int .i64 0)).setCell (p := ⟨w.heap.size, 1, none⟩) (by simp) (.int .i64 0)).setCell (p := ⟨w.heap.size, 2, none⟩) (by simp) (.slice none 0 0)
    rw [hwf] at hfin hbF ⊢
    clear hwf
    have f0 : wf.cell? ⟨w.heap.size, 0, none⟩ = some (.int .i64 0) := hfin.cell (by decide)
    have f1 : wf.cell? ⟨w.heap.size, 1, none⟩ = some (.int .i64 0) := hfin.cell (by decide)
    have f2 : wf.cell? ⟨w.heap.size, 2, none⟩ = some (.slice none 0 0) := hfin.cell (by decide)
    refine bodyPost_ret (v := .tuple #[.agg #[.int .i64 0, .int .i64 0, .slice none 0 0], .bool false]) ?_ rfl ?_
    · simp [results, Tryz.results5, go_sem, f0, f1, f2]
    · exact ⟨0, 0, none, 0, 0, [], false, rfl, rfl, by simp, EOwn.nil _ _, hbF, fun h => (by cases h), fun _ => ⟨rfl, rfl, rfl⟩, fun hc => (HNO.out hc).elim⟩
  · obtain ⟨-, hncap, hcapm, g, rfl, hBg, hg1, hcells⟩ := HOWN.out.at (by omega : 0 < n)
    unfold maxLen at hcapm
    have hc0 := hcells 0 (by omega)
    have hc1 := hcells 1 (by omega)
    obtain ⟨s0, hs0⟩ : ∃ s0, ss[0]?.getD ByteArray.empty = s0 := ⟨_, rfl⟩
    obtain ⟨s1, hs1⟩ : ∃ s1, ss[1]?.getD ByteArray.empty = s1 := ⟨_, rfl⟩
    have hs1' : 1 ≤ s.size := by omega
    have hsz : ∀ j, j < n → (ss[j]?.getD ByteArray.empty).size ≤ 1048576 := fun j hj => by
      have hj' : j < ss.length := by rw [← HN.out]; exact hj
      rw [List.getElem?_eq_getElem hj', Option.getD_some]
      have := HALL.out _ (List.getElem_mem hj')
      omega
    have hz0 := hsz 0 (by omega)
    have hz1 := hsz 1 (by omega)
    rw [hs0] at hc0 hz0
    rw [hs1] at hc1 hz1
    have hp0 : Canon s.data.toList al0 st0 es0 → s0.data.toList = fmtA al0 := fun hc => by rw [← hs0]; exact (pieces HCUT.out hc).2.1
    have hp1 : Canon s.data.toList al0 st0 es0 → st0.toNat < 100 ∧ s1.data.toList = dg st0.toNat := fun hc => by
      have := hc.parts
      exact ⟨by omega, by rw [← hs1]; exact (pieces HCUT.out hc).2.2.1⟩
    have HP0 := Lib.hid hp0; clear hp0
    have HP1 := Lib.hid hp1; clear hp1
    have HCELL := Lib.hid hcells
    have HSZ := Lib.hid hsz; clear hsz
    clear hcells hs0 hs1
    go_wp2_with fail
    refine (specParse_any s0 (by omega) w1).mono ?_
    rintro e w2 ⟨rfl, hb2⟩
    unfold ParseRet
    obtain ⟨al, hal⟩ : ∃ al, (parseN s0.data.toList : Int) = al := ⟨_, rfl⟩
    obtain ⟨ok, hok⟩ : ∃ ok, parseB s0.data.toList = ok := ⟨_, rfl⟩
    rw [hal, hok]
    have hpa : Canon s.data.toList al0 st0 es0 → al = al0 ∧ ok = true := fun hc => by
      have h := parse_fmt (al := al0) hc.parts.2.1
      rw [← HP0.out hc, hal, hok] at h
      exact ⟨h.2, h.1⟩
    have HPA := Lib.hid hpa; clear hpa
    have d1 : w2.cell? ⟨g, 1, none⟩ = some (.string s1) := keep_cell hb2 hc1
    have HB2 := Lib.hid (HB1.out.trans (hb2.mono HB1.out.size))
    have HZ2 := Lib.hid (rowIs_below' HZ1.out hb2)
    have HK2 := Lib.hid hb2
    clear hal hok hb2 hc0 hc1
    go_wp2_with fail
    refine (l19Num_for (Canon s.data.toList al0 st0 es0) st0.toNat s1 (by omega) HP1.out w2).mono ?_
    rintro e w3 ⟨st, fine, rfl, hw3, hps⟩
    have HPS := Lib.hid hps; clear hps
    replace hw3 := hw3.symm
    subst hw3
    cases ok with
    | false =>
      have z0 : w2.cell? ⟨w.heap.size, 0, none⟩ = some (.int .i64 0) := HZ2.out.cell (by decide)
      have z1 : w2.cell? ⟨w.heap.size, 1, none⟩ = some (.int .i64 0) := HZ2.out.cell (by decide)
      have z2 : w2.cell? ⟨w.heap.size, 2, none⟩ = some (.slice none 0 0) := HZ2.out.cell (by decide)
      have zf0 := HZ2.out.frozen 0
      have zf1 := HZ2.out.frozen 1
      have zf2 := HZ2.out.frozen 2
      have hno : ¬ Canon s.data.toList al0 st0 es0 := fun hc => by have := (HPA.out hc).2; cases this
      have HNO := Lib.hid hno; clear hno
      go_wp2
      obtain ⟨wf, hwf⟩ : ∃ wf, (((w2.setCell ⟨w.heap.size, 0, none⟩ (.int .i64 0)).setCell ⟨w.heap.size, 1, none⟩ (.int .i64 0)).setCell ⟨w.heap.size, 2, none⟩ (.slice none 0 0)) = wf := ⟨_, rfl⟩
      have hfin := rowIs_set3 HZ2.out (.int .i64 0) (.int .i64 0) (.slice none 0 0)
      have hbF : Below w.heap.size w _ := ((HB2.out.setCell (p := ⟨w.heap.size, 0, none⟩) (by simp) (.int .i64 0)).setCell (p := ⟨w.heap.size, 1, none⟩) (by simp) (.int .i64 0)).setCell (p := ⟨w.heap.size, 2, none⟩) (by simp) (.slice none 0 0)
      rw [hwf] at hfin hbF ⊢
      clear hwf
      have f0 : wf.cell? ⟨w.heap.size, 0, none⟩ = some (.int .i64 0) := hfin.cell (by decide)
      have f1 : wf.cell? ⟨w.heap.size, 1, none⟩ = some (.int .i64 0) := hfin.cell (by decide)
      have f2 : wf.cell? ⟨w.heap.size, 2, none⟩ = some (.slice none 0 0) := hfin.cell (by decide)
      refine bodyPost_ret (v := .tuple #[.agg #[.int .i64 0, .int .i64 0, .slice none 0 0], .bool false]) ?_ rfl ?_
      · simp [results, Tryz.results5, go_sem, f0, f1, f2]
      · exact ⟨0, 0, none, 0, 0, [], false, rfl, rfl, by simp, EOwn.nil _ _, hbF, fun h => (by cases h), fun _ => ⟨rfl, rfl, rfl⟩, fun hc => (HNO.out hc).elim⟩
    | true =>
      cases fine with
      | false =>
        have z0 : w2.cell? ⟨w.heap.size, 0, none⟩ = some (.int .i64 0) := HZ2.out.cell (by decide)
        have z1 : w2.cell? ⟨w.heap.size, 1, none⟩ = some (.int .i64 0) := HZ2.out.cell (by decide)
        have z2 : w2.cell? ⟨w.heap.size, 2, none⟩ = some (.slice none 0 0) := HZ2.out.cell (by decide)
        have zf0 := HZ2.out.frozen 0
        have zf1 := HZ2.out.frozen 1
        have zf2 := HZ2.out.frozen 2
        have hno : ¬ Canon s.data.toList al0 st0 es0 := fun hc => by have := (HPS.out hc).2; cases this
        have HNO := Lib.hid hno; clear hno
        go_wp2
        obtain ⟨wf, hwf⟩ : ∃ wf, (((w2.setCell ⟨w.heap.size, 0, none⟩ (.int .i64 0)).setCell ⟨w.heap.size, 1, none⟩ (.int .i64 0)).setCell ⟨w.heap.size, 2, none⟩ (.slice none 0 0)) = wf := ⟨_, rfl⟩
        have hfin := rowIs_set3 HZ2.out (.int .i64 0) (.int .i64 0) (.slice none 0 0)
        have hbF : Below w.heap.size w _ := ((HB2.out.setCell (p := ⟨w.heap.size, 0, none⟩) (by simp) (.int .i64 0)).setCell (p := ⟨w.heap.size, 1, none⟩) (by simp) (.int .i64 0)).setCell (p := ⟨w.heap.size, 2, none⟩) (by simp) (.slice none 0 0)
        rw [hwf] at hfin hbF ⊢
        clear hwf
        have f0 : wf.cell? ⟨w.heap.size, 0, none⟩ = some (.int .i64 0) := hfin.cell (by decide)
        have f1 : wf.cell? ⟨w.heap.size, 1, none⟩ = some (.int .i64 0) := hfin.cell (by decide)
        have f2 : wf.cell? ⟨w.heap.size, 2, none⟩ = some (.slice none 0 0) := hfin.cell (by decide)
        refine bodyPost_ret (v := .tuple #[.agg #[.int .i64 0, .int .i64 0, .slice none 0 0], .bool false]) ?_ rfl ?_
        · simp [results, Tryz.results5, go_sem, f0, f1, f2]
        · exact ⟨0, 0, none, 0, 0, [], false, rfl, rfl, by simp, EOwn.nil _ _, hbF, fun h => (by cases h), fun _ => ⟨rfl, rfl, rfl⟩, fun hc => (HNO.out hc).elim⟩
      | true =>
        go_wp2_with fail
        obtain ⟨S, hS⟩ : ∃ S, w2.heap.size = S := ⟨_, rfl⟩
        obtain ⟨wL, hwL⟩ : ∃ wL, (w2.alloc (.cells #[.int .i64 al, .int .i64 st, .slice none 0 0] 24)) = wL := ⟨_, rfl⟩
        have hs3 := sys_cells w2 al st (.slice none 0 0) 24
        have hb3 := below_new' w2 24 #[.int .i64 al, .int .i64 st, .slice none 0 0]
        rw [hS] at hs3
        rw [hwL] at hs3 hb3 ⊢
        rw [hS]
        have HS := Lib.hid hs3
        have HB3 := Lib.hid (HB2.out.trans (hb3.mono HB2.out.size))
        have HZ3 := Lib.hid (rowIs_below' HZ2.out hb3)
        have HC3 := Lib.hid (fun (j : Nat) (hj : j < n) => (show wL.cell? ⟨g, j, none⟩ = some (.string (ss[j]?.getD ByteArray.empty)) from keep_cell hb3 (keep_cell HK2.out (HCELL.out j hj))))
        have hSL : S < wL.heap.size := World.rowIs.lt hs3
        have hgS : g < S := by have := HK2.out.size; omega
        have hZS : w.heap.size < S := by
          have := World.rowIs.lt HZ1.out
          have := HK2.out.size
          omega
        have hwS : w.heap.size ≤ S := by omega
        clear hwL hs3 hb3 hS
        go_loopw [10] (fun i wr => ∃ (k n' c : Nat) (a : Option Addr) (es : List Edg), i = .int .i64 k ∧ 2 ≤ k ∧ k ≤ n ∧ PSt S al st wL wr (.slice a n' c) es ∧ n' = es.length ∧ es.length + 2 ≤ k ∧ Hid (Canon s.data.toList al0 st0 es0 → es = es0.take (k - 2))) (fun i _ => n - (intOf i).toNat)
        case atStart => exact ⟨2, 0, 0, none, [], rfl, Nat.le_refl _, by omega, ⟨HS.out, EOwn.nil _ _, hSL, Onl.refl _ _⟩, rfl, by simp, Lib.hid (fun _ => by simp)⟩
        case round =>
          obtain ⟨k, n', c', a', es, rfl, hk2, hk, hp, hn', hes, HES⟩ := hrel
          have HN' := Lib.hid hn'; clear hn'
          have hbx := below_onl HB3.out hp.2.2.2 (fun q hq => by subst hq; exact hwS)
          by_cases hlt : k < n
          · have e1 : wr.cell? ⟨g, k, none⟩ = some (.string (ss[k]?.getD ByteArray.empty)) := hp.2.2.2.cell (HC3.out k hlt) (fun e => by omega)
            have hzk := HSZ.out k hlt
            obtain ⟨sk, hsk⟩ : ∃ sk, ss[k]?.getD ByteArray.empty = sk := ⟨_, rfl⟩
            have hpe : Canon s.data.toList al0 st0 es0 → Ok1 (Edg.at es0 (k - 2)) ∧ sk.data.toList = edgT (Edg.at es0 (k - 2)) := fun hc => by
              have h1 := pieces HCUT.out hc
              have hkl : k - 2 < es0.length := by have := HN.out; omega
              refine ⟨hc.parts.2.2.2.2 _ hkl, ?_⟩
              have h2 := h1.2.2.2 _ hkl
              rw [show k - 2 + 2 = k by omega, hsk] at h2
              exact h2
            have HPE := Lib.hid hpe; clear hpe
            rw [hsk] at e1 hzk
            have HP := Lib.hid hp
            have HBX := Lib.hid hbx
            have HZX := Lib.hid (hp.2.2.2.row HZ3.out (fun e => by omega))
            clear hp hbx hsk
            go_wp2_with fail
            refine (l2Parse_for (Canon s.data.toList al0 st0 es0) (Edg.at es0 (k - 2)) sk (by omega) HPE.out wr).mono ?_
            rintro e w5 ⟨f, l, t, good, rfl, hb5, hpg⟩
            have HPG := Lib.hid hpg; clear hpg
            have HP5 := Lib.hid (HP.out.below hb5)
            have HB5 := Lib.hid (HBX.out.trans (hb5.mono HBX.out.size))
            have HZ5 := Lib.hid (rowIs_below' HZX.out hb5)
            clear hb5 e1
            cases good with
            | false =>
              obtain ⟨w6, hw6⟩ : ∃ w6, (w5.alloc (.cells #[.int .i64 f, .int .i64 l, .int .i64 t] 41)) = w6 := ⟨_, rfl⟩
              have hb6 := below_new' w5 41 #[.int .i64 f, .int .i64 l, .int .i64 t]
              rw [hw6] at hb6
              have HB6 := Lib.hid (HB5.out.trans (hb6.mono HB5.out.size))
              have HZ6 := Lib.hid (rowIs_below' HZ5.out hb6)
              clear hb6
              have z0 : w6.cell? ⟨w.heap.size, 0, none⟩ = some (.int .i64 0) := HZ6.out.cell (by decide)
              have z1 : w6.cell? ⟨w.heap.size, 1, none⟩ = some (.int .i64 0) := HZ6.out.cell (by decide)
              have z2 : w6.cell? ⟨w.heap.size, 2, none⟩ = some (.slice none 0 0) := HZ6.out.cell (by decide)
              have zf0 := HZ6.out.frozen 0
              have zf1 := HZ6.out.frozen 1
              have zf2 := HZ6.out.frozen 2
              have hno : ¬ Canon s.data.toList al0 st0 es0 := fun hc => by have := (HPG.out hc).2; cases this
              have HNO := Lib.hid hno; clear hno
              go_wp2
              obtain ⟨wf, hwf⟩ : ∃ wf, (((w6.setCell ⟨w.heap.size, 0, none⟩ (.int .i64 0)).setCell ⟨w.heap.size, 1, none⟩ (.int .i64 0)).setCell ⟨w.heap.size, 2, none⟩ (.slice none 0 0)) = wf := ⟨_, rfl⟩
              have hfin := rowIs_set3 HZ6.out (.int .i64 0) (.int .i64 0) (.slice none 0 0)
              have hbF : Below w.heap.size w _ := ((HB6.out.setCell (p := ⟨w.heap.size, 0, none⟩) (by simp) (.int .i64 0)).setCell (p := ⟨w.heap.size, 1, none⟩) (by simp) (.int .i64 0)).setCell (p := ⟨w.heap.size, 2, none⟩) (by simp) (.slice none 0 0)
              rw [hwf] at hfin hbF ⊢
              clear hwf
              have f0 : wf.cell? ⟨w.heap.size, 0, none⟩ = some (.int .i64 0) := hfin.cell (by decide)
              have f1 : wf.cell? ⟨w.heap.size, 1, none⟩ = some (.int .i64 0) := hfin.cell (by decide)
              have f2 : wf.cell? ⟨w.heap.size, 2, none⟩ = some (.slice none 0 0) := hfin.cell (by decide)
              refine bodyPost_ret (v := .tuple #[.agg #[.int .i64 0, .int .i64 0, .slice none 0 0], .bool false]) ?_ rfl ?_
              · simp [results, Tryz.results5, go_sem, f0, f1, f2]
              · exact ⟨0, 0, none, 0, 0, [], false, rfl, rfl, by simp, EOwn.nil _ _, hbF, fun h => (by cases h), fun _ => ⟨rfl, rfl, rfl⟩, fun hc => (HNO.out hc).elim⟩
            | true =>
              obtain ⟨x0, hx0⟩ : ∃ x0, w5.heap.size = x0 := ⟨_, rfl⟩
              obtain ⟨w6, hw6⟩ : ∃ w6, (w5.alloc (.cells #[.int .i64 f, .int .i64 l, .int .i64 t] 41)) = w6 := ⟨_, rfl⟩
              have hr6 := own_cells' w5 #[.int .i64 f, .int .i64 l, .int .i64 t] 41 3 rfl
              have hb6 := below_new' w5 41 #[.int .i64 f, .int .i64 l, .int .i64 t]
              rw [hx0] at hr6
              rw [hw6] at hr6 hb6
              have g0 : w6.cell? ⟨x0, 0, none⟩ = some (.int .i64 f) := hr6.cell (by decide)
              have g1 : w6.cell? ⟨x0, 1, none⟩ = some (.int .i64 l) := hr6.cell (by decide)
              have g2 : w6.cell? ⟨x0, 2, none⟩ = some (.int .i64 t) := hr6.cell (by decide)
              have hp6 := HP5.out.below hb6
              have q2 : w6.cell? ⟨S, 2, none⟩ = some (.slice a' n' c') := hp6.1.cell (by decide)
              have hLw : wL.heap.size ≤ w6.heap.size := hp6.2.2.2.2.2.2.1
              have HP6 := Lib.hid hp6
              clear hr6 hb6 hp6
              go_wp2_with (at_builtin; refine app_edgeL w6 (f, l, t) wL.heap.size rfl rfl _ _ rfl (.slice a' n' c') es rfl HP6.out.2.1 rfl (by omega) hLw ?_)
              intro ao2 n2 cap2 w7 hn2 hown2 hkept
              have hp7 := HP6.out.app hkept hown2
              have s2 : w7.cell? ⟨S, 2, none⟩ = some (.slice a' n' c') := (HP6.out.1.of_block ((hkept.1 w6 (Below.refl _ _)).block S hSL)).cell (by decide)
              have s3 := (HP6.out.1.of_block ((hkept.1 w6 (Below.refl _ _)).block S hSL)).frozen 2
              have HP7 := Lib.hid hp7
              have HN2 := Lib.hid hn2; clear hn2
              clear hp7 hkept hown2
              go_wp2
              go_roundw
              case rel => exact ⟨k + 1, n2, cap2, ao2, es ++ [(f, l, t)], by go_num, by omega, by omega, HP7.out, by rw [HN2.out]; simp, by simp; omega, Lib.hid (fun hc => by
                have hkl : k - 2 < es0.length := by
                  have h1 := (pieces HCUT.out hc).1
                  have := HN.out
                  omega
                rw [show k + 1 - 2 = (k - 2) + 1 by omega, take_snoc_e es0 _ hkl, ← HES.out hc, (HPG.out hc).1])⟩
              case measure => simp [intOf] <;> omega
          · have q0 : wr.cell? ⟨S, 0, none⟩ = some (.int .i64 al) := hp.1.cell (by decide)
            have q1 : wr.cell? ⟨S, 1, none⟩ = some (.int .i64 st) := hp.1.cell (by decide)
            have q2 : wr.cell? ⟨S, 2, none⟩ = some (.slice a' n' c') := hp.1.cell (by decide)
            have HP := Lib.hid hp
            have HBX := Lib.hid hbx
            have HZX := Lib.hid (hp.2.2.2.row HZ3.out (fun e => by omega))
            have hev : EVR w.heap.size wr (.slice a' n' c') es := hp.2.1.evr (by omega)
            have HEV := Lib.hid hev
            clear hp hbx hev
            go_wp2_with fail
            refine (specFormat_tx al st a' n' c' es wr HEV.out.ev (by omega)).mono ?_
            rintro e w5 ⟨r, rfl, hrd, hb5⟩
            have hp5 := HP.out.below hb5
            have p0 : w5.cell? ⟨S, 0, none⟩ = some (.int .i64 al) := hp5.1.cell (by decide)
            have p1 : w5.cell? ⟨S, 1, none⟩ = some (.int .i64 st) := hp5.1.cell (by decide)
            have p2 : w5.cell? ⟨S, 2, none⟩ = some (.slice a' n' c') := hp5.1.cell (by decide)
            have HP5 := Lib.hid hp5
            have HB5 := Lib.hid (HBX.out.trans (hb5.mono HBX.out.size))
            have HZ5 := Lib.hid (rowIs_below' HZX.out hb5)
            clear hp5 hb5 q0 q1 q2
            have hall2 : Canon s.data.toList al0 st0 es0 → al = al0 ∧ st = st0 ∧ es = es0 := fun hc => by
              have h1 := (pieces HCUT.out hc).1
              have h2 := hc.parts
              have hst := (HPS.out hc).1
              refine ⟨(HPA.out hc).1, by omega, ?_⟩
              rw [HES.out hc, List.take_of_length_le (by have := HN.out; omega)]
            have HALL2 := Lib.hid hall2; clear hall2
            by_cases heq : r = s
            · subst heq
              have hcn : Canon r.data.toList al st es := fmtS_canon hrd.symm (fun e => by
                have := data_len r
                rw [e] at this
                simp at this
                omega)
              have HCN := Lib.hid hcn; clear hcn
              have heq : (r.toList == r.toList) = true := by simp
              have z0 : w5.cell? ⟨w.heap.size, 0, none⟩ = some (.int .i64 0) := HZ5.out.cell (by decide)
              have z1 : w5.cell? ⟨w.heap.size, 1, none⟩ = some (.int .i64 0) := HZ5.out.cell (by decide)
              have z2 : w5.cell? ⟨w.heap.size, 2, none⟩ = some (.slice none 0 0) := HZ5.out.cell (by decide)
              have zf0 := HZ5.out.frozen 0
              have zf1 := HZ5.out.frozen 1
              have zf2 := HZ5.out.frozen 2
              clear hrd
              go_wp2
              obtain ⟨wf, hwf⟩ : ∃ wf, (((w5.setCell ⟨w.heap.size, 0, none⟩ (.int .i64 al)).setCell ⟨w.heap.size, 1, none⟩ (.int .i64 st)).setCell ⟨w.heap.size, 2, none⟩ (.slice a' n' c')) = wf := ⟨_, rfl⟩
              have hfin := rowIs_set3 HZ5.out (.int .i64 al) (.int .i64 st) (.slice a' n' c')
              have hbF : Below w.heap.size w _ := ((HB5.out.setCell (p := ⟨w.heap.size, 0, none⟩) (by simp) (.int .i64 al)).setCell (p := ⟨w.heap.size, 1, none⟩) (by simp) (.int .i64 st)).setCell (p := ⟨w.heap.size, 2, none⟩) (by simp) (.slice a' n' c')
              have hZL : w.heap.size < wL.heap.size := by omega
              have hown5 := EOwn.set3 (u0 := .int .i64 al) (u1 := .int .i64 st) (u2 := .slice a' n' c') HP5.out.2.1 hZL
              rw [hwf] at hfin hbF hown5 ⊢
              clear hwf
              have f0 : wf.cell? ⟨w.heap.size, 0, none⟩ = some (.int .i64 al) := hfin.cell (by decide)
              have f1 : wf.cell? ⟨w.heap.size, 1, none⟩ = some (.int .i64 st) := hfin.cell (by decide)
              have f2 : wf.cell? ⟨w.heap.size, 2, none⟩ = some (.slice a' n' c') := hfin.cell (by decide)
              refine bodyPost_ret (v := .tuple #[.agg #[.int .i64 al, .int .i64 st, .slice a' n' c'], .bool true]) ?_ rfl ?_
              · simp [results, Tryz.results5, go_sem, f0, f1, f2]
              · exact ⟨_, _, _, _, _, es, _, rfl, HN'.out, by omega, hown5.lower (Nat.le_of_lt hZL), hbF, fun _ => HCN.out, fun h => (by cases h), fun hc => ⟨(HALL2.out hc).1, (HALL2.out hc).2.1, (HALL2.out hc).2.2, rfl⟩⟩
            · have hno : ¬ Canon s.data.toList al0 st0 es0 := fun hc => by
                obtain ⟨h1, h2, h3⟩ := HALL2.out hc
                refine heq (bytes_eq ?_)
                rw [hrd, h1, h2, h3]
                exact hc.fmt
              have HNO := Lib.hid hno; clear hno
              have hne : (r.toList == s.toList) = false := by
                rw [ByteArray.toList_eq, ByteArray.toList_eq]
                simp only [beq_eq_false_iff_ne, ne_eq]
                exact fun e => heq (bytes_eq e)
              clear heq hrd
              have z0 : w5.cell? ⟨w.heap.size, 0, none⟩ = some (.int .i64 0) := HZ5.out.cell (by decide)
              have z1 : w5.cell? ⟨w.heap.size, 1, none⟩ = some (.int .i64 0) := HZ5.out.cell (by decide)
              have z2 : w5.cell? ⟨w.heap.size, 2, none⟩ = some (.slice none 0 0) := HZ5.out.cell (by decide)
              have zf0 := HZ5.out.frozen 0
              have zf1 := HZ5.out.frozen 1
              have zf2 := HZ5.out.frozen 2
              go_wp2
              obtain ⟨wf, hwf⟩ : ∃ wf, (((w5.setCell ⟨w.heap.size, 0, none⟩ (.int .i64 0)).setCell ⟨w.heap.size, 1, none⟩ (.int .i64 0)).setCell ⟨w.heap.size, 2, none⟩ (.slice none 0 0)) = wf := ⟨_, rfl⟩
              have hfin := rowIs_set3 HZ5.out (.int .i64 0) (.int .i64 0) (.slice none 0 0)
              have hbF : Below w.heap.size w _ := ((HB5.out.setCell (p := ⟨w.heap.size, 0, none⟩) (by simp) (.int .i64 0)).setCell (p := ⟨w.heap.size, 1, none⟩) (by simp) (.int .i64 0)).setCell (p := ⟨w.heap.size, 2, none⟩) (by simp) (.slice none 0 0)
              rw [hwf] at hfin hbF ⊢
              clear hwf
              have f0 : wf.cell? ⟨w.heap.size, 0, none⟩ = some (.int .i64 0) := hfin.cell (by decide)
              have f1 : wf.cell? ⟨w.heap.size, 1, none⟩ = some (.int .i64 0) := hfin.cell (by decide)
              have f2 : wf.cell? ⟨w.heap.size, 2, none⟩ = some (.slice none 0 0) := hfin.cell (by decide)
              refine bodyPost_ret (v := .tuple #[.agg #[.int .i64 0, .int .i64 0, .slice none 0 0], .bool false]) ?_ rfl ?_
              · simp [results, Tryz.results5, go_sem, f0, f1, f2]
              · exact ⟨0, 0, none, 0, 0, [], false, rfl, rfl, by simp, EOwn.nil _ _, hbF, fun h => (by cases h), fun _ => ⟨rfl, rfl, rfl⟩, fun hc => (HNO.out hc).elim⟩
end Go.Proofs.YtnjakhojdhkihaaGreatDoor
