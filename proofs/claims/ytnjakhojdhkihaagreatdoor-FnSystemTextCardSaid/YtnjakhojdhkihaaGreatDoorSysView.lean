/- Edges in memory: what a slice of them reads as; sizes; copies; likeness. -/
import Derived.Test.YtnjakhojdhkihaaGreatDoorView
import Derived.Deep.OwnRows
import Derived.Deep.RegionWith
import Derived.Deep.QuietTactic
import Derived.BigQuiet
namespace Go.Proofs.YtnjakhojdhkihaaGreatDoor
open Go.RowKit
set_option linter.unusedVariables false
set_option linter.unusedSimpArgs false
set_option maxRecDepth 100000

theorem cell_lt {w : World} {b j : Nat} {v : Value} (h : w.cell? ⟨b, j, none⟩ = some v) : b < w.heap.size := by
  unfold World.cell? at h
  cases hb : w.heap[b]? with
  | none => rw [hb] at h; cases h
  | some o => exact (Array.getElem?_eq_some_iff.1 hb).1
theorem keep_cell {w w' : World} (hb : Below w.heap.size w w') {b j : Nat} {v : Value} (h : w.cell? ⟨b, j, none⟩ = some v) : w'.cell? ⟨b, j, none⟩ = some v := by
  rw [cell_below hb (cell_lt h)]; exact h
/-- An edge: from, letter, to. -/
abbrev Edg := Int × Int × Int
def Edg.at (es : List Edg) (k : Nat) : Edg := es[k]?.getD (0, 0, 0)
/-- A slice of edges reads as a list: three cells an element. -/
def EV (w : World) (v : Value) (es : List Edg) : Prop :=
  ∃ ao cap, v = .slice ao es.length cap ∧ es.length ≤ cap ∧ cap ≤ maxLen ∧
    (es.length = 0 ∨ ∃ b off, ao = some ⟨b, off, none⟩ ∧ b < w.heap.size ∧ ∀ i, i < es.length → w.cell? ⟨b, off + i * 3, none⟩ = some (.int .i64 (Edg.at es i).1) ∧ w.cell? ⟨b, off + i * 3 + 1, none⟩ = some (.int .i64 (Edg.at es i).2.1) ∧ w.cell? ⟨b, off + i * 3 + 2, none⟩ = some (.int .i64 (Edg.at es i).2.2))
theorem EV.at {w : World} {ao : Option Addr} {n cap : Nat} {es : List Edg} (h : EV w (.slice ao n cap) es) : n = es.length ∧ n ≤ cap ∧ cap ≤ 9223372036854775807 ∧
    (n = 0 ∨ ∃ b off, ao = some ⟨b, off, none⟩ ∧ b < w.heap.size ∧ ∀ i, i < n → w.cell? ⟨b, off + i * 3, none⟩ = some (.int .i64 (Edg.at es i).1) ∧ w.cell? ⟨b, off + i * 3 + 1, none⟩ = some (.int .i64 (Edg.at es i).2.1) ∧ w.cell? ⟨b, off + i * 3 + 2, none⟩ = some (.int .i64 (Edg.at es i).2.2)) := by
  obtain ⟨ao', cap', he, h1, h2, h3⟩ := h
  injection he with e1 e2 e3
  subst e1; subst e2; subst e3
  exact ⟨rfl, h1, h2, h3⟩
theorem EV.below {w w' : World} {v : Value} {es : List Edg} (h : EV w v es) (hb : Below w.heap.size w w') : EV w' v es := by
  obtain ⟨ao, cap, rfl, h1, h2, h3⟩ := h
  refine ⟨ao, cap, rfl, h1, h2, ?_⟩
  rcases h3 with h3 | ⟨b, off, rfl, hlt, hc⟩
  · exact .inl h3
  · refine .inr ⟨b, off, rfl, Nat.lt_of_lt_of_le hlt hb.size, fun i hi => ?_⟩
    rw [cell_below hb hlt, cell_below hb hlt, cell_below hb hlt]
    exact hc i hi
theorem EV.drew {w : World} {v : Value} {es : List Edg} (h : EV w v es) : EV w.drew v es := h
/-- An owned row of edges. -/
def ecell (es : List Edg) (j : Nat) : Value := .int .i64 (if j % 3 = 0 then (Edg.at es (j / 3)).1 else if j % 3 = 1 then (Edg.at es (j / 3)).2.1 else (Edg.at es (j / 3)).2.2)
def ER (w : World) (b : Nat) (es : List Edg) : Prop := w.rowIs b 41 (es.length * 3) (ecell es)
theorem rowIs_below' {w w' : World} {b : Nat} {t : TypeId} {n : Nat} {f : Nat → Value} (h : w.rowIs b t n f) (hb : Below w.heap.size w w') : w'.rowIs b t n f := h.of_block (hb.block b h.lt)
theorem ecell0 (es : List Edg) (k : Nat) : ecell es (k * 3) = .int .i64 (Edg.at es k).1 := by
  unfold ecell; rw [if_pos (by omega), show k * 3 / 3 = k by omega]
theorem ecell1 (es : List Edg) (k : Nat) : ecell es (k * 3 + 1) = .int .i64 (Edg.at es k).2.1 := by
  unfold ecell; rw [if_neg (by omega), if_pos (by omega), show (k * 3 + 1) / 3 = k by omega]
theorem ecell2 (es : List Edg) (k : Nat) : ecell es (k * 3 + 2) = .int .i64 (Edg.at es k).2.2 := by
  unfold ecell; rw [if_neg (by omega), if_neg (by omega), show (k * 3 + 2) / 3 = k by omega]
theorem ER.view {w : World} {b : Nat} {es : List Edg} (h : ER w b es) (hl : es.length ≤ 1048576) : EV w (.slice (some ⟨b, 0, none⟩) es.length es.length) es :=
  ⟨_, _, rfl, Nat.le_refl _, by unfold maxLen; omega, .inr ⟨b, 0, rfl, World.rowIs.lt h, fun i hi => by
    rw [Nat.zero_add, ← ecell0, ← ecell1, ← ecell2]
    exact ⟨World.rowIs.cell h (by omega), World.rowIs.cell h (by omega), World.rowIs.cell h (by omega)⟩⟩⟩
/-- It returns v and has written nothing old. -/
def RB' (v : Value) (w : World) (e : Ending) (w' : World) : Prop := e = .returned v ∧ Below w.heap.size w w'
def edgV (e : Edg) : Value := .agg #[.int .i64 e.1, .int .i64 e.2.1, .int .i64 e.2.2]
theorem Tryz.infoEdge : (Tryz.prog.info? 41).map (fun i => (i.zero, i.size, i.bytes)) = some (some (.agg #[.int .i64 0, .int .i64 0, .int .i64 0]), 3, 24) := by kernel_rfl
theorem made_same' (z : Array Value) (v : Value) (n : Nat) (hz : ∀ i, i < z.size → z[i]? = some v) (h0 : 0 < z.size) (i : Nat) (hi : i < n) : (madeCells z n)[i]? = some v := by
  simp [madeCells, hi, getElem!_def, hz _ (Nat.mod_lt i h0)]
theorem run_makeE (n : Nat) (hn : n ≤ 1048576) (w : World) :
    (Instr.makeSlice 22 (.int .i64 (n : Int)) (.int .i64 (n : Int))).run Tryz.prog w = .ok (.slice (some ⟨w.heap.size, 0, none⟩) n n) (w.alloc (.cells (madeCells #[.int .i64 0, .int .i64 0, .int .i64 0] (n * 3)) 41)) := by
  obtain ⟨i, hi, hzz⟩ := Option.map_eq_some_iff.1 Tryz.infoEdge
  simp only [Prod.mk.injEq] at hzz
  obtain ⟨hz, hs, hb⟩ := hzz
  have hr := run_make (P := Tryz.prog) w 22 41 i _ Tryz.underlying22 hi hz .i64 .i64 n n (by omega) (Int.le_refl _) (by rw [hb]; omega) (by omega)
  simp only [Int.toNat_natCast, hs, Value.cells] at hr
  exact hr
theorem madeE (n : Nat) (w : World) : (w.alloc (.cells (madeCells #[.int .i64 0, .int .i64 0, .int .i64 0] (n * 3)) 41)).rowIs w.heap.size 41 (n * 3) (fun _ => .int .i64 0) := by
  have := World.rowIs_alloc w (madeCells #[.int .i64 0, .int .i64 0, .int .i64 0] (n * 3)) 41 (fun _ => .int .i64 0) (fun i hi => made_same' _ _ _ (by
    intro i hi
    simp at hi
    obtain rfl | rfl | rfl : i = 0 ∨ i = 1 ∨ i = 2 := by omega
    all_goals rfl) (by decide) i (by simpa [size_madeCells] using hi))
  rwa [size_madeCells] at this
/-- The row of edges while it is filled. -/
def eF (es : List Edg) (k : Nat) (j : Nat) : Value := if j < k * 3 then ecell es j else .int .i64 0
theorem ER.put {w : World} {b : Nat} {es : List Edg} {k n : Nat} (h : w.rowIs b 41 n (eF es k)) :
    (((w.setCell ⟨b, k * 3, none⟩ (.int .i64 (Edg.at es k).1)).setCell ⟨b, k * 3 + 1, none⟩ (.int .i64 (Edg.at es k).2.1)).setCell ⟨b, k * 3 + 2, none⟩ (.int .i64 (Edg.at es k).2.2)).rowIs b 41 n (eF es (k + 1)) :=
  (((h.set _ _).set _ _).set _ _).congr (fun j _ => by
    unfold eF
    by_cases e2 : j = k * 3 + 2
    · subst e2; rw [if_pos rfl, if_pos (by omega), ecell2]
    · rw [if_neg e2]
      by_cases e1 : j = k * 3 + 1
      · subst e1; rw [if_pos rfl, if_pos (by omega), ecell1]
      · rw [if_neg e1]
        by_cases e0 : j = k * 3
        · subst e0; rw [if_pos rfl, if_pos (by omega), ecell0]
        · rw [if_neg e0]
          by_cases h : j < k * 3
          · rw [if_pos h, if_pos (by omega)]
          · rw [if_neg h, if_neg (by omega)])
/-- A system's copy. -/
def SysCopy (al st : Int) (es : List Edg) (w : World) (e : Ending) (w' : World) : Prop :=
  ∃ b, e = .returned (.agg #[.int .i64 al, .int .i64 st, .slice (some ⟨b, 0, none⟩) es.length es.length]) ∧ ER w' b es ∧ w.heap.size ≤ b ∧ Below w.heap.size w w'
theorem own_cells' (w : World) (c : Array Value) (t : TypeId) (n : Nat) (hn : c.size = n) : (w.alloc (.cells c t)).rowIs w.heap.size t n (fun i => c[i]?.getD undef) := by
  subst hn
  exact World.rowIs_alloc w c t _ (fun i hi => by rw [Array.getElem?_eq_getElem hi]; rfl)
/-- The comparison of edges that are alike. -/
theorem eqEdge_same (f l t : Int) (w : World) : Calls Tryz.prog 56 #[.agg #[.int .i64 f, .int .i64 l, .int .i64 t], .agg #[.int .i64 f, .int .i64 l, .int .i64 t]] w (RB' (.bool true) w) := by
  go_enter Tryz.func56, Tryz.ntmps56
  go_wp2
  go_ret
  exact ⟨rfl, ((Below.refl _ _).alloc (Nat.le_refl _) _).alloc (by simp) _⟩
set_option maxHeartbeats 1000000 in
theorem eqEdgeS_same (ao : Option Addr) (n cap : Nat) (bo : Option Addr) (m cap2 : Nat) (es : List Edg) (w : World) (h : EV w (.slice ao n cap) es) (h2 : EV w (.slice bo m cap2) es) :
    Calls Tryz.prog 26 #[.slice ao n cap, .slice bo m cap2] w (RB' (.bool true) w) := by
  obtain ⟨hn, hcap, hmax, hcell⟩ := h.at
  obtain ⟨hm, hcapm, hmaxm, hcellm⟩ := h2.at
  obtain rfl : n = m := by omega
  have HC := Lib.hid hcell
  have HD := Lib.hid hcellm
  have HN := Lib.hid hn
  clear hcell hcellm h h2 hn hm hcapm hmaxm
  go_enter Tryz.func26, Tryz.ntmps26
  go_wp2
  go_loopw [5] (fun i wr => ∃ k : Nat, k ≤ n ∧ i = .int .i64 k ∧ Below w.heap.size w wr) (fun i _ => n - (intOf i).toNat)
  case atStart => exact ⟨0, by omega, rfl, Below.refl _ _⟩
  case round =>
    obtain ⟨k, hk, rfl, hbel⟩ := hrel
    by_cases hlt : k < n
    · rcases HC.out with h0 | ⟨b, off, rfl, hb, hc⟩
      · omega
      · rcases HD.out with h0 | ⟨b2, off2, rfl, hb2, hc2⟩
        · omega
        · obtain ⟨hu0, hu1, hu2⟩ := hc k hlt
          obtain ⟨hv0, hv1, hv2⟩ := hc2 k hlt
          clear hc hc2
          generalize (Edg.at es k).1 = f at *
          generalize (Edg.at es k).2.1 = l at *
          generalize (Edg.at es k).2.2 = t at *
          have e0 : wr.cell? ⟨b, off + k * 3, none⟩ = some (.int .i64 f) := by rw [cell_below hbel hb]; exact hu0
          have e1 : wr.cell? ⟨b, off + k * 3 + 1, none⟩ = some (.int .i64 l) := by rw [cell_below hbel hb]; exact hu1
          have e2 : wr.cell? ⟨b, off + k * 3 + 2, none⟩ = some (.int .i64 t) := by rw [cell_below hbel hb]; exact hu2
          have d0 : wr.cell? ⟨b2, off2 + k * 3, none⟩ = some (.int .i64 f) := by rw [cell_below hbel hb2]; exact hv0
          have d1 : wr.cell? ⟨b2, off2 + k * 3 + 1, none⟩ = some (.int .i64 l) := by rw [cell_below hbel hb2]; exact hv1
          have d2 : wr.cell? ⟨b2, off2 + k * 3 + 2, none⟩ = some (.int .i64 t) := by rw [cell_below hbel hb2]; exact hv2
          have HB := Lib.hid hbel
          clear hu0 hu1 hu2 hv0 hv1 hv2 hbel
          go_wp2_with fail
          go_region_with ((go_at_call 56; refine (eqEdge_same f l t _).mono ?_; rintro e w5 ⟨rfl, hb5⟩; have HB5 := Lib.hid (((Below.refl wr.heap.size wr).drew).trans hb5); clear hb5))
          all_goals
            go_wp2
            go_roundw
            case rel => exact ⟨k + 1, by omega, by go_num, HB.out.trans (HB5.out.mono HB.out.size)⟩
            case measure => simp [intOf] <;> omega
    · go_wp2
      go_ret
      exact ⟨rfl, hbel⟩
end Go.Proofs.YtnjakhojdhkihaaGreatDoor
