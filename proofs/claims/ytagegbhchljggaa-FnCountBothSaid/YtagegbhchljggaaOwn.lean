/- The copies that a law makes of its arguments: every row a block of its own. -/
import Derived.Test.YtagegbhchljggaaView
import Derived.Deep.OwnRows
namespace Go.Proofs.Ytagegbhchljggaa
open Go.RowKit
set_option linter.unusedVariables false
set_option linter.unusedSimpArgs false
set_option maxRecDepth 100000

theorem Try.infoBool : (Try.prog.info? 4).map (fun i => (i.zero, i.size, i.bytes)) = some (some (.bool false), 1, 1) := by kernel_rfl
theorem Try.infoInts : (Try.prog.info? 44).map (fun i => (i.zero, i.size, i.bytes)) = some (some (.slice none 0 0), 1, 24) := by kernel_rfl

/-- An owned row of the call's own: exact, in one block, from its first cell on. -/
def IR (w : World) (b : Nat) (xs : List Int) : Prop := w.rowIs b 3 xs.length (fun j => .int .i64 (xs[j]?.getD 0))
def BR (w : World) (b : Nat) (xs : List Bool) : Prop := w.rowIs b 4 xs.length (fun j => .bool (xs[j]?.getD false))

set_option maxHeartbeats 400000 in
theorem toIntS_any (ao : Option Addr) (n cap : Nat) (xs : List Int) (w : World) (h : IV w (.slice ao n cap) xs) (hm : xs.length ≤ 1048576) :
    Calls Try.prog 61 #[.slice ao n cap] w (fun e w' => e = .returned (.slice (some ⟨w.heap.size, 0, none⟩) n n) ∧ IR w' w.heap.size xs ∧ Below w.heap.size w w') := by
  obtain ⟨hn, hcap, hmax, hcell⟩ := SV.at h
  have hm' : n ≤ 1048576 := by omega
  have hmk := run_make_row' (P := Try.prog) 44 3 (.int .i64 0) 8 Try.underlying44 Try.infoInt rfl .i64 .i64 n (by omega) (by omega)
  have HCELL := Lib.hid hcell
  have HN := Lib.hid hn
  clear hcell h hn hmax hm
  go_enter Try.func61, Try.ntmps61
  go_wp2
  go_loopw [4] (fun i wr => ∃ k : Nat, k ≤ n ∧ i = .int .i64 k ∧ wr.rowIs w.heap.size 3 n (fun j => if j < k then .int .i64 (xs[j]?.getD 0) else (.int .i64 0)) ∧ Below w.heap.size w wr) (fun i _ => n - (intOf i).toNat)
  case atStart => exact ⟨0, by omega, rfl, (World.rowIs_made w (.int .i64 0) n 3).congr (fun i hi => by simp), (Below.refl _ _).alloc (Nat.le_refl _) _⟩
  case round =>
    obtain ⟨k, hk, rfl, hrow, hbel⟩ := hrel
    by_cases hlt : k < n
    · rcases HCELL.out with h0 | ⟨b, off, rfl, hb, hc⟩
      · omega
      · obtain ⟨u, hu, rfl⟩ := hc k hlt
        clear hc
        have hu' : wr.cell? ⟨b, off + k, none⟩ = some (.int .i64 (xs[k]?.getD 0)) := by rw [cell_below hbel hb]; exact hu
        have hcu := hrow.cell hlt
        have hfz := hrow.frozen k
        have HROW := Lib.hid hrow
        have HB := Lib.hid hbel
        clear hu hrow hbel
        go_wp2
        go_roundw
        case rel => exact ⟨k + 1, by omega, by go_num, (HROW.out.set k _).congr (fun j hj => by
          by_cases e : j = k
          · subst e; simp
          · have : (j < k + 1) = (j < k) := by simp only [eq_iff_iff]; omega
            simp only [if_neg e, this]), HB.out.setCell (Nat.le_refl _) _⟩
        case measure => simp [intOf] <;> omega
    · go_wp2
      go_ret
      refine ⟨rfl, ?_, hbel⟩
      have hn := HN.out
      subst hn
      exact hrow.congr (fun j hj => by rw [if_pos (by omega)])

set_option maxHeartbeats 400000 in
theorem toBoolS_any (ao : Option Addr) (n cap : Nat) (xs : List Bool) (w : World) (h : BV w (.slice ao n cap) xs) (hm : xs.length ≤ 1048576) :
    Calls Try.prog 38 #[.slice ao n cap] w (fun e w' => e = .returned (.slice (some ⟨w.heap.size, 0, none⟩) n n) ∧ BR w' w.heap.size xs ∧ Below w.heap.size w w') := by
  obtain ⟨hn, hcap, hmax, hcell⟩ := SV.at h
  have hm' : n ≤ 1048576 := by omega
  have hmk := run_make_row' (P := Try.prog) 23 4 (.bool false) 1 Try.underlying23 Try.infoBool rfl .i64 .i64 n (by omega) (by omega)
  have HCELL := Lib.hid hcell
  have HN := Lib.hid hn
  clear hcell h hn hmax hm
  go_enter Try.func38, Try.ntmps38
  go_wp2
  go_loopw [4] (fun i wr => ∃ k : Nat, k ≤ n ∧ i = .int .i64 k ∧ wr.rowIs w.heap.size 4 n (fun j => if j < k then .bool (xs[j]?.getD false) else (.bool false)) ∧ Below w.heap.size w wr) (fun i _ => n - (intOf i).toNat)
  case atStart => exact ⟨0, by omega, rfl, (World.rowIs_made w (.bool false) n 4).congr (fun i hi => by simp), (Below.refl _ _).alloc (Nat.le_refl _) _⟩
  case round =>
    obtain ⟨k, hk, rfl, hrow, hbel⟩ := hrel
    by_cases hlt : k < n
    · rcases HCELL.out with h0 | ⟨b, off, rfl, hb, hc⟩
      · omega
      · obtain ⟨u, hu, rfl⟩ := hc k hlt
        clear hc
        have hu' : wr.cell? ⟨b, off + k, none⟩ = some (.bool (xs[k]?.getD false)) := by rw [cell_below hbel hb]; exact hu
        have hcu := hrow.cell hlt
        have hfz := hrow.frozen k
        have HROW := Lib.hid hrow
        have HB := Lib.hid hbel
        clear hu hrow hbel
        go_wp2
        go_roundw
        case rel => exact ⟨k + 1, by omega, by go_num, (HROW.out.set k _).congr (fun j hj => by
          by_cases e : j = k
          · subst e; simp
          · have : (j < k + 1) = (j < k) := by simp only [eq_iff_iff]; omega
            simp only [if_neg e, this]), HB.out.setCell (Nat.le_refl _) _⟩
        case measure => simp [intOf] <;> omega
    · go_wp2
      go_ret
      refine ⟨rfl, ?_, hbel⟩
      have hn := HN.out
      subst hn
      exact hrow.congr (fun j hj => by rw [if_pos (by omega)])

theorem rowIs_below {w w' : World} {b : Nat} {t : TypeId} {n : Nat} {f : Nat → Value} (h : w.rowIs b t n f) (hb : Below w.heap.size w w') : w'.rowIs b t n f := h.of_block (hb.block b h.lt)

/-- An owned matrix: the row of its rows, and each row in a block of its own, in order. -/
def MRk (w : World) (b0 : Nat) (xss : List (List Int)) (Bf : Nat → Nat) (k : Nat) : Prop :=
  w.rowIs b0 44 xss.length (fun j => if j < k then .slice (some ⟨Bf j, 0, none⟩) (xss[j]?.getD []).length (xss[j]?.getD []).length else .slice none 0 0) ∧
  ∀ j, j < k → b0 < Bf j ∧ IR w (Bf j) (xss[j]?.getD []) ∧ ∀ i, i < j → Bf i < Bf j
theorem MRk.step {w w1 : World} {b0 : Nat} {xss : List (List Int)} {Bf : Nat → Nat} {k : Nat} (h : MRk w b0 xss Bf k) (hb : Below w.heap.size w w1) (hr : IR w1 w.heap.size (xss[k]?.getD [])) (h0 : b0 < w.heap.size) :
    MRk (w1.setCell ⟨b0, k, none⟩ (.slice (some ⟨w.heap.size, 0, none⟩) (xss[k]?.getD []).length (xss[k]?.getD []).length)) b0 xss (fun j => if j = k then w.heap.size else Bf j) (k + 1) := by
  refine ⟨((rowIs_below h.1 hb).set k _).congr (fun j hj => ?_), fun j hj => ?_⟩
  · by_cases e : j = k
    · subst e; simp
    · have : (j < k + 1) = (j < k) := by simp only [eq_iff_iff]; omega
      simp only [if_neg e, this]
  · by_cases e : j = k
    · subst e
      simp only [if_pos rfl]
      refine ⟨h0, World.rowIs.setOther hr (by simp; omega) _, fun i hi => ?_⟩
      rw [if_neg (by omega)]
      exact World.rowIs.lt (h.2 i hi).2.1
    · simp only [if_neg e]
      obtain ⟨h1, h2, h3⟩ := h.2 j (by omega)
      refine ⟨h1, World.rowIs.setOther (rowIs_below h2 hb) (by simp; omega) _, fun i hi => ?_⟩
      rw [if_neg (by omega)]
      exact h3 i hi
def MR (w : World) (b0 : Nat) (xss : List (List Int)) (Bf : Nat → Nat) : Prop := MRk w b0 xss Bf xss.length

set_option maxHeartbeats 400000 in
theorem toIntSS_any (ao : Option Addr) (n cap : Nat) (xss : List (List Int)) (w : World) (h : MV w (.slice ao n cap) xss) (hm : xss.length ≤ 1048576) (hl : ∀ l ∈ xss, l.length ≤ 1048576) :
    Calls Try.prog 37 #[.slice ao n cap] w (fun e w' => e = .returned (.slice (some ⟨w.heap.size, 0, none⟩) n n) ∧ (∃ Bf, MR w' w.heap.size xss Bf) ∧ Below w.heap.size w w') := by
  obtain ⟨hn, hcap, hmax, hcell⟩ := SV.at h
  have hm' : n ≤ 1048576 := by omega
  have hmk := run_make_row' (P := Try.prog) 22 44 (.slice none 0 0) 24 Try.underlying22 Try.infoInts rfl .i64 .i64 n (by omega) (by omega)
  have HCELL := Lib.hid hcell
  have HN := Lib.hid hn
  have HL := Lib.hid hl
  clear hcell h hn hmax hm hl
  go_enter Try.func37, Try.ntmps37
  go_wp2
  go_loopw [4] (fun i wr => ∃ (k : Nat) (Bf : Nat → Nat), k ≤ n ∧ i = .int .i64 k ∧ MRk wr w.heap.size xss Bf k ∧ w.heap.size < wr.heap.size ∧ Below w.heap.size w wr) (fun i _ => n - (intOf i).toNat)
  case atStart => exact ⟨0, fun _ => 0, by omega, rfl, ⟨(by rw [← HN.out]; exact (World.rowIs_made w (.slice none 0 0) n 44).congr (fun i hi => by simp)), fun j hj => by omega⟩, by simp, (Below.refl _ _).alloc (Nat.le_refl _) _⟩
  case round =>
    obtain ⟨k, Bf, hk, rfl, hrow, hsz, hbel⟩ := hrel
    by_cases hlt : k < n
    · rcases HCELL.out with h0 | ⟨b, off, rfl, hb, hc⟩
      · omega
      · obtain ⟨u, hu, hv⟩ := hc k hlt
        clear hc
        have hv2 := hv
        obtain ⟨ao2, cap2, rfl, -, -, -⟩ := hv2
        obtain ⟨l, hlk⟩ : ∃ l, xss[k]?.getD [] = l := ⟨_, rfl⟩
        have hll : l.length ≤ 1048576 := by
          rw [← hlk]
          have hkx : k < xss.length := by rw [← HN.out]; exact hlt
          rw [List.getElem?_eq_getElem hkx]
          exact HL.out _ (List.getElem_mem hkx)
        rw [hlk] at hu hv
        have hu' : wr.cell? ⟨b, off + k, none⟩ = some (.slice ao2 l.length cap2) := by rw [cell_below hbel hb]; exact hu
        have hv' := IV.below hv hbel
        have HV := Lib.hid hv'
        have HROW := Lib.hid hrow
        have HB := Lib.hid hbel
        have HLK := Lib.hid hlk; clear hlk
        obtain ⟨m, hm⟩ : ∃ m, l.length = m := ⟨_, rfl⟩
        rw [hm] at hu'
        have HM := Lib.hid hm
        clear hm hu hv hrow hbel hv'
        go_wp2_with fail
        refine (toIntS_any ao2 m cap2 l wr (by rw [← HM.out]; exact HV.out) hll).mono ?_
        rintro e w1 ⟨rfl, hr, hb1⟩
        have hst := HROW.out.step hb1 (by rw [HLK.out]; exact hr) hsz
        have hor := rowIs_below HROW.out.1 hb1
        have hcu := hor.cell (i := k) (by rw [← HN.out]; exact hlt)
        have hfz := hor.frozen k
        rw [if_neg (by omega)] at hcu
        rw [HLK.out, HM.out] at hst
        have HST := Lib.hid hst
        have HB1 := Lib.hid hb1
        have hsz1 := hb1.size
        clear hst hb1 hr hor
        go_wp2
        go_roundw
        case rel => exact ⟨k + 1, _, by omega, by go_num, HST.out, by simpa using Nat.lt_of_lt_of_le hsz hsz1, (HB.out.trans (HB1.out.mono (Nat.le_of_lt hsz))).setCell (Nat.le_refl _) _⟩
        case measure => simp [intOf] <;> omega
    · go_wp2
      go_ret
      obtain rfl : k = n := by omega
      exact ⟨rfl, ⟨Bf, by unfold MR; rw [← HN.out]; exact hrow⟩, hbel⟩

theorem IR.view {w : World} {b : Nat} {xs : List Int} (h : IR w b xs) (hl : xs.length ≤ 1048576) : IV w (.slice (some ⟨b, 0, none⟩) xs.length xs.length) xs :=
  ⟨_, _, rfl, Nat.le_refl _, by unfold maxLen; omega, .inr ⟨b, 0, rfl, World.rowIs.lt h, fun i hi => ⟨_, by rw [Nat.zero_add]; exact World.rowIs.cell h hi, rfl⟩⟩⟩
theorem BR.view {w : World} {b : Nat} {xs : List Bool} (h : BR w b xs) (hl : xs.length ≤ 1048576) : BV w (.slice (some ⟨b, 0, none⟩) xs.length xs.length) xs :=
  ⟨_, _, rfl, Nat.le_refl _, by unfold maxLen; omega, .inr ⟨b, 0, rfl, World.rowIs.lt h, fun i hi => ⟨_, by rw [Nat.zero_add]; exact World.rowIs.cell h hi, rfl⟩⟩⟩
theorem mem_len {xss : List (List Int)} (hl : ∀ l ∈ xss, l.length ≤ 1048576) (k : Nat) : (xss[k]?.getD []).length ≤ 1048576 := by
  by_cases h : k < xss.length
  · rw [List.getElem?_eq_getElem h]; exact hl _ (List.getElem_mem h)
  · rw [List.getElem?_eq_none (by omega)]; simp
theorem MR.view {w : World} {b : Nat} {xss : List (List Int)} {Bf : Nat → Nat} (h : MR w b xss Bf) (hm : xss.length ≤ 1048576) (hl : ∀ l ∈ xss, l.length ≤ 1048576) : MV w (.slice (some ⟨b, 0, none⟩) xss.length xss.length) xss :=
  ⟨_, _, rfl, Nat.le_refl _, by unfold maxLen; omega, .inr ⟨b, 0, rfl, World.rowIs.lt h.1, fun i hi => ⟨_, by rw [Nat.zero_add]; exact World.rowIs.cell h.1 hi, by
    rw [if_pos hi]; exact IR.view (h.2 i hi).2.1 (mem_len hl i)⟩⟩⟩
theorem MRk.below {w w' : World} {b : Nat} {xss : List (List Int)} {Bf : Nat → Nat} {k : Nat} (h : MRk w b xss Bf k) (hb : Below w.heap.size w w') : MRk w' b xss Bf k :=
  ⟨rowIs_below h.1 hb, fun j hj => ⟨(h.2 j hj).1, rowIs_below (h.2 j hj).2.1 hb, (h.2 j hj).2.2⟩⟩

/-- An automaton's copy: what it reads as, and that its blocks are its own. -/
def AR (w : World) (lo b1 b2 : Nat) (xss : List (List Int)) (bs : List Bool) (Bf : Nat → Nat) : Prop :=
  MR w b1 xss Bf ∧ BR w b2 bs ∧ lo ≤ b1 ∧ b1 < b2 ∧ ∀ j, j < xss.length → Bf j < b2
theorem AR.below {w w' : World} {lo b1 b2 : Nat} {xss : List (List Int)} {bs : List Bool} {Bf : Nat → Nat} (h : AR w lo b1 b2 xss bs Bf) (hb : Below w.heap.size w w') : AR w' lo b1 b2 xss bs Bf :=
  ⟨MRk.below h.1 hb, rowIs_below h.2.1 hb, h.2.2⟩
def AggV (al : Int) (a1 : Option Addr) (n1 c1 : Nat) (a2 : Option Addr) (n2 c2 : Nat) : Value := .agg #[.int .i64 al, .slice a1 n1 c1, .slice a2 n2 c2]
def CopyRet (al : Int) (xss : List (List Int)) (bs : List Bool) (w : World) (e : Ending) (w' : World) : Prop :=
  ∃ b1 b2 Bf, e = .returned (.agg #[.int .i64 al, .slice (some ⟨b1, 0, none⟩) xss.length xss.length, .slice (some ⟨b2, 0, none⟩) bs.length bs.length]) ∧ AR w' w.heap.size b1 b2 xss bs Bf ∧ Below w.heap.size w w'

theorem own_cells (w : World) (c : Array Value) (t : TypeId) (n : Nat) (hn : c.size = n) : (w.alloc (.cells c t)).rowIs w.heap.size t n (fun i => c[i]?.getD undef) := by
  subst hn
  exact World.rowIs_alloc w c t _ (fun i hi => by rw [Array.getElem?_eq_getElem hi]; rfl)
theorem MRk.setOther {w : World} {b : Nat} {xss : List (List Int)} {Bf : Nat → Nat} {k : Nat} (h : MRk w b xss Bf k) {p : Addr} (hp : p.block < b) (v : Value) : MRk (w.setCell p v) b xss Bf k :=
  ⟨World.rowIs.setOther h.1 (by omega) v, fun j hj => ⟨(h.2 j hj).1, World.rowIs.setOther (h.2 j hj).2.1 (by have := (h.2 j hj).1; omega) v, (h.2 j hj).2.2⟩⟩
theorem MR.lt {w : World} {b : Nat} {xss : List (List Int)} {Bf : Nat → Nat} (h : MR w b xss Bf) : ∀ j, j < xss.length → Bf j < w.heap.size := fun j hj => World.rowIs.lt (h.2 j hj).2.1

set_option maxHeartbeats 400000 in
theorem toAut_any (al : Int) (a1 : Option Addr) (n1 c1 : Nat) (a2 : Option Addr) (n2 c2 : Nat) (xss : List (List Int)) (bs : List Bool) (w : World) (h : MV w (.slice a1 n1 c1) xss) (hb : BV w (.slice a2 n2 c2) bs)
    (hm : xss.length ≤ 1048576) (hl : ∀ l ∈ xss, l.length ≤ 1048576) (hbl : bs.length ≤ 1048576) :
    Calls Try.prog 14 #[.agg #[.int .i64 al, .slice a1 n1 c1, .slice a2 n2 c2]] w (CopyRet al xss bs w) := by
  have hn1 := (SV.at h).1
  have hn2 := (SV.at hb).1
  have H := Lib.hid h
  have HB := Lib.hid hb
  have HL := Lib.hid hl; clear hl
  subst hn1
  subst hn2
  clear h hb
  go_enter Try.func14, Try.ntmps14
  go_wp2_with fail
  obtain ⟨w0, hw0⟩ : ∃ w0, (((w.alloc (.cells #[.int .i64 al, .slice a1 xss.length c1, .slice a2 bs.length c2] 25)).alloc (.cells #[.int .i64 0, .slice none 0 0, .slice none 0 0] 28)).alloc (.cells #[.int .i64 al, .slice none 0 0, .slice none 0 0] 28)) = w0 := ⟨_, rfl⟩
  rw [hw0]
  have hbel : Below w.heap.size w w0 := by
    rw [← hw0]
    exact ((((Below.refl _ _).alloc (Nat.le_refl _) _).alloc (by simp) _).alloc (by simp; omega) _)
  have hsz : w0.heap.size = w.heap.size + 3 := by rw [← hw0]; simp
  have hp : w0.rowIs w.heap.size 25 3 (fun i => #[.int .i64 al, .slice a1 xss.length c1, .slice a2 bs.length c2][i]?.getD undef) := by
    rw [← hw0]; exact ((own_cells w _ _ 3 rfl).alloc _).alloc _
  have hq : w0.rowIs (w.heap.size + 1 + 1) 28 3 (fun i => #[.int .i64 al, .slice none 0 0, .slice none 0 0][i]?.getD undef) := by
    rw [← hw0]
    have := own_cells ((w.alloc (.cells #[.int .i64 al, .slice a1 xss.length c1, .slice a2 bs.length c2] 25)).alloc (.cells #[.int .i64 0, .slice none 0 0, .slice none 0 0] 28)) #[.int .i64 al, .slice none 0 0, .slice none 0 0] 28 3 rfl
    simpa using this
  have hz : w0.rowIs (w.heap.size + 1) 28 3 (fun i => #[.int .i64 0, .slice none 0 0, .slice none 0 0][i]?.getD undef) := by
    rw [← hw0]
    have := (own_cells (w.alloc (.cells #[.int .i64 al, .slice a1 xss.length c1, .slice a2 bs.length c2] 25)) #[.int .i64 0, .slice none 0 0, .slice none 0 0] 28 3 rfl).alloc (.cells #[.int .i64 al, .slice none 0 0, .slice none 0 0] 28)
    simpa using this
  clear hw0
  refine (toIntSS_any a1 xss.length c1 xss w0 (H.out.below hbel) hm HL.out).mono ?_
  rintro e w1 ⟨rfl, ⟨Bf, hM⟩, hb1⟩
  have hp1 := rowIs_below hp hb1
  have hq1 := rowIs_below hq hb1
  have HZ1 := Lib.hid (rowIs_below hz hb1)
  clear hz
  have hcp : w1.cell? ⟨w.heap.size, 2, none⟩ = some (.slice a2 bs.length c2) := hp1.cell (by decide)
  have hcq : w1.cell? ⟨w.heap.size + 1 + 1, 1, none⟩ = some (.slice none 0 0) := hq1.cell (by decide)
  have hfq := hq1.frozen 1
  have HM := Lib.hid hM
  have HB1 := Lib.hid hb1
  have HBEL := Lib.hid hbel
  have HQ1 := Lib.hid hq1
  have hs1 := hb1.size
  clear hp hq hp1 hq1 hM hb1 hbel
  go_wp2_with fail
  obtain ⟨w2, hw2⟩ : ∃ w2, w1.setCell ⟨w.heap.size + 1 + 1, 1, none⟩ (.slice (some ⟨w.heap.size + 3, 0, none⟩) xss.length xss.length) = w2 := ⟨_, rfl⟩
  rw [hsz] at HM
  rw [hw2]
  have hq2 := HQ1.out.set 1 (.slice (some ⟨w.heap.size + 3, 0, none⟩) xss.length xss.length)
  rw [hw2] at hq2
  have hz2 := HZ1.out.setOther (a := ⟨w.heap.size + 1 + 1, 1, none⟩) (by simp) (.slice (some ⟨w.heap.size + 3, 0, none⟩) xss.length xss.length)
  rw [hw2] at hz2
  have hM2 : MR w2 (w.heap.size + 3) xss Bf := by rw [← hw2]; exact MRk.setOther HM.out (by simp) _
  have hB2 : Below w.heap.size w w2 := by rw [← hw2]; exact (HBEL.out.trans (HB1.out.mono HBEL.out.size)).setCell (by simp; omega) _
  have hs2 : w2.heap.size = w1.heap.size := by rw [← hw2]; simp
  have hs1' : w.heap.size + 3 < w1.heap.size := World.rowIs.lt HM.out.1
  clear hw2 hcp hcq hfq
  refine (toBoolS_any a2 bs.length c2 bs w2 (HB.out.below hB2) hbl).mono ?_
  rintro e w3 ⟨rfl, hR3, hb3⟩
  have hq3 := rowIs_below hq2 hb3
  have hz3 := rowIs_below hz2 hb3
  have hz0c : w3.cell? ⟨w.heap.size + 1, 0, none⟩ = some (.int .i64 0) := hz3.cell (by decide)
  have hz1c : w3.cell? ⟨w.heap.size + 1, 1, none⟩ = some (.slice none 0 0) := hz3.cell (by decide)
  have hz2c : w3.cell? ⟨w.heap.size + 1, 2, none⟩ = some (.slice none 0 0) := hz3.cell (by decide)
  have hzf0 := hz3.frozen 0
  have hzf1 := hz3.frozen 1
  have hzf2 := hz3.frozen 2
  have hcq0 : w3.cell? ⟨w.heap.size + 1 + 1, 0, none⟩ = some (.int .i64 al) := hq3.cell (by decide)
  have hcq1 : w3.cell? ⟨w.heap.size + 1 + 1, 1, none⟩ = some (.slice (some ⟨w.heap.size + 3, 0, none⟩) xss.length xss.length) := hq3.cell (by decide)
  have hcq : w3.cell? ⟨w.heap.size + 1 + 1, 2, none⟩ = some (.slice none 0 0) := hq3.cell (by decide)
  have hfq := hq3.frozen 2
  have hM3 := MRk.below hM2 hb3
  have hlt3 := MR.lt hM2
  have hB3 := hB2.trans (hb3.mono hB2.size)
  have hs3 := hb3.size
  have HM3 := Lib.hid hM3
  have HR3 := Lib.hid hR3
  have HB3 := Lib.hid hB3
  have HLT3 := Lib.hid hlt3
  have HZ3 := Lib.hid hz3
  clear hz2 hz3 hq2 hM2 hB2 hq3 hM3 hR3 hb3 hB3 hlt3
  go_wp2_with fail
  have hfin := (((HZ3.out.setOther (a := ⟨w.heap.size + 1 + 1, 2, none⟩) (by simp) (.slice (some ⟨w1.heap.size, 0, none⟩) bs.length bs.length)).set 0 (.int .i64 al)).set 1 (.slice (some ⟨w.heap.size + 3, 0, none⟩) xss.length xss.length)).set 2 (.slice (some ⟨w1.heap.size, 0, none⟩) bs.length bs.length)
  have hbelF : Below w.heap.size w _ := ((((HB3.out.setCell (p := ⟨w.heap.size + 1 + 1, 2, none⟩) (by simp; omega) (.slice (some ⟨w1.heap.size, 0, none⟩) bs.length bs.length)).setCell (p := ⟨w.heap.size + 1, 0, none⟩) (by simp) (.int .i64 al)).setCell (p := ⟨w.heap.size + 1, 1, none⟩) (by simp) (.slice (some ⟨w.heap.size + 3, 0, none⟩) xss.length xss.length)).setCell (p := ⟨w.heap.size + 1, 2, none⟩) (by simp) (.slice (some ⟨w1.heap.size, 0, none⟩) bs.length bs.length))
  have hMF := MRk.setOther (MRk.setOther (MRk.setOther (MRk.setOther HM3.out (p := ⟨w.heap.size + 1 + 1, 2, none⟩) (by simp) (.slice (some ⟨w1.heap.size, 0, none⟩) bs.length bs.length)) (p := ⟨w.heap.size + 1, 0, none⟩) (by simp) (.int .i64 al)) (p := ⟨w.heap.size + 1, 1, none⟩) (by simp) (.slice (some ⟨w.heap.size + 3, 0, none⟩) xss.length xss.length)) (p := ⟨w.heap.size + 1, 2, none⟩) (by simp) (.slice (some ⟨w1.heap.size, 0, none⟩) bs.length bs.length)
  have hR3' := HR3.out
  rw [hs2] at hR3'
  have hRF := World.rowIs.setOther (World.rowIs.setOther (World.rowIs.setOther (World.rowIs.setOther hR3' (a := ⟨w.heap.size + 1 + 1, 2, none⟩) (by simp; omega) (.slice (some ⟨w1.heap.size, 0, none⟩) bs.length bs.length)) (a := ⟨w.heap.size + 1, 0, none⟩) (by simp; omega) (.int .i64 al)) (a := ⟨w.heap.size + 1, 1, none⟩) (by simp; omega) (.slice (some ⟨w.heap.size + 3, 0, none⟩) xss.length xss.length)) (a := ⟨w.heap.size + 1, 2, none⟩) (by simp; omega) (.slice (some ⟨w1.heap.size, 0, none⟩) bs.length bs.length)
  generalize ((((w3.setCell ⟨w.heap.size + 1 + 1, 2, none⟩ (.slice (some ⟨w1.heap.size, 0, none⟩) bs.length bs.length)).setCell ⟨w.heap.size + 1, 0, none⟩ (.int .i64 al)).setCell ⟨w.heap.size + 1, 1, none⟩ (.slice (some ⟨w.heap.size + 3, 0, none⟩) xss.length xss.length)).setCell ⟨w.heap.size + 1, 2, none⟩ (.slice (some ⟨w1.heap.size, 0, none⟩) bs.length bs.length)) = wf at *
  have e0 : wf.cell? ⟨w.heap.size + 1, 0, none⟩ = some (.int .i64 al) := hfin.cell (by decide)
  have e1 : wf.cell? ⟨w.heap.size + 1, 1, none⟩ = some (.slice (some ⟨w.heap.size + 3, 0, none⟩) xss.length xss.length) := hfin.cell (by decide)
  have e2 : wf.cell? ⟨w.heap.size + 1, 2, none⟩ = some (.slice (some ⟨w1.heap.size, 0, none⟩) bs.length bs.length) := hfin.cell (by decide)
  refine bodyPost_ret (v := .agg #[.int .i64 al, .slice (some ⟨w.heap.size + 3, 0, none⟩) xss.length xss.length, .slice (some ⟨w1.heap.size, 0, none⟩) bs.length bs.length]) ?_ rfl ?_
  · simp [results, Try.results14, go_sem, e0, e1, e2]
  · exact ⟨w.heap.size + 3, w1.heap.size, Bf, rfl, ⟨hMF, hRF, by omega, hs1', fun j hj => by have := HLT3.out j hj; omega⟩, hbelF⟩

end Go.Proofs.Ytagegbhchljggaa
