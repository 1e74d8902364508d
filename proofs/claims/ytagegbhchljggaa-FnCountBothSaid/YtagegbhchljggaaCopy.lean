/- The copies that the code makes of an automaton. -/
import Derived.Test.YtagegbhchljggaaClone
import Derived.Test.YtagegbhchljggaaMark2
import Derived.Test.YtagegbhchljggaaCount
import Derived.Deep.AppendLies
import Derived.Deep.CutRange
import Derived.Deep.RegionHeld3

namespace Go.Proofs.Ytagegbhchljggaa
open Go.RowKit
set_option linter.unusedVariables false
set_option linter.unusedSimpArgs false
set_option maxRecDepth 100000

theorem get_of_drop {ops : Array Oper} {i : Nat} {o : Oper} {rest : List Oper} (h : ops.toList.drop i = o :: rest) : ops[i]? = some o := by
  have h2 : (ops.toList.drop i)[0]? = some o := by rw [h]; rfl
  rw [List.getElem?_drop] at h2
  simpa using h2
theorem Try.infoRow : (Try.prog.info? 44).map (fun i => (i.zero, i.size, i.bytes)) = some (some (.slice none 0 0), 1, 24) := by kernel_rfl
/-- The rows that stand in the outer slice: the slice owns their values, each row lies in a block of its own. -/
def OutK (lo : Nat) (w : World) (v : Value) (us : List Value) (Bf : Nat → Nat) (xss : List (List Int)) : Prop :=
  w.ownsRow lo 44 1 v us.length us ∧
  (∀ i, i < us.length → WI w (Bf i) (us[i]?.getD undef) (xss[i]?.getD []) ∧ ((xss[i]?.getD []).length ≠ 0 → lo ≤ Bf i ∧ Bf i < w.heap.size ∧ v.ownBlock ≠ some (Bf i))) ∧
  (∀ i j, i < us.length → j < us.length → (xss[i]?.getD []).length ≠ 0 → (xss[j]?.getD []).length ≠ 0 → Bf i = Bf j → i = j)
theorem OutK.below {lo : Nat} {w w' : World} {v : Value} {us : List Value} {Bf : Nat → Nat} {xss : List (List Int)} (h : OutK lo w v us Bf xss) (hb : Below w.heap.size w w') : OutK lo w' v us Bf xss :=
  ⟨ownsRow_below h.1 hb, fun i hi => ⟨(h.2.1 i hi).1.only (Only.of_below (fun _ => False) hb) (fun _ h => h), fun hl => ⟨((h.2.1 i hi).2 hl).1, Nat.lt_of_lt_of_le ((h.2.1 i hi).2 hl).2.1 hb.size, ((h.2.1 i hi).2 hl).2.2⟩⟩, h.2.2⟩

/-- One row more. -/
theorem OutK.more {lo : Nat} {w2 w4 : World} {v : Value} {us : List Value} {Bf : Nat → Nat} {xss : List (List Int)} {ob g gx cg n2' : Nat} {u : Value} {x : List Int} (h : OutK lo w2 v us Bf xss) (hob : ob < lo) (hlo2 : lo ≤ w2.heap.size)
    (hx : xss[us.length]?.getD [] = x) (hu : WI w2 gx u x) (hgx : x.length ≠ 0 → n2' ≤ gx ∧ gx < w2.heap.size) (hn2 : lo ≤ n2') (hold : ∀ i, i < us.length → (xss[i]?.getD []).length ≠ 0 → Bf i < n2') (hvb : ∀ q, v.ownBlock = some q → q < n2')
    (hown : w4.ownsRow lo 44 1 (.slice (some ⟨g, 0, none⟩) (us.length + 1) cg) (us.length + 1) (us ++ [u]))
    (hat : v.ownBlock = some g ∨ g = w2.heap.size + 1) (hkeep : ∀ q, q < w2.heap.size → v.ownBlock ≠ some q → q ≠ ob → w4.heap[q]? = w2.heap[q]?) (hs : w2.heap.size ≤ w4.heap.size) :
    OutK lo w4 (.slice (some ⟨g, 0, none⟩) (us.length + 1) cg) (us ++ [u]) (fun j => if j = us.length then gx else Bf j) xss := by
  have hgb : (Value.slice (some ⟨g, 0, none⟩) (us.length + 1) cg).ownBlock = some g := rfl
  refine ⟨by simpa using hown, fun i hi => ?_, fun i j hi hj h1 h2 he => ?_⟩
  · have hi' : i < us.length + 1 := by simpa using hi
    by_cases e : i = us.length
    · subst e
      simp only [if_true]
      have e1 : (us ++ [u])[us.length]?.getD undef = u := by simp
      rw [e1, hx]
      refine ⟨hu.of_block hs (fun h0 => hkeep gx (hgx h0).2 (fun hq => ?_) (fun hq => ?_)), fun h0 => ⟨by have := (hgx h0).1; omega, by have := (hgx h0).2; omega, ?_⟩⟩
      · have := hvb gx hq
        have := (hgx h0).1
        omega
      · have := (hgx h0).1
        omega
      · rw [hgb]
        intro hq
        have hq' : g = gx := Option.some.inj hq
        rcases hat with hat | hat
        · have := hvb g hat
          have := (hgx h0).1
          omega
        · have := (hgx h0).2
          omega
    · have hi2 : i < us.length := by omega
      simp only [if_neg e]
      have e1 : (us ++ [u])[i]?.getD undef = us[i]?.getD undef := by rw [List.getElem?_append_left hi2]
      rw [e1]
      obtain ⟨q1, q2⟩ := h.2.1 i hi2
      refine ⟨q1.of_block hs (fun h0 => hkeep (Bf i) (q2 h0).2.1 (q2 h0).2.2 (by have := (q2 h0).1; omega)), fun h0 => ⟨(q2 h0).1, by have := (q2 h0).2.1; omega, ?_⟩⟩
      rw [hgb]
      intro hq
      have hq' : g = Bf i := Option.some.inj hq
      rcases hat with hat | hat
      · exact (q2 h0).2.2 (by rw [hat, hq'])
      · have := (q2 h0).2.1
        omega
  · have hi' : i < us.length + 1 := by simpa using hi
    have hj' : j < us.length + 1 := by simpa using hj
    by_cases ei : i = us.length
    · by_cases ej : j = us.length
      · omega
      · exfalso
        simp only [if_pos ei, if_neg ej] at he
        have q := hold j (by omega) h2
        have := (hgx (by rw [← hx, ← ei]; exact h1)).1
        omega
    · by_cases ej : j = us.length
      · exfalso
        simp only [if_neg ei, if_pos ej] at he
        have q := hold i (by omega) h1
        have := (hgx (by rw [← hx, ← ej]; exact h2)).1
        omega
      · simp only [if_neg ei, if_neg ej] at he
        exact h.2.2 i j (by omega) (by omega) h1 h2 he
theorem ownsRow_set {w : World} {lo : Nat} {e : TypeId} {size n : Nat} {g cap : Nat} {xs : List Value} (h : w.ownsRow lo e size (.slice (some ⟨g, 0, none⟩) n cap) n xs) (p : Addr) (hp : p.block ≠ g) (u : Value) : (w.setCell p u).ownsRow lo e size (.slice (some ⟨g, 0, none⟩) n cap) n xs := by
  refine ⟨h.1, ?_⟩
  rcases h.2 with ⟨q, -⟩ | ⟨g', cap', cur, hv, hB, hg, hc, hm, hs, ht⟩
  · cases q
  · injection hv with q1 q2 q3
    injection q1 with q1
    injection q1 with q1 _ _
    subst q1
    refine .inr ⟨g, cap', cur, by rw [q3], hB, ?_, hc, hm, hs, ht⟩
    rw [Below.heap_setCell _ _ _ _ (Ne.symm hp)]
    exact hg

theorem store3 {w : World} {b : Nat} {t : TypeId} {f : Nat → Value} (h : w.rowIs b t 3 f) (v0 v1 v2 : Value) : (((w.setCell ⟨b, 0, none⟩ v0).setCell ⟨b, 1, none⟩ v1).setCell ⟨b, 2, none⟩ v2).rowIs b t 3 (fun i => #[v0, v1, v2][i]?.getD undef) :=
  (((h.set 0 v0).set 1 v1).set 2 v2).congr (fun j hj => by
    obtain rfl | rfl | rfl : j = 0 ∨ j = 1 ∨ j = 2 := by omega
    all_goals rfl)
theorem IRow.wi {B : Nat} {w : World} {v : Value} {xs : List Int} (h : IRow B w v xs) : ∃ g, WI w g v xs ∧ (xs.length ≠ 0 → B ≤ g ∧ g < w.heap.size) := by
  rcases h.shape with ⟨rfl, rfl⟩ | ⟨g, cap, rfl, q2, q3, q4, q5, q6, q7⟩
  · exact ⟨0, ⟨none, 0, rfl, Nat.le_refl _, by decide, .inl rfl⟩, fun h => absurd rfl h⟩
  · exact ⟨g, ⟨_, cap, rfl, q4, q5, .inr ⟨rfl, q3, fun j hj => ⟨q6 j hj, q7 j⟩⟩⟩, fun _ => ⟨q2, q3⟩⟩
theorem TRow.wb {B : Nat} {w : World} {v : Value} {xs : List Bool} (h : TRow B w v xs) : ∃ g, WB w g v xs ∧ (xs.length ≠ 0 → B ≤ g ∧ g < w.heap.size) := by
  rcases h.2 with ⟨rfl, h2⟩ | ⟨g, cap, cur, rfl, hB, hg, hc, hm, hs, ht⟩
  · have h0 : xs.length = 0 := h2
    exact ⟨0, ⟨none, 0, by rw [h0], by omega, by decide, .inl h0⟩, fun h => absurd h0 h⟩
  · have hlt : g < w.heap.size := (Array.getElem?_eq_some_iff.1 hg).1
    refine ⟨g, ⟨_, cap, rfl, hc, hm, .inr ⟨rfl, hlt, fun j hj => ⟨?_, World.ownsRow.frozenAt h j⟩⟩⟩, fun _ => ⟨hB, hlt⟩⟩
    rw [World.ownsRow.cellAt h j (by omega)]
    simp [List.getElem?_eq_getElem hj]

set_option maxHeartbeats 4000000 in
theorem copyAut_any (al : Int) (a1 : Option Addr) (n1 c1 : Nat) (a2 : Option Addr) (n2 c2 : Nat) (xss : List (List Int)) (bs : List Bool) (w : World) (h : MV w (.slice a1 n1 c1) xss) (hb : BV w (.slice a2 n2 c2) bs) (hv : autV al xss bs = true) :
    Calls Try.prog 49 #[.agg #[.int .i64 al, .slice a1 n1 c1, .slice a2 n2 c2]] w (fun e w' => ∃ b0 b1 Bf v1 v2, e = .returned (.agg #[.int .i64 al, v1, v2]) ∧ WA w' b0 b1 Bf v1 v2 xss bs ∧ w.heap.size ≤ b0 ∧ w.heap.size ≤ b1 ∧ (∀ i, i < xss.length → (xss[i]?.getD []).length ≠ 0 → w.heap.size ≤ Bf i) ∧ Below w.heap.size w w') := by
  obtain ⟨ha, hx1, hx2, hx3, hx4, hx5⟩ := autV_facts hv
  have hn1 := (SV.at h).1
  have hn2 := (SV.at hb).1
  have B0 := Lib.hid (below_new w 28 #[.int .i64 al, .slice a1 n1 c1, .slice a2 n2 c2])
  have R0 := Lib.hid (agg3_cell w al (.slice a1 n1 c1) (.slice a2 n2 c2) 28)
  obtain ⟨ba, oa, rfl, hba, hca⟩ : ∃ b off, a2 = some ⟨b, off, none⟩ ∧ b < w.heap.size ∧ ∀ j, j < n2 → w.cell? ⟨b, off + j, none⟩ = some (.bool (bs[j]?.getD false)) := by
    rcases (SV.at hb).2.2.2 with h0 | ⟨b, off, rfl, q1, q2⟩
    · omega
    · exact ⟨b, off, rfl, q1, fun j hj => by obtain ⟨u, r1, rfl⟩ := q2 j hj; exact r1⟩
  have hmx := (SV.at h).2.2.1
  have hcp := (SV.at h).2.1
  unfold maxLen at hmx
  have H := Lib.hid h; clear h
  clear hb
  have HN1 := Lib.hid hn1; clear hn1
  have HN2 := Lib.hid hn2; clear hn2
  have HCA := Lib.hid hca; clear hca
  have HROWS := Lib.hid hx4; clear hx4
  have HENT := Lib.hid hx5; clear hx5
  clear B0 R0
  go_enter Try.func49, Try.ntmps49
  go_wp2_with fail
  obtain ⟨w1, hw1⟩ : ∃ w1, ((w.alloc (.cells #[.int .i64 al, .slice a1 n1 c1, .slice (some ⟨ba, oa, none⟩) n2 c2] 28)).alloc (.cells #[.int .i64 0, .slice none 0 0, .slice none 0 0] 28)) = w1 := ⟨_, rfl⟩
  have hb1 : Below w.heap.size w w1 := by rw [← hw1]; exact ((Below.refl _ _).alloc (Nat.le_refl _) _).alloc (by simp) _
  have hr1 : w1.rowIs w.heap.size 28 3 (fun i => #[.int .i64 al, .slice a1 n1 c1, .slice (some ⟨ba, oa, none⟩) n2 c2][i]?.getD undef) := by rw [← hw1]; exact (own_cells w _ _ 3 rfl).alloc _
  have ho1 : w1.rowIs (w.heap.size + 1) 28 3 (fun i => #[.int .i64 0, .slice none 0 0, .slice none 0 0][i]?.getD undef) := by
    rw [← hw1]
    have := own_cells (w.alloc (.cells #[.int .i64 al, .slice a1 n1 c1, .slice (some ⟨ba, oa, none⟩) n2 c2] 28)) #[.int .i64 0, .slice none 0 0, .slice none 0 0] 28 3 rfl
    simpa using this
  have hs1 : w1.heap.size = w.heap.size + 2 := by rw [← hw1]; simp
  rw [hw1]
  clear hw1
  have p0 : w1.cell? ⟨w.heap.size, 0, none⟩ = some (.int .i64 al) := hr1.cell (by decide)
  have p2 : w1.cell? ⟨w.heap.size, 2, none⟩ = some (.slice (some ⟨ba, oa, none⟩) n2 c2) := hr1.cell (by decide)
  have HR1 := Lib.hid hr1
  have HO1 := Lib.hid ho1
  have HB1 := Lib.hid hb1
  have HC1 := Lib.hid (fun (j : Nat) (hj : j < n2) => (show w1.cell? (Addr.add ⟨ba, oa, none⟩ j) = some (.bool (bs[j]?.getD false)) by rw [add_at, cell_below hb1 hba]; exact HCA.out j hj))
  have hbl : bs.length ≤ 1048576 := by omega
  clear hr1 ho1 hb1
  obtain ⟨wz, hwz⟩ : ∃ wz, w1.alloc (.cells #[.int .i64 0, .slice none 0 0, .slice none 0 0] 28) = wz := ⟨_, rfl⟩
  have hrz := HR1.out.alloc (.cells #[.int .i64 0, .slice none 0 0, .slice none 0 0] 28)
  have hzz := HO1.out.alloc (.cells #[.int .i64 0, .slice none 0 0, .slice none 0 0] 28)
  have hoz := own_cells w1 #[.int .i64 0, .slice none 0 0, .slice none 0 0] 28 3 rfl
  have hbz := HB1.out.alloc HB1.out.size (.cells #[.int .i64 0, .slice none 0 0, .slice none 0 0] 28)
  have hcz := fun (j : Nat) (hj : j < n2) => (show (w1.alloc (.cells #[.int .i64 0, .slice none 0 0, .slice none 0 0] 28)).cell? (Addr.add ⟨ba, oa, none⟩ j) = some (.bool (bs[j]?.getD false)) by rw [World.cell?_of_block (w := w1) ((below_new w1 _ _).block _ (cell_spot (HC1.out j hj)).2)]; exact HC1.out j hj)
  rw [hs1] at hoz
  rw [hwz] at hrz hzz hoz hbz hcz
  have HZZ := Lib.hid hzz
  have q0 : wz.cell? ⟨w.heap.size, 0, none⟩ = some (.int .i64 al) := hrz.cell (by decide)
  have q2 : wz.cell? ⟨w.heap.size, 2, none⟩ = some (.slice (some ⟨ba, oa, none⟩) n2 c2) := hrz.cell (by decide)
  have qy0 : wz.cell? ⟨w.heap.size + 2, 0, none⟩ = some (.int .i64 0) := hoz.cell (by decide)
  have HRZ := Lib.hid hrz
  have HOZ := Lib.hid hoz
  have HBZ := Lib.hid hbz
  have HCZ := Lib.hid hcz
  clear hrz hoz hbz hcz
  go_cut [3] from 6 to 11 (fun s3 wc => ∃ (ob b1 : Nat) (ao : Option Addr) (cc : Nat), s3 = .pointer (some ⟨ob, 0, none⟩) ∧ w.heap.size + 1 < ob ∧ w.heap.size + 1 < b1 ∧ b1 ≠ ob ∧ wc.rowIs (w.heap.size + 1) 28 3 (fun i => #[.int .i64 0, .slice none 0 0, .slice none 0 0][i]?.getD undef) ∧ wc.rowIs ob 28 3 (fun i => #[.int .i64 al, .slice none 0 0, .slice ao n2 cc][i]?.getD undef) ∧ wc.rowIs w.heap.size 28 3 (fun i => #[.int .i64 al, .slice a1 n1 c1, .slice (some ⟨ba, oa, none⟩) n2 c2][i]?.getD undef) ∧ Below w.heap.size w wc ∧ WB wc b1 (.slice ao n2 cc) bs)
  case first =>
    go_region_with (first | (go_at_call 55; refine (cloneBool_any ⟨ba, oa, none⟩ n2 c2 bs w1.drew HN2.out hbl HC1.out).mono ?_; rintro e w2 ⟨ao, cc, rfl, hown, hb2'⟩; have hb2 : Below w1.heap.size w1 w2 := ((Below.refl w1.heap.size w1).drew).trans hb2'; have hr2 := rowIs_below HR1.out hb2; have HZ2 := Lib.hid (rowIs_below HO1.out hb2); have p0' : w2.cell? ⟨w.heap.size, 0, none⟩ = some (.int .i64 al) := hr2.cell (by decide); have hlt2 : w.heap.size < w2.heap.size := World.rowIs.lt hr2; have hne2 : ¬ w2.heap.size = w.heap.size := Nat.ne_of_gt hlt2; have hne3 : ¬ w.heap.size = w2.heap.size := Nat.ne_of_lt hlt2; have HOWN := Lib.hid hown; have HR2 := Lib.hid hr2; have HB2 := Lib.hid (HB1.out.trans (hb2.mono HB1.out.size)); clear hown hb2 hr2 hb2') | (go_at_call 55; refine (cloneBool_any ⟨ba, oa, none⟩ n2 c2 bs wz.drew HN2.out hbl HCZ.out).mono ?_; rintro e w2 ⟨ao, cc, rfl, hown, hb2'⟩; have hb2 : Below wz.heap.size wz w2 := ((Below.refl wz.heap.size wz).drew).trans hb2'; have hr2 := rowIs_below HRZ.out hb2; have HZ2 := Lib.hid (rowIs_below HZZ.out hb2); have p0' : w2.cell? ⟨w.heap.size, 0, none⟩ = some (.int .i64 al) := hr2.cell (by decide); have HOWN := Lib.hid hown; have HR2 := Lib.hid hr2; have ho2 := rowIs_below HOZ.out hb2; have y0 : w2.cell? ⟨w.heap.size + 2, 0, none⟩ = some (.int .i64 0) := ho2.cell (by decide); have y1 : w2.cell? ⟨w.heap.size + 2, 1, none⟩ = some (.slice none 0 0) := ho2.cell (by decide); have y2 : w2.cell? ⟨w.heap.size + 2, 2, none⟩ = some (.slice none 0 0) := ho2.cell (by decide); have f0 := ho2.frozen 0; have f1 := ho2.frozen 1; have f2 := ho2.frozen 2; have HB2 := Lib.hid (HBZ.out.trans (hb2.mono HBZ.out.size)); have HO2 := Lib.hid ho2; clear hown hb2 hr2 ho2 hb2'))
    all_goals
      obtain ⟨b1, hW, hWb⟩ := HOWN.out.wb
      have hWlt : w.heap.size + 2 ≤ b1 ∧ b1 < w2.heap.size := by
        have h := hWb (by omega)
        have h1 : wz.heap.size = w.heap.size + 3 := by rw [← hwz]; simp; omega
        simp at h
        omega
      have hb0 : wz.heap.size = w.heap.size + 3 := by rw [← hwz]; simp; omega
      first | (
           obtain ⟨ob, hob⟩ : ∃ ob, w2.heap.size = ob := ⟨_, rfl⟩
           obtain ⟨w3, hw3⟩ : ∃ w3, w2.alloc (.cells #[.int .i64 al, .slice none 0 0, .slice ao n2 cc] 28) = w3 := ⟨_, rfl⟩
           have hO3 := own_cells w2 #[.int .i64 al, .slice none 0 0, .slice ao n2 cc] 28 3 rfl
           have hZ3 := HZ2.out.alloc (.cells #[.int .i64 al, .slice none 0 0, .slice ao n2 cc] 28)
           have hR3 := HR2.out.alloc (.cells #[.int .i64 al, .slice none 0 0, .slice ao n2 cc] 28)
           have hB3 := HB2.out.alloc HB2.out.size (.cells #[.int .i64 al, .slice none 0 0, .slice ao n2 cc] 28)
           have hW3 := hW.below (below_new w2 28 #[.int .i64 al, .slice none 0 0, .slice ao n2 cc])
           rw [hob] at hO3
           rw [hw3] at hO3 hR3 hB3 hW3 hZ3
           rw [hw3, hob]
           have hne3 : b1 ≠ ob := by omega
           have hob3 : w.heap.size + 1 < ob := by omega
           clear hob hw3 hW) | (
           obtain ⟨ob, hob⟩ : ∃ ob, w.heap.size + 2 = ob := ⟨_, rfl⟩
           obtain ⟨w3, hw3⟩ : ∃ w3, (((w2.setCell ⟨w.heap.size + 2, 0, none⟩ (.int .i64 al)).setCell ⟨w.heap.size + 2, 1, none⟩ (.slice none 0 0)).setCell ⟨w.heap.size + 2, 2, none⟩ (.slice ao n2 cc)) = w3 := ⟨_, rfl⟩
           have hO3 := store3 HO2.out (.int .i64 al) (.slice none 0 0) (.slice ao n2 cc)
           have hZ3 := ((HZ2.out.setOther (a := ⟨w.heap.size + 2, 0, none⟩) (by simp) (.int .i64 al)).setOther (a := ⟨w.heap.size + 2, 1, none⟩) (by simp) (.slice none 0 0)).setOther (a := ⟨w.heap.size + 2, 2, none⟩) (by simp) (.slice ao n2 cc)
           have hR3 := ((HR2.out.setOther (a := ⟨w.heap.size + 2, 0, none⟩) (by simp) (.int .i64 al)).setOther (a := ⟨w.heap.size + 2, 1, none⟩) (by simp) (.slice none 0 0)).setOther (a := ⟨w.heap.size + 2, 2, none⟩) (by simp) (.slice ao n2 cc)
           have hB3 := ((HB2.out.setCell (p := ⟨w.heap.size + 2, 0, none⟩) (by simp) (.int .i64 al)).setCell (p := ⟨w.heap.size + 2, 1, none⟩) (by simp) (.slice none 0 0)).setCell (p := ⟨w.heap.size + 2, 2, none⟩) (by simp) (.slice ao n2 cc)
           have hne3 : b1 ≠ ob := by have h := hWb (by omega); simp at h; omega
           have hob3 : w.heap.size + 1 < ob := by omega
           have hW3 : WB w3 b1 (.slice ao n2 cc) bs := by
             rw [← hw3]
             exact hW.only (Only.of_but (((But.refl (w.heap.size + 2) w2).set 0 _).set 1 _ |>.set 2 _)) (fun _ h => hne3 (by rw [← hob]; exact h))
           rw [hw3, hob] at hO3
           rw [hw3] at hR3 hB3 hZ3
           rw [hw3, hob]
           clear hob hw3 hW)
      go_wp2_with fail
      go_meet
      case rel => exact ⟨ob, b1, ao, cc, rfl, hob3, by omega, hne3, hZ3, hO3, hR3, hB3, hW3⟩
  case rest =>
    obtain ⟨ob, b1, ao, cc, rfl, hob, hb1, hne1, hZ, hO, hR, hB, hW⟩ := hcut
    have HZ := Lib.hid hZ
    clear hZ
    have p1 : wc.cell? ⟨w.heap.size, 1, none⟩ = some (.slice a1 n1 c1) := hR.cell (by decide)
    have HO := Lib.hid hO
    have HR := Lib.hid hR
    have HB := Lib.hid hB
    have HW := Lib.hid hW
    clear hO hR hB hW
    have hlo : w.heap.size ≤ wc.heap.size := HB.out.size
    have hoblt : ob < wc.heap.size := World.rowIs.lt HO.out
    go_wp2_with fail
    go_loopw [15] (fun i wr => ∃ (k : Nat) (v : Value) (us : List Value) (Bf : Nat → Nat), k ≤ n1 ∧ us.length = k ∧ i = .int .i64 k ∧ OutK wc.heap.size wr v us Bf xss ∧ wr.rowIs ob 28 3 (fun i => #[.int .i64 al, v, .slice ao n2 cc][i]?.getD undef) ∧ wc.heap.size ≤ wr.heap.size ∧ Only (fun q => q = ob ∨ wc.heap.size ≤ q) wc wr) (fun i _ => n1 - (intOf i).toNat)
    case atStart => exact ⟨0, .slice none 0 0, [], fun _ => 0, by omega, rfl, rfl, ⟨World.ownsRow_nil _ _ _ _, fun i hi => by simp at hi, fun i j hi => by simp at hi⟩, HO.out, Nat.le_refl _, Only.refl _ _⟩
    case round =>
      obtain ⟨k, v, us, Bf, hk, hus, rfl, hout, hor, hsz, honly⟩ := hrel
      by_cases hlt : k < n1
      · have hbelr : Below w.heap.size w wr := honly.below HB.out (fun q hq => by rcases hq with rfl | hq <;> omega) hlo
        obtain ⟨br, ofr, ar, m3, c3, rfl, hbr, hcr, hm3, hmc3, hc3, hent⟩ := H.out.row k hlt
        have e1 : wr.cell? ⟨br, ofr + k, none⟩ = some (.slice ar m3 c3) := by rw [cell_below hbelr hbr]; exact hcr
        have o1 : wr.cell? ⟨ob, 1, none⟩ = some v := hor.cell (by decide)
        have HOUT := Lib.hid hout
        have HOR := Lib.hid hor
        have HON := Lib.hid honly
        have HBR := Lib.hid hbelr
        have HENTR := Lib.hid hent; clear hent
        have HM3 := Lib.hid hm3; clear hm3
        have HUS := Lib.hid hus; clear hus
        clear hcr hout hor honly hbelr
        obtain ⟨x, hx⟩ : ∃ x, xss[k]?.getD [] = x := ⟨_, rfl⟩
        have HE := Lib.hid (fun (j : Nat) (hj : j < m3) => (show ∃ b off, ar = some ⟨b, off, none⟩ ∧ wr.drew.cell? ⟨b, off + j, none⟩ = some (.int .i64 (x[j]?.getD 0)) by
          obtain ⟨b, off, q1, q2, q3⟩ := HENTR.out j hj
          rw [hx] at q3
          exact ⟨b, off, q1, by show wr.cell? _ = _; rw [cell_below HBR.out q2]; exact q3⟩))
        have hmx3 : m3 = x.length := by rw [← hx]; exact HM3.out
        have hx48 : x.length ≤ 1048576 := by
          have hkx : k < xss.length := by rw [← HN1.out]; exact hlt
          have := HROWS.out _ (List.getElem_mem hkx)
          rw [← hx, List.getElem?_eq_getElem hkx, Option.getD_some, this]
          have := lets_len al
          omega
        have HX := Lib.hid hx; clear hx
        have HMX := Lib.hid hmx3; clear hmx3
        go_wp2_with fail
        refine wp_region_held_drew (S := fun _ => True) (by kernel_rfl) trivial (fun hHeld => ?_)
        first | (refine wpAnyH_take (i := 0) (get_of_drop rfl) (by kernel_rfl) (by kernel_rfl) (by kernel_rfl) (fun _ _ _ h => h) (Or.inr ⟨?_, rfl⟩) hHeld ?_; (focus (simp [Region.wanted, yielded, undef]; done)); (try simp only [Act.put, List.setIfInBounds_toArray, List.set_cons_zero, List.set_cons_succ])) | (refine wpAnyH_take (i := 0) (v := ?_) (get_of_drop rfl) (by kernel_rfl) (by kernel_rfl) (by kernel_rfl) (fun _ _ _ h => h) (Or.inl ⟨?_, ?_⟩) hHeld ?_; rotate_left; (focus rfl); (focus (intro w hSw; (try dsimp only at hSw); go_simp; (try (with_reducible rfl)))); (try simp only [Act.put, List.setIfInBounds_toArray, List.set_cons_zero, List.set_cons_succ]))
        first | (refine wpAnyH_take (i := 2) (get_of_drop rfl) (by kernel_rfl) (by kernel_rfl) (by kernel_rfl) (fun _ _ _ h => h) (Or.inr ⟨?_, rfl⟩) hHeld ?_; (focus (simp [Region.wanted, yielded, undef]; done)); (try simp only [Act.put, List.setIfInBounds_toArray, List.set_cons_zero, List.set_cons_succ])) | (refine wpAnyH_take (i := 2) (v := ?_) (get_of_drop rfl) (by kernel_rfl) (by kernel_rfl) (by kernel_rfl) (fun _ _ _ h => h) (Or.inl ⟨?_, ?_⟩) hHeld ?_; rotate_left; (focus rfl); (focus (intro w hSw; (try dsimp only at hSw); go_simp; (try (with_reducible rfl)))); (try simp only [Act.put, List.setIfInBounds_toArray, List.set_cons_zero, List.set_cons_succ]))
        refine wpAnyH_ready (rs := [1, 3]) (by kernel_rfl) (by simp) ?_
        refine AllReadyH.cons (get_of_drop rfl) (fun K hK => ?_) ?_
        · go_simp
          refine hK.out _ _ trivial (fun hHeld => ?_)
          clear hK K
          try simp only [Act.put, List.setIfInBounds_toArray, List.set_cons_zero, List.set_cons_succ]
          refine wpAnyH_ready (rs := [3]) (by kernel_rfl) (by simp) ?_
          refine AllReadyH.cons (get_of_drop rfl) (fun K hK => ?_) AllReadyH.nil
          go_simp
          go_at_call 66
          refine (cloneRow_any ar m3 c3 x _ HMX.out hx48 HE.out).mono ?_
          rintro e w2 ⟨ax, cx, rfl, hown, hb2⟩
          go_wp2_with fail
          refine hK.out _ _ trivial (fun hHeld => ?_)
          clear hK K
          try simp only [Act.put, List.setIfInBounds_toArray, List.set_cons_zero, List.set_cons_succ]
          refine wpAnyH_ready (rs := [4]) (by kernel_rfl) (by simp) ?_
          refine AllReadyH.cons (get_of_drop rfl) (fun K hK => ?_) AllReadyH.nil
          go_simp
          refine hK.out _ _ trivial (fun hHeld => ?_)
          clear hK K
          try simp only [Act.put, List.setIfInBounds_toArray, List.set_cons_zero, List.set_cons_succ]
          refine wpAnyH_ready (rs := [5]) (by kernel_rfl) (by simp) ?_
          refine AllReadyH.cons (get_of_drop rfl) (fun K hK => ?_) AllReadyH.nil
          rw [if_pos (by rfl)]
          have hb3 : Below wr.heap.size wr w2 := ((Below.refl wr.heap.size wr).drew).trans hb2
          have ho2 := HOUT.out.below hb3
          have hor2 := rowIs_below HOR.out hb3
          obtain ⟨gx, hwx, hgx⟩ := hown.wi
          have hvb : ∀ q, v.ownBlock = some q → wc.heap.size ≤ q ∧ q < wr.heap.size := fun q hq => World.ownsRow.lt HOUT.out.1 q hq
          obtain ⟨i0, hi, hz0, hz1, hz2⟩ := info_parts Try.infoRow
          have hus16 : us.length ≤ 16 := by have h1 := HUS.out; have h2 := HN1.out; omega
          have hs2 := hb3.size
          refine wp_append_lies _ _ _ 22 rfl wc.heap.size 44 i0 _ 1 24 Try.underlying22 hi hz0 hz1 hz2 rfl (by decide) v us.length us rfl (World.ownsRow.alloc ho2.1 _) ⟨w2.heap.size, 0, none⟩ 1 1 [.slice ax m3 cx] rfl rfl (cell_one_new _ _ _) (by intro u hu; simp at hu; subst hu; rfl) (by decide) (by unfold maxLen; omega) (by omega) (by simp; omega) (w2.heap.size + 1) (by simp) ?_
          intro g cg w3 hown3 hgrow hat hlt3
          have hkeep3 : ∀ q, q < w2.heap.size → v.ownBlock ≠ some q → w3.heap[q]? = w2.heap[q]? := by
            intro q hq hne
            rw [hgrow.block q (by simp; omega) (fun h => hne h.symm)]
            exact Below.heap_alloc w2 _ q hq
          have hobne : v.ownBlock ≠ some ob := fun h => by have := (hvb ob h).1; omega
          have hgob : g ≠ ob := by
            rcases hat with hat | hat
            · intro h; subst h; exact hobne hat
            · omega
          have hor3 := hor2.of_block (hkeep3 ob (by omega) hobne)
          have s1 : w3.cell? ⟨ob, 1, none⟩ = some v := hor3.cell (by decide)
          have s2 := hor3.frozen 1
          have hsz3 : w2.heap.size + 1 ≤ w3.heap.size := by have := hgrow.size; simpa using this
          refine hK.out _ _ trivial (fun hHeld => ?_)
          clear hK K
          try simp only [Act.put, List.setIfInBounds_toArray, List.set_cons_zero, List.set_cons_succ]
          first | (refine wpAnyH_take (i := 6) (get_of_drop rfl) (by kernel_rfl) (by kernel_rfl) (by kernel_rfl) (fun _ _ _ h => h) (Or.inr ⟨?_, rfl⟩) hHeld ?_; (focus (simp [Region.wanted, yielded, undef]; done)); (try simp only [Act.put, List.setIfInBounds_toArray, List.set_cons_zero, List.set_cons_succ])) | (refine wpAnyH_take (i := 6) (v := ?_) (get_of_drop rfl) (by kernel_rfl) (by kernel_rfl) (by kernel_rfl) (fun _ _ _ h => h) (Or.inl ⟨?_, ?_⟩) hHeld ?_; rotate_left; (focus rfl); (focus (intro w hSw; (try dsimp only at hSw); go_simp; (try (with_reducible rfl)))); (try simp only [Act.put, List.setIfInBounds_toArray, List.set_cons_zero, List.set_cons_succ]))
          refine wpAnyH_ready (rs := [7]) (by kernel_rfl) (by simp) ?_
          refine AllReadyH.cons (get_of_drop rfl) (fun K hK => ?_) AllReadyH.nil
          have HOR3 := Lib.hid hor3
          have HO2 := Lib.hid ho2
          have HWX := Lib.hid hwx
          have HGX := Lib.hid hgx
          have HVB := Lib.hid hvb
          have HOWN3 := Lib.hid hown3
          have HKEEP := Lib.hid hkeep3
          have HAT := Lib.hid hat
          have HGR := Lib.hid hgrow
          have HB3 := Lib.hid hb3
          clear hor3 ho2 hwx hgx hvb hown3 hkeep3 hat hgrow hb3 hor2 hown hb2
          go_simp
          refine hK.out _ _ trivial (fun hHeld => ?_)
          clear hK K
          try simp only [Act.put, List.setIfInBounds_toArray, List.set_cons_zero, List.set_cons_succ]
          refine wpAnyH_done (by kernel_rfl) ?_ _
          go_wp2
          go_roundw
          case rel =>
            have hkeep4 : ∀ q, q < w2.heap.size → v.ownBlock ≠ some q → q ≠ ob → (w3.setCell ⟨ob, 1, none⟩ (.slice (some ⟨g, 0, none⟩) (us.length + 1) cg)).heap[q]? = w2.heap[q]? := by
              intro q hq h1 h2
              rw [Below.heap_setCell _ _ _ _ h2]
              exact HKEEP.out q hq h1
            refine ⟨k + 1, .slice (some ⟨g, 0, none⟩) (us.length + 1) cg, us ++ [.slice ax m3 cx], fun j => if j = us.length then gx else Bf j, by omega, by simp [HUS.out], by go_num, ?_, ?_, by simp; omega, ?_⟩
            · refine OutK.more (n2' := wr.heap.size) HO2.out hoblt (by omega) (by rw [HUS.out]; exact HX.out) HWX.out HGX.out hsz (fun i hi h0 => ((HOUT.out.2.1 i hi).2 h0).2.1) (fun q hq => (HVB.out q hq).2) (ownsRow_set HOWN3.out _ (fun h => hgob h.symm) _) HAT.out hkeep4 (by simp; omega)
            · exact (HOR3.out.set 1 _).congr (fun j hj => by
                obtain rfl | rfl | rfl : j = 0 ∨ j = 1 ∨ j = 2 := by omega
                all_goals rfl)
            · refine HON.out.trans ⟨?_, ?_, ?_, ?_, fun q hq hn => ?_⟩
              · exact HGR.out.os.trans HB3.out.os
              · exact HGR.out.tape.trans HB3.out.tape
              · exact HGR.out.output.trans HB3.out.output
              · simp; omega
              · rw [hkeep4 q (by omega) (fun h => hn (.inr (HVB.out q h).1)) (fun h => hn (.inl h))]
                exact HB3.out.block q hq
          case measure => simp [intOf] <;> omega
        · refine AllReadyH.cons (get_of_drop rfl) (fun K hK => ?_) AllReadyH.nil
          go_simp
          go_at_call 66
          refine (cloneRow_any ar m3 c3 x _ HMX.out hx48 HE.out).mono ?_
          rintro e w2 ⟨ax, cx, rfl, hown, hb2⟩
          have hb4 : Below wr.heap.size wr w2 := ((Below.refl wr.heap.size wr).drew).trans hb2
          have o1' : w2.cell? ⟨ob, 1, none⟩ = some v := by rw [World.cell?_of_block (w := wr) (hb4.block ob (World.rowIs.lt HOR.out))]; exact o1
          have holt2 : ob < w2.heap.size := Nat.lt_of_lt_of_le (World.rowIs.lt HOR.out) hb4.size
          have holtn : ¬ w2.heap.size = ob := Nat.ne_of_gt holt2
          have holtm : ¬ ob = w2.heap.size := Nat.ne_of_lt holt2
          go_wp2_with fail
          refine hK.out _ _ trivial (fun hHeld => ?_)
          clear hK K hb4
          try simp only [Act.put, List.setIfInBounds_toArray, List.set_cons_zero, List.set_cons_succ]
          refine wpAnyH_ready (rs := [1, 4]) (by kernel_rfl) (by simp) ?_
          refine AllReadyH.cons (get_of_drop rfl) (fun K hK => ?_) ?_
          · go_simp
            refine hK.out _ _ trivial (fun hHeld => ?_)
            clear hK K
            try simp only [Act.put, List.setIfInBounds_toArray, List.set_cons_zero, List.set_cons_succ]
            refine wpAnyH_ready (rs := [4]) (by kernel_rfl) (by simp) ?_
            refine AllReadyH.cons (get_of_drop rfl) (fun K hK => ?_) AllReadyH.nil
            go_simp
            refine hK.out _ _ trivial (fun hHeld => ?_)
            clear hK K
            try simp only [Act.put, List.setIfInBounds_toArray, List.set_cons_zero, List.set_cons_succ]
            refine wpAnyH_ready (rs := [5]) (by kernel_rfl) (by simp) ?_
            refine AllReadyH.cons (get_of_drop rfl) (fun K hK => ?_) AllReadyH.nil
            rw [if_pos (by rfl)]
            have hb3 : Below wr.heap.size wr w2 := ((Below.refl wr.heap.size wr).drew).trans hb2
            have ho2 := HOUT.out.below hb3
            have hor2 := rowIs_below HOR.out hb3
            obtain ⟨gx, hwx, hgx⟩ := hown.wi
            have hvb : ∀ q, v.ownBlock = some q → wc.heap.size ≤ q ∧ q < wr.heap.size := fun q hq => World.ownsRow.lt HOUT.out.1 q hq
            obtain ⟨i0, hi, hz0, hz1, hz2⟩ := info_parts Try.infoRow
            have hus16 : us.length ≤ 16 := by have h1 := HUS.out; have h2 := HN1.out; omega
            have hs2 := hb3.size
            refine wp_append_lies _ _ _ 22 rfl wc.heap.size 44 i0 _ 1 24 Try.underlying22 hi hz0 hz1 hz2 rfl (by decide) v us.length us rfl (World.ownsRow.alloc ho2.1 _) ⟨w2.heap.size, 0, none⟩ 1 1 [.slice ax m3 cx] rfl rfl (cell_one_new _ _ _) (by intro u hu; simp at hu; subst hu; rfl) (by decide) (by unfold maxLen; omega) (by omega) (by simp; omega) (w2.heap.size + 1) (by simp) ?_
            intro g cg w3 hown3 hgrow hat hlt3
            have hkeep3 : ∀ q, q < w2.heap.size → v.ownBlock ≠ some q → w3.heap[q]? = w2.heap[q]? := by
              intro q hq hne
              rw [hgrow.block q (by simp; omega) (fun h => hne h.symm)]
              exact Below.heap_alloc w2 _ q hq
            have hobne : v.ownBlock ≠ some ob := fun h => by have := (hvb ob h).1; omega
            have hgob : g ≠ ob := by
              rcases hat with hat | hat
              · intro h; subst h; exact hobne hat
              · omega
            have hor3 := hor2.of_block (hkeep3 ob (by omega) hobne)
            have s1 : w3.cell? ⟨ob, 1, none⟩ = some v := hor3.cell (by decide)
            have s2 := hor3.frozen 1
            have hsz3 : w2.heap.size + 1 ≤ w3.heap.size := by have := hgrow.size; simpa using this
            refine hK.out _ _ trivial (fun hHeld => ?_)
            clear hK K
            try simp only [Act.put, List.setIfInBounds_toArray, List.set_cons_zero, List.set_cons_succ]
            first | (refine wpAnyH_take (i := 6) (get_of_drop rfl) (by kernel_rfl) (by kernel_rfl) (by kernel_rfl) (fun _ _ _ h => h) (Or.inr ⟨?_, rfl⟩) hHeld ?_; (focus (simp [Region.wanted, yielded, undef]; done)); (try simp only [Act.put, List.setIfInBounds_toArray, List.set_cons_zero, List.set_cons_succ])) | (refine wpAnyH_take (i := 6) (v := ?_) (get_of_drop rfl) (by kernel_rfl) (by kernel_rfl) (by kernel_rfl) (fun _ _ _ h => h) (Or.inl ⟨?_, ?_⟩) hHeld ?_; rotate_left; (focus rfl); (focus (intro w hSw; (try dsimp only at hSw); go_simp; (try (with_reducible rfl)))); (try simp only [Act.put, List.setIfInBounds_toArray, List.set_cons_zero, List.set_cons_succ]))
            refine wpAnyH_ready (rs := [7]) (by kernel_rfl) (by simp) ?_
            refine AllReadyH.cons (get_of_drop rfl) (fun K hK => ?_) AllReadyH.nil
            have HOR3 := Lib.hid hor3
            have HO2 := Lib.hid ho2
            have HWX := Lib.hid hwx
            have HGX := Lib.hid hgx
            have HVB := Lib.hid hvb
            have HOWN3 := Lib.hid hown3
            have HKEEP := Lib.hid hkeep3
            have HAT := Lib.hid hat
            have HGR := Lib.hid hgrow
            have HB3 := Lib.hid hb3
            clear hor3 ho2 hwx hgx hvb hown3 hkeep3 hat hgrow hb3 hor2 hown hb2
            go_simp
            refine hK.out _ _ trivial (fun hHeld => ?_)
            clear hK K
            try simp only [Act.put, List.setIfInBounds_toArray, List.set_cons_zero, List.set_cons_succ]
            refine wpAnyH_done (by kernel_rfl) ?_ _
            go_wp2
            go_roundw
            case rel =>
              have hkeep4 : ∀ q, q < w2.heap.size → v.ownBlock ≠ some q → q ≠ ob → (w3.setCell ⟨ob, 1, none⟩ (.slice (some ⟨g, 0, none⟩) (us.length + 1) cg)).heap[q]? = w2.heap[q]? := by
                intro q hq h1 h2
                rw [Below.heap_setCell _ _ _ _ h2]
                exact HKEEP.out q hq h1
              refine ⟨k + 1, .slice (some ⟨g, 0, none⟩) (us.length + 1) cg, us ++ [.slice ax m3 cx], fun j => if j = us.length then gx else Bf j, by omega, by simp [HUS.out], by go_num, ?_, ?_, by simp; omega, ?_⟩
              · refine OutK.more (n2' := wr.heap.size) HO2.out hoblt (by omega) (by rw [HUS.out]; exact HX.out) HWX.out HGX.out hsz (fun i hi h0 => ((HOUT.out.2.1 i hi).2 h0).2.1) (fun q hq => (HVB.out q hq).2) (ownsRow_set HOWN3.out _ (fun h => hgob h.symm) _) HAT.out hkeep4 (by simp; omega)
              · exact (HOR3.out.set 1 _).congr (fun j hj => by
                  obtain rfl | rfl | rfl : j = 0 ∨ j = 1 ∨ j = 2 := by omega
                  all_goals rfl)
              · refine HON.out.trans ⟨?_, ?_, ?_, ?_, fun q hq hn => ?_⟩
                · exact HGR.out.os.trans HB3.out.os
                · exact HGR.out.tape.trans HB3.out.tape
                · exact HGR.out.output.trans HB3.out.output
                · simp; omega
                · rw [hkeep4 q (by omega) (fun h => hn (.inr (HVB.out q h).1)) (fun h => hn (.inl h))]
                  exact HB3.out.block q hq
            case measure => simp [intOf] <;> omega
          · refine AllReadyH.cons (get_of_drop rfl) (fun K hK => ?_) AllReadyH.nil
            go_simp
            refine hK.out _ _ trivial (fun hHeld => ?_)
            clear hK K
            try simp only [Act.put, List.setIfInBounds_toArray, List.set_cons_zero, List.set_cons_succ]
            refine wpAnyH_ready (rs := [1]) (by kernel_rfl) (by simp) ?_
            refine AllReadyH.cons (get_of_drop rfl) (fun K hK => ?_) AllReadyH.nil
            go_simp
            refine hK.out _ _ trivial (fun hHeld => ?_)
            clear hK K
            try simp only [Act.put, List.setIfInBounds_toArray, List.set_cons_zero, List.set_cons_succ]
            refine wpAnyH_ready (rs := [5]) (by kernel_rfl) (by simp) ?_
            refine AllReadyH.cons (get_of_drop rfl) (fun K hK => ?_) AllReadyH.nil
            rw [if_pos (by rfl)]
            have hb3 : Below wr.heap.size wr w2 := ((Below.refl wr.heap.size wr).drew).trans hb2
            have ho2 := HOUT.out.below hb3
            have hor2 := rowIs_below HOR.out hb3
            obtain ⟨gx, hwx, hgx⟩ := hown.wi
            have hvb : ∀ q, v.ownBlock = some q → wc.heap.size ≤ q ∧ q < wr.heap.size := fun q hq => World.ownsRow.lt HOUT.out.1 q hq
            obtain ⟨i0, hi, hz0, hz1, hz2⟩ := info_parts Try.infoRow
            have hus16 : us.length ≤ 16 := by have h1 := HUS.out; have h2 := HN1.out; omega
            have hs2 := hb3.size
            refine wp_append_lies _ _ _ 22 rfl wc.heap.size 44 i0 _ 1 24 Try.underlying22 hi hz0 hz1 hz2 rfl (by decide) v us.length us rfl (World.ownsRow.alloc ho2.1 _) ⟨w2.heap.size, 0, none⟩ 1 1 [.slice ax m3 cx] rfl rfl (cell_one_new _ _ _) (by intro u hu; simp at hu; subst hu; rfl) (by decide) (by unfold maxLen; omega) (by omega) (by simp; omega) (w2.heap.size + 1) (by simp) ?_
            intro g cg w3 hown3 hgrow hat hlt3
            have hkeep3 : ∀ q, q < w2.heap.size → v.ownBlock ≠ some q → w3.heap[q]? = w2.heap[q]? := by
              intro q hq hne
              rw [hgrow.block q (by simp; omega) (fun h => hne h.symm)]
              exact Below.heap_alloc w2 _ q hq
            have hobne : v.ownBlock ≠ some ob := fun h => by have := (hvb ob h).1; omega
            have hgob : g ≠ ob := by
              rcases hat with hat | hat
              · intro h; subst h; exact hobne hat
              · omega
            have hor3 := hor2.of_block (hkeep3 ob (by omega) hobne)
            have s1 : w3.cell? ⟨ob, 1, none⟩ = some v := hor3.cell (by decide)
            have s2 := hor3.frozen 1
            have hsz3 : w2.heap.size + 1 ≤ w3.heap.size := by have := hgrow.size; simpa using this
            refine hK.out _ _ trivial (fun hHeld => ?_)
            clear hK K
            try simp only [Act.put, List.setIfInBounds_toArray, List.set_cons_zero, List.set_cons_succ]
            first | (refine wpAnyH_take (i := 6) (get_of_drop rfl) (by kernel_rfl) (by kernel_rfl) (by kernel_rfl) (fun _ _ _ h => h) (Or.inr ⟨?_, rfl⟩) hHeld ?_; (focus (simp [Region.wanted, yielded, undef]; done)); (try simp only [Act.put, List.setIfInBounds_toArray, List.set_cons_zero, List.set_cons_succ])) | (refine wpAnyH_take (i := 6) (v := ?_) (get_of_drop rfl) (by kernel_rfl) (by kernel_rfl) (by kernel_rfl) (fun _ _ _ h => h) (Or.inl ⟨?_, ?_⟩) hHeld ?_; rotate_left; (focus rfl); (focus (intro w hSw; (try dsimp only at hSw); go_simp; (try (with_reducible rfl)))); (try simp only [Act.put, List.setIfInBounds_toArray, List.set_cons_zero, List.set_cons_succ]))
            refine wpAnyH_ready (rs := [7]) (by kernel_rfl) (by simp) ?_
            refine AllReadyH.cons (get_of_drop rfl) (fun K hK => ?_) AllReadyH.nil
            have HOR3 := Lib.hid hor3
            have HO2 := Lib.hid ho2
            have HWX := Lib.hid hwx
            have HGX := Lib.hid hgx
            have HVB := Lib.hid hvb
            have HOWN3 := Lib.hid hown3
            have HKEEP := Lib.hid hkeep3
            have HAT := Lib.hid hat
            have HGR := Lib.hid hgrow
            have HB3 := Lib.hid hb3
            clear hor3 ho2 hwx hgx hvb hown3 hkeep3 hat hgrow hb3 hor2 hown hb2
            go_simp
            refine hK.out _ _ trivial (fun hHeld => ?_)
            clear hK K
            try simp only [Act.put, List.setIfInBounds_toArray, List.set_cons_zero, List.set_cons_succ]
            refine wpAnyH_done (by kernel_rfl) ?_ _
            go_wp2
            go_roundw
            case rel =>
              have hkeep4 : ∀ q, q < w2.heap.size → v.ownBlock ≠ some q → q ≠ ob → (w3.setCell ⟨ob, 1, none⟩ (.slice (some ⟨g, 0, none⟩) (us.length + 1) cg)).heap[q]? = w2.heap[q]? := by
                intro q hq h1 h2
                rw [Below.heap_setCell _ _ _ _ h2]
                exact HKEEP.out q hq h1
              refine ⟨k + 1, .slice (some ⟨g, 0, none⟩) (us.length + 1) cg, us ++ [.slice ax m3 cx], fun j => if j = us.length then gx else Bf j, by omega, by simp [HUS.out], by go_num, ?_, ?_, by simp; omega, ?_⟩
              · refine OutK.more (n2' := wr.heap.size) HO2.out hoblt (by omega) (by rw [HUS.out]; exact HX.out) HWX.out HGX.out hsz (fun i hi h0 => ((HOUT.out.2.1 i hi).2 h0).2.1) (fun q hq => (HVB.out q hq).2) (ownsRow_set HOWN3.out _ (fun h => hgob h.symm) _) HAT.out hkeep4 (by simp; omega)
              · exact (HOR3.out.set 1 _).congr (fun j hj => by
                  obtain rfl | rfl | rfl : j = 0 ∨ j = 1 ∨ j = 2 := by omega
                  all_goals rfl)
              · refine HON.out.trans ⟨?_, ?_, ?_, ?_, fun q hq hn => ?_⟩
                · exact HGR.out.os.trans HB3.out.os
                · exact HGR.out.tape.trans HB3.out.tape
                · exact HGR.out.output.trans HB3.out.output
                · simp; omega
                · rw [hkeep4 q (by omega) (fun h => hn (.inr (HVB.out q h).1)) (fun h => hn (.inl h))]
                  exact HB3.out.block q hq
            case measure => simp [intOf] <;> omega
      · obtain rfl : k = n1 := by omega
        have hbelr : Below w.heap.size w wr := honly.below HB.out (fun q hq => by rcases hq with rfl | hq <;> omega) hlo
        obtain ⟨g, cg, rfl, hg1, hg2⟩ := World.ownsRow.form hout.1 (by rw [hus]; have := HN1.out; omega)
        have hz := HZ.out.of_block (honly.2.2.2.2 (w.heap.size + 1) (World.rowIs.lt HZ.out) (by have hzlt := World.rowIs.lt HZ.out; rintro (h | h) <;> omega))
        have z0 : wr.cell? ⟨w.heap.size + 1, 0, none⟩ = some (.int .i64 0) := hz.cell (by decide)
        have z1 : wr.cell? ⟨w.heap.size + 1, 1, none⟩ = some (.slice none 0 0) := hz.cell (by decide)
        have z2 : wr.cell? ⟨w.heap.size + 1, 2, none⟩ = some (.slice none 0 0) := hz.cell (by decide)
        have zf0 := hz.frozen 0
        have zf1 := hz.frozen 1
        have zf2 := hz.frozen 2
        have o0 : wr.cell? ⟨ob, 0, none⟩ = some (.int .i64 al) := hor.cell (by decide)
        have o1 : wr.cell? ⟨ob, 1, none⟩ = some (.slice (some ⟨g, 0, none⟩) us.length cg) := hor.cell (by decide)
        have o2 : wr.cell? ⟨ob, 2, none⟩ = some (.slice ao n2 cc) := hor.cell (by decide)
        have HOUT := Lib.hid hout
        have HON := Lib.hid honly
        have HBR := Lib.hid hbelr
        have HZR := Lib.hid hz
        clear hout honly hbelr hz hor
        have HUS := Lib.hid hus; clear hus
        go_wp2
        obtain ⟨wf, hwf⟩ : ∃ wf, (((wr.setCell ⟨w.heap.size + 1, 0, none⟩ (.int .i64 al)).setCell ⟨w.heap.size + 1, 1, none⟩ (.slice (some ⟨g, 0, none⟩) us.length cg)).setCell ⟨w.heap.size + 1, 2, none⟩ (.slice ao n2 cc)) = wf := ⟨_, rfl⟩
        have hfin := store3 HZR.out (.int .i64 al) (.slice (some ⟨g, 0, none⟩) us.length cg) (.slice ao n2 cc)
        have hbut : But (w.heap.size + 1) wr wf := by rw [← hwf]; exact (((But.refl (w.heap.size + 1) wr).set 0 _).set 1 _).set 2 _
        rw [hwf] at hfin ⊢
        clear hwf
        have f0 : wf.cell? ⟨w.heap.size + 1, 0, none⟩ = some (.int .i64 al) := hfin.cell (by decide)
        have f1 : wf.cell? ⟨w.heap.size + 1, 1, none⟩ = some (.slice (some ⟨g, 0, none⟩) us.length cg) := hfin.cell (by decide)
        have f2 : wf.cell? ⟨w.heap.size + 1, 2, none⟩ = some (.slice ao n2 cc) := hfin.cell (by decide)
        refine bodyPost_ret (v := .agg #[.int .i64 al, .slice (some ⟨g, 0, none⟩) us.length cg, .slice ao n2 cc]) ?_ rfl ?_
        · simp [results, Try.results49, go_sem, f0, f1, f2]
        · have hn : us.length = xss.length := by rw [HUS.out, HN1.out]
          have hb1lt : b1 < wc.heap.size := by
            obtain ⟨q1, q2, q3, q4, q5, q6⟩ := HW.out
            rcases q6 with q6 | ⟨-, q6, -⟩
            · omega
            · exact q6
          have ho := Only.of_but hbut
          have hwb := (HW.out.only HON.out (fun _ h => by rcases h with h | h <;> omega)).only ho (fun _ h => by omega)
          have hbl : ∀ i, i < xss.length → (xss[i]?.getD []).length ≠ 0 → wc.heap.size ≤ Bf i ∧ Bf i < wr.heap.size ∧ g ≠ Bf i := by
            intro i hi h0
            obtain ⟨q1, q2, q3⟩ := (HOUT.out.2.1 i (by rw [hn]; exact hi)).2 h0
            exact ⟨q1, q2, fun h => q3 (by rw [← h]; rfl)⟩
          refine ⟨g, b1, Bf, _, _, rfl, ⟨?_, hwb, by omega, fun i hi h0 => by have := (hbl i hi h0).1; omega, fun i hi h0 => by have h1 := (hbl i hi h0).2.1; have h2 := hbut.2.2.2.1; omega⟩, by omega, by omega, fun i hi h0 => by have := (hbl i hi h0).1; omega, ?_⟩
          · refine ⟨some ⟨g, 0, none⟩, cg, by rw [hn], ?_, ?_, .inr ⟨0, rfl, by have := hbut.2.2.2.1; omega, fun i hi => ?_⟩, fun i j hi hj h1 h2 he => HOUT.out.2.2 i j (by rw [hn]; exact hi) (by rw [hn]; exact hj) h1 h2 he, fun i hi h0 => fun h => (hbl i hi h0).2.2 h.symm⟩
            · rcases HOUT.out.1.2 with ⟨q, -⟩ | ⟨g', cap', cur, hv', hB', hg', hc', hm', hs', ht'⟩
              · cases q
              · injection hv' with q1 q2 q3
                rw [← hn, q3]; exact hc'
            · rcases HOUT.out.1.2 with ⟨q, -⟩ | ⟨g', cap', cur, hv', hB', hg', hc', hm', hs', ht'⟩
              · cases q
              · injection hv' with q1 q2 q3
                rw [q3]; exact hm'
            · have hi' : i < us.length := by rw [hn]; exact hi
              refine ⟨us[i]?.getD undef, ?_, (HOUT.out.2.1 i hi').1.only ho (fun h0 => by have := (hbl i hi h0).1; omega)⟩
              rw [Nat.zero_add, World.cell?_of_block (w := wr) (w' := wf) (a := ⟨g, i, none⟩) (hbut.2.2.2.2 g hg2 (by omega))]
              rw [World.ownsRow.cellAt HOUT.out.1 i (by omega)]
              simp [List.getElem?_eq_getElem hi']
          · exact hbut.below HBR.out (by omega) (by have := HBR.out.size; omega)
end Go.Proofs.Ytagegbhchljggaa
