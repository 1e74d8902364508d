/- The walk of the law on ParseSystem. -/
import Derived.Test.YtnjakhojdhkihaaGreatDoorSysExact
import Derived.Test.YtnjakhojdhkihaaGreatDoorFMark
import Derived.Test.YtnjakhojdhkihaaGreatDoorFParseI
namespace Go.Proofs.YtnjakhojdhkihaaGreatDoor
open Go.RowKit
set_option linter.unusedVariables false
set_option linter.unusedSimpArgs false
set_option maxRecDepth 100000

/-- Edges that lie in the block b from its first cell on; they may be written. -/
def EG (w : World) (b : Nat) (v : Value) (es : List Edg) : Prop :=
  ∃ ao cap, v = .slice ao es.length cap ∧ es.length ≤ cap ∧ cap ≤ maxLen ∧ (es.length = 0 ∨ (ao = some ⟨b, 0, none⟩ ∧ b < w.heap.size ∧ (∀ k, MC b k 0 (es.length * 3) w) ∧ EV w v es))
theorem EG.ev {w : World} {b : Nat} {v : Value} {es : List Edg} (h : EG w b v es) : EV w v es := by
  obtain ⟨ao, cap, rfl, h1, h2, h3⟩ := h
  rcases h3 with h3 | ⟨-, -, -, h3⟩
  · exact ⟨ao, cap, rfl, h1, h2, .inl h3⟩
  · exact h3
theorem EG.block {w w' : World} {b : Nat} {v : Value} {es : List Edg} (h : EG w b v es) (hs : w.heap.size ≤ w'.heap.size) (hk : b < w.heap.size → es.length ≠ 0 → w'.heap[b]? = w.heap[b]?) : EG w' b v es := by
  obtain ⟨ao, cap, rfl, h1, h2, h3⟩ := h
  refine ⟨ao, cap, rfl, h1, h2, ?_⟩
  by_cases h0 : es.length = 0
  · exact .inl h0
  · rcases h3 with h3 | ⟨rfl, hb, hm, hv⟩
    · exact absurd h3 h0
    · have hkb := hk hb h0
      refine .inr ⟨rfl, Nat.lt_of_lt_of_le hb hs, fun k => (hm k).block hkb, ?_⟩
      obtain ⟨ao', cap', he, g1, g2, g3⟩ := hv
      refine ⟨ao', cap', he, g1, g2, ?_⟩
      rcases g3 with g3 | ⟨b', off, he', g4, g5⟩
      · exact .inl g3
      · injection he with e1 e2 e3
        rw [he'] at e1
        injection e1 with e1
        injection e1 with e1 e4
        subst e1
        subst e4
        refine .inr ⟨b, 0, he', Nat.lt_of_lt_of_le g4 hs, fun i hi => ?_⟩
        rw [World.cell?_of_block (w := w) (w' := w') hkb, World.cell?_of_block (w := w) (w' := w') hkb, World.cell?_of_block (w := w) (w' := w') hkb]
        exact g5 i hi
theorem EG.below {w w' : World} {b : Nat} {v : Value} {es : List Edg} (h : EG w b v es) (hb : Below w.heap.size w w') : EG w' b v es := h.block hb.size (fun hlt _ => hb.block b hlt)
theorem EG.onl {S : Nat → Prop} {w w' : World} {b : Nat} {v : Value} {es : List Edg} (h : EG w b v es) (ho : Onl S w w') (hS : es.length ≠ 0 → ¬ S b) : EG w' b v es := h.block ho.2.2.2.1 (fun hlt h0 => ho.2.2.2.2 b hlt (hS h0))
theorem ER.eg {w : World} {b : Nat} {es : List Edg} (h : ER w b es) (hl : es.length ≤ 1048576) : EG w b (.slice (some ⟨b, 0, none⟩) es.length es.length) es :=
  ⟨_, _, rfl, Nat.le_refl _, by unfold maxLen; omega, .inr ⟨rfl, World.rowIs.lt h, fun k => rowIs_MC h, h.view hl⟩⟩
theorem EOwn.eg {B : Nat} {w : World} {v : Value} {es : List Edg} (h : EOwn B w v es) (hB : 0 < B) : ∃ b, (es.length ≠ 0 → B ≤ b ∧ b < w.heap.size) ∧ EG w b v es := by
  have hv := (h.evr hB).ev
  obtain ⟨ao, cap, he, h1, h2, h3⟩ := hv
  by_cases h0 : es.length = 0
  · exact ⟨0, fun hn => absurd h0 hn, ao, cap, he, h1, h2, .inl h0⟩
  · rcases h.2 with ⟨rfl, hz⟩ | ⟨g, c, cur, hvv, hBg, hg, hc, hm, hs, ht⟩
    · exact absurd hz h0
    · subst hvv
      injection he with e1 e2 e3
      subst e1
      subst e3
      have hlt : g < w.heap.size := (Array.getElem?_eq_some_iff.1 hg).1
      refine ⟨g, fun _ => ⟨hBg, hlt⟩, _, c, rfl, h1, h2, .inr ⟨rfl, hlt, fun k j hj => ?_, (h.evr hB).ev⟩⟩
      have hc := World.ownsRow.cellAt h j hj
      have hlj : j < (eflat es).length := by rw [eflat_len]; exact hj
      rw [List.getElem?_eq_getElem hlj] at hc
      refine ⟨_, hc, fun h0 => absurd h0 (Nat.not_lt_zero _), ?_⟩
      unfold World.frozen?
      rw [hg]
      simp
theorem EG.marks {w : World} {b n c : Nat} {a : Option Addr} {es : List Edg} (h : EG w b (.slice a n c) es) (k : Int) : (n ≠ 0 → a = some ⟨b, 0, none⟩) ∧ (n ≠ 0 → b < w.heap.size) ∧ (n ≠ 0 → MC b k 0 (n * 3) w) := by
  obtain ⟨ao, cap, he, h1, h2, h3⟩ := h
  injection he with e1 e2 e3
  subst e1
  subst e2
  rcases h3 with h3 | ⟨q1, q2, q3, -⟩
  · exact ⟨fun h => absurd h3 h, fun h => absurd h3 h, fun h => absurd h3 h⟩
  · exact ⟨fun _ => q1, fun _ => q2, fun _ => q3 k⟩
theorem target (l : List UInt8) : ∃ al0 st0 es0, Canon l al0 st0 es0 ∨ ∀ al st es, ¬ Canon l al st es := by
  by_cases h : ∃ al st es, Canon l al st es
  · obtain ⟨al, st, es, h⟩ := h
    exact ⟨al, st, es, .inl h⟩
  · exact ⟨0, 0, [], .inr (fun al st es hc => h ⟨al, st, es, hc⟩)⟩
theorem pf_unique {l : List UInt8} {al0 st0 al st al2 st2 : Int} {es0 es es2 : List Edg} {b b2 : Bool} (hT : Canon l al0 st0 es0 ∨ ∀ al st es, ¬ Canon l al st es) (h : PF l al0 st0 es0 al st es b) (h2 : PF l al0 st0 es0 al2 st2 es2 b2) : al = al2 ∧ st = st2 ∧ es = es2 ∧ b = b2 := by
  rcases hT with hT | hT
  · obtain ⟨h3, h4, h5, h6⟩ := h.2.2 hT
    obtain ⟨q3, q4, q5, q6⟩ := h2.2.2 hT
    exact ⟨h3.trans q3.symm, h4.trans q4.symm, h5.trans q5.symm, h6.trans q6.symm⟩
  · cases b with
    | true => exact absurd (h.1 rfl) (hT _ _ _)
    | false =>
      cases b2 with
      | true => exact absurd (h2.1 rfl) (hT _ _ _)
      | false =>
        obtain ⟨h3, h4, h5⟩ := h.2.1 rfl
        obtain ⟨q3, q4, q5⟩ := h2.2.1 rfl
        exact ⟨h3.trans q3.symm, h4.trans q4.symm, h5.trans q5.symm, rfl⟩
set_option maxHeartbeats 8000000 in
theorem fnExactParseSystem_walk (s : ByteArray) (ws : s.size ≤ maxLen) (w : World) (hv : Vars w) : Calls Tryz.prog 3 #[.string s] w fun e w' => e = .returned (.bool true) ∧ Below w.heap.size w w' := by
  unfold maxLen at ws
  by_cases hl : 1048576 < s.size
  · have hl' : (1048576 : Int) < (s.size : Int) := by omega
    go_enter Tryz.func3, Tryz.ntmps3
    go_wp2
    go_ret
    exact ⟨rfl, Below.refl _ _⟩
  have hl' : (s.size : Int) ≤ 1048576 := by omega
  have hs : s.size ≤ 1048576 := by omega
  have hw0 : 0 < w.heap.size := by
    obtain ⟨⟨m, hm⟩, -⟩ := hv
    exact Nat.lt_of_le_of_lt (Nat.zero_le _) (cell_lt hm)
  obtain ⟨al0, st0, es0, hT⟩ := target s.data.toList
  have HT := Lib.hid hT; clear hT
  have HV := Lib.hid hv; clear hv
  clear hl ws
  go_enter Tryz.func3, Tryz.ntmps3
  go_wp2_with fail
  refine (specParseSys_for al0 st0 es0 s hs w).mono ?_
  rintro e w1 ⟨al, st, a, n, c, es, b, rfl, hn, hes, ho, hb1, hpf⟩
  obtain ⟨ob, hob, hog⟩ := ho.eg hw0
  have HPF := Lib.hid hpf; clear hpf
  have HN := Lib.hid hn; clear hn
  have HOB := Lib.hid hob; clear hob
  have B1 := Lib.hid hb1
  have O1 := Lib.hid hog
  have hz1 := hb1.size
  clear hb1 hog ho
  have hbx : Below w1.heap.size w1 (w1.alloc (.cells #[.int .i64 al, .int .i64 st, .slice a n c] 24)) := below_new' _ _ _
  have hrx := sys_cells w1 al st (.slice a n c) 24
  obtain ⟨xw, hxw⟩ : ∃ xw, w1.heap.size = xw := ⟨_, rfl⟩
  rw [hxw] at hrx
  obtain ⟨w2, hw2⟩ : ∃ w2, (w1.alloc (.cells #[.int .i64 al, .int .i64 st, .slice a n c] 24)) = w2 := ⟨_, rfl⟩
  have hz2 : w2.heap.size = xw + 1 := by rw [← hw2, ← hxw]; simp
  rw [hw2] at hbx hrx
  have XW2 := Lib.hid hrx
  have O2 := Lib.hid (O1.out.below hbx)
  have B2 := Lib.hid (B1.out.trans (hbx.mono B1.out.size))
  clear hbx hrx
  go_wp2_with fail
  refine (implParseSys_for al0 st0 es0 s hs w2 (HV.out.below B2.out)).mono ?_
  rintro e w3 ⟨al2, st2, a2, n2, c2, es2, b2, rfl, hn2, hes2, ho2, hb3, hpf2⟩
  obtain ⟨rfl, rfl, rfl, rfl⟩ := pf_unique HT.out HPF.out hpf2
  obtain ⟨gb, hgb, hog⟩ := ho2.eg (by omega)
  have XW3 := Lib.hid (rowIs_below' XW2.out hb3)
  have O3 := Lib.hid (O2.out.below hb3)
  have B3 := Lib.hid (B2.out.trans (hb3.mono B2.out.size))
  have G3 := Lib.hid hog
  have hz3 := hb3.size
  have HGB := Lib.hid hgb; clear hgb
  have HN2 := Lib.hid hn2; clear hn2
  clear hb3 hog ho2 hpf2
  have hbx : Below w3.heap.size w3 (w3.alloc (.cells #[.int .i64 al, .int .i64 st, .slice a2 n2 c2] 24)) := below_new' _ _ _
  have hrx := sys_cells w3 al st (.slice a2 n2 c2) 24
  obtain ⟨xg, hxg⟩ : ∃ xg, w3.heap.size = xg := ⟨_, rfl⟩
  rw [hxg] at hrx
  obtain ⟨w4, hw4⟩ : ∃ w4, (w3.alloc (.cells #[.int .i64 al, .int .i64 st, .slice a2 n2 c2] 24)) = w4 := ⟨_, rfl⟩
  have hz4 : w4.heap.size = xg + 1 := by rw [← hw4, ← hxg]; simp
  rw [hw4] at hbx hrx
  have XG4 := Lib.hid hrx
  have XW4 := Lib.hid (rowIs_below' XW3.out hbx)
  have O4 := Lib.hid (O3.out.below hbx)
  have G4 := Lib.hid (G3.out.below hbx)
  have B4 := Lib.hid (B3.out.trans (hbx.mono B3.out.size))
  clear hbx hrx
  have v0 : w4.cell? ⟨xw, 0, none⟩ = some (.int .i64 al) := XW4.out.cell (by decide)
  have v1 : w4.cell? ⟨xw, 1, none⟩ = some (.int .i64 st) := XW4.out.cell (by decide)
  have v2 : w4.cell? ⟨xw, 2, none⟩ = some (.slice a n c) := XW4.out.cell (by decide)
  have g0 : w4.cell? ⟨xg, 0, none⟩ = some (.int .i64 al) := XG4.out.cell (by decide)
  have g1 : w4.cell? ⟨xg, 1, none⟩ = some (.int .i64 st) := XG4.out.cell (by decide)
  have g2 : w4.cell? ⟨xg, 2, none⟩ = some (.slice a2 n2 c2) := XG4.out.cell (by decide)
  have hbb : (b != b) = false := by cases b <;> rfl
  go_wp2_with fail
  refine (eqSys_same al st _ _ _ _ _ _ es _ G4.out.ev O4.out.ev).mono ?_
  rintro e w5 ⟨rfl, hb5⟩
  have XW5 := Lib.hid (rowIs_below' XW4.out hb5)
  have XG5 := Lib.hid (rowIs_below' XG4.out hb5)
  have O5 := Lib.hid (O4.out.below hb5)
  have G5 := Lib.hid (G4.out.below hb5)
  have B5 := Lib.hid (B4.out.trans (hb5.mono B4.out.size))
  clear hb5 v0 v1 v2 g0 g1 g2
  have g0 : w5.cell? ⟨xg, 0, none⟩ = some (.int .i64 al) := XG5.out.cell (by decide)
  have g1 : w5.cell? ⟨xg, 1, none⟩ = some (.int .i64 st) := XG5.out.cell (by decide)
  have g2 : w5.cell? ⟨xg, 2, none⟩ = some (.slice a2 n2 c2) := XG5.out.cell (by decide)
  have hn2m : n2 ≤ 1048576 := by rw [HN2.out]; omega
  have hgm := G5.out.marks 1
  have hne : ∀ q, (n2 ≠ 0 ∧ q = gb) → xw + 1 ≤ q ∧ q < xg := fun q e => by
    have h1 := HGB.out (by rw [← HN2.out]; exact e.1)
    have h2 := e.2
    omega
  obtain ⟨M2, hM2⟩ : ∃ M2 : Int, 1 + ((n2 * 3 : Nat) : Int) = M2 := ⟨_, rfl⟩
  have hM20 : decide (M2 < 0) = false := by rw [decide_eq_false_iff_not]; omega
  have hMM : (M2 != M2) = false := by simp
  go_wp2_with fail
  refine (markSystem_any al st gb _ _ _ 1 _ hgm.1 hn2m hgm.2.1 hgm.2.2 (by omega) (by omega)).mono ?_
  rintro e w6 ⟨rfl, hmc, ho⟩
  rw [hM2]
  have HELD := Lib.hid (fun (wq : World) (hs : w6.heap.size ≤ wq.heap.size) (hk : n2 ≠ 0 → wq.heap[gb]? = w6.heap[gb]?) => hM2 ▸ heldSystem_any al st gb a2 n2 c2 1 wq hgm.1 hn2m (fun h => Nat.lt_of_lt_of_le (hgm.2.1 h) (Nat.le_trans ho.2.2.2.1 hs)) (fun h => (hmc h).block (hk h)) (by omega) (by omega))
  have hgb6 : n2 ≠ 0 → gb < w6.heap.size := fun h => Nat.lt_of_lt_of_le (hgm.2.1 h) ho.2.2.2.1
  have XW6 := Lib.hid (ho.row XW5.out (fun e => by have := hne _ e; omega))
  have XG6 := Lib.hid (ho.row XG5.out (fun e => by have := hne _ e; omega))
  have O6 := Lib.hid (O5.out.onl ho (fun h0 e => by have h1 := HOB.out h0; have h2 := hne _ e; omega))
  have B6 := Lib.hid (below_onl B5.out ho (fun q e => by have h2 := hne _ e; omega))
  clear ho hmc g0 g1 g2 hM2 hgm
  have g0 : w6.cell? ⟨xg, 0, none⟩ = some (.int .i64 al) := XG6.out.cell (by decide)
  have g1 : w6.cell? ⟨xg, 1, none⟩ = some (.int .i64 st) := XG6.out.cell (by decide)
  have g2 : w6.cell? ⟨xg, 2, none⟩ = some (.slice a2 n2 c2) := XG6.out.cell (by decide)
  go_wp2_with fail
  refine (HELD.out w6 (Nat.le_refl _) (fun _ => rfl)).mono ?_
  rintro e w7 ⟨rfl, hb7⟩
  have XW7 := Lib.hid (rowIs_below' XW6.out hb7)
  have XG7 := Lib.hid (rowIs_below' XG6.out hb7)
  have O7 := Lib.hid (O6.out.below hb7)
  have B7 := Lib.hid (B6.out.trans (hb7.mono B6.out.size))
  have L7 := Lib.hid hb7
  clear hb7 g0 g1 g2
  go_wp2_with fail
  refine (implParseSys_for al0 st0 es0 s hs w7 (HV.out.below B7.out)).mono ?_
  rintro e w8 ⟨al3, st3, a3, n3, c3, es3, b3, rfl, hn3, hes3, ho3, hb8, hpf3⟩
  obtain ⟨rfl, rfl, rfl, rfl⟩ := pf_unique HT.out HPF.out hpf3
  have XW8 := Lib.hid (rowIs_below' XW7.out hb8)
  have XG8 := Lib.hid (rowIs_below' XG7.out hb8)
  have O8 := Lib.hid (O7.out.below hb8)
  have B8 := Lib.hid (B7.out.trans (hb8.mono B7.out.size))
  have L8 := Lib.hid (L7.out.trans (hb8.mono L7.out.size))
  have E8 := Lib.hid ((ho3.evr (R := 0) (Nat.lt_of_lt_of_le hw0 B7.out.size)).ev)
  have HN3 := Lib.hid hn3; clear hn3
  clear hb8 ho3 hpf3
  have hbx : Below w8.heap.size w8 (w8.alloc (.cells #[.int .i64 al, .int .i64 st, .slice a3 n3 c3] 24)) := below_new' _ _ _
  have hrx := sys_cells w8 al st (.slice a3 n3 c3) 24
  obtain ⟨xh, hxh⟩ : ∃ xh, w8.heap.size = xh := ⟨_, rfl⟩
  rw [hxh] at hrx
  obtain ⟨w9, hw9⟩ : ∃ w9, (w8.alloc (.cells #[.int .i64 al, .int .i64 st, .slice a3 n3 c3] 24)) = w9 := ⟨_, rfl⟩
  have hz9 : w9.heap.size = xh + 1 := by rw [← hw9, ← hxh]; simp
  rw [hw9] at hbx hrx
  have XH9 := Lib.hid hrx
  have XW9 := Lib.hid (rowIs_below' XW8.out hbx)
  have XG9 := Lib.hid (rowIs_below' XG8.out hbx)
  have O9 := Lib.hid (O8.out.below hbx)
  have E9 := Lib.hid (E8.out.below hbx)
  have B9 := Lib.hid (B8.out.trans (hbx.mono B8.out.size))
  have L9 := Lib.hid (L8.out.trans (hbx.mono L8.out.size))
  clear hbx hrx
  have h0 : w9.cell? ⟨xh, 0, none⟩ = some (.int .i64 al) := XH9.out.cell (by decide)
  have h1 : w9.cell? ⟨xh, 1, none⟩ = some (.int .i64 st) := XH9.out.cell (by decide)
  have h2 : w9.cell? ⟨xh, 2, none⟩ = some (.slice a3 n3 c3) := XH9.out.cell (by decide)
  have v0 : w9.cell? ⟨xw, 0, none⟩ = some (.int .i64 al) := XW9.out.cell (by decide)
  have v1 : w9.cell? ⟨xw, 1, none⟩ = some (.int .i64 st) := XW9.out.cell (by decide)
  have v2 : w9.cell? ⟨xw, 2, none⟩ = some (.slice a n c) := XW9.out.cell (by decide)
  go_wp2_with fail
  refine (eqSys_same al st _ _ _ _ _ _ es _ E9.out O9.out.ev).mono ?_
  rintro e w10 ⟨rfl, hb10⟩
  have XG10 := Lib.hid (rowIs_below' XG9.out hb10)
  have B10 := Lib.hid (B9.out.trans (hb10.mono B9.out.size))
  have L10 := Lib.hid (L9.out.trans (hb10.mono L9.out.size))
  clear hb10 h0 h1 h2 v0 v1 v2
  have g0 : w10.cell? ⟨xg, 0, none⟩ = some (.int .i64 al) := XG10.out.cell (by decide)
  have g1 : w10.cell? ⟨xg, 1, none⟩ = some (.int .i64 st) := XG10.out.cell (by decide)
  have g2 : w10.cell? ⟨xg, 2, none⟩ = some (.slice a2 n2 c2) := XG10.out.cell (by decide)
  go_wp2_with fail
  refine (HELD.out w10 L10.out.size (fun h => L10.out.block gb (hgb6 h))).mono ?_
  rintro e w11 ⟨rfl, hb11⟩
  have B11 := Lib.hid (B10.out.trans (hb11.mono B10.out.size))
  go_wp2
  go_ret
  exact ⟨rfl, B11.out⟩
end Go.Proofs.YtnjakhojdhkihaaGreatDoor
