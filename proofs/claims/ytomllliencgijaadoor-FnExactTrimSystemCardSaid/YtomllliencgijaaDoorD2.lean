/- The walk of the law on TrimSystem. -/
import Derived.Test.YtomllliencgijaaDoorSysExact
import Derived.Test.YtomllliencgijaaDoorEMark


namespace Go.Proofs.YtomllliencgijaaDoor
open Go.RowKit
set_option linter.unusedVariables false
set_option linter.unusedSimpArgs false
set_option maxRecDepth 100000

/-- Edges that lie in the block b from its first cell on; they may be written. -/
def EG (w : World) (b : Nat) (v : Value) (es : List Edg) : Prop :=
  ∃ ao cap, v = .slice ao es.length cap ∧ es.length ≤ cap ∧ cap ≤ maxLen ∧ (es.length = 0 ∨ (ao = some ⟨b, 0, none⟩ ∧ b < w.heap.size ∧ (∀ k, MC b k 0 (es.length * 3) w) ∧ EV w v es))
theorem EG.ev {w : World} {b : Nat} {v : Value} {es : List Edg} (h : EG w b v es) : EV w v es := by
  obtain ⟨ao, cap, rfl, h1, h2, h3⟩ := h
  rcases h3 with h3 | ⟨-, -, -, h3⟩
  · exact ⟨ao, cap, rfl, h1, h2, .inl h3⟩
  · exact h3
theorem EG.block {w w' : World} {b : Nat} {v : Value} {es : List Edg} (h : EG w b v es) (hs : w.heap.size ≤ w'.heap.size) (hk : b < w.heap.size → es.length ≠ 0 → w'.heap[b]? = w.heap[b]?) : EG w' b v es := by
  obtain ⟨ao, cap, rfl, h1, h2, h3⟩ := h
  refine ⟨ao, cap, rfl, h1, h2, ?_⟩
  by_cases h0 : es.length = 0
  · exact .inl h0
  · rcases h3 with h3 | ⟨rfl, hb, hm, hv⟩
    · exact absurd h3 h0
    · have hkb := hk hb h0
      refine .inr ⟨rfl, Nat.lt_of_lt_of_le hb hs, fun k => (hm k).block hkb, ?_⟩
      obtain ⟨ao', cap', he, g1, g2, g3⟩ := hv
      refine ⟨ao', cap', he, g1, g2, ?_⟩
      rcases g3 with g3 | ⟨b', off, he', g4, g5⟩
      · exact .inl g3
      · injection he with e1 e2 e3
        rw [he'] at e1
        injection e1 with e1
        injection e1 with e1 e4
        subst e1
        subst e4
        refine .inr ⟨b, 0, he', Nat.lt_of_lt_of_le g4 hs, fun i hi => ?_⟩
        rw [World.cell?_of_block (w := w) (w' := w') hkb, World.cell?_of_block (w := w) (w' := w') hkb, World.cell?_of_block (w := w) (w' := w') hkb]
        exact g5 i hi
theorem EG.below {w w' : World} {b : Nat} {v : Value} {es : List Edg} (h : EG w b v es) (hb : Below w.heap.size w w') : EG w' b v es := h.block hb.size (fun hlt _ => hb.block b hlt)
theorem EG.onl {S : Nat → Prop} {w w' : World} {b : Nat} {v : Value} {es : List Edg} (h : EG w b v es) (ho : Onl S w w') (hS : es.length ≠ 0 → ¬ S b) : EG w' b v es := h.block ho.2.2.2.1 (fun hlt h0 => ho.2.2.2.2 b hlt (hS h0))
theorem ER.eg {w : World} {b : Nat} {es : List Edg} (h : ER w b es) (hl : es.length ≤ 1048576) : EG w b (.slice (some ⟨b, 0, none⟩) es.length es.length) es :=
  ⟨_, _, rfl, Nat.le_refl _, by unfold maxLen; omega, .inr ⟨rfl, World.rowIs.lt h, fun k => rowIs_MC h, h.view hl⟩⟩
theorem EOwn.eg {B : Nat} {w : World} {v : Value} {es : List Edg} (h : EOwn B w v es) (hB : 0 < B) : ∃ b, (es.length ≠ 0 → B ≤ b ∧ b < w.heap.size) ∧ EG w b v es := by
  have hv := (h.evr hB).ev
  obtain ⟨ao, cap, he, h1, h2, h3⟩ := hv
  by_cases h0 : es.length = 0
  · exact ⟨0, fun hn => absurd h0 hn, ao, cap, he, h1, h2, .inl h0⟩
  · rcases h.2 with ⟨rfl, hz⟩ | ⟨g, c, cur, hvv, hBg, hg, hc, hm, hs, ht⟩
    · exact absurd hz h0
    · subst hvv
      injection he with e1 e2 e3
      subst e1
      subst e3
      have hlt : g < w.heap.size := (Array.getElem?_eq_some_iff.1 hg).1
      refine ⟨g, fun _ => ⟨hBg, hlt⟩, _, c, rfl, h1, h2, .inr ⟨rfl, hlt, fun k j hj => ?_, (h.evr hB).ev⟩⟩
      have hc := World.ownsRow.cellAt h j hj
      have hlj : j < (eflat es).length := by rw [eflat_len]; exact hj
      rw [List.getElem?_eq_getElem hlj] at hc
      refine ⟨_, hc, fun h0 => absurd h0 (Nat.not_lt_zero _), ?_⟩
      unfold World.frozen?
      rw [hg]
      simp
theorem EG.marks {w : World} {b n c : Nat} {a : Option Addr} {es : List Edg} (h : EG w b (.slice a n c) es) (k : Int) : (n ≠ 0 → a = some ⟨b, 0, none⟩) ∧ (n ≠ 0 → b < w.heap.size) ∧ (n ≠ 0 → MC b k 0 (n * 3) w) := by
  obtain ⟨ao, cap, he, h1, h2, h3⟩ := h
  injection he with e1 e2 e3
  subst e1
  subst e2
  rcases h3 with h3 | ⟨q1, q2, q3, -⟩
  · exact ⟨fun h => absurd h3 h, fun h => absurd h3 h, fun h => absurd h3 h⟩
  · exact ⟨fun _ => q1, fun _ => q2, fun _ => q3 k⟩
set_option maxHeartbeats 8000000 in
theorem fnExactTrimSystem_walk (al st : Int) (a1 : Option Addr) (n1 c1 : Nat) (es : List Edg) (w : World) (hT : Tab w) (h : EV w (.slice a1 n1 c1) es) :
    Calls Tryd.prog 8 #[.agg #[.int .i64 al, .int .i64 st, .slice a1 n1 c1]] w fun e w' => e = .returned (.bool true) ∧ Below w.heap.size w w' := by
  have HT := Lib.hid hT; clear hT
  have H := Lib.hid h; clear h
  have B0 := Lib.hid (below_new' w 24 #[.int .i64 al, .int .i64 st, .slice a1 n1 c1])
  have R0 := Lib.hid (sys_cells w al st (.slice a1 n1 c1) 24)
  go_enter Tryd.func8, Tryd.ntmps8
  go_wp2_with fail
  refine (szSys_any al st a1 n1 c1 es 1048576 _ (EV.below H.out B0.out) (by omega) (by omega)).mono ?_
  rintro e w1 ⟨r, rfl, hr, hall, hb1⟩
  have HALL := Lib.hid hall; clear hall
  have B1 := Lib.hid (B0.out.trans (hb1.mono B0.out.size))
  have R1 := Lib.hid (rowIs_below' R0.out hb1)
  clear hb1
  by_cases hs : r < 0
  · go_wp2
    go_ret
    exact ⟨rfl, B1.out⟩
  have hs0 : 0 ≤ r := by omega
  clear hs
  have hm := HALL.out hs0
  clear HALL R0 B0
  have c10 : w1.cell? ⟨w.heap.size, 0, none⟩ = some (.int .i64 al) := R1.out.cell (by decide)
  have c11 : w1.cell? ⟨w.heap.size, 1, none⟩ = some (.int .i64 st) := R1.out.cell (by decide)
  have c12 : w1.cell? ⟨w.heap.size, 2, none⟩ = some (.slice a1 n1 c1) := R1.out.cell (by decide)
  go_wp2_with fail
  refine (toSys_any al st a1 n1 c1 es _ (EV.below H.out B1.out) hm).mono ?_
  rintro e w2 ⟨p2, rfl, hr2, hlo2, hb2⟩
  have B2 := Lib.hid (B1.out.trans (hb2.mono B1.out.size))
  have R2 := Lib.hid (rowIs_below' R1.out hb2)
  have hv2 := ER.view hr2 hm
  have HV2 := Lib.hid hv2; clear hv2
  clear c10 c11 c12
  have c20 : w2.cell? ⟨w.heap.size, 0, none⟩ = some (.int .i64 al) := R2.out.cell (by decide)
  have c21 : w2.cell? ⟨w.heap.size, 1, none⟩ = some (.int .i64 st) := R2.out.cell (by decide)
  have c22 : w2.cell? ⟨w.heap.size, 2, none⟩ = some (.slice a1 n1 c1) := R2.out.cell (by decide)
  have hw2 : 0 < w2.heap.size := Nat.lt_of_le_of_lt (Nat.zero_le _) (World.rowIs.lt hr2)
  go_wp2_with fail
  refine (specTrim_any al st _ _ _ es _ HV2.out).mono ?_
  rintro e w3 ⟨al', st', a, n, c, es', b, rfl, hn, ho, hb3, htp⟩
  obtain ⟨ob, hob, hog⟩ := (ho _ (Nat.le_refl _)).eg hw2
  have HTP := Lib.hid htp; clear htp
  have HN := Lib.hid hn; clear hn
  have HOB := Lib.hid hob; clear hob
  have B3 := Lib.hid (B2.out.trans (hb3.mono B2.out.size))
  have R3 := Lib.hid (rowIs_below' R2.out hb3)
  clear c20 c21 c22
  have c30 : w3.cell? ⟨w.heap.size, 0, none⟩ = some (.int .i64 al) := R3.out.cell (by decide)
  have c31 : w3.cell? ⟨w.heap.size, 1, none⟩ = some (.int .i64 st) := R3.out.cell (by decide)
  have c32 : w3.cell? ⟨w.heap.size, 2, none⟩ = some (.slice a1 n1 c1) := R3.out.cell (by decide)
  have O3 := Lib.hid hog
  clear hb3 hb2 hr2 ho hog
  have hbx : Below w3.heap.size w3 (w3.alloc (.cells #[.int .i64 al', .int .i64 st', .slice a n c] 29)) := below_new' _ _ _
  have hrx := sys_cells w3 al' st' (.slice a n c) 29
  obtain ⟨xw, hxw⟩ : ∃ xw, w3.heap.size = xw := ⟨_, rfl⟩
  rw [hxw] at hrx
  obtain ⟨w4, hw4⟩ : ∃ w4, (w3.alloc (.cells #[.int .i64 al', .int .i64 st', .slice a n c] 29)) = w4 := ⟨_, rfl⟩
  have hz4 : w4.heap.size = xw + 1 := by rw [← hw4, ← hxw]; simp
  rw [hw4] at hbx hrx
  have XW4 := Lib.hid hrx
  have O4 := Lib.hid (O3.out.below hbx)
  have B4 := Lib.hid (B3.out.trans (hbx.mono B3.out.size))
  have R4 := Lib.hid (rowIs_below' R3.out hbx)
  clear c30 c31 c32
  have c40 : w4.cell? ⟨w.heap.size, 0, none⟩ = some (.int .i64 al) := R4.out.cell (by decide)
  have c41 : w4.cell? ⟨w.heap.size, 1, none⟩ = some (.int .i64 st) := R4.out.cell (by decide)
  have c42 : w4.cell? ⟨w.heap.size, 2, none⟩ = some (.slice a1 n1 c1) := R4.out.cell (by decide)
  clear hbx hrx
  go_wp2_with fail
  refine (toSys_any al st a1 n1 c1 es _ (EV.below H.out B4.out) hm).mono ?_
  rintro e w5 ⟨p5, rfl, hr5, hlo5, hb5⟩
  have B5 := Lib.hid (B4.out.trans (hb5.mono B4.out.size))
  have R5 := Lib.hid (rowIs_below' R4.out hb5)
  have hv5 := ER.view hr5 hm
  have HV5 := Lib.hid hv5; clear hv5
  clear c40 c41 c42
  have c50 : w5.cell? ⟨w.heap.size, 0, none⟩ = some (.int .i64 al) := R5.out.cell (by decide)
  have c51 : w5.cell? ⟨w.heap.size, 1, none⟩ = some (.int .i64 st) := R5.out.cell (by decide)
  have c52 : w5.cell? ⟨w.heap.size, 2, none⟩ = some (.slice a1 n1 c1) := R5.out.cell (by decide)
  have XW5 := Lib.hid (rowIs_below' XW4.out hb5)
  have O5 := Lib.hid (O4.out.below hb5)
  have P5 := Lib.hid (ER.eg hr5 hm)
  have hp5a : xw + 1 ≤ p5 := by rw [← hz4]; exact hlo5
  have hp5b : p5 < w5.heap.size := World.rowIs.lt hr5
  have hwx : w.heap.size < xw := by rw [← hxw]; exact World.rowIs.lt R3.out
  clear hb5 hr5
  have hbx : Below w5.heap.size w5 (w5.alloc (.cells #[.int .i64 al, .int .i64 st, .slice (some ⟨p5, 0, none⟩) es.length es.length] 29)) := below_new' _ _ _
  have hrx := sys_cells w5 al st (.slice (some ⟨p5, 0, none⟩) es.length es.length) 29
  obtain ⟨x0, hx0⟩ : ∃ x0, w5.heap.size = x0 := ⟨_, rfl⟩
  rw [hx0] at hrx
  obtain ⟨w6, hw6⟩ : ∃ w6, (w5.alloc (.cells #[.int .i64 al, .int .i64 st, .slice (some ⟨p5, 0, none⟩) es.length es.length] 29)) = w6 := ⟨_, rfl⟩
  have hz6 : w6.heap.size = x0 + 1 := by rw [← hw6, ← hx0]; simp
  rw [hw6] at hbx hrx
  have XR6 := Lib.hid hrx
  have XW6 := Lib.hid (rowIs_below' XW5.out hbx)
  have O6 := Lib.hid (O5.out.below hbx)
  have P6 := Lib.hid (P5.out.below hbx)
  have B6 := Lib.hid (B5.out.trans (hbx.mono B5.out.size))
  have R6 := Lib.hid (rowIs_below' R5.out hbx)
  clear c50 c51 c52
  have c60 : w6.cell? ⟨w.heap.size, 0, none⟩ = some (.int .i64 al) := R6.out.cell (by decide)
  have c61 : w6.cell? ⟨w.heap.size, 1, none⟩ = some (.int .i64 st) := R6.out.cell (by decide)
  have c62 : w6.cell? ⟨w.heap.size, 2, none⟩ = some (.slice a1 n1 c1) := R6.out.cell (by decide)
  clear hbx hrx
  have y0 : w6.cell? ⟨x0, 0, none⟩ = some (.int .i64 al) := XR6.out.cell (by decide)
  have y1 : w6.cell? ⟨x0, 1, none⟩ = some (.int .i64 st) := XR6.out.cell (by decide)
  have y2 : w6.cell? ⟨x0, 2, none⟩ = some (.slice (some ⟨p5, 0, none⟩) es.length es.length) := XR6.out.cell (by decide)
  go_wp2_with fail
  refine (implTrim_any al st _ _ _ es _ (HT.out.below B6.out) P6.out.ev).mono ?_
  rintro e w7 ⟨al2, st2, a2, n2, cc2, es2, b2, rfl, hn2, ho2, hb7, htp2⟩
  obtain ⟨rfl, rfl, rfl, rfl⟩ := trimP_unique HTP.out htp2
  obtain ⟨gb, hgb, hog⟩ := (ho2 _ (Nat.le_refl _)).eg (by omega)
  have XR7 := Lib.hid (rowIs_below' XR6.out hb7)
  have XW7 := Lib.hid (rowIs_below' XW6.out hb7)
  have O7 := Lib.hid (O6.out.below hb7)
  have P7 := Lib.hid (P6.out.below hb7)
  have G7 := Lib.hid hog
  have hxg0 : x0 + 1 ≤ w7.heap.size := by rw [← hz6]; exact hb7.size
  have HGB := Lib.hid hgb; clear hgb
  have HN2 := Lib.hid hn2; clear hn2
  have B7 := Lib.hid (B6.out.trans (hb7.mono B6.out.size))
  have R7 := Lib.hid (rowIs_below' R6.out hb7)
  clear c60 c61 c62
  have c70 : w7.cell? ⟨w.heap.size, 0, none⟩ = some (.int .i64 al) := R7.out.cell (by decide)
  have c71 : w7.cell? ⟨w.heap.size, 1, none⟩ = some (.int .i64 st) := R7.out.cell (by decide)
  have c72 : w7.cell? ⟨w.heap.size, 2, none⟩ = some (.slice a1 n1 c1) := R7.out.cell (by decide)
  clear hb7 hog ho2 htp2
  have hbx : Below w7.heap.size w7 (w7.alloc (.cells #[.int .i64 al', .int .i64 st', .slice a2 n2 cc2] 29)) := below_new' _ _ _
  have hrx := sys_cells w7 al' st' (.slice a2 n2 cc2) 29
  obtain ⟨xg, hxg⟩ : ∃ xg, w7.heap.size = xg := ⟨_, rfl⟩
  rw [hxg] at hrx
  obtain ⟨w8, hw8⟩ : ∃ w8, (w7.alloc (.cells #[.int .i64 al', .int .i64 st', .slice a2 n2 cc2] 29)) = w8 := ⟨_, rfl⟩
  have hz8 : w8.heap.size = xg + 1 := by rw [← hw8, ← hxg]; simp
  rw [hw8] at hbx hrx
  have XG8 := Lib.hid hrx
  have XR8 := Lib.hid (rowIs_below' XR7.out hbx)
  have XW8 := Lib.hid (rowIs_below' XW7.out hbx)
  have O8 := Lib.hid (O7.out.below hbx)
  have P8 := Lib.hid (P7.out.below hbx)
  have G8 := Lib.hid (G7.out.below hbx)
  clear y0 y1 y2
  have v0 : w8.cell? ⟨xw, 0, none⟩ = some (.int .i64 al') := XW8.out.cell (by decide)
  have v1 : w8.cell? ⟨xw, 1, none⟩ = some (.int .i64 st') := XW8.out.cell (by decide)
  have v2 : w8.cell? ⟨xw, 2, none⟩ = some (.slice a n c) := XW8.out.cell (by decide)
  have g0 : w8.cell? ⟨xg, 0, none⟩ = some (.int .i64 al') := XG8.out.cell (by decide)
  have g1 : w8.cell? ⟨xg, 1, none⟩ = some (.int .i64 st') := XG8.out.cell (by decide)
  have g2 : w8.cell? ⟨xg, 2, none⟩ = some (.slice a2 n2 cc2) := XG8.out.cell (by decide)
  have B8 := Lib.hid (B7.out.trans (hbx.mono B7.out.size))
  have R8 := Lib.hid (rowIs_below' R7.out hbx)
  clear c70 c71 c72
  have c80 : w8.cell? ⟨w.heap.size, 0, none⟩ = some (.int .i64 al) := R8.out.cell (by decide)
  have c81 : w8.cell? ⟨w.heap.size, 1, none⟩ = some (.int .i64 st) := R8.out.cell (by decide)
  have c82 : w8.cell? ⟨w.heap.size, 2, none⟩ = some (.slice a1 n1 c1) := R8.out.cell (by decide)
  clear hbx hrx
  have hbb : (b != b) = false := by cases b <;> rfl
  go_wp2_with fail
  refine (eqSys_same al' st' _ _ _ _ _ _ es' _ G8.out.ev O8.out.ev).mono ?_
  rintro e w9 ⟨rfl, hb9⟩
  have XR9 := Lib.hid (rowIs_below' XR8.out hb9)
  have XW9 := Lib.hid (rowIs_below' XW8.out hb9)
  have XG9 := Lib.hid (rowIs_below' XG8.out hb9)
  have O9 := Lib.hid (O8.out.below hb9)
  have P9 := Lib.hid (P8.out.below hb9)
  have G9 := Lib.hid (G8.out.below hb9)
  have B9 := Lib.hid (B8.out.trans (hb9.mono B8.out.size))
  have R9 := Lib.hid (rowIs_below' R8.out hb9)
  clear hb9 v0 v1 v2 g0 g1 g2 c80 c81 c82
  go_wp2_with fail
  have HS := Lib.hid (fun (w' : World) (hb : Below w9.heap.size w9 w') => (show (w'.cell? ⟨x0, 0, none⟩ = some (.int .i64 al) ∧ w'.cell? ⟨x0, 1, none⟩ = some (.int .i64 st) ∧ w'.cell? ⟨x0, 2, none⟩ = some (.slice (some ⟨p5, 0, none⟩) es.length es.length)) ∧ (w'.cell? ⟨w.heap.size, 0, none⟩ = some (.int .i64 al) ∧ w'.cell? ⟨w.heap.size, 1, none⟩ = some (.int .i64 st) ∧ w'.cell? ⟨w.heap.size, 2, none⟩ = some (.slice a1 n1 c1)) from ⟨⟨(rowIs_below' XR9.out hb).cell (by decide), (rowIs_below' XR9.out hb).cell (by decide), (rowIs_below' XR9.out hb).cell (by decide)⟩, (rowIs_below' R9.out hb).cell (by decide), (rowIs_below' R9.out hb).cell (by decide), (rowIs_below' R9.out hb).cell (by decide)⟩))
  refine wp_region_held_drew (S := fun w' => (w'.cell? ⟨x0, 0, none⟩ = some (.int .i64 al) ∧ w'.cell? ⟨x0, 1, none⟩ = some (.int .i64 st) ∧ w'.cell? ⟨x0, 2, none⟩ = some (.slice (some ⟨p5, 0, none⟩) es.length es.length)) ∧ (w'.cell? ⟨w.heap.size, 0, none⟩ = some (.int .i64 al) ∧ w'.cell? ⟨w.heap.size, 1, none⟩ = some (.int .i64 st) ∧ w'.cell? ⟨w.heap.size, 2, none⟩ = some (.slice a1 n1 c1))) (by kernel_rfl) (HS.out _ (Below.refl _ _).drew) (fun hHeld => ?_)
  have hbd : Below w9.heap.size w9 w9.drew := (Below.refl _ _).drew
  first | (refine wpAnyH_take (i := 0) (get_of_drop' rfl) (by kernel_rfl) (by kernel_rfl) (by kernel_rfl) (fun _ _ _ h => h) (Or.inr ⟨?_, rfl⟩) hHeld ?_; (focus (simp [Region.wanted, yielded, undef]; done)); (try simp only [Act.put, List.setIfInBounds_toArray, List.set_cons_zero, List.set_cons_succ])) | (refine wpAnyH_take (i := 0) (v := ?_) (get_of_drop' rfl) (by kernel_rfl) (by kernel_rfl) (by kernel_rfl) (fun _ _ _ h => h) (Or.inl ⟨?_, ?_⟩) hHeld ?_; rotate_left; (focus rfl); (focus (intro w hSw; (try dsimp only at hSw); go_simp; (try (with_reducible rfl)))); (try simp only [Act.put, List.setIfInBounds_toArray, List.set_cons_zero, List.set_cons_succ]))
  first | (refine wpAnyH_take (i := 1) (get_of_drop' rfl) (by kernel_rfl) (by kernel_rfl) (by kernel_rfl) (fun _ _ _ h => h) (Or.inr ⟨?_, rfl⟩) hHeld ?_; (focus (simp [Region.wanted, yielded, undef]; done)); (try simp only [Act.put, List.setIfInBounds_toArray, List.set_cons_zero, List.set_cons_succ])) | (refine wpAnyH_take (i := 1) (v := ?_) (get_of_drop' rfl) (by kernel_rfl) (by kernel_rfl) (by kernel_rfl) (fun _ _ _ h => h) (Or.inl ⟨?_, ?_⟩) hHeld ?_; rotate_left; (focus rfl); (focus (intro w hSw; (try dsimp only at hSw); go_simp; (try (with_reducible rfl)))); (try simp only [Act.put, List.setIfInBounds_toArray, List.set_cons_zero, List.set_cons_succ]))
  refine wpAnyH_ready (rs := [2]) (by kernel_rfl) (by simp) ?_
  refine AllReadyH.cons (get_of_drop' rfl) (fun K hK => ?_) AllReadyH.nil
  go_simp
  go_at_call 12
  refine (toSys_any al st a1 n1 c1 es _ (EV.below H.out (B9.out.trans (hbd.mono B9.out.size))) hm).mono ?_
  rintro e w10 ⟨p10, rfl, hr10, hlo10, hb10'⟩
  have hb10 := hbd.trans hb10'
  have hv10 := ER.view hr10 hm
  go_wp2_with fail
  refine hK.out _ _ (HS.out w10 hb10) (fun hHeld => ?_)
  clear hK K
  try simp only [Act.put, List.setIfInBounds_toArray, List.set_cons_zero, List.set_cons_succ]
  refine wpAnyH_ready (rs := [3]) (by kernel_rfl) (by simp) ?_
  refine AllReadyH.cons (get_of_drop' rfl) (fun K hK => ?_) AllReadyH.nil
  go_simp
  go_at_call 14
  refine (eqSys_same al st _ _ _ _ _ _ es _ (P9.out.below hb10).ev hv10).mono ?_
  rintro e w11 ⟨rfl, hb11'⟩
  have hb11 := hb10.trans (hb11'.mono hb10.size)
  have XR11 := Lib.hid (rowIs_below' XR9.out hb11)
  have XW11 := Lib.hid (rowIs_below' XW9.out hb11)
  have XG11 := Lib.hid (rowIs_below' XG9.out hb11)
  have O11 := Lib.hid (O9.out.below hb11)
  have P11 := Lib.hid (P9.out.below hb11)
  have G11 := Lib.hid (G9.out.below hb11)
  have B11 := Lib.hid (B9.out.trans (hb11.mono B9.out.size))
  have R11 := Lib.hid (rowIs_below' R9.out hb11)
  go_wp2_with fail
  refine hK.out _ _ (HS.out w11 hb11) (fun hHeld => ?_)
  clear hK K
  try simp only [Act.put, List.setIfInBounds_toArray, List.set_cons_zero, List.set_cons_succ]
  first | (refine wpAnyH_take (i := 4) (get_of_drop' rfl) (by kernel_rfl) (by kernel_rfl) (by kernel_rfl) (fun _ _ _ h => h) (Or.inr ⟨?_, rfl⟩) hHeld ?_; (focus (simp [Region.wanted, yielded, undef]; done)); (try simp only [Act.put, List.setIfInBounds_toArray, List.set_cons_zero, List.set_cons_succ])) | (refine wpAnyH_take (i := 4) (v := ?_) (get_of_drop' rfl) (by kernel_rfl) (by kernel_rfl) (by kernel_rfl) (fun _ _ _ h => h) (Or.inl ⟨?_, ?_⟩) hHeld ?_; rotate_left; (focus rfl); (focus (intro w hSw; (try dsimp only at hSw); go_simp; (try (with_reducible rfl)))); (try simp only [Act.put, List.setIfInBounds_toArray, List.set_cons_zero, List.set_cons_succ]))
  refine wpAnyH_done (by kernel_rfl) ?_ _
  clear hbd hr10 hb10' hb10 hv10 hb11' hb11
  have y0 : w11.cell? ⟨x0, 0, none⟩ = some (.int .i64 al) := XR11.out.cell (by decide)
  have y1 : w11.cell? ⟨x0, 1, none⟩ = some (.int .i64 st) := XR11.out.cell (by decide)
  have y2 : w11.cell? ⟨x0, 2, none⟩ = some (.slice (some ⟨p5, 0, none⟩) es.length es.length) := XR11.out.cell (by decide)
  go_wp2_with fail
  have hpm := P11.out.marks 1
  refine (markSystem_any al st p5 _ _ _ 1 _ hpm.1 hm hpm.2.1 hpm.2.2 (by omega) (by omega)).mono ?_
  rintro e w12 ⟨rfl, -, ho⟩
  have XR12 := Lib.hid (ho.row XR11.out (fun e => absurd e.2 (by omega)))
  have XW12 := Lib.hid (ho.row XW11.out (fun e => absurd e.2 (by omega)))
  have XG12 := Lib.hid (ho.row XG11.out (fun e => absurd e.2 (by omega)))
  have R12 := Lib.hid (ho.row R11.out (fun e => absurd e.2 (by omega)))
  have O12 := Lib.hid (O11.out.onl ho (fun h0 e => by have h1 := HOB.out h0; have h2 := e.2; omega))
  have B12 := Lib.hid (below_onl B11.out ho (fun q e => by have h2 := e.2; omega))
  have G12 := Lib.hid (G11.out.onl ho (fun h0 e => by have h1 := HGB.out h0; have h2 := e.2; omega))
  obtain ⟨M1, hM1⟩ : ∃ M1 : Int, 1 + ((es.length * 3 : Nat) : Int) = M1 := ⟨_, rfl⟩
  have hM10 : decide (M1 < 0) = false := by rw [decide_eq_false_iff_not]; omega
  rw [hM1]
  clear hM1 ho hpm y0 y1 y2
  have v0 : w12.cell? ⟨xw, 0, none⟩ = some (.int .i64 al') := XW12.out.cell (by decide)
  have v1 : w12.cell? ⟨xw, 1, none⟩ = some (.int .i64 st') := XW12.out.cell (by decide)
  have v2 : w12.cell? ⟨xw, 2, none⟩ = some (.slice a n c) := XW12.out.cell (by decide)
  have g0 : w12.cell? ⟨xg, 0, none⟩ = some (.int .i64 al') := XG12.out.cell (by decide)
  have g1 : w12.cell? ⟨xg, 1, none⟩ = some (.int .i64 st') := XG12.out.cell (by decide)
  have g2 : w12.cell? ⟨xg, 2, none⟩ = some (.slice a2 n2 cc2) := XG12.out.cell (by decide)
  go_wp2_with fail
  refine (eqSys_same al' st' _ _ _ _ _ _ es' _ G12.out.ev O12.out.ev).mono ?_
  rintro e w13 ⟨rfl, hb13⟩
  have XR13 := Lib.hid (rowIs_below' XR12.out hb13)
  have XW13 := Lib.hid (rowIs_below' XW12.out hb13)
  have XG13 := Lib.hid (rowIs_below' XG12.out hb13)
  have O13 := Lib.hid (O12.out.below hb13)
  have B13 := Lib.hid (B12.out.trans (hb13.mono B12.out.size))
  have R13 := Lib.hid (rowIs_below' R12.out hb13)
  have G13 := Lib.hid (G12.out.below hb13)
  clear hb13 v0 v1 v2 g0 g1 g2
  have g0 : w13.cell? ⟨xg, 0, none⟩ = some (.int .i64 al') := XG13.out.cell (by decide)
  have g1 : w13.cell? ⟨xg, 1, none⟩ = some (.int .i64 st') := XG13.out.cell (by decide)
  have g2 : w13.cell? ⟨xg, 2, none⟩ = some (.slice a2 n2 cc2) := XG13.out.cell (by decide)
  have hlen' : es'.length ≤ 1048576 := by
    have h := HTP.out
    unfold trimP at h
    split at h
    · obtain ⟨r, -, -, -, rfl, -⟩ := h
      have := keepE_len es r
      omega
    · obtain ⟨-, -, rfl, -⟩ := h
      simp
  have hn2m : n2 ≤ 1048576 := by rw [HN2.out]; exact hlen'
  have hgm := G13.out.marks 1
  have hne : ∀ q, (n2 ≠ 0 ∧ q = gb) → x0 + 1 ≤ q ∧ q < xg := fun q e => by
    have h1 := HGB.out (by rw [← HN2.out]; exact e.1)
    have h2 := e.2
    omega
  obtain ⟨M2, hM2⟩ : ∃ M2 : Int, 1 + ((n2 * 3 : Nat) : Int) = M2 := ⟨_, rfl⟩
  have hM20 : decide (M2 < 0) = false := by rw [decide_eq_false_iff_not]; omega
  go_wp2_with fail
  refine (markSystem_any al' st' gb _ _ _ 1 _ hgm.1 hn2m hgm.2.1 hgm.2.2 (by omega) (by omega)).mono ?_
  rintro e w14 ⟨rfl, hmc, ho⟩
  rw [hM2]
  have HELD := Lib.hid (fun (wq : World) (hs : w14.heap.size ≤ wq.heap.size) (hk : n2 ≠ 0 → wq.heap[gb]? = w14.heap[gb]?) => hM2 ▸ heldSystem_any al' st' gb a2 n2 cc2 1 wq hgm.1 hn2m (fun h => Nat.lt_of_lt_of_le (hgm.2.1 h) (Nat.le_trans ho.2.2.2.1 hs)) (fun h => (hmc h).block (hk h)) (by omega) (by omega))
  have hgb14 : n2 ≠ 0 → gb < w14.heap.size := fun h => Nat.lt_of_lt_of_le (hgm.2.1 h) ho.2.2.2.1
  have XW14 := Lib.hid (ho.row XW13.out (fun e => by have := hne _ e; omega))
  have XG14 := Lib.hid (ho.row XG13.out (fun e => by have := hne _ e; omega))
  have R14 := Lib.hid (ho.row R13.out (fun e => by have := hne _ e; omega))
  have O14 := Lib.hid (O13.out.onl ho (fun h0 e => by have h1 := HOB.out h0; have h2 := hne _ e; omega))
  have B14 := Lib.hid (below_onl B13.out ho (fun q e => by have h2 := hne _ e; omega))
  clear ho hmc g0 g1 g2 hM2 hgm
  have g0 : w14.cell? ⟨xg, 0, none⟩ = some (.int .i64 al') := XG14.out.cell (by decide)
  have g1 : w14.cell? ⟨xg, 1, none⟩ = some (.int .i64 st') := XG14.out.cell (by decide)
  have g2 : w14.cell? ⟨xg, 2, none⟩ = some (.slice a2 n2 cc2) := XG14.out.cell (by decide)
  go_wp2_with fail
  refine (HELD.out w14 (Nat.le_refl _) (fun _ => rfl)).mono ?_
  rintro e w15 ⟨rfl, hb15⟩
  have XW15 := Lib.hid (rowIs_below' XW14.out hb15)
  have XG15 := Lib.hid (rowIs_below' XG14.out hb15)
  have O15 := Lib.hid (O14.out.below hb15)
  have B15 := Lib.hid (B14.out.trans (hb15.mono B14.out.size))
  have R15 := Lib.hid (rowIs_below' R14.out hb15)
  have L15 := Lib.hid hb15
  clear hb15 g0 g1 g2
  have c150 : w15.cell? ⟨w.heap.size, 0, none⟩ = some (.int .i64 al) := R15.out.cell (by decide)
  have c151 : w15.cell? ⟨w.heap.size, 1, none⟩ = some (.int .i64 st) := R15.out.cell (by decide)
  have c152 : w15.cell? ⟨w.heap.size, 2, none⟩ = some (.slice a1 n1 c1) := R15.out.cell (by decide)
  have hMM : (M2 != M2) = false := by simp
  go_wp2_with fail
  refine (toSys_any al st a1 n1 c1 es _ (EV.below H.out B15.out) hm).mono ?_
  rintro e w16 ⟨p16, rfl, hr16, hlo16, hb16⟩
  have XW16 := Lib.hid (rowIs_below' XW15.out hb16)
  have XG16 := Lib.hid (rowIs_below' XG15.out hb16)
  have O16 := Lib.hid (O15.out.below hb16)
  have B16 := Lib.hid (B15.out.trans (hb16.mono B15.out.size))
  have R16 := Lib.hid (rowIs_below' R15.out hb16)
  have L16 := Lib.hid (L15.out.trans (hb16.mono L15.out.size))
  have V16 := Lib.hid (ER.view hr16 hm)
  clear hb16 hr16 c150 c151 c152
  go_wp2_with fail
  refine (implTrim_any al st _ _ _ es _ (HT.out.below B16.out) V16.out).mono ?_
  rintro e w17 ⟨al3, st3, a3, n3, cc3, es3, b3, rfl, hn3, ho3, hb17, htp3⟩
  obtain ⟨rfl, rfl, rfl, rfl⟩ := trimP_unique HTP.out htp3
  have XW17 := Lib.hid (rowIs_below' XW16.out hb17)
  have XG17 := Lib.hid (rowIs_below' XG16.out hb17)
  have O17 := Lib.hid (O16.out.below hb17)
  have B17 := Lib.hid (B16.out.trans (hb17.mono B16.out.size))
  have R17 := Lib.hid (rowIs_below' R16.out hb17)
  have L17 := Lib.hid (L16.out.trans (hb17.mono L16.out.size))
  have E17 := Lib.hid (((ho3 _ (Nat.le_refl _)).evr (R := 0) (by have := World.rowIs.lt R16.out; omega)).ev)
  clear hb17 ho3 htp3
  have HN3 := Lib.hid hn3; clear hn3
  have hbx : Below w17.heap.size w17 (w17.alloc (.cells #[.int .i64 al', .int .i64 st', .slice a3 n3 cc3] 29)) := below_new' _ _ _
  have hrx := sys_cells w17 al' st' (.slice a3 n3 cc3) 29
  obtain ⟨xh, hxh⟩ : ∃ xh, w17.heap.size = xh := ⟨_, rfl⟩
  rw [hxh] at hrx
  obtain ⟨w18, hw18⟩ : ∃ w18, (w17.alloc (.cells #[.int .i64 al', .int .i64 st', .slice a3 n3 cc3] 29)) = w18 := ⟨_, rfl⟩
  have hz18 : w18.heap.size = xh + 1 := by rw [← hw18, ← hxh]; simp
  rw [hw18] at hbx hrx
  have XH18 := Lib.hid hrx
  have XW18 := Lib.hid (rowIs_below' XW17.out hbx)
  have XG18 := Lib.hid (rowIs_below' XG17.out hbx)
  have O18 := Lib.hid (O17.out.below hbx)
  have B18 := Lib.hid (B17.out.trans (hbx.mono B17.out.size))
  have R18 := Lib.hid (rowIs_below' R17.out hbx)
  have L18 := Lib.hid (L17.out.trans (hbx.mono L17.out.size))
  have E18 := Lib.hid (E17.out.below hbx)
  clear hbx hrx
  have h0 : w18.cell? ⟨xh, 0, none⟩ = some (.int .i64 al') := XH18.out.cell (by decide)
  have h1 : w18.cell? ⟨xh, 1, none⟩ = some (.int .i64 st') := XH18.out.cell (by decide)
  have h2 : w18.cell? ⟨xh, 2, none⟩ = some (.slice a3 n3 cc3) := XH18.out.cell (by decide)
  have v0 : w18.cell? ⟨xw, 0, none⟩ = some (.int .i64 al') := XW18.out.cell (by decide)
  have v1 : w18.cell? ⟨xw, 1, none⟩ = some (.int .i64 st') := XW18.out.cell (by decide)
  have v2 : w18.cell? ⟨xw, 2, none⟩ = some (.slice a n c) := XW18.out.cell (by decide)
  go_wp2_with fail
  refine (eqSys_same al' st' _ _ _ _ _ _ es' _ E18.out O18.out.ev).mono ?_
  rintro e w19 ⟨rfl, hb19⟩
  have XW19 := Lib.hid (rowIs_below' XW18.out hb19)
  have XG19 := Lib.hid (rowIs_below' XG18.out hb19)
  have O19 := Lib.hid (O18.out.below hb19)
  have B19 := Lib.hid (B18.out.trans (hb19.mono B18.out.size))
  have R19 := Lib.hid (rowIs_below' R18.out hb19)
  have L19 := Lib.hid (L18.out.trans (hb19.mono L18.out.size))
  clear hb19 h0 h1 h2 v0 v1 v2
  have g0 : w19.cell? ⟨xg, 0, none⟩ = some (.int .i64 al') := XG19.out.cell (by decide)
  have g1 : w19.cell? ⟨xg, 1, none⟩ = some (.int .i64 st') := XG19.out.cell (by decide)
  have g2 : w19.cell? ⟨xg, 2, none⟩ = some (.slice a2 n2 cc2) := XG19.out.cell (by decide)
  go_wp2_with fail
  refine (HELD.out w19 L19.out.size (fun h => L19.out.block gb (hgb14 h))).mono ?_
  rintro e w20 ⟨rfl, hb20⟩
  have B20 := Lib.hid (B19.out.trans (hb20.mono B19.out.size))
  go_wp2
  go_ret
  exact ⟨rfl, B20.out⟩
end Go.Proofs.YtomllliencgijaaDoor
