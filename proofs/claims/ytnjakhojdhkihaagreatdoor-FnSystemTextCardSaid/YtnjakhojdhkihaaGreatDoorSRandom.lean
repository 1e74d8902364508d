/- l2Random: what it draws. -/
import Derived.Test.YtnjakhojdhkihaaGreatDoorDState
import Derived.Test.YtnjakhojdhkihaaGreatDoorSText2
import Derived.Test.YtnjakhojdhkihaaGreatDoorOrder
import Derived.Deep.RegionHeld3
import Derived.Deep.CutRange

namespace Go.Proofs.YtnjakhojdhkihaaGreatDoor
open Go.RowKit
set_option linter.unusedVariables false
set_option linter.unusedSimpArgs false
set_option maxRecDepth 100000

/-- The number of a letter of an alphabet. -/
def ltX (al : Int) (k : Nat) : Int := (lets al)[k]?.getD 0
theorem ltX_lt (al : Int) (ha : isA al = true) (j k : Nat) (hjk : j < k) (hk : k < (lets al).length) : ltX al j < ltX al k := by
  obtain ⟨h0, h1⟩ := (isA_iff al).1 ha
  have hl := lets_len al
  have key : ∀ n : Fin 64, ∀ j k : Fin 6, j.val < k.val → k.val < (lets (n.val : Int)).length → ltX (n.val : Int) j.val < ltX (n.val : Int) k.val := by decide +kernel
  obtain ⟨n, rfl⟩ := Int.eq_ofNat_of_zero_le h0
  exact key ⟨n, by omega⟩ ⟨j, by omega⟩ ⟨k, by omega⟩ hjk hk
/-- The edges that are drawn come in order and lie in their bounds; the next one is (f, the k-th letter, t) or later. -/
def Gd (al : Int) (T : Nat) (es : List Edg) (f k t : Nat) : Prop := es.Pairwise (fun a b => ltE a b = true) ∧
  ∀ e ∈ es, edgeOK al (T : Int) e = true ∧ (e.1 < (f : Int) ∨ (e.1 = (f : Int) ∧ ((∃ j, j < k ∧ e.2.1 = ltX al j) ∨ (e.2.1 = ltX al k ∧ e.2.2 < (t : Int)))))
theorem Gd.start (al : Int) (T f k t : Nat) : Gd al T [] f k t := ⟨List.Pairwise.nil, fun e he => by cases he⟩
theorem Gd.mono {al : Int} {T : Nat} {es : List Edg} {f k t f' k' t' : Nat} (h : Gd al T es f k t) (hm : ∀ e : Edg, (e.1 < (f : Int) ∨ (e.1 = (f : Int) ∧ ((∃ j, j < k ∧ e.2.1 = ltX al j) ∨ (e.2.1 = ltX al k ∧ e.2.2 < (t : Int))))) → (e.1 < (f' : Int) ∨ (e.1 = (f' : Int) ∧ ((∃ j, j < k' ∧ e.2.1 = ltX al j) ∨ (e.2.1 = ltX al k' ∧ e.2.2 < (t' : Int)))))) : Gd al T es f' k' t' :=
  ⟨h.1, fun e he => ⟨(h.2 e he).1, hm e (h.2 e he).2⟩⟩
theorem Gd.skip {al : Int} {T : Nat} {es : List Edg} {f k t : Nat} (h : Gd al T es f k t) : Gd al T es f k (t + 1) :=
  h.mono (fun e he => by
    rcases he with he | ⟨h1, h2 | ⟨h2, h3⟩⟩
    · exact .inl he
    · exact .inr ⟨h1, .inl h2⟩
    · exact .inr ⟨h1, .inr ⟨h2, by omega⟩⟩)
theorem Gd.nextK {al : Int} {T : Nat} {es : List Edg} {f k t : Nat} (h : Gd al T es f k t) : Gd al T es f (k + 1) 0 :=
  h.mono (fun e he => by
    rcases he with he | ⟨h1, ⟨j, hj, h2⟩ | ⟨h2, h3⟩⟩
    · exact .inl he
    · exact .inr ⟨h1, .inl ⟨j, by omega, h2⟩⟩
    · exact .inr ⟨h1, .inl ⟨k, by omega, h2⟩⟩)
theorem Gd.nextF {al : Int} {T : Nat} {es : List Edg} {f k t : Nat} (h : Gd al T es f k t) : Gd al T es (f + 1) 0 0 :=
  h.mono (fun e he => by
    rcases he with he | ⟨h1, -⟩
    · left; omega
    · left; omega)
theorem Gd.push {al : Int} {T : Nat} {es : List Edg} {f k t : Nat} (h : Gd al T es f k t) (ha : isA al = true) (hf : f < T) (ht : t < T) (hk : k < (lets al).length) : Gd al T (es ++ [((f : Int), ltX al k, (t : Int))]) f k (t + 1) := by
  have hb := lets_getD al k hk
  have hh := (place_at al ha k hk).2
  refine ⟨List.pairwise_append.2 ⟨h.1, List.pairwise_singleton _ _, fun a ha' b hb' => ?_⟩, fun e he => ?_⟩
  · obtain rfl : b = ((f : Int), ltX al k, (t : Int)) := by simpa using hb'
    rcases (h.2 a ha').2 with h1 | ⟨h1, ⟨j, hj, h2⟩ | ⟨h2, h3⟩⟩
    · unfold ltE
      rw [if_pos (by show a.1 ≠ (f : Int); omega)]
      exact decide_eq_true h1
    · have hlt := ltX_lt al ha j k hj hk
      unfold ltE
      rw [if_neg (by show ¬ a.1 ≠ (f : Int); omega), if_pos (by show a.2.1 ≠ ltX al k; omega)]
      exact decide_eq_true (by show a.2.1 < ltX al k; omega)
    · unfold ltE
      rw [if_neg (by show ¬ a.1 ≠ (f : Int); omega), if_neg (by show ¬ a.2.1 ≠ ltX al k; omega)]
      exact decide_eq_true h3
  · rcases List.mem_append.1 he with he | he
    · exact ⟨(h.2 e he).1, (h.skip.2 e he).2⟩
    · obtain rfl : e = ((f : Int), ltX al k, (t : Int)) := by simpa using he
      refine ⟨?_, .inr ⟨rfl, .inr ⟨rfl, by show (t : Int) < ((t + 1 : Nat) : Int); omega⟩⟩⟩
      unfold edgeOK
      simp only [Bool.and_eq_true, decide_eq_true_eq]
      exact ⟨⟨by omega, by omega⟩, ⟨by omega, by omega⟩, hb.2, hh⟩
theorem sysV_made {al st : Int} {es : List Edg} (h1 : isA al = true) (h2 : 1 ≤ st) (h3 : st ≤ 16) (h4 : ∀ e ∈ es, edgeOK al st e = true) (h5 : es.Pairwise (fun a b => ltE a b = true)) : sysV al st es = true := by
  unfold sysV
  simp only [Bool.and_eq_true, decide_eq_true_eq, List.all_eq_true]
  refine ⟨h1, ⟨h2, h3⟩, fun k hk => ?_⟩
  have hk := List.mem_range.1 hk
  unfold stepOK
  simp only [Bool.and_eq_true, Bool.or_eq_true, decide_eq_true_eq]
  have e1 : Edg.at es k = es[k] := by unfold Edg.at; rw [List.getElem?_eq_getElem hk]; rfl
  refine ⟨by rw [e1]; exact h4 _ (List.getElem_mem _), ?_⟩
  by_cases h0 : k = 0
  · exact .inl h0
  · right
    have hk1 : k - 1 < es.length := by omega
    have e2 : Edg.at es (k - 1) = es[k - 1] := by unfold Edg.at; rw [List.getElem?_eq_getElem hk1]; rfl
    rw [e1, e2]
    exact (List.pairwise_iff_getElem.1 h5) (k - 1) k hk1 hk (by omega)
/-- A drawn system that is valid. -/
def SysRV (R p K N : Nat) (w : World) (e : Ending) (w' : World) : Prop := ∃ (al st : Int) (a : Option Addr) (n c : Nat) (es : List Edg), e = .returned (.agg #[.int .i64 al, .int .i64 st, .slice a n c]) ∧ es.length ≤ N ∧ (∀ R', R' < w.heap.size → EVR R' w' (.slice a n c) es) ∧ Adv R p K w w' ∧ sysV al st es = true
theorem SysRV.weak {R p K N : Nat} {w w' : World} {e : Ending} (h : SysRV R p K N w e w') : SysR R p K N w e w' := by
  obtain ⟨al, st, a, n, c, es, h1, h2, h3, h4, -⟩ := h
  exact ⟨al, st, a, n, c, es, h1, h2, h3, h4⟩
set_option maxHeartbeats 4000000 in
theorem l2Random_ok (R p : Nat) (al : Int) (T : Nat) (few : Int) (w : World) (hr : RdOk R p w) (hp : p ≤ 900000) (hal : isA al = true) (hT : T ≤ 5) (hT1 : 1 ≤ T) (hfew : 1 ≤ few) :
    Calls Tryz.prog 70 #[.pointer (some ⟨R, 0, none⟩), .int .i64 al, .int .i64 T, .int .i64 few] w (SysRV R p 200 1000 w) := by
  obtain ⟨ha0, ha1⟩ := (isA_iff al).1 hal
  have hRlt := hr.lt
  have hlx := lets_len al
  have HAL := Lib.hid hal
  go_enter Tryz.func70, Tryz.ntmps70
  go_wp2_with fail
  obtain ⟨w2, hw2⟩ : ∃ w2, ((w.alloc (.cells #[.int .i64 0, .int .i64 0, .slice none 0 0] 24)).alloc (.cells #[.int .i64 al, .int .i64 T, .slice none 0 0] 24)) = w2 := ⟨_, rfl⟩
  have hb2 : Below w.heap.size w w2 := by rw [← hw2]; exact (below_new' _ _ _).alloc (by simp) _
  have hz2 : w2.rowIs w.heap.size 24 3 (fun i => #[.int .i64 0, .int .i64 0, .slice none 0 0][i]?.getD undef) := by rw [← hw2]; exact (sys_cells w 0 0 (.slice none 0 0) 24).alloc _
  have hs2 : w2.rowIs (w.heap.size + 1) 24 3 (fun i => #[.int .i64 al, .int .i64 T, .slice none 0 0][i]?.getD undef) := by
    rw [← hw2]
    have := sys_cells (w.alloc (.cells #[.int .i64 0, .int .i64 0, .slice none 0 0] 24)) al T (.slice none 0 0) 24
    simpa using this
  have hz : w2.heap.size = w.heap.size + 2 := by rw [← hw2]; simp
  rw [hw2]
  clear hw2
  refine (l1Letters_any al ha0 (by omega) w2).mono ?_
  rintro e wL ⟨ao, cap, rfl, hown, hbL⟩
  obtain ⟨m, hm⟩ : ∃ m, (lets al).length = m := ⟨_, rfl⟩
  have hshape := hown.shape
  rw [hm] at hlx hshape ⊢
  have HSH := Lib.hid hshape
  have HM := Lib.hid hm
  have hLs := hbL.size
  have HZ := Lib.hid (rowIs_below' hz2 hbL)
  have HS := Lib.hid (rowIs_below' hs2 hbL)
  have HR := Lib.hid ((hr.below hb2).below hbL)
  have HG := Lib.hid (grown_below (some R) (hb2.trans (hbL.mono hb2.size)))
  have hS0 : w.heap.size + 1 < wL.heap.size := World.rowIs.lt HS.out
  obtain ⟨S, hS⟩ : ∃ S, w.heap.size + 1 = S := ⟨_, rfl⟩
  obtain ⟨Z, hZ⟩ : ∃ Z, w.heap.size = Z := ⟨_, rfl⟩
  rw [hS] at HS hS0
  rw [hZ] at HZ
  have hRS : R < S := by omega
  have hZR : R < Z := by omega
  have hZS : Z < S := by omega
  have hZne : ¬ (Z = R ∨ Z = S) := by omega
  clear hown hm hr hz2 hs2 hb2 hbL hshape hal
  rw [hS, hZ]
  go_wp2
  go_loopw [11] (fun i wr => ∃ (f p' n c : Nat) (a : Option Addr) (es : List Edg), i = .int .i64 f ∧ f ≤ T ∧ DSt R p' S al T wL wr (.slice a n c) es ∧ n = es.length ∧ es.length ≤ f * 30 ∧ p' ≤ p + f * 30 ∧ Hid (Gd al T es f 0 0)) (fun i _ => T - (intOf i).toNat)
  case atStart => exact ⟨0, p, 0, 0, none, [], rfl, Nat.zero_le _, ⟨HR.out, HS.out, EOwn.nil _ _, hRS, hS0, Onl.refl _ _⟩, rfl, by simp, by omega, Gd.start _ _ _ _ _⟩
  case round =>
    obtain ⟨f, p1, n1, c1, a1, es, rfl, hf, hd, hn, hes, hp1, HG1⟩ := hrel
    by_cases hlt : f < T
    · have HD := Lib.hid hd
      have HN := Lib.hid hn; clear hn
      clear hd
      go_wp2
      go_loopw [12] (fun i wr => ∃ (k p' n c : Nat) (a : Option Addr) (es : List Edg), i = .int .i64 k ∧ k ≤ m ∧ DSt R p' S al T wL wr (.slice a n c) es ∧ n = es.length ∧ es.length ≤ f * 30 + k * 5 ∧ p' ≤ p + f * 30 + k * 5 ∧ Hid (Gd al T es f k 0)) (fun i _ => m - (intOf i).toNat)
      case atStart => exact ⟨0, p1, n1, c1, a1, es, rfl, Nat.zero_le _, HD.out, HN.out, by omega, by omega, HG1⟩
      case round =>
        clear HD HN hes hp1 HG1
        obtain ⟨k, p2, n2, c2, a2, es, rfl, hk, hd, hn, hes, hp2, HG2⟩ := hrel
        by_cases hlk : k < m
        · have HD := Lib.hid hd
          have HN := Lib.hid hn; clear hn
          clear hd
          go_wp2
          go_loopw [13] (fun i wr => ∃ (t p' n c : Nat) (a : Option Addr) (es : List Edg), i = .int .i64 t ∧ t ≤ T ∧ DSt R p' S al T wL wr (.slice a n c) es ∧ n = es.length ∧ es.length ≤ f * 30 + k * 5 + t ∧ p' ≤ p + f * 30 + k * 5 + t ∧ Hid (Gd al T es f k t)) (fun i _ => T - (intOf i).toNat)
          case atStart => exact ⟨0, p2, n2, c2, a2, es, rfl, Nat.zero_le _, HD.out, HN.out, by omega, by omega, HG2⟩
          case round =>
            clear HD HN hes hp2 HG2
            obtain ⟨t, p3, n3, c3, a3, es, rfl, ht, hd, hn, hes, hp3, HG3⟩ := hrel
            by_cases hlt2 : t < T
            · rcases HSH.out with ⟨-, h0⟩ | ⟨g, capg, hvg, hg1, hg2, hgc, hgm, hgcell, -⟩
              · exfalso
                have := HM.out
                rw [h0] at this
                simp at this
                omega
              · have hgk := hgcell k hlk
                obtain ⟨x, hx⟩ : ∃ x, (lets al)[k]?.getD 0 = x := ⟨_, rfl⟩
                have HGP : Hid (Gd al T (es ++ [((f : Int), x, (t : Int))]) f k (t + 1)) := by
                  have := HG3.out.push HAL.out hlt hlt2 (by rw [HM.out]; exact hlk)
                  unfold ltX at this
                  rw [hx] at this
                  exact this
                rw [hx] at hgk
                injection hvg with hv1 hv2 hv3
                subst hv1; subst hv3
                have hcapm : m ≤ cap := hgc
                unfold maxLen at hgm
                have HD := Lib.hid hd
                have HN := Lib.hid hn; clear hn
                have hrd := hd.rd
                clear hd hgcell hx hv2
                go_wp2_with fail
                refine (pick_any R p3 few wr hrd (by omega)).mono ?_
                rintro e w4 ⟨z, rfl, -, -, hr4, hg4⟩
                have HD4 := Lib.hid (HD.out.pick hr4 hg4)
                clear hr4 hg4 hrd HD
                by_cases hz0 : z = 0
                · subst hz0
                  go_wp2_with fail
                  have q2 : w4.drew.cell? ⟨S, 2, none⟩ = some (.slice a3 n3 c3) := HD4.out.2.1.cell (by decide)
                  have qg : w4.drew.cell? ⟨g, k, none⟩ = some (.int .i64 x) := HD4.out.2.2.2.2.2.cell hgk (by omega)
                  have hLw : wL.heap.size ≤ w4.drew.heap.size := HD4.out.2.2.2.2.2.2.2.2.1
                  have q3 : (w4.alloc (.cells #[.int .i64 (f : Int), .int .i64 x, .int .i64 (t : Int)] 41)).cell? ⟨S, 2, none⟩ = some (.slice a3 n3 c3) := keep_cell (below_new' _ _ _) q2
                  refine wp_region_held_drew (S := fun _ => True) (by kernel_rfl) trivial (fun hHeld => ?_)
                  first | (refine wpAnyH_take (i := 0) (get_of_drop' rfl) (by kernel_rfl) (by kernel_rfl) (by kernel_rfl) (fun _ _ _ h => h) (Or.inr ⟨?_, rfl⟩) hHeld ?_; (focus (simp [Region.wanted, yielded, undef]; done)); (try simp only [Act.put, List.setIfInBounds_toArray, List.set_cons_zero, List.set_cons_succ])) | (refine wpAnyH_take (i := 0) (v := ?_) (get_of_drop' rfl) (by kernel_rfl) (by kernel_rfl) (by kernel_rfl) (fun _ _ _ h => h) (Or.inl ⟨?_, ?_⟩) hHeld ?_; rotate_left; (focus rfl); (focus (intro w hSw; (try dsimp only at hSw); go_simp; (try (with_reducible rfl)))); (try simp only [Act.put, List.setIfInBounds_toArray, List.set_cons_zero, List.set_cons_succ]))
                  first | (refine wpAnyH_take (i := 2) (get_of_drop' rfl) (by kernel_rfl) (by kernel_rfl) (by kernel_rfl) (fun _ _ _ h => h) (Or.inr ⟨?_, rfl⟩) hHeld ?_; (focus (simp [Region.wanted, yielded, undef]; done)); (try simp only [Act.put, List.setIfInBounds_toArray, List.set_cons_zero, List.set_cons_succ])) | (refine wpAnyH_take (i := 2) (v := ?_) (get_of_drop' rfl) (by kernel_rfl) (by kernel_rfl) (by kernel_rfl) (fun _ _ _ h => h) (Or.inl ⟨?_, ?_⟩) hHeld ?_; rotate_left; (focus rfl); (focus (intro w hSw; (try dsimp only at hSw); go_simp; (try (with_reducible rfl)))); (try simp only [Act.put, List.setIfInBounds_toArray, List.set_cons_zero, List.set_cons_succ]))
                  first | (refine wpAnyH_take (i := 3) (get_of_drop' rfl) (by kernel_rfl) (by kernel_rfl) (by kernel_rfl) (fun _ _ _ h => h) (Or.inr ⟨?_, rfl⟩) hHeld ?_; (focus (simp [Region.wanted, yielded, undef]; done)); (try simp only [Act.put, List.setIfInBounds_toArray, List.set_cons_zero, List.set_cons_succ])) | (refine wpAnyH_take (i := 3) (v := ?_) (get_of_drop' rfl) (by kernel_rfl) (by kernel_rfl) (by kernel_rfl) (fun _ _ _ h => h) (Or.inl ⟨?_, ?_⟩) hHeld ?_; rotate_left; (focus rfl); (focus (intro w hSw; (try dsimp only at hSw); go_simp; (try (with_reducible rfl)))); (try simp only [Act.put, List.setIfInBounds_toArray, List.set_cons_zero, List.set_cons_succ]))
                  first | (refine wpAnyH_take (i := 4) (get_of_drop' rfl) (by kernel_rfl) (by kernel_rfl) (by kernel_rfl) (fun _ _ _ h => h) (Or.inr ⟨?_, rfl⟩) hHeld ?_; (focus (simp [Region.wanted, yielded, undef]; done)); (try simp only [Act.put, List.setIfInBounds_toArray, List.set_cons_zero, List.set_cons_succ])) | (refine wpAnyH_take (i := 4) (v := ?_) (get_of_drop' rfl) (by kernel_rfl) (by kernel_rfl) (by kernel_rfl) (fun _ _ _ h => h) (Or.inl ⟨?_, ?_⟩) hHeld ?_; rotate_left; (focus rfl); (focus (intro w hSw; (try dsimp only at hSw); go_simp; (try (with_reducible rfl)))); (try simp only [Act.put, List.setIfInBounds_toArray, List.set_cons_zero, List.set_cons_succ]))
                  first | (refine wpAnyH_take (i := 5) (get_of_drop' rfl) (by kernel_rfl) (by kernel_rfl) (by kernel_rfl) (fun _ _ _ h => h) (Or.inr ⟨?_, rfl⟩) hHeld ?_; (focus (simp [Region.wanted, yielded, undef]; done)); (try simp only [Act.put, List.setIfInBounds_toArray, List.set_cons_zero, List.set_cons_succ])) | (refine wpAnyH_take (i := 5) (v := ?_) (get_of_drop' rfl) (by kernel_rfl) (by kernel_rfl) (by kernel_rfl) (fun _ _ _ h => h) (Or.inl ⟨?_, ?_⟩) hHeld ?_; rotate_left; (focus rfl); (focus (intro w hSw; (try dsimp only at hSw); go_simp; (try (with_reducible rfl)))); (try simp only [Act.put, List.setIfInBounds_toArray, List.set_cons_zero, List.set_cons_succ]))
                  first | (refine wpAnyH_take (i := 7) (get_of_drop' rfl) (by kernel_rfl) (by kernel_rfl) (by kernel_rfl) (fun _ _ _ h => h) (Or.inr ⟨?_, rfl⟩) hHeld ?_; (focus (simp [Region.wanted, yielded, undef]; done)); (try simp only [Act.put, List.setIfInBounds_toArray, List.set_cons_zero, List.set_cons_succ])) | (refine wpAnyH_take (i := 7) (v := ?_) (get_of_drop' rfl) (by kernel_rfl) (by kernel_rfl) (by kernel_rfl) (fun _ _ _ h => h) (Or.inl ⟨?_, ?_⟩) hHeld ?_; rotate_left; (focus rfl); (focus (intro w hSw; (try dsimp only at hSw); go_simp; (try (with_reducible rfl)))); (try simp only [Act.put, List.setIfInBounds_toArray, List.set_cons_zero, List.set_cons_succ]))
                  refine wpAnyH_ready (rs := [1, 6]) (by kernel_rfl) (by simp) ?_
                  refine AllReadyH.cons (get_of_drop' rfl) (fun K hK => ?_) ?_
                  · go_simp
                    refine hK.out _ _ trivial (fun hHeld => ?_)
                    clear hK K
                    try simp only [Act.put, List.setIfInBounds_toArray, List.set_cons_zero, List.set_cons_succ]
                    refine wpAnyH_ready (rs := [6]) (by kernel_rfl) (by simp) ?_
                    refine AllReadyH.cons (get_of_drop' rfl) (fun K hK => ?_) AllReadyH.nil
                    go_simp
                    refine hK.out _ _ trivial (fun hHeld => ?_)
                    clear hK K
                    try simp only [Act.put, List.setIfInBounds_toArray, List.set_cons_zero, List.set_cons_succ]
                    first | (refine wpAnyH_take (i := 8) (get_of_drop' rfl) (by kernel_rfl) (by kernel_rfl) (by kernel_rfl) (fun _ _ _ h => h) (Or.inr ⟨?_, rfl⟩) hHeld ?_; (focus (simp [Region.wanted, yielded, undef]; done)); (try simp only [Act.put, List.setIfInBounds_toArray, List.set_cons_zero, List.set_cons_succ])) | (refine wpAnyH_take (i := 8) (v := ?_) (get_of_drop' rfl) (by kernel_rfl) (by kernel_rfl) (by kernel_rfl) (fun _ _ _ h => h) (Or.inl ⟨?_, ?_⟩) hHeld ?_; rotate_left; (focus rfl); (focus (intro w hSw; (try dsimp only at hSw); go_simp; (try (with_reducible rfl)))); (try simp only [Act.put, List.setIfInBounds_toArray, List.set_cons_zero, List.set_cons_succ]))
                    refine wpAnyH_ready (rs := [9]) (by kernel_rfl) (by simp) ?_
                    refine AllReadyH.cons (get_of_drop' rfl) (fun K hK => ?_) AllReadyH.nil
                    go_simp
                    refine hK.out _ _ trivial (fun hHeld => ?_)
                    clear hK K
                    try simp only [Act.put, List.setIfInBounds_toArray, List.set_cons_zero, List.set_cons_succ]
                    refine wpAnyH_ready (rs := [10]) (by kernel_rfl) (by simp) ?_
                    refine AllReadyH.cons (get_of_drop' rfl) (fun K hK => ?_) AllReadyH.nil
                    rw [if_pos (by rfl)]
                    refine wp_app_edge w4.drew ((f : Int), x, (t : Int)) wL.heap.size _ _ rfl _ es rfl HD4.out.2.2.1 rfl (by omega) (by omega) ?_
                    intro ao' n' cap' w5 hn' hown' hkept
                    refine hK.out _ _ trivial (fun hHeld => ?_)
                    clear hK K
                    try simp only [Act.put, List.setIfInBounds_toArray, List.set_cons_zero, List.set_cons_succ]
                    first | (refine wpAnyH_take (i := 11) (get_of_drop' rfl) (by kernel_rfl) (by kernel_rfl) (by kernel_rfl) (fun _ _ _ h => h) (Or.inr ⟨?_, rfl⟩) hHeld ?_; (focus (simp [Region.wanted, yielded, undef]; done)); (try simp only [Act.put, List.setIfInBounds_toArray, List.set_cons_zero, List.set_cons_succ])) | (refine wpAnyH_take (i := 11) (v := ?_) (get_of_drop' rfl) (by kernel_rfl) (by kernel_rfl) (by kernel_rfl) (fun _ _ _ h => h) (Or.inl ⟨?_, ?_⟩) hHeld ?_; rotate_left; (focus rfl); (focus (intro w hSw; (try dsimp only at hSw); go_simp; (try (with_reducible rfl)))); (try simp only [Act.put, List.setIfInBounds_toArray, List.set_cons_zero, List.set_cons_succ]))
                    refine wpAnyH_ready (rs := [12]) (by kernel_rfl) (by simp) ?_
                    refine AllReadyH.cons (get_of_drop' rfl) (fun K hK => ?_) AllReadyH.nil
                    have hd5 := HD4.out.drew.app hkept hown'
                    have s2 : w5.cell? ⟨S, 2, none⟩ = some (.slice a3 n3 c3) := (HD4.out.2.1.of_block ((hkept.1 w4.drew (Below.refl _ _)).block S hS0)).cell (by decide)
                    have s3 := (HD4.out.2.1.of_block ((hkept.1 w4.drew (Below.refl _ _)).block S hS0)).frozen 2
                    have HD5 := Lib.hid hd5
                    have HN5 := Lib.hid hn'; clear hn'
                    clear hd5 hkept hown'
                    go_simp
                    refine hK.out _ _ trivial (fun hHeld => ?_)
                    clear hK K
                    try simp only [Act.put, List.setIfInBounds_toArray, List.set_cons_zero, List.set_cons_succ]
                    refine wpAnyH_done (by kernel_rfl) ?_ _
                    go_wp2
                    go_roundw
                    case rel => exact ⟨t + 1, p3 + 1, n', cap', ao', es ++ [((f : Int), x, (t : Int))], by go_num, by omega, HD5.out, by rw [HN5.out]; simp, by simp; omega, by omega, HGP⟩
                    case measure => simp [intOf] <;> omega
                  · refine AllReadyH.cons (get_of_drop' rfl) (fun K hK => ?_) AllReadyH.nil
                    go_simp
                    refine hK.out _ _ trivial (fun hHeld => ?_)
                    clear hK K
                    try simp only [Act.put, List.setIfInBounds_toArray, List.set_cons_zero, List.set_cons_succ]
                    first | (refine wpAnyH_take (i := 8) (get_of_drop' rfl) (by kernel_rfl) (by kernel_rfl) (by kernel_rfl) (fun _ _ _ h => h) (Or.inr ⟨?_, rfl⟩) hHeld ?_; (focus (simp [Region.wanted, yielded, undef]; done)); (try simp only [Act.put, List.setIfInBounds_toArray, List.set_cons_zero, List.set_cons_succ])) | (refine wpAnyH_take (i := 8) (v := ?_) (get_of_drop' rfl) (by kernel_rfl) (by kernel_rfl) (by kernel_rfl) (fun _ _ _ h => h) (Or.inl ⟨?_, ?_⟩) hHeld ?_; rotate_left; (focus rfl); (focus (intro w hSw; (try dsimp only at hSw); go_simp; (try (with_reducible rfl)))); (try simp only [Act.put, List.setIfInBounds_toArray, List.set_cons_zero, List.set_cons_succ]))
                    refine wpAnyH_ready (rs := [1, 9]) (by kernel_rfl) (by simp) ?_
                    refine AllReadyH.cons (get_of_drop' rfl) (fun K hK => ?_) ?_
                    · go_simp
                      refine hK.out _ _ trivial (fun hHeld => ?_)
                      clear hK K
                      try simp only [Act.put, List.setIfInBounds_toArray, List.set_cons_zero, List.set_cons_succ]
                      refine wpAnyH_ready (rs := [9]) (by kernel_rfl) (by simp) ?_
                      refine AllReadyH.cons (get_of_drop' rfl) (fun K hK => ?_) AllReadyH.nil
                      go_simp
                      refine hK.out _ _ trivial (fun hHeld => ?_)
                      clear hK K
                      try simp only [Act.put, List.setIfInBounds_toArray, List.set_cons_zero, List.set_cons_succ]
                      refine wpAnyH_ready (rs := [10]) (by kernel_rfl) (by simp) ?_
                      refine AllReadyH.cons (get_of_drop' rfl) (fun K hK => ?_) AllReadyH.nil
                      rw [if_pos (by rfl)]
                      refine wp_app_edge w4.drew ((f : Int), x, (t : Int)) wL.heap.size _ _ rfl _ es rfl HD4.out.2.2.1 rfl (by omega) (by omega) ?_
                      intro ao' n' cap' w5 hn' hown' hkept
                      refine hK.out _ _ trivial (fun hHeld => ?_)
                      clear hK K
                      try simp only [Act.put, List.setIfInBounds_toArray, List.set_cons_zero, List.set_cons_succ]
                      first | (refine wpAnyH_take (i := 11) (get_of_drop' rfl) (by kernel_rfl) (by kernel_rfl) (by kernel_rfl) (fun _ _ _ h => h) (Or.inr ⟨?_, rfl⟩) hHeld ?_; (focus (simp [Region.wanted, yielded, undef]; done)); (try simp only [Act.put, List.setIfInBounds_toArray, List.set_cons_zero, List.set_cons_succ])) | (refine wpAnyH_take (i := 11) (v := ?_) (get_of_drop' rfl) (by kernel_rfl) (by kernel_rfl) (by kernel_rfl) (fun _ _ _ h => h) (Or.inl ⟨?_, ?_⟩) hHeld ?_; rotate_left; (focus rfl); (focus (intro w hSw; (try dsimp only at hSw); go_simp; (try (with_reducible rfl)))); (try simp only [Act.put, List.setIfInBounds_toArray, List.set_cons_zero, List.set_cons_succ]))
                      refine wpAnyH_ready (rs := [12]) (by kernel_rfl) (by simp) ?_
                      refine AllReadyH.cons (get_of_drop' rfl) (fun K hK => ?_) AllReadyH.nil
                      have hd5 := HD4.out.drew.app hkept hown'
                      have s2 : w5.cell? ⟨S, 2, none⟩ = some (.slice a3 n3 c3) := (HD4.out.2.1.of_block ((hkept.1 w4.drew (Below.refl _ _)).block S hS0)).cell (by decide)
                      have s3 := (HD4.out.2.1.of_block ((hkept.1 w4.drew (Below.refl _ _)).block S hS0)).frozen 2
                      have HD5 := Lib.hid hd5
                      have HN5 := Lib.hid hn'; clear hn'
                      clear hd5 hkept hown'
                      go_simp
                      refine hK.out _ _ trivial (fun hHeld => ?_)
                      clear hK K
                      try simp only [Act.put, List.setIfInBounds_toArray, List.set_cons_zero, List.set_cons_succ]
                      refine wpAnyH_done (by kernel_rfl) ?_ _
                      go_wp2
                      go_roundw
                      case rel => exact ⟨t + 1, p3 + 1, n', cap', ao', es ++ [((f : Int), x, (t : Int))], by go_num, by omega, HD5.out, by rw [HN5.out]; simp, by simp; omega, by omega, HGP⟩
                      case measure => simp [intOf] <;> omega
                    · refine AllReadyH.cons (get_of_drop' rfl) (fun K hK => ?_) AllReadyH.nil
                      go_simp
                      refine hK.out _ _ trivial (fun hHeld => ?_)
                      clear hK K
                      try simp only [Act.put, List.setIfInBounds_toArray, List.set_cons_zero, List.set_cons_succ]
                      refine wpAnyH_ready (rs := [1]) (by kernel_rfl) (by simp) ?_
                      refine AllReadyH.cons (get_of_drop' rfl) (fun K hK => ?_) AllReadyH.nil
                      go_simp
                      refine hK.out _ _ trivial (fun hHeld => ?_)
                      clear hK K
                      try simp only [Act.put, List.setIfInBounds_toArray, List.set_cons_zero, List.set_cons_succ]
                      refine wpAnyH_ready (rs := [10]) (by kernel_rfl) (by simp) ?_
                      refine AllReadyH.cons (get_of_drop' rfl) (fun K hK => ?_) AllReadyH.nil
                      rw [if_pos (by rfl)]
                      refine wp_app_edge w4.drew ((f : Int), x, (t : Int)) wL.heap.size _ _ rfl _ es rfl HD4.out.2.2.1 rfl (by omega) (by omega) ?_
                      intro ao' n' cap' w5 hn' hown' hkept
                      refine hK.out _ _ trivial (fun hHeld => ?_)
                      clear hK K
                      try simp only [Act.put, List.setIfInBounds_toArray, List.set_cons_zero, List.set_cons_succ]
                      first | (refine wpAnyH_take (i := 11) (get_of_drop' rfl) (by kernel_rfl) (by kernel_rfl) (by kernel_rfl) (fun _ _ _ h => h) (Or.inr ⟨?_, rfl⟩) hHeld ?_; (focus (simp [Region.wanted, yielded, undef]; done)); (try simp only [Act.put, List.setIfInBounds_toArray, List.set_cons_zero, List.set_cons_succ])) | (refine wpAnyH_take (i := 11) (v := ?_) (get_of_drop' rfl) (by kernel_rfl) (by kernel_rfl) (by kernel_rfl) (fun _ _ _ h => h) (Or.inl ⟨?_, ?_⟩) hHeld ?_; rotate_left; (focus rfl); (focus (intro w hSw; (try dsimp only at hSw); go_simp; (try (with_reducible rfl)))); (try simp only [Act.put, List.setIfInBounds_toArray, List.set_cons_zero, List.set_cons_succ]))
                      refine wpAnyH_ready (rs := [12]) (by kernel_rfl) (by simp) ?_
                      refine AllReadyH.cons (get_of_drop' rfl) (fun K hK => ?_) AllReadyH.nil
                      have hd5 := HD4.out.drew.app hkept hown'
                      have s2 : w5.cell? ⟨S, 2, none⟩ = some (.slice a3 n3 c3) := (HD4.out.2.1.of_block ((hkept.1 w4.drew (Below.refl _ _)).block S hS0)).cell (by decide)
                      have s3 := (HD4.out.2.1.of_block ((hkept.1 w4.drew (Below.refl _ _)).block S hS0)).frozen 2
                      have HD5 := Lib.hid hd5
                      have HN5 := Lib.hid hn'; clear hn'
                      clear hd5 hkept hown'
                      go_simp
                      refine hK.out _ _ trivial (fun hHeld => ?_)
                      clear hK K
                      try simp only [Act.put, List.setIfInBounds_toArray, List.set_cons_zero, List.set_cons_succ]
                      refine wpAnyH_done (by kernel_rfl) ?_ _
                      go_wp2
                      go_roundw
                      case rel => exact ⟨t + 1, p3 + 1, n', cap', ao', es ++ [((f : Int), x, (t : Int))], by go_num, by omega, HD5.out, by rw [HN5.out]; simp, by simp; omega, by omega, HGP⟩
                      case measure => simp [intOf] <;> omega
                · have hz0' : ¬ (z : Int) = 0 := hz0
                  go_wp2
                  go_roundw
                  case rel => exact ⟨t + 1, p3 + 1, n3, c3, a3, es, by go_num, by omega, HD4.out, HN.out, by omega, by omega, HG3.out.skip⟩
                  case measure => simp [intOf] <;> omega
            · obtain rfl : t = T := by omega
              have HD := Lib.hid hd
              have HN := Lib.hid hn; clear hn
              clear hd
              go_wp2
              go_roundw
              case rel => exact ⟨k + 1, p3, n3, c3, a3, es, by go_num, by omega, HD.out, HN.out, by omega, by omega, HG3.out.nextK⟩
              case measure => simp [intOf] <;> omega
        · obtain rfl : k = m := by omega
          have HD := Lib.hid hd
          have HN := Lib.hid hn; clear hn
          clear hd
          go_wp2
          go_roundw
          case rel => exact ⟨f + 1, p2, n2, c2, a2, es, by go_num, by omega, HD.out, HN.out, by omega, by omega, HG2.out.nextF⟩
          case measure => simp [intOf] <;> omega
    · obtain rfl : f = T := by omega
      have hqz : wr.rowIs Z 24 3 (fun i => #[.int .i64 0, .int .i64 0, .slice none 0 0][i]?.getD undef) := hd.2.2.2.2.2.row HZ.out hZne
      have q0 : wr.cell? ⟨S, 0, none⟩ = some (.int .i64 al) := hd.2.1.cell (by decide)
      have q1 : wr.cell? ⟨S, 1, none⟩ = some (.int .i64 f) := hd.2.1.cell (by decide)
      have q2 : wr.cell? ⟨S, 2, none⟩ = some (.slice a1 n1 c1) := hd.2.1.cell (by decide)
      have z0 : wr.cell? ⟨Z, 0, none⟩ = some (.int .i64 0) := hqz.cell (by decide)
      have z1 : wr.cell? ⟨Z, 1, none⟩ = some (.int .i64 0) := hqz.cell (by decide)
      have z2 : wr.cell? ⟨Z, 2, none⟩ = some (.slice none 0 0) := hqz.cell (by decide)
      have zf0 := hqz.frozen 0
      have zf1 := hqz.frozen 1
      have zf2 := hqz.frozen 2
      have HD := Lib.hid hd
      have HQZ := Lib.hid hqz
      have HN := Lib.hid hn; clear hn
      clear hd hqz
      go_wp2
      have hdone := DSt.done (u0 := .int .i64 al) (u1 := .int .i64 f) (u2 := .slice a1 n1 c1) HD.out HG.out (Nat.le_of_eq hZ) hRlt (by omega) (by have := World.rowIs.lt HZ.out; omega)
      have hfin := rowIs_set3 HQZ.out (.int .i64 al) (.int .i64 f) (.slice a1 n1 c1)
      obtain ⟨wf, hwf⟩ : ∃ wf, (((wr.setCell ⟨Z, 0, none⟩ (.int .i64 al)).setCell ⟨Z, 1, none⟩ (.int .i64 f)).setCell ⟨Z, 2, none⟩ (.slice a1 n1 c1)) = wf := ⟨_, rfl⟩
      rw [hwf] at hfin hdone ⊢
      clear hwf
      have f0 : wf.cell? ⟨Z, 0, none⟩ = some (.int .i64 al) := hfin.cell (by decide)
      have f1 : wf.cell? ⟨Z, 1, none⟩ = some (.int .i64 f) := hfin.cell (by decide)
      have f2 : wf.cell? ⟨Z, 2, none⟩ = some (.slice a1 n1 c1) := hfin.cell (by decide)
      refine bodyPost_ret (v := .agg #[.int .i64 al, .int .i64 f, .slice a1 n1 c1]) ?_ rfl ?_
      · simp [results, Tryz.results70, go_sem, f0, f1, f2]
      · exact ⟨al, f, a1, n1, c1, es, rfl, by omega, hdone.1, ⟨p1, by omega, hdone.2.1, hdone.2.2⟩, sysV_made HAL.out (by omega) (by omega) (fun e he => (HG1.out.2 e he).1) HG1.out.1⟩
theorem l2Random_any (R p : Nat) (al : Int) (T : Nat) (few : Int) (w : World) (hr : RdOk R p w) (hp : p ≤ 900000) (hal : isA al = true) (hT : T ≤ 5) (hT1 : 1 ≤ T) (hfew : 1 ≤ few) :
    Calls Tryz.prog 70 #[.pointer (some ⟨R, 0, none⟩), .int .i64 al, .int .i64 T, .int .i64 few] w (SysR R p 200 1000 w) := (l2Random_ok R p al T few w hr hp hal hT hT1 hfew).mono fun _ _ h => h.weak
end Go.Proofs.YtnjakhojdhkihaaGreatDoor
