/- The reference's drawing of inputs: the reader, its numbers and strings. What is drawn lies in its bounds; nothing but the reader is written. -/
import Derived.Test.YtagegbhchljggaaNext
import Derived.BigRegion
namespace Go.Proofs.Ytagegbhchljggaa
open Go.RowKit
set_option linter.unusedVariables false
set_option linter.unusedSimpArgs false
set_option maxRecDepth 100000

theorem grown_trans {a b c : World} {R : Option Nat} (h1 : a.grownBy b R) (h2 : b.grownBy c R) : a.grownBy c R :=
  ⟨h2.os.trans h1.os, h2.tape.trans h1.tape, h2.output.trans h1.output, Nat.le_trans h1.size h2.size, fun k hk hne => (h2.block k (Nat.lt_of_lt_of_le hk h1.size) hne).trans (h1.block k hk hne)⟩
theorem grown_below {a b : World} (R : Option Nat) (h : Below a.heap.size a b) : a.grownBy b R := ⟨h.os, h.tape, h.output, h.size, fun k hk _ => h.block k hk⟩
theorem grown_refl (a : World) (R : Option Nat) : a.grownBy a R := World.grownBy.refl a R
theorem grown_drewN {a b : World} {R : Option Nat} (h : a.grownBy b R) (n : Nat) : a.grownBy (b.drewN n) R := ⟨h.os, h.tape, h.output, h.size, h.block⟩

/-- The reader in block R has been asked p times. -/
def RdOk (R p : Nat) (w : World) : Prop :=
  ∃ (bo : Option Addr) (n cap : Nat), R < w.heap.size ∧ w.cell? ⟨R, 0, none⟩ = some (.slice bo n cap) ∧ w.cell? ⟨R, 1, none⟩ = some (.int .i64 (p : Int)) ∧ w.frozen? ⟨R, 1, none⟩ = false ∧
    (n = 0 ∨ ∃ b off, bo = some ⟨b, off, none⟩ ∧ b < R ∧ n ≤ cap ∧ cap ≤ maxLen ∧ n ≤ 2000 ∧ ∀ j, j < n → ∃ z : Nat, z < 256 ∧ w.cell? ⟨b, off + j, none⟩ = some (.int .u8 (z : Int)))
theorem RdOk.lt {R p : Nat} {w : World} (h : RdOk R p w) : R < w.heap.size := by obtain ⟨_, _, _, h, _⟩ := h; exact h
theorem RdOk.below {R p : Nat} {w w' : World} (h : RdOk R p w) (hb : Below w.heap.size w w') : RdOk R p w' := by
  obtain ⟨bo, n, cap, h1, h2, h3, h4, h5⟩ := h
  refine ⟨bo, n, cap, Nat.lt_of_lt_of_le h1 hb.size, by rw [hb.cell (p := ⟨R, 0, none⟩) h1]; exact h2, by rw [hb.cell (p := ⟨R, 1, none⟩) h1]; exact h3, by rw [hb.frozen (p := ⟨R, 1, none⟩) h1]; exact h4, ?_⟩
  rcases h5 with h5 | ⟨b, off, h6, h7, h8, h9, h10, h11⟩
  · exact .inl h5
  · refine .inr ⟨b, off, h6, h7, h8, h9, h10, fun j hj => ?_⟩
    obtain ⟨z, hz, hc⟩ := h11 j hj
    exact ⟨z, hz, by rw [hb.cell (p := ⟨b, off + j, none⟩) (show b < w.heap.size by omega)]; exact hc⟩
theorem RdOk.drewN {R p : Nat} {w : World} (h : RdOk R p w) (n : Nat) : RdOk R p (w.drewN n) := h
theorem RdOk.stepped {R p : Nat} {w : World} (h : RdOk R p w) : RdOk R (p + 1) (w.setCell ⟨R, 1, none⟩ (.int .i64 ((p : Int) + 1))) ∧ w.grownBy (w.setCell ⟨R, 1, none⟩ (.int .i64 ((p : Int) + 1))) (some R) := by
  obtain ⟨bo, n, cap, h1, h2, h3, h4, h5⟩ := h
  refine ⟨⟨bo, n, cap, by simpa using h1, ?_, ?_, by rw [World.frozen?_setCell]; exact h4, ?_⟩, ⟨rfl, rfl, rfl, by simp, fun k _ hk => heap_setCell_other w ⟨R, 1, none⟩ k _ (fun e => hk (by simp [e]))⟩⟩
  · rw [World.cell?_setCell_other w _ _ _ (by intro e; injection e with _ e; cases e)]; exact h2
  · rw [World.cell?_setCell_same w _ _ h3]; rfl
  · rcases h5 with h5 | ⟨b, off, h6, h7, h8, h9, h10, h11⟩
    · exact .inl h5
    · refine .inr ⟨b, off, h6, h7, h8, h9, h10, fun j hj => ?_⟩
      obtain ⟨z, hz, hc⟩ := h11 j hj
      exact ⟨z, hz, by rw [World.cell?_setCell_other w _ _ _ (by intro e; injection e with e _; omega)]; exact hc⟩

theorem xor_i64 (a b : Int) (ha : 0 ≤ a) (hb : 0 ≤ b) (ha' : a < 9223372036854775808) (hb' : b < 9223372036854775808) : bits .xor .i64 a b = ((a.toNat ^^^ b.toNat : Nat) : Int) := by
  obtain ⟨x, rfl⟩ := Int.eq_ofNat_of_zero_le ha
  obtain ⟨y, rfl⟩ := Int.eq_ofNat_of_zero_le hb
  have hx : x < 2 ^ 63 := by omega
  have hy : y < 2 ^ 63 := by omega
  have ha2 : x % 2 ^ 64 = x := Nat.mod_eq_of_lt (by omega)
  have hb2 : y % 2 ^ 64 = y := Nat.mod_eq_of_lt (by omega)
  have hxy : x ^^^ y < 2 ^ 63 := Nat.xor_lt_two_pow hx hy
  have hk : IntKind.i64.bits = 64 := rfl
  simp only [bits, BitVec.ofInt_natCast, BitVec.toNat_xor, BitVec.toNat_ofNat, hk, ha2, hb2, Int.toNat_natCast]
  rw [IntKind.wrap_i64]
  omega
theorem xor_nonneg (a : Int) (ha : 0 ≤ a) (ha' : a < 9223372036854775808) : 0 ≤ bits .xor .i64 a (a / 64) := by
  rw [xor_i64 _ _ ha (by omega) ha' (by omega)]; omega
theorem tmod_bd (a n : Int) (ha : 0 ≤ a) (hn : 1 ≤ n) : 0 ≤ a.tmod n ∧ a.tmod n < n := by
  rw [Int.tmod_eq_emod_of_nonneg ha]
  exact ⟨Int.emod_nonneg _ (by omega), Int.emod_lt_of_pos _ (by omega)⟩

/-- A number has been drawn. -/
def PickRet (R p : Nat) (n : Int) (w : World) (e : Ending) (w' : World) : Prop :=
  ∃ k : Int, e = .returned (.int .i64 k) ∧ (1 ≤ n → 0 ≤ k ∧ k < n) ∧ (n < 1 → k = 0) ∧ RdOk R (p + 1) w' ∧ w.grownBy w' (some R)

set_option maxHeartbeats 2000000 in
theorem pick_any (R p : Nat) (n : Int) (w : World) (h : RdOk R p w) (hp : p ≤ 1000000) : Calls Try.prog 70 #[.pointer (some ⟨R, 0, none⟩), .int .i64 n] w (PickRet R p n w) := by
  have hst := h.stepped
  have HST := Lib.hid hst
  obtain ⟨bo, m, cap, h1, h2, h3, h4, h5⟩ := h
  by_cases hn : n < 1
  · clear hst h5
    go_enter Try.func70, Try.ntmps70
    go_wp2
    go_ret
    exact ⟨0, rfl, fun h => by omega, fun _ => rfl, HST.out⟩
  · have hn1 : 1 ≤ n := by omega
    rcases h5 with h5 | ⟨b, off, h6, h7, h8, h9, h10, h11⟩
    · subst h5
      clear hst
      go_enter Try.func70, Try.ntmps70
      go_wp2
      go_ret
      exact ⟨0, rfl, fun h => by omega, fun _ => rfl, HST.out⟩
    · subst h6
      have H11 := Lib.hid h11
      clear h11 hst
      by_cases hm : m = 0
      · subst hm
        go_enter Try.func70, Try.ntmps70
        go_wp2
        go_ret
        exact ⟨0, rfl, fun h => by omega, fun _ => rfl, HST.out⟩
      · have hmb : ((m : Int) == 0) = false := by simp; omega
        have hm1 : 1 ≤ (m : Int) := by omega
        have hmx : 0 < m := by omega
        have hbR : b ≠ R := by omega
        unfold maxLen at h9
        by_cases hpm : p < m
        · obtain ⟨z, hz, hc⟩ := H11.out p hpm
          have hc2 : (w.setCell ⟨R, 1, none⟩ (.int .i64 ((p : Int) + 1))).cell? ⟨b, off + p, none⟩ = some (.int .u8 (z : Int)) := by
            rw [World.cell?_setCell_other w _ _ _ (by intro e; injection e with e _; exact hbR e.symm)]; exact hc
          have hz2 : (z : Int) < 256 := by omega
          clear hc hm
          go_enter Try.func70, Try.ntmps70
          go_wp2
          go_ret
          exact ⟨_, rfl, fun h => ⟨Int.emod_nonneg _ (by omega), Int.emod_lt_of_pos _ (by omega)⟩, fun h => by omega, HST.out⟩
        · obtain ⟨j1, hj1⟩ : ∃ j, p % m = j := ⟨_, rfl⟩
          obtain ⟨j2, hj2⟩ : ∃ j, (p * 7 + 3) % m = j := ⟨_, rfl⟩
          obtain ⟨q, hq⟩ : ∃ q, p / m = q := ⟨_, rfl⟩
          have hj1m : j1 < m := by rw [← hj1]; exact Nat.mod_lt _ hmx
          have hj2m : j2 < m := by rw [← hj2]; exact Nat.mod_lt _ hmx
          have hqp : q ≤ 1000000 := by rw [← hq]; exact Nat.le_trans (Nat.div_le_self _ _) hp
          have e1 : (p : Int) % (m : Int) = (j1 : Int) := by rw [← hj1]; simp
          have e2 : ((p : Int) * 7 + 3) % (m : Int) = (j2 : Int) := by rw [← hj2]; simp
          have e3 : (p : Int) / (m : Int) = (q : Int) := by rw [← hq]; simp
          obtain ⟨z1, hz1, hc1⟩ := H11.out j1 hj1m
          obtain ⟨z2, hz2, hc2⟩ := H11.out j2 hj2m
          have hd1 : (w.setCell ⟨R, 1, none⟩ (.int .i64 ((p : Int) + 1))).cell? ⟨b, off + j1, none⟩ = some (.int .u8 (z1 : Int)) := by
            rw [World.cell?_setCell_other w _ _ _ (by intro e; injection e with e _; exact hbR e.symm)]; exact hc1
          have hd2 : (w.setCell ⟨R, 1, none⟩ (.int .i64 ((p : Int) + 1))).cell? ⟨b, off + j2, none⟩ = some (.int .u8 (z2 : Int)) := by
            rw [World.cell?_setCell_other w _ _ _ (by intro e; injection e with e _; exact hbR e.symm)]; exact hc2
          have hz1' : (z1 : Int) < 256 := by omega
          have hz2' : (z2 : Int) < 256 := by omega
          clear hc1 hc2 hm hj1 hj2 hq
          go_enter Try.func70, Try.ntmps70
          go_wp2_with fail
          go_quiet (fail)
          rename_i nq
          go_wp2
          go_ret
          exact ⟨_, rfl, fun h => tmod_bd _ _ (xor_nonneg _ (by omega) (by omega)) h, fun h => by omega, HST.out.1.drewN nq, grown_drewN HST.out.2 nq⟩

/-- The reader has gone on by at most K, and nothing else that was there has turned. -/
def Adv (R p K : Nat) (w w' : World) : Prop := ∃ p', p' ≤ p + K ∧ RdOk R p' w' ∧ w.grownBy w' (some R)
theorem Adv.lt {R p K : Nat} {w w' : World} (h : Adv R p K w w') : R < w'.heap.size := by obtain ⟨_, _, h, _⟩ := h; exact h.lt

def NumRet (R p : Nat) (xs : List Int) (w : World) (e : Ending) (w' : World) : Prop := ∃ j x, j < xs.length ∧ xs[j]?.getD 0 = x ∧ e = .returned (.int .i64 x) ∧ RdOk R (p + 1) w' ∧ w.grownBy w' (some R)

set_option maxHeartbeats 400000 in
theorem num_any (R p g m cap : Nat) (xs : List Int) (w : World) (h : RdOk R p w) (hp : p ≤ 1000000) (hc : Hid (∀ j, j < m → w.cell? ⟨g, j, none⟩ = some (.int .i64 (xs[j]?.getD 0)))) (HM : Hid (xs.length = m)) (hg : g ≠ R) (hm : 1 ≤ m) (hm2 : m ≤ 1000) (hcap : m ≤ cap) (hcap2 : cap ≤ 1000) :
    Calls Try.prog 58 #[.pointer (some ⟨R, 0, none⟩), .slice (some ⟨g, 0, none⟩) m cap] w (NumRet R p xs w) := by
  go_enter Try.func58, Try.ntmps58
  go_wp2_with fail
  refine (pick_any R p m w h hp).mono ?_
  rintro e w' ⟨k, rfl, hk, -, hr, hgr⟩
  obtain ⟨hk0, hk1⟩ := hk (by omega)
  obtain ⟨j, rfl⟩ := Int.eq_ofNat_of_zero_le hk0
  have hjm : j < m := by omega
  have hcell := hgr.cell (hc.out j hjm) (by intro e; injection e with e; exact hg e)
  obtain ⟨x, hx⟩ : ∃ x, xs[j]?.getD 0 = x := ⟨_, rfl⟩
  rw [hx] at hcell
  have HX := Lib.hid hx
  have HR := Lib.hid hr
  have HG := Lib.hid hgr
  clear hx hk hr hgr
  go_wp2
  go_ret
  exact ⟨j, x, by rw [HM.out]; exact hjm, HX.out, rfl, HR.out, HG.out⟩

def OfRet (R p : Nat) (xs : List ByteArray) (w : World) (e : Ending) (w' : World) : Prop := ∃ j x, j < xs.length ∧ xs[j]?.getD ByteArray.empty = x ∧ e = .returned (.string x) ∧ RdOk R (p + 1) w' ∧ w.grownBy w' (some R)

set_option maxHeartbeats 400000 in
theorem of_any (R p g m cap : Nat) (xs : List ByteArray) (w : World) (h : RdOk R p w) (hp : p ≤ 1000000) (hc : Hid (∀ j, j < m → w.cell? ⟨g, j, none⟩ = some (.string (xs[j]?.getD ByteArray.empty)))) (HM : Hid (xs.length = m)) (hg : g ≠ R) (hm : 1 ≤ m) (hm2 : m ≤ 1000) (hcap : m ≤ cap) (hcap2 : cap ≤ 1000) :
    Calls Try.prog 77 #[.pointer (some ⟨R, 0, none⟩), .slice (some ⟨g, 0, none⟩) m cap] w (OfRet R p xs w) := by
  go_enter Try.func77, Try.ntmps77
  go_wp2_with fail
  refine (pick_any R p m w h hp).mono ?_
  rintro e w' ⟨k, rfl, hk, -, hr, hgr⟩
  obtain ⟨hk0, hk1⟩ := hk (by omega)
  obtain ⟨j, rfl⟩ := Int.eq_ofNat_of_zero_le hk0
  have hjm : j < m := by omega
  have hcell := hgr.cell (hc.out j hjm) (by intro e; injection e with e; exact hg e)
  obtain ⟨x, hx⟩ : ∃ x, xs[j]?.getD ByteArray.empty = x := ⟨_, rfl⟩
  rw [hx] at hcell
  have HX := Lib.hid hx
  have HR := Lib.hid hr
  have HG := Lib.hid hgr
  clear hx hk hr hgr
  go_wp2
  go_ret
  exact ⟨j, x, by rw [HM.out]; exact hjm, HX.out, rfl, HR.out, HG.out⟩

theorem lit_ints (w : World) (xs : List Int) (T : TypeId) : Hid (∀ j, j < xs.length → (w.alloc (.cells (xs.map (Value.int .i64)).toArray T)).cell? ⟨w.heap.size, j, none⟩ = some (.int .i64 (xs[j]?.getD 0))) := by
  intro j hj
  have := World.cell?_alloc_mark w (xs.map (Value.int .i64)).toArray T (0, 0) j
  rw [this]
  simp [List.getElem?_eq_getElem hj]
theorem lit_strs (w : World) (xs : List ByteArray) (T : TypeId) : Hid (∀ j, j < xs.length → (w.alloc (.cells (xs.map Value.string).toArray T)).cell? ⟨w.heap.size, j, none⟩ = some (.string (xs[j]?.getD ByteArray.empty))) := by
  intro j hj
  have := World.cell?_alloc_mark w (xs.map Value.string).toArray T (0, 0) j
  rw [this]
  simp [List.getElem?_eq_getElem hj]
theorem all_getD {α : Type} (xs : List α) (d : α) (p : α → Bool) (h : xs.all p = true) (j : Nat) (hj : j < xs.length) : p (xs[j]?.getD d) = true := by
  rw [List.getElem?_eq_getElem hj]; exact List.all_eq_true.1 h _ (List.getElem_mem hj)

/-- A number that meets p has been drawn. -/
def IntRet (R p K : Nat) (P : Int → Prop) (w : World) (e : Ending) (w' : World) : Prop := ∃ x, e = .returned (.int .i64 x) ∧ P x ∧ Adv R p K w w'
def StrRet (R p K N : Nat) (w : World) (e : Ending) (w' : World) : Prop := ∃ s : ByteArray, e = .returned (.string s) ∧ s.size ≤ N ∧ Adv R p K w w'

theorem adv_lit {R p K : Nat} {w w' : World} {o : Obj} (h : RdOk R (p + K) w' ∧ (w.alloc o).grownBy w' (some R)) : Adv R p K w w' :=
  ⟨p + K, Nat.le_refl _, h.1, grown_trans (World.grownBy_alloc w o (some R)) h.2⟩
theorem adv_trans {R p p1 K1 K2 K : Nat} {w w1 w2 : World} (hp : p1 ≤ p + K1) (h1 : w.grownBy w1 (some R)) (h2 : Adv R p1 K2 w1 w2) (hK : K1 + K2 ≤ K) : Adv R p K w w2 := by
  obtain ⟨p', h3, h4, h5⟩ := h2
  exact ⟨p', by omega, h4, grown_trans h1 h5⟩
theorem adv_below {R p p1 K : Nat} {w w1 w2 : World} (hp : p1 ≤ p + K) (h0 : RdOk R p1 w1) (h1 : w.grownBy w1 (some R)) (h2 : Below w1.heap.size w1 w2) : Adv R p K w w2 :=
  ⟨p1, hp, h0.below h2, grown_trans h1 (grown_below _ h2)⟩
theorem adv_mono {R p K K' : Nat} {w w' : World} (h : Adv R p K w w') (hK : K ≤ K') : Adv R p K' w w' := by
  obtain ⟨p', h3, h4, h5⟩ := h; exact ⟨p', by omega, h4, h5⟩

def NumLit (R p : Nat) (xs : List Int) (w : World) (e : Ending) (w' : World) : Prop := ∃ j x, j < xs.length ∧ xs[j]?.getD 0 = x ∧ e = .returned (.int .i64 x) ∧ Adv R p 1 w w'
theorem num_lit (R p : Nat) (xs : List Int) (A : Array Value) (T : TypeId) (w : World) (hA : A = (xs.map (Value.int .i64)).toArray) (h : RdOk R p w) (hp : p ≤ 1000000) (m : Nat) (hm : xs.length = m) (hm1 : 1 ≤ m) (hm2 : m ≤ 1000) :
    Calls Try.prog 58 #[.pointer (some ⟨R, 0, none⟩), .slice (some ⟨w.heap.size, 0, none⟩) m m] (w.alloc (.cells A T)) (NumLit R p xs w) := by
  subst hA
  subst hm
  have hlt := h.lt
  refine (num_any R p w.heap.size xs.length xs.length xs _ (h.below ((Below.refl _ _).alloc (Nat.le_refl _) _)) hp (lit_ints w xs T) (Lib.hid rfl) (by omega) hm1 hm2 (Nat.le_refl _) hm2).mono ?_
  rintro e w' ⟨j, x, hj, hx, he, hr⟩
  exact ⟨j, x, hj, hx, he, adv_lit hr⟩
def OfLit (R p : Nat) (xs : List ByteArray) (w : World) (e : Ending) (w' : World) : Prop := ∃ j x, j < xs.length ∧ xs[j]?.getD ByteArray.empty = x ∧ e = .returned (.string x) ∧ Adv R p 1 w w'
theorem of_lit (R p : Nat) (xs : List ByteArray) (A : Array Value) (T : TypeId) (w : World) (hA : A = (xs.map Value.string).toArray) (h : RdOk R p w) (hp : p ≤ 1000000) (m : Nat) (hm : xs.length = m) (hm1 : 1 ≤ m) (hm2 : m ≤ 1000) :
    Calls Try.prog 77 #[.pointer (some ⟨R, 0, none⟩), .slice (some ⟨w.heap.size, 0, none⟩) m m] (w.alloc (.cells A T)) (OfLit R p xs w) := by
  subst hA
  subst hm
  have hlt := h.lt
  refine (of_any R p w.heap.size xs.length xs.length xs _ (h.below ((Below.refl _ _).alloc (Nat.le_refl _) _)) hp (lit_strs w xs T) (Lib.hid rfl) (by omega) hm1 hm2 (Nat.le_refl _) hm2).mono ?_
  rintro e w' ⟨j, x, hj, hx, he, hr⟩
  exact ⟨j, x, hj, hx, he, adv_lit hr⟩
theorem getD_bd (xs : List Int) (P : Int → Prop) [DecidablePred P] (h : xs.all (fun x => decide (P x)) = true) {j : Nat} {x : Int} (hj : j < xs.length) (hx : xs[j]?.getD 0 = x) : P x := by
  have := all_getD xs 0 (fun x => decide (P x)) h j hj
  rw [hx] at this
  exact of_decide_eq_true this
theorem getD_sz (xs : List ByteArray) (N : Nat) (h : xs.all (fun x => decide (x.size ≤ N)) = true) {j : Nat} {x : ByteArray} (hj : j < xs.length) (hx : xs[j]?.getD ByteArray.empty = x) : x.size ≤ N := by
  have := all_getD xs ByteArray.empty (fun x => decide (x.size ≤ N)) h j hj
  rw [hx] at this
  exact of_decide_eq_true this

def ManyRel (N : Nat) (v0 v1 v5 : Value) : Prop := ∃ (k : Nat) (t r : ByteArray), v0 = .string t ∧ v1 = .int .i64 k ∧ v5 = .string r ∧ r.size + t.size * k = N ∧ t.size ≤ 2 * N ∧ 1 ≤ t.size

theorem append_size (a b : ByteArray) : (a ++ b).size = a.size + b.size := by simp [ByteArray.size_append]

end Go.Proofs.Ytagegbhchljggaa
