/- The program's table of moves and its step over a set. -/
import Derived.Test.YtknhgfmjchfnjaaDoorSysStep
import Derived.Shelf.Spec.TrailingZeros
import Derived.StillTailTactics
import Derived.BigQuiet
namespace Go.Proofs.YtknhgfmjchfnjaaDoor
open Go.RowKit
set_option linter.unusedVariables false
set_option linter.unusedSimpArgs false
set_option maxRecDepth 100000

/-- The library's table lies in its variable. -/
def Tab (w : World) : Prop := ∀ j, j < Lib.deBruijn64tab.length → w.cell? ⟨1, j, none⟩ = some (.int .u8 (Lib.deBruijn64tab.getD j 0))
theorem Tab.below {w w' : World} (h : Tab w) (hb : Below w.heap.size w w') : Tab w' := fun j hj => by
  rw [cell_below hb (cell_lt (h j hj))]; exact h j hj
theorem Tab.drew {w : World} (h : Tab w) : Tab w.drew := h
theorem tz64_core (x k idx : Nat) (w : World) (hx0 : ((x : Int) == 0) = false)
    (key : IntKind.u64.wrap (bits BinOp.and IntKind.u64 (x : Int) (IntKind.u64.wrap (-(x : Int))) * 285870213051353865) / 288230376151711744 = (idx : Int))
    (hi : idx < 64) (hk : k < 64) (hcell : w.cell? ⟨1, idx, none⟩ = some (.int .u8 k)) :
    Calls Tryd.prog 88 #[.int .u64 x] w (Ret (.int .i64 k) w) := by
  go_enter Tryd.func88, Tryd.ntmps88
  go_wp2_with (simp only [key])
  go_ret
  exact ⟨rfl, rfl⟩
theorem tz_any (x : Nat) (hx : x < 18446744073709551616) (h0 : x ≠ 0) (w : World) (hT : Tab w) : Calls Tryd.prog 60 #[.int .u64 x] w (Ret (.int .i64 (Lib.ctz 64 x : Nat)) w) := by
  obtain ⟨hlow, hk⟩ := Lib.lowest_bit 64 x h0 hx
  obtain ⟨hi, htab⟩ := Lib.deBruijn64_at _ hk
  have hcell := hT _ hi
  rw [htab] at hcell
  have hcore := tz64_core x _ _ w (by simp; omega) (tz64_key x _ hx h0 hlow) hi hk hcell
  have HC := Lib.hid hcore
  clear hcore htab hcell hlow
  go_enter Tryd.func60, Tryd.ntmps60
  go_wp2_with (go_at_call 88; (with_reducible refine (HC.out).mono ?_); rintro e w' ⟨rfl, rfl⟩)
  go_ret
  exact ⟨rfl, rfl⟩
theorem Tryd.zeroMoves : Tryd.zeroCells84 = Array.replicate 96 (.int .i64 0) := by kernel_rfl
theorem moves0 (w : World) : (w.alloc (.cells Tryd.zeroCells84 84)).rowIs w.heap.size 84 96 (fun _ => .int .i64 0) := by
  rw [Tryd.zeroMoves]
  exact World.rowIs_alloc w (Array.replicate 96 (.int .i64 0)) 84 _ (fun i hi => by simp at hi; simp [hi])
theorem or_w (o : Nat) (t : Int) (h : o < 65536) (h0 : 0 ≤ t) (h1 : t < 16) : bits .or .i64 (o : Int) (wrap64 (2 ^ t.toNat)) = ((o ||| 2 ^ t.toNat : Nat) : Int) := by
  rw [wrap64_pow2 t (by omega)]
  exact or_n _ _ h (bit_lt t h0 h1)
/-- The table of the first k edges. -/
def mvF (es : List Edg) (k : Nat) (j : Nat) : Value := .int .i64 (stepN (es.take k) (2 ^ (j / 6)) ((j % 6 : Nat) : Int) : Nat)
theorem hasB_pow (q : Nat) (f : Int) : hasB ((2 ^ q : Nat) : Int) f = (decide (0 ≤ f) && decide (q = f.toNat)) := by
  unfold hasB
  rw [Int.toNat_natCast, Nat.testBit_two_pow]
theorem mvF_next (es : List Edg) (k : Nat) (f l : Nat) (t : Int) (o : Nat) (hl : l < 6) (he : es.take (k + 1) = es.take k ++ [((f : Int), (l : Int), t)]) (ho : stepN (es.take k) (2 ^ f) (l : Int) = o) (j : Nat) :
    (if j = f * 6 + l then .int .i64 ((o ||| 2 ^ t.toNat : Nat) : Int) else mvF es k j) = mvF es (k + 1) j := by
  unfold mvF
  by_cases e : j = f * 6 + l
  · have e1 : j / 6 = f := by omega
    have e2 : j % 6 = l := by omega
    rw [if_pos e, e1, e2, he, stepN_yes _ _ _ _ rfl (by rw [hasB_pow]; simp), ho]
  · rw [if_neg e, he, stepN_no]
    rintro ⟨h1, h2⟩
    rw [hasB_pow] at h2
    simp only [Bool.and_eq_true, decide_eq_true_eq, Int.toNat_natCast] at h2
    have h1' : (l : Int) = ((j % 6 : Nat) : Int) := h1
    omega
set_option maxHeartbeats 1000000 in
theorem movesOf_any (al st : Int) (a1 : Option Addr) (n1 c1 : Nat) (es : List Edg) (w : World) (h : EV w (.slice a1 n1 c1) es) (hok : OkE es) :
    Calls Tryd.prog 45 #[.agg #[.int .i64 al, .int .i64 st, .slice a1 n1 c1]] w (fun e w' => ∃ b, e = .returned (.pointer (some ⟨b, 0, none⟩)) ∧ w'.rowIs b 84 96 (fun j => .int .i64 (stepN es (2 ^ (j / 6)) ((j % 6 : Nat) : Int) : Nat)) ∧ w.heap.size ≤ b ∧ Below w.heap.size w w') := by
  obtain ⟨hn, hcap, hmax, hcell⟩ := h.at
  have HC := Lib.hid hcell; clear hcell
  have HN := Lib.hid hn; clear hn
  have HOK := Lib.hid hok; clear hok
  clear h
  go_enter Tryd.func45, Tryd.ntmps45
  go_wp2
  obtain ⟨w1, hw1⟩ : ∃ w1, ((w.alloc (.cells #[.int .i64 al, .int .i64 st, .slice a1 n1 c1] 25)).alloc (.cells Tryd.zeroCells84 84)) = w1 := ⟨_, rfl⟩
  have hb1 : Below w.heap.size w w1 := by rw [← hw1]; exact ((Below.refl _ _).alloc (Nat.le_refl _) _).alloc (by simp) _
  have hr1 : w1.rowIs (w.heap.size + 1) 84 96 (fun _ => .int .i64 0) := by
    rw [← hw1]
    have := moves0 (w.alloc (.cells #[.int .i64 al, .int .i64 st, .slice a1 n1 c1] 25))
    simpa using this
  rw [hw1]
  clear hw1
  have HB1 := Lib.hid hb1
  have HR1 := Lib.hid hr1
  clear hb1 hr1
  go_loopw [10] (fun i wr => ∃ k : Nat, k ≤ n1 ∧ i = .int .i64 k ∧ Below w.heap.size w wr ∧ wr.rowIs (w.heap.size + 1) 84 96 (mvF es k)) (fun i _ => n1 - (intOf i).toNat)
  case atStart => exact ⟨0, by omega, rfl, HB1.out, HR1.out.congr (fun j _ => rfl)⟩
  case round =>
    obtain ⟨k, hk, rfl, hbel, hrow⟩ := hrel
    by_cases hlt : k < n1
    · rcases HC.out with h0 | ⟨b, off, rfl, hb, hc⟩
      · omega
      · have hu := hc k hlt
        rw [← cell_below hbel hb, ← cell_below hbel hb, ← cell_below hbel hb] at hu
        have hlt' : k < es.length := by rw [← HN.out]; exact hlt
        have htk := take_snoc_e es k hlt'
        have hek := HOK.out.at k hlt'
        obtain ⟨f, l, t, he⟩ : ∃ f l t, Edg.at es k = (f, l, t) := ⟨_, _, _, rfl⟩
        rw [he] at hu hek htk
        obtain ⟨e0, e1, e2⟩ := hu
        dsimp only at e0 e1 e2 hek
        obtain ⟨⟨hf0, hf1⟩, ⟨hl0, hl1⟩, ht0, ht1⟩ := hek
        obtain ⟨f, rfl⟩ := Int.eq_ofNat_of_zero_le hf0
        obtain ⟨l, rfl⟩ := Int.eq_ofNat_of_zero_le hl0
        obtain ⟨o, ho⟩ : ∃ o, stepN (es.take k) (2 ^ f) (l : Int) = o := ⟨_, rfl⟩
        have hol := stepN_take_lt HOK.out k (2 ^ f) (l : Int)
        rw [ho] at hol
        have hbl := bit_lt t ht0 ht1
        have hor := or_w o t hol ht0 ht1
        have hci := hrow.cell (i := f * 6 + l) (by omega)
        have hfi := hrow.frozen (f * 6 + l)
        have hmv : mvF es k (f * 6 + l) = .int .i64 (o : Int) := by
          unfold mvF
          rw [show (f * 6 + l) / 6 = f by omega, show (f * 6 + l) % 6 = l by omega, ho]
        have HBEL := Lib.hid hbel
        have HROW := Lib.hid hrow
        have HTK := Lib.hid htk; clear htk
        have HO := Lib.hid ho; clear ho
        have HOR := Lib.hid hor; clear hor
        have HMV := Lib.hid hmv; clear hmv
        clear hc hbel hrow he hbl hlt' hci hfi
        go_wp2_with fail
        obtain ⟨x0, hx0⟩ : ∃ x0, wr.heap.size = x0 := ⟨_, rfl⟩
        obtain ⟨w5, hw5⟩ : ∃ w5, (wr.alloc (.cells #[.int .i64 (f : Int), .int .i64 (l : Int), .int .i64 t] 58)) = w5 := ⟨_, rfl⟩
        have hr5 := own_cells' wr #[.int .i64 (f : Int), .int .i64 (l : Int), .int .i64 t] 58 3 rfl
        have hb5 := below_new' wr 58 #[.int .i64 (f : Int), .int .i64 (l : Int), .int .i64 t]
        rw [hx0] at hr5
        rw [hw5] at hr5 hb5 ⊢
        rw [hx0]
        have g0 : w5.cell? ⟨x0, 0, none⟩ = some (.int .i64 (f : Int)) := hr5.cell (by decide)
        have g1 : w5.cell? ⟨x0, 1, none⟩ = some (.int .i64 (l : Int)) := hr5.cell (by decide)
        have g2 : w5.cell? ⟨x0, 2, none⟩ = some (.int .i64 t) := hr5.cell (by decide)
        have hrow5 := rowIs_below' HROW.out hb5
        have hci := hrow5.cell (i := f * 6 + l) (by omega)
        have hfi := hrow5.frozen (f * 6 + l)
        rw [HMV.out] at hci
        have HROW5 := Lib.hid hrow5
        have HB5 := Lib.hid (HBEL.out.trans (hb5.mono HBEL.out.size))
        clear hw5 hr5 hb5 hrow5 hx0 e0 e1 e2
        go_still_tail 16, (by kernel_rfl)
        change wpList _ _ _ _ _ w5.drew
        go_wp2
        go_roundw
        case rel => exact ⟨k + 1, by omega, by go_num, HB5.out.drew.setCell (p := ⟨w.heap.size + 1, f * 6 + l, none⟩) (by simp) _, (HROW5.out.drew.set (f * 6 + l) _).congr (fun j _ => by
          rw [HOR.out]
          exact mvF_next es k f l t o (by omega) HTK.out HO.out j)⟩
        case measure => simp [intOf] <;> omega
    · obtain rfl : k = n1 := by omega
      have HBEL := Lib.hid hbel
      have HROW := Lib.hid hrow
      clear hbel hrow
      go_wp2
      go_ret
      have hall : es.take k = es := by rw [HN.out]; exact List.take_length
      exact ⟨_, rfl, HROW.out.congr (fun j _ => by unfold mvF; rw [hall]), by omega, HBEL.out⟩


theorem quiet_plus {P : Program} {f : FuncId} {args : Array Value} {w : World} {q n : Nat} {v : Value} (h : Calls P f args (w.drewN (q + n)) (Ret v (w.drewN (q + n)))) :
    Calls P f args (w.drewN (q + n)) fun e w'' => e = .returned v ∧ ∃ m, w'' = w.drewN (q + m) := h.mono fun _ _ ⟨he, hm⟩ => ⟨he, n, hm.symm⟩
def MvT (w : World) (b : Nat) (es : List Edg) : Prop := w.rowIs b 84 96 (fun j => .int .i64 (stepN es (2 ^ (j / 6)) ((j % 6 : Nat) : Int) : Nat))
theorem MvT.below {w w' : World} {b : Nat} {es : List Edg} (h : MvT w b es) (hb : Below w.heap.size w w') : MvT w' b es := rowIs_below' h hb
theorem MvT.cell {w : World} {b : Nat} {es : List Edg} (h : MvT w b es) (q x : Nat) (hq : q < 16) (hx : x < 6) : w.cell? ⟨b, q * 6 + x, none⟩ = some (.int .i64 (stepN es (2 ^ q) (x : Int) : Nat)) := by
  have := World.rowIs.cell h (i := q * 6 + x) (by omega)
  rw [show (q * 6 + x) / 6 = q by omega, show (q * 6 + x) % 6 = x by omega] at this
  exact this
theorem and_n (a b : Nat) (h : a < 65536) (h1 : b < 65536) : bits .and .i64 (a : Int) (b : Int) = ((a &&& b : Nat) : Int) := by
  rw [and_i64 _ _ (by omega) (by omega) (by omega) (by omega), Int.toNat_natCast, Int.toNat_natCast]
set_option maxHeartbeats 1000000 in
theorem step_any (b : Nat) (es : List Edg) (s x : Nat) (w : World) (h : MvT w b es) (hT : Tab w) (hs : s < 65536) (hx : x < 6) (hok : OkE es) :
    Calls Tryd.prog 46 #[.pointer (some ⟨b, 0, none⟩), .int .i64 s, .int .i64 x] w (fun e w' => e = .returned (.int .i64 (stepN es s (x : Int) : Nat)) ∧ ∃ q, w' = w.drewN q) := by
  have H := Lib.hid h; clear h
  have HT := Lib.hid hT; clear hT
  have HOK := Lib.hid hok; clear hok
  go_enter Tryd.func46, Tryd.ntmps46
  go_wp2
  go_loopw [1, 7] (fun c o wr => ∃ (s' o' q : Nat), c = .int .i64 s' ∧ o = .int .i64 o' ∧ s' < 65536 ∧ o' < 65536 ∧ o' ||| stepN es s' (x : Int) = stepN es s (x : Int) ∧ wr = w.drewN q) (fun c _ _ => (intOf c).toNat)
  case atStart => exact ⟨s, 0, 0, rfl, rfl, hs, by omega, Nat.zero_or _, rfl⟩
  case round =>
    obtain ⟨s', o', q, rfl, rfl, hs', ho', hinv, rfl⟩ := hrel
    have HINV := Lib.hid hinv; clear hinv
    by_cases hz : s' = 0
    · subst hz
      go_wp2
      go_ret
      exact ⟨ret_int (by have := HINV.out; rw [stepN_zero, Nat.or_zero] at this; rw [this]), q, rfl⟩
    · have hz' : ¬ (s' : Int) = 0 := by omega
      have hlow := stepN_low es s' (x : Int) hz (by omega)
      have hq16 := low_lt s' hz 16 (by omega) (by decide)
      have htz := fun n => tz_any s' (by omega) hz (w.drewN n) HT.out
      have hnext : s' &&& (s' - 1) < s' := by
        have := Nat.and_le_right (n := s') (m := s' - 1)
        omega
      obtain ⟨p, hp⟩ : ∃ p, Lib.ctz 64 s' = p := ⟨_, rfl⟩
      rw [hp] at hlow hq16 htz
      have hcell := fun n => MvT.cell (w := w.drewN n) H.out p x hq16 hx
      have hol := stepN_lt HOK.out (2 ^ p) (x : Int)
      obtain ⟨y, hy⟩ : ∃ y, stepN es (2 ^ p) (x : Int) = y := ⟨_, rfl⟩
      rw [hy] at hlow hcell hol
      have hand := and_n s' (s' - 1) hs' (by omega)
      have hcast : ((s' - 1 : Nat) : Int) = (s' : Int) - 1 := by omega
      rw [hcast] at hand
      obtain ⟨z, hzz⟩ : ∃ z, s' &&& (s' - 1) = z := ⟨_, rfl⟩
      rw [hzz] at hand hnext hlow
      have hor := or_n o' y ho' hol
      have hlt2 : o' ||| y < 65536 := Nat.or_lt_two_pow (n := 16) ho' hol
      obtain ⟨r, hr⟩ : ∃ r, o' ||| y = r := ⟨_, rfl⟩
      rw [hr] at hor hlt2
      have hinv2 : r ||| stepN es z (x : Int) = stepN es s (x : Int) := by
        rw [← hr, Nat.or_assoc, ← hlow]; exact HINV.out
      have hwr : IntKind.u64.wrap (s' : Int) = (s' : Int) := by rw [IntKind.wrap_u64]; omega
      have hc0 : w.cell? ⟨b, p * 6 + x, none⟩ = some (.int .i64 (y : Int)) := hcell 0
      have HI2 := Lib.hid hinv2; clear hinv2
      have HLOW := Lib.hid hlow; clear hlow
      have HRR := Lib.hid hr; clear hr
      have HY := Lib.hid hy; clear hy
      have HP := Lib.hid hp; clear hp
      have HZZ := Lib.hid hzz; clear hzz
      have HAND := Lib.hid hand; clear hand
      have HOR := Lib.hid hor; clear hor
      have HC := Lib.hid hcell; clear hcell
      have HTZ := Lib.hid htz; clear htz
      clear hcast
      go_wp2_with fail
      go_quiet ((go_at_call 60; exact quiet_plus (HTZ.out _)))
      rename_i nq
      go_wp2
      go_roundw
      case rel => exact ⟨z, r, q + nq, by first | exact congrArg (Value.int .i64) HAND.out | skip, by first | exact congrArg (Value.int .i64) HOR.out | skip, by omega, hlt2, HI2.out, by first | rfl | rw [World.drewN_drewN]⟩
      case measure =>
        rw [HAND.out]
        simp [intOf]
        omega
end Go.Proofs.YtknhgfmjchfnjaaDoor
