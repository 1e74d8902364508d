/- l3Parse of the reference: that it ends with a row. -/
import Derived.Test.YtagegbhchljggaaAText
import Derived.Test.YtagegbhchljggaaAO
namespace Go.Proofs.Ytagegbhchljggaa
open Go.RowKit
set_option linter.unusedVariables false
set_option linter.unusedSimpArgs false
set_option maxRecDepth 100000

def ParseRow (s : ByteArray) (w : World) (e : Ending) (w' : World) : Prop := ∃ (ao : Option Addr) (n c : Nat) (row : List Int) (b : Bool), e = .returned (.tuple #[.slice ao n c, .bool b]) ∧ IRow w.heap.size w' (.slice ao n c) row ∧ row.length ≤ s.size + 1 ∧ Below w.heap.size w w'
theorem sown_kept {B e sz n : Nat} {w w5 : World} {pv v : Value} {ss : List ByteArray} {xs : List Value} (hs : SOwn B w pv ss) (ho : w.ownsRow B e sz v n xs) (he : 9 ≠ e) (hk : w.grownBy w5 v.ownBlock) : SOwn B w5 pv ss := World.ownsRow.kept hs hk (own_apart hs ho he)
theorem notEmpty {s : ByteArray} (h : ¬ s.size = 0) : s.toList.isEmpty = false := by
  rw [ByteArray.toList_eq]
  cases hd : s.data.toList with
  | nil => exact absurd (by rw [show s.size = s.data.toList.length by rw [Array.length_toList]; rfl, hd]; rfl) h
  | cons a l => rfl
set_option maxHeartbeats 4000000 in
theorem l3Parse_any (s : ByteArray) (hs : s.size ≤ 1000) (w : World) : Calls Try.prog 82 #[.string s] w (ParseRow s w) := by
  have hb1 := (Below.refl w.heap.size w).alloc (Nat.le_refl _) (.cells #[] 3)
  have hrow1 := IRow.empty w.heap.size w (Nat.le_refl _)
  by_cases h0 : s.size = 0
  · have hs0 : s = ByteArray.empty := ByteArray.ext (Array.eq_empty_of_size_eq_zero h0)
    subst hs0
    go_enter Try.func82, Try.ntmps82
    go_wp2
    go_ret2
    exact ⟨_, _, _, [], _, rfl, hrow1, by simp, hb1⟩
  · have hemp := notEmpty h0
    obtain ⟨w1, hw1⟩ : ∃ w1, w.alloc (.cells #[] 3) = w1 := ⟨_, rfl⟩
    rw [hw1] at hb1 hrow1
    have HB1 := Lib.hid hb1
    have HROW1 := Lib.hid hrow1; clear hrow1
    clear hb1
    go_enter Try.func82, Try.ntmps82
    go_wp2_with fail
    refine (l19Cut_at 44 s (by omega) w1).mono ?_
    rintro e w2 ⟨n, cap, ao, ss, rfl, hn, hone, hns, hown, hall, hb2⟩
    have hlt1 := (World.ownsRow.lt HROW1.out w.heap.size rfl).2
    have hown' : SOwn w.heap.size w2 (.slice ao n cap) ss := ownsRow_base hown (by omega)
    have HB2 := Lib.hid (HB1.out.trans (hb2.mono HB1.out.size))
    have HROW2 := Lib.hid (HROW1.out.below hb2)
    have HOWN2 := Lib.hid hown'
    have HALL := Lib.hid hall; clear hall
    have HN := Lib.hid hn; clear hn
    clear hown hown' hb2 HB1 HROW1
    have hn1001 : n ≤ 1001 := by omega
    go_wp2
    go_loopw [4, 6] (fun v i wr => ∃ (k : Nat) (ar : Option Addr) (nr cr : Nat) (row : List Int), i = .int .i64 k ∧ v = .slice ar nr cr ∧ k ≤ n ∧ IRow w.heap.size wr (.slice ar nr cr) row ∧ row.length = k ∧ SOwn w.heap.size wr (.slice ao n cap) ss ∧ Below w.heap.size w wr) (fun _ i _ => n - (intOf i).toNat)
    case atStart => exact ⟨0, _, 0, 0, [], rfl, rfl, Nat.zero_le _, HROW2.out, rfl, HOWN2.out, HB2.out⟩
    case round =>
      clear HROW2 HOWN2 HB2
      obtain ⟨k, ar, nr, cr, row, rfl, rfl, hk, hrow, hrl, hown, hbel⟩ := hrel
      have HRL := Lib.hid hrl; clear hrl
      by_cases hlt : k < n
      · obtain ⟨-, hncap, hcapm, g, rfl, hBg, hg1, hcells⟩ := hown.at (by omega : 0 < n)
        unfold maxLen at hcapm
        have hc0 := hcells k hlt
        obtain ⟨x, hx⟩ : ∃ x, ss[k]?.getD ByteArray.empty = x := ⟨_, rfl⟩
        have hxs : x.size ≤ 1000 := by
          have hj : k < ss.length := by rw [← HN.out]; exact hlt
          rw [← hx, List.getElem?_eq_getElem hj, Option.getD_some]
          have := HALL.out _ (List.getElem_mem hj)
          omega
        rw [hx] at hc0
        have HROW := Lib.hid hrow
        have HOWN := Lib.hid hown
        have HB := Lib.hid hbel
        have hBw : w.heap.size ≤ wr.heap.size := hbel.size
        clear hx hcells hrow hown hbel
        go_wp2_with fail
        refine (l19Num_any x (by omega) wr).mono ?_
        rintro e w3 ⟨q, b, rfl, hw3⟩
        replace hw3 := hw3.symm
        subst hw3
        cases b with
        | false =>
          go_wp2
          go_ret2
          exact ⟨none, 0, 0, [], false, rfl, IRow.nil _ _, by simp, HB.out⟩
        | true =>
          go_wp2_with (at_builtin; refine app_int wr q w.heap.size rfl rfl _ _ rfl (.slice ar nr cr) row rfl HROW.out rfl ?_ hBw ?_)
          · have := HRL.out; omega
          intro ar' nr' cr' w5 hnr' hrow' hkept
          have HB5 := Lib.hid (hkept.1 w HB.out)
          have HOWN5 := Lib.hid (sown_kept HOWN.out HROW.out (by decide) hkept.2)
          have HROW5 := Lib.hid hrow'; clear hrow'
          clear hkept
          go_wp2
          go_roundw
          case rel => exact ⟨k + 1, ar', nr', cr', _, by go_num, rfl, by omega, HROW5.out, by rw [List.length_append, HRL.out]; rfl, HOWN5.out, HB5.out⟩
          case measure => simp [intOf] <;> omega
      · obtain rfl : k = n := by omega
        have HROW := Lib.hid hrow
        have HB := Lib.hid hbel
        clear hrow hbel hown
        go_wp2
        go_ret2
        exact ⟨_, _, _, row, _, rfl, HROW.out, by have := HRL.out; omega, HB.out⟩
end Go.Proofs.Ytagegbhchljggaa
