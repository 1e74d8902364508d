/- FormatAlphabet on both sides: the text of an alphabet. -/
import Derived.Test.YtagegbhchljggaaRestrict
namespace Go.Proofs.Ytagegbhchljggaa
open Go.RowKit
set_option linter.unusedVariables false
set_option linter.unusedSimpArgs false
set_option maxRecDepth 100000

theorem IRow.ne {B : Nat} {w : World} {ao : Option Addr} {n cap : Nat} {xs : List Int} (h : IRow B w (.slice ao n cap) xs) (hx : xs.length ≠ 0) :
    ∃ g, ao = some ⟨g, 0, none⟩ ∧ n = xs.length ∧ B ≤ g ∧ g < w.heap.size ∧ n ≤ cap ∧ cap ≤ maxLen ∧ ∀ j, j < xs.length → w.cell? ⟨g, j, none⟩ = some (.int .i64 (xs[j]?.getD 0)) := by
  rcases h.shape with ⟨h1, h2⟩ | ⟨g, c, h1, h2, h3, h4, h5, h6, _⟩
  · rw [h2] at hx; simp at hx
  · simp at h1; obtain ⟨rfl, rfl, rfl⟩ := h1
    exact ⟨g, rfl, rfl, h2, h3, h4, h5, h6⟩
theorem BRow.ne {B : Nat} {w : World} {ao : Option Addr} {n cap : Nat} {xs : List UInt8} (h : BRow B w (.slice ao n cap) xs) (hx : xs.length ≠ 0) :
    ∃ g, ao = some ⟨g, 0, none⟩ ∧ n = xs.length ∧ B ≤ g ∧ g < w.heap.size ∧ n ≤ cap ∧ cap ≤ maxLen ∧ (∀ j, j < xs.length → w.cell? ⟨g, j, none⟩ = some (.int .u8 ((xs[j]?.getD 0).toNat : Int))) ∧ ∀ j, w.frozen? ⟨g, j, none⟩ = false := by
  rcases h.shape with ⟨h1, h2⟩ | ⟨g, c, h1, h2, h3, h4, h5, h6, h7⟩
  · rw [h2] at hx; simp at hx
  · simp at h1; obtain ⟨rfl, rfl, rfl⟩ := h1
    exact ⟨g, rfl, rfl, h2, h3, h4, h5, h6, h7⟩
theorem IRow.len {B : Nat} {w : World} {ao : Option Addr} {n cap : Nat} {xs : List Int} (h : IRow B w (.slice ao n cap) xs) : n = xs.length := by
  rcases h.shape with ⟨h1, h2⟩ | ⟨g, c, h1, _⟩
  · simp at h1; rw [h2]; exact h1.2.1
  · simp at h1; exact h1.2.1
theorem BRow.len {B : Nat} {w : World} {ao : Option Addr} {n cap : Nat} {xs : List UInt8} (h : BRow B w (.slice ao n cap) xs) : n = xs.length := by
  rcases h.shape with ⟨h1, h2⟩ | ⟨g, c, h1, _⟩
  · simp at h1; rw [h2]; exact h1.2.1
  · simp at h1; exact h1.2.1

theorem lets_getD (a : Int) (k : Nat) (h : k < (lets a).length) : 0 ≤ (lets a)[k]?.getD 0 ∧ (lets a)[k]?.getD 0 < 6 := by
  rw [List.getElem?_eq_getElem h]; exact lets_at a k h
/-- The letters of an alphabet as bytes. -/
def lbs (a : Int) : List UInt8 := (lets a).map lb
theorem lbs_len (a : Int) : (lbs a).length = (lets a).length := by simp [lbs]
theorem lbs_snoc (a : Int) (k : Nat) (h : k < (lets a).length) : (lbs a).take (k + 1) = (lbs a).take k ++ [lb ((lets a)[k]?.getD 0)] := by
  rw [List.take_succ_eq_append_getElem (by rw [lbs_len]; exact h), List.getElem?_eq_getElem h]; simp [lbs]
theorem lbs_take_len (a : Int) (k : Nat) (h : k ≤ (lets a).length) : ((lbs a).take k).length = k := by rw [List.length_take, lbs_len]; omega
theorem lbs_all (a : Int) : (lbs a).take (lets a).length = lbs a := by rw [← lbs_len, List.take_length]

def FmtRel (a : Int) (w2 : World) (v i : Value) (wr : World) : Prop :=
  ∃ k : Nat, k ≤ (lets a).length ∧ i = .int .i64 k ∧ (∃ ao n cap, v = .slice ao n cap ∧ BRow w2.heap.size wr (.slice ao n cap) ((lbs a).take k)) ∧ Below w2.heap.size w2 wr

theorem data_append (a b : ByteArray) : (a ++ b).data.toList = a.data.toList ++ b.data.toList := by
  simp [ByteArray.data_append]

def SFmtRel (a : Int) (w2 : World) (v i : Value) (wr : World) : Prop :=
  ∃ k : Nat, k ≤ (lets a).length ∧ i = .int .i64 k ∧ (∃ r : ByteArray, v = .string r ∧ r.data.toList = (lbs a).take k) ∧ Below w2.heap.size w2 wr

set_option maxHeartbeats 400000 in
theorem specFmt_any (a : Int) (w : World) : Calls Try.prog 86 #[.int .i64 a] w (RetStr (fmtA a) w) := by
  cases ha : isA a with
  | false =>
    have hr : fmtA a = [] := by simp [fmtA, ha]
    have HR := Lib.hid hr; clear hr
    have HA := Lib.hid ha; clear ha
    go_enter Try.func86, Try.ntmps86
    go_wp2_with (go_at_call 34; (with_reducible refine (l1Alphabet_any a _).mono ?_); rintro e w' ⟨rfl, rfl⟩; rw [HA.out])
    go_ret
    exact ⟨_, rfl, by rw [HR.out], Below.refl _ _⟩
  | true =>
    obtain ⟨h0, h1⟩ := (isA_iff a).1 ha
    by_cases hz : a = 0
    · subst hz
      have HA := Lib.hid ha; clear ha
      go_enter Try.func86, Try.ntmps86
      go_wp2_with (go_at_call 34; (with_reducible refine (l1Alphabet_any 0 _).mono ?_); rintro e w' ⟨rfl, rfl⟩; rw [HA.out])
      go_ret
      exact ⟨_, rfl, rfl, Below.refl _ _⟩
    · have hne := lets_ne a ha hz
      have hr : fmtA a = lbs a := by simp [fmtA, ha, hz, lbs]
      have hzb : (a == 0) = false := by simpa using hz
      have HR := Lib.hid hr; clear hr
      have HA := Lib.hid ha; clear ha
      clear hz
      have hl6 := lets_len a
      go_enter Try.func86, Try.ntmps86
      go_wp2_with (first | (go_at_call 34; (with_reducible refine (l1Alphabet_any a _).mono ?_); rintro e w' ⟨rfl, rfl⟩; rw [HA.out]))
      refine (l1Letters_any a h0 (by omega) w).mono ?_
      rintro e w2 ⟨ao, cap, rfl, hown, hbel⟩
      obtain ⟨g, rfl, -, hg1, hg2, hcap, hmax, -⟩ := hown.ne hne
      generalize hm : (lets a).length = m at *
      have HM := Lib.hid hm
      clear hm
      go_wp2
      go_loopw [3, 5] (fun v i wr => SFmtRel a w2 v i wr) (fun _ i _ => m - (intOf i).toNat)
      case atStart => exact ⟨0, by omega, rfl, ⟨_, rfl, rfl⟩, Below.refl _ _⟩
      case round =>
        obtain ⟨k, hk, rfl, ⟨r, rfl, hout⟩, hb2⟩ := hrel
        by_cases hlt : k < m
        · have hbd := lets_getD a k (by rw [HM.out]; exact hlt)
          have hrow := hown.below hb2
          obtain ⟨g', hgg, -, -, -, -, -, hcells⟩ := hrow.ne (by rw [HM.out]; exact hne)
          obtain rfl : g = g' := by simpa using hgg
          have hcell := hcells k (by rw [HM.out]; exact hlt)
          clear hcells hgg
          have hsn := lbs_snoc a k (by rw [HM.out]; exact hlt)
          obtain ⟨x, hx⟩ : ∃ x, (lets a)[k]?.getD 0 = x := ⟨_, rfl⟩
          rw [hx] at hcell hbd hsn
          obtain ⟨hx0, hx1⟩ := hbd
          have hsz : r.size ≤ 6 := by rw [size_of hout, lbs_take_len a k hk]; rw [HM.out] at hk; omega
          have HX := Lib.hid hx; clear hx
          have HS := Lib.hid hsn; clear hsn
          have HOUT := Lib.hid hout; clear hout
          go_wp2_with fail
          refine (l1Text_any x hx0 hx1 _).mono ?_
          rintro e w' ⟨r2, rfl, hr2, hb3⟩
          have hsz2 : r2.size = 1 := size_of hr2
          have hsum : (r.size : Int) + (r2.size : Int) ≤ 9223372036854775807 := by omega
          have HR2 := Lib.hid hr2; clear hr2
          clear hsz2
          go_wp2
          go_roundw
          case rel => exact ⟨k + 1, by rw [HM.out]; omega, by go_num, ⟨_, rfl, by rw [data_append, HS.out, HOUT.out, HR2.out]⟩, hb2.trans (hb3.mono hb2.size)⟩
          case measure => simp [intOf] <;> omega
        · go_wp2
          go_ret
          obtain rfl : k = m := by rw [HM.out] at hk; omega
          exact ⟨_, rfl, by rw [HR.out, hout, ← HM.out, lbs_all], hbel.trans (hb2.mono hbel.size)⟩

end Go.Proofs.Ytagegbhchljggaa
