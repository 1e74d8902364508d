/- cmp.Compare, cmp.Or, shortlex, WordBefore on both sides. -/
import Derived.Test.YtkgbdglfpnmlgaaNumber
namespace Go.Proofs.Ytkgbdglfpnmlgaa
open Go.RowKit
set_option linter.unusedVariables false
set_option linter.unusedSimpArgs false
set_option maxRecDepth 100000

theorem cmpInt_any (x y : Int) (w : World) : Calls Try.prog 82 #[.int .i64 x, .int .i64 y] w (Ret (.int .i64 (cmpI x y)) w) := by
  by_cases h1 : x < y
  · have hr : cmpI x y = -1 := by simp [cmpI, h1]
    have HR := Lib.hid hr; clear hr
    go_enter Try.func82, Try.ntmps82
    go_wp2
    go_ret
    exact ⟨ret_int HR.out.symm, rfl⟩
  · by_cases h2 : y < x
    · have hr : cmpI x y = 1 := by simp [cmpI, h1, h2]
      have HR := Lib.hid hr; clear hr
      go_enter Try.func82, Try.ntmps82
      go_wp2
      go_ret
      exact ⟨ret_int HR.out.symm, rfl⟩
    · have hr : cmpI x y = 0 := by simp [cmpI, h1, h2]
      have HR := Lib.hid hr; clear hr
      go_enter Try.func82, Try.ntmps82
      go_wp2
      go_ret
      exact ⟨ret_int HR.out.symm, rfl⟩

def cmpS (a b : List UInt8) : Int := if Op.bytesLess a b = true then -1 else if a = b then 0 else 1
theorem cmpStr_any (x y : ByteArray) (w : World) : Calls Try.prog 83 #[.string x, .string y] w (Ret (.int .i64 (cmpS x.toList y.toList)) w) := by
  cases h1 : Op.bytesLess x.toList y.toList with
  | true =>
    have hr : cmpS x.toList y.toList = -1 := by simp [cmpS, h1]
    have HR := Lib.hid hr; clear hr
    go_enter Try.func83, Try.ntmps83
    go_wp2
    go_ret
    exact ⟨ret_int HR.out.symm, rfl⟩
  | false =>
    cases h2 : (x.toList == y.toList) with
    | true =>
      have hr : cmpS x.toList y.toList = 0 := by simp [cmpS, h1]; simpa using h2
      have HR := Lib.hid hr; clear hr
      go_enter Try.func83, Try.ntmps83
      go_wp2
      go_ret
      exact ⟨ret_int HR.out.symm, rfl⟩
    | false =>
      have hr : cmpS x.toList y.toList = 1 := by simp [cmpS, h1]; simpa using h2
      have HR := Lib.hid hr; clear hr
      go_enter Try.func83, Try.ntmps83
      go_wp2
      go_ret
      exact ⟨ret_int HR.out.symm, rfl⟩

theorem or_yes (xs : List Int) (k : Nat) (h : k < xs.length) (he : xs[k]?.getD 0 ≠ 0) : orL (xs.drop k) = xs[k]?.getD 0 := by
  rw [List.drop_eq_getElem_cons h]; rw [List.getElem?_eq_getElem h] at he ⊢
  simp only [Option.getD_some] at he ⊢
  simp [orL, he]
theorem or_no (xs : List Int) (k : Nat) (h : k < xs.length) (he : xs[k]?.getD 0 = 0) : orL (xs.drop k) = orL (xs.drop (k + 1)) := by
  rw [List.drop_eq_getElem_cons h]; rw [List.getElem?_eq_getElem h] at he
  simp only [Option.getD_some] at he
  simp [orL, he]

set_option maxHeartbeats 400000 in
theorem or_any (g m cap : Nat) (xs : List Int) (w : World) (hc : Hid (∀ j, j < m → w.cell? ⟨g, j, none⟩ = some (.int .i64 (xs[j]?.getD 0)))) (HM : Hid (xs.length = m)) (hm : m ≤ 1000) (hcap : m ≤ cap) (hcap2 : cap ≤ 1000) : Calls Try.prog 81 #[.slice (some ⟨g, 0, none⟩) m cap] w (Ret (.int .i64 (orL xs)) w) := by
  go_enter Try.func81, Try.ntmps81
  go_wp2
  go_loop [8] (fun i => ∃ k : Nat, k ≤ m ∧ i = .int .i64 k ∧ orL (xs.drop k) = orL xs) (fun i => m - (intOf i).toNat)
  case atStart => exact ⟨0, by omega, rfl, rfl⟩
  case round =>
    obtain ⟨k, hk, rfl, hrest⟩ := hrel
    have HREST := Lib.hid hrest; clear hrest
    by_cases hlt : k < m
    · have hcell := hc.out k hlt
      obtain ⟨y, hy⟩ : ∃ y, xs[k]?.getD 0 = y := ⟨_, rfl⟩
      rw [hy] at hcell
      have HY := Lib.hid hy; clear hy
      by_cases he : y = 0
      · subst he
        go_wp2
        go_round
        case rel => exact ⟨k + 1, by omega, by go_num, by rw [← HREST.out, or_no xs k (by rw [HM.out]; exact hlt) HY.out]⟩
        case measure => simp [intOf] <;> omega
      · have heb : (y != 0) = true := by simpa using he
        have HE := Lib.hid he
        clear he
        go_wp2
        go_ret
        exact ⟨ret_int (by rw [← HREST.out, or_yes xs k (by rw [HM.out]; exact hlt) (by rw [HY.out]; exact HE.out), HY.out]), rfl⟩
    · go_wp2
      go_ret
      obtain rfl : k = m := by omega
      refine ⟨ret_int ?_, rfl⟩
      rw [← HREST.out, ← HM.out, List.drop_length]; rfl

def shortL (v w : ByteArray) : Int := orL [cmpI v.size w.size, cmpS v.toList w.toList]

set_option maxHeartbeats 400000 in
theorem shortlex_any (x y : ByteArray) (w : World) : Calls Try.prog 74 #[.string x, .string y] w (RetBel (.int .i64 (shortL x y)) w) := by
  go_enter Try.func74, Try.ntmps74
  go_wp2_with (first | (go_at_call 82; (with_reducible refine (cmpInt_any _ _ _).mono ?_); rintro e w' ⟨rfl, rfl⟩) | (go_at_call 83; (with_reducible refine (cmpStr_any _ _ _).mono ?_); rintro e w' ⟨rfl, rfl⟩))
  refine (or_any w.heap.size 2 2 [cmpI x.size y.size, cmpS x.toList y.toList] _ (Lib.hid ?_) (Lib.hid rfl) (by omega) (by omega) (by omega)).mono ?_
  · intro j hj
    match j, hj with
    | 0, _ => simp
    | 1, _ => simp
  rintro e w' ⟨rfl, rfl⟩
  go_wp2
  go_ret
  exact ⟨rfl, (Below.refl _ _).alloc (Nat.le_refl _) _⟩

def beforeB (v w : ByteArray) : Bool := wvalid v.data.toList && wvalid w.data.toList && (decide (v.size < w.size) || (decide (v.size = w.size) && Op.bytesLess v.toList w.toList))
theorem shortL_neg (v w : ByteArray) : decide (shortL v w < 0) = (decide (v.size < w.size) || (decide (v.size = w.size) && Op.bytesLess v.toList w.toList)) := by
  unfold shortL cmpI cmpS
  by_cases h1 : v.size < w.size
  · have : (v.size : Int) < w.size := by omega
    simp [orL, h1]
  · have h1' : ¬ (v.size : Int) < w.size := by omega
    by_cases h2 : w.size < v.size
    · have h2' : (w.size : Int) < v.size := by omega
      have h3 : ¬ v.size = w.size := by omega
      simp [orL, h1, h2, h3]
    · have h2' : ¬ (w.size : Int) < v.size := by omega
      have h3 : v.size = w.size := by omega
      cases h4 : Op.bytesLess v.toList w.toList with
      | true => simp [orL, h3]
      | false => by_cases h5 : v.toList = w.toList <;> simp [orL, h3, h5]

set_option maxHeartbeats 400000 in
theorem implBefore_any (x y : ByteArray) (hx : x.size ≤ 9223372036854775807) (hy : y.size ≤ 9223372036854775807) (w : World) : Calls Try.prog 42 #[.string x, .string y] w (RetBel (.bool (beforeB x y)) w) := by
  cases h1 : wvalid x.data.toList with
  | false =>
    have hr : beforeB x y = false := by simp [beforeB, h1]
    have HR := Lib.hid hr; clear hr
    have H1 := Lib.hid h1; clear h1
    go_enter Try.func42, Try.ntmps42
    go_wp2_with (go_at_call 30; (with_reducible refine (implValid_any x hx _).mono ?_); rintro e w' ⟨rfl, rfl⟩; rw [H1.out])
    go_ret
    exact ⟨ret_bool HR.out.symm, Below.refl _ _⟩
  | true =>
    cases h2 : wvalid y.data.toList with
    | false =>
      have hr : beforeB x y = false := by simp [beforeB, h2]
      have HR := Lib.hid hr; clear hr
      have H1 := Lib.hid h1; clear h1
      have H2 := Lib.hid h2; clear h2
      go_enter Try.func42, Try.ntmps42
      go_wp2_with fail
      refine (implValid_any x hx _).mono ?_
      rintro e w' ⟨rfl, rfl⟩
      rw [H1.out]
      go_wp2_with fail
      refine (implValid_any y hy _).mono ?_
      rintro e w' ⟨rfl, rfl⟩
      rw [H2.out]
      go_wp2
      go_ret
      exact ⟨ret_bool HR.out.symm, Below.refl _ _⟩
    | true =>
      have hr : beforeB x y = decide (shortL x y < 0) := by simp only [beforeB, h1, h2, shortL_neg, Bool.true_and]
      have HR := Lib.hid hr; clear hr
      have H1 := Lib.hid h1; clear h1
      have H2 := Lib.hid h2; clear h2
      go_enter Try.func42, Try.ntmps42
      go_wp2_with fail
      refine (implValid_any x hx _).mono ?_
      rintro e w' ⟨rfl, rfl⟩
      rw [H1.out]
      go_wp2_with fail
      refine (implValid_any y hy _).mono ?_
      rintro e w' ⟨rfl, rfl⟩
      rw [H2.out]
      go_wp2_with (go_at_call 74; (with_reducible refine (shortlex_any x y _).mono ?_); rintro e w' ⟨rfl, hb⟩)
      go_ret
      exact ⟨ret_bool HR.out.symm, hb⟩

set_option maxHeartbeats 400000 in
theorem specBefore_any (x y : ByteArray) (hx : x.size ≤ 9223372036854775807) (hy : y.size ≤ 9223372036854775807) (w : World) : Calls Try.prog 43 #[.string x, .string y] w (RetBel (.bool (beforeB x y)) w) := by
  cases h1 : wvalid x.data.toList with
  | false =>
    have hr : beforeB x y = false := by simp [beforeB, h1]
    have HR := Lib.hid hr; clear hr
    have H1 := Lib.hid h1; clear h1
    go_enter Try.func43, Try.ntmps43
    go_wp2_with (go_at_call 63; (with_reducible refine (specValid_any x hx _).mono ?_); rintro e w' ⟨rfl, rfl⟩; rw [H1.out])
    go_ret
    exact ⟨ret_bool HR.out.symm, Below.refl _ _⟩
  | true =>
    cases h2 : wvalid y.data.toList with
    | false =>
      have hr : beforeB x y = false := by simp [beforeB, h2]
      have HR := Lib.hid hr; clear hr
      have H1 := Lib.hid h1; clear h1
      have H2 := Lib.hid h2; clear h2
      go_enter Try.func43, Try.ntmps43
      go_wp2_with fail
      refine (specValid_any x hx _).mono ?_
      rintro e w' ⟨rfl, rfl⟩
      rw [H1.out]
      go_wp2_with fail
      refine (specValid_any y hy _).mono ?_
      rintro e w' ⟨rfl, rfl⟩
      rw [H2.out]
      go_wp2
      go_ret
      exact ⟨ret_bool HR.out.symm, Below.refl _ _⟩
    | true =>
      have hr : beforeB x y = (decide (x.size < y.size) || (decide (x.size = y.size) && Op.bytesLess x.toList y.toList)) := by simp only [beforeB, h1, h2, Bool.true_and]
      have HR := Lib.hid hr; clear hr
      have H1 := Lib.hid h1; clear h1
      have H2 := Lib.hid h2; clear h2
      have hcase : x.size < y.size ∨ y.size < x.size ∨ x.size = y.size := by omega
      rcases hcase with h3 | h3 | h3
      · have h3' : (x.size : Int) < (y.size : Int) := by omega
        go_enter Try.func43, Try.ntmps43
        go_wp2_with fail
        refine (specValid_any x hx _).mono ?_
        rintro e w' ⟨rfl, rfl⟩
        rw [H1.out]
        go_wp2_with fail
        refine (specValid_any y hy _).mono ?_
        rintro e w' ⟨rfl, rfl⟩
        rw [H2.out]
        go_wp2
        go_ret
        exact ⟨ret_bool (by rw [HR.out]; simp [h3]), Below.refl _ _⟩
      · have h3' : (y.size : Int) < (x.size : Int) := by omega
        have h3'' : ((x.size : Int) == (y.size : Int)) = false := by simp; omega
        go_enter Try.func43, Try.ntmps43
        go_wp2_with fail
        refine (specValid_any x hx _).mono ?_
        rintro e w' ⟨rfl, rfl⟩
        rw [H1.out]
        go_wp2_with fail
        refine (specValid_any y hy _).mono ?_
        rintro e w' ⟨rfl, rfl⟩
        rw [H2.out]
        go_wp2
        go_ret
        have h4 : ¬ x.size < y.size := by omega
        have h5 : ¬ x.size = y.size := by omega
        exact ⟨ret_bool (by rw [HR.out]; simp [h4, h5]), Below.refl _ _⟩
      · have h3' : ¬ (x.size : Int) < (y.size : Int) := by omega
        have h3'' : ((x.size : Int) == (y.size : Int)) = true := by simp; omega
        have H3 := Lib.hid h3
        clear h3
        go_enter Try.func43, Try.ntmps43
        go_wp2_with fail
        refine (specValid_any x hx _).mono ?_
        rintro e w' ⟨rfl, rfl⟩
        rw [H1.out]
        go_wp2_with fail
        refine (specValid_any y hy _).mono ?_
        rintro e w' ⟨rfl, rfl⟩
        rw [H2.out]
        go_wp2
        go_ret
        exact ⟨ret_bool (by rw [HR.out]; simp [H3.out]), Below.refl _ _⟩

end Go.Proofs.Ytkgbdglfpnmlgaa
