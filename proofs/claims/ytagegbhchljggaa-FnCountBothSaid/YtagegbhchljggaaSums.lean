/- The counts of an automaton, in plain numbers: they stay small, they are no less than nothing, and those of the complement make them whole. -/
import Derived.Test.YtagegbhchljggaaCount
namespace Go.Proofs.Ytagegbhchljggaa
open Go.RowKit
set_option linter.unusedVariables false
set_option linter.unusedSimpArgs false

def nsum (f : Nat → Int) : Nat → Int
  | 0 => 0
  | n + 1 => nsum f n + f n
theorem nsum_nonneg {f : Nat → Int} (h : ∀ i, 0 ≤ f i) : ∀ n, 0 ≤ nsum f n
  | 0 => Int.le_refl _
  | n + 1 => Int.add_nonneg (nsum_nonneg h n) (h n)
theorem nsum_le {f : Nat → Int} (h : ∀ i, 0 ≤ f i) : ∀ {k n}, k ≤ n → nsum f k ≤ nsum f n := by
  intro k n hk
  induction n with
  | zero => obtain rfl : k = 0 := by omega
            exact Int.le_refl _
  | succ n ih =>
    by_cases e : k = n + 1
    · rw [e]; exact Int.le_refl _
    · have := ih (by omega)
      have := h n
      show nsum f k ≤ nsum f n + f n
      omega
theorem nsum_at {f : Nat → Int} (h : ∀ i, 0 ≤ f i) {t n : Nat} (ht : t < n) : f t ≤ nsum f n := by
  have h1 := nsum_le h (show t + 1 ≤ n by omega)
  have h2 := nsum_nonneg h t
  have h3 : nsum f (t + 1) = nsum f t + f t := rfl
  omega
theorem wrap_small {x : Int} (h0 : 0 ≤ x) (h1 : x ≤ 1000000000) : wrap64 x = x := by unfold wrap64; omega
theorem nsum_upd (g : Nat → Int) (t : Nat) (c : Int) (hw : wrap64 (g t + c) = g t + c) : ∀ n, nsum (updC g t c) n = nsum g n + if t < n then c else 0
  | 0 => by simp [nsum]
  | n + 1 => by
    show nsum (updC g t c) n + updC g t c n = nsum g n + g n + _
    rw [nsum_upd g t c hw n]
    unfold updC
    by_cases e : n = t
    · subst e
      rw [if_pos rfl, if_neg (by omega), if_pos (by omega), hw]; omega
    · rw [if_neg e]
      by_cases e2 : t < n
      · rw [if_pos e2, if_pos (by omega)]; omega
      · rw [if_neg e2, if_neg (by omega)]; omega
theorem stepRow_sum (N : Nat) (c : Int) (g : Nat → Int) (l : List Int) (hc : 0 ≤ c) (hg : ∀ i, 0 ≤ g i) (hl : ∀ q ∈ l, 0 ≤ q ∧ q < (N : Int)) (hb : nsum g N + c * l.length ≤ 1000000000) :
    ∀ j, j ≤ l.length → (∀ i, 0 ≤ stepRow c g l j i) ∧ nsum (stepRow c g l j) N = nsum g N + c * j
  | 0, _ => ⟨hg, by show nsum g N = nsum g N + c * ((0 : Nat) : Int); simp⟩
  | j + 1, hj => by
    obtain ⟨h1, h2⟩ := stepRow_sum N c g l hc hg hl hb j (by omega)
    obtain ⟨q, hq⟩ : ∃ q, l[j]?.getD 0 = q := ⟨_, rfl⟩
    have hqb : 0 ≤ q ∧ q < (N : Int) := by
      rw [← hq, List.getElem?_eq_getElem (by omega : j < l.length), Option.getD_some]
      exact hl _ (List.getElem_mem _)
    have ht : q.toNat < N := by omega
    have hat := nsum_at h1 ht
    have hcj : c * ((j : Nat) : Int) + c ≤ c * (l.length : Int) := by
      have : c * ((j : Int) + 1) ≤ c * (l.length : Int) := Int.mul_le_mul_of_nonneg_left (by omega) hc
      rw [Int.mul_add, Int.mul_one] at this
      exact this
    have h0 := h1 q.toNat
    have hw : wrap64 (stepRow c g l j q.toNat + c) = stepRow c g l j q.toNat + c := wrap_small (by omega) (by omega)
    show (∀ i, 0 ≤ updC (stepRow c g l j) (l[j]?.getD 0).toNat c i) ∧ nsum (updC (stepRow c g l j) (l[j]?.getD 0).toNat c) N = nsum g N + c * ((j + 1 : Nat) : Int)
    rw [hq]
    refine ⟨fun i => ?_, ?_⟩
    · unfold updC
      split
      · rw [hw]; omega
      · exact h1 i
    · rw [nsum_upd _ _ _ hw, if_pos ht, h2, Int.natCast_succ, Int.mul_add, Int.mul_one]; omega
theorem stepAll_sum (xss : List (List Int)) (K : Nat) (f : Nat → Int) (hf : ∀ i, 0 ≤ f i) (hk : ∀ l ∈ xss, l.length = K) (hl : ∀ l ∈ xss, ∀ q ∈ l, 0 ≤ q ∧ q < (xss.length : Int)) (hb : nsum f xss.length * K ≤ 1000000000) :
    ∀ k, k ≤ xss.length → (∀ i, 0 ≤ stepAll xss f k i) ∧ nsum (stepAll xss f k) xss.length = nsum f k * K
  | 0, _ => ⟨fun i => Int.le_refl _, by
      show nsum (fun _ => 0) xss.length = 0 * (K : Int)
      have : ∀ n, nsum (fun _ => (0 : Int)) n = 0 := fun n => by induction n with | zero => rfl | succ n ih => (show nsum (fun _ => (0 : Int)) n + 0 = 0; rw [ih]; rfl)
      rw [this, Int.zero_mul]⟩
  | k + 1, hk1 => by
    obtain ⟨h1, h2⟩ := stepAll_sum xss K f hf hk hl hb k (by omega)
    have hm : xss[k]?.getD [] ∈ xss := by rw [List.getElem?_eq_getElem (by omega : k < xss.length), Option.getD_some]; exact List.getElem_mem _
    have hlen := hk _ hm
    have hle := nsum_le hf hk1
    have hle2 : nsum f (k + 1) * (K : Int) ≤ nsum f xss.length * (K : Int) := Int.mul_le_mul_of_nonneg_right hle (by omega)
    have he : nsum f (k + 1) * (K : Int) = nsum f k * (K : Int) + f k * (K : Int) := by show (nsum f k + f k) * (K : Int) = _; rw [Int.add_mul]
    have h3 := stepRow_sum xss.length (f k) (stepAll xss f k) (xss[k]?.getD []) (hf k) h1 (hl _ hm) (by rw [hlen, h2]; omega) _ (Nat.le_refl _)
    refine ⟨h3.1, h3.2.trans ?_⟩
    rw [h2, hlen, he]
theorem cntA_sum (xss : List (List Int)) (K : Nat) (hK : K ≤ 6) (h0 : 1 ≤ xss.length) (hk : ∀ l ∈ xss, l.length = K) (hl : ∀ l ∈ xss, ∀ q ∈ l, 0 ≤ q ∧ q < (xss.length : Int)) : ∀ m, m ≤ 8 → (∀ i, 0 ≤ cntA xss m i) ∧ nsum (cntA xss m) xss.length = ((K ^ m : Nat) : Int)
  | 0, _ => by
    refine ⟨fun i => ?_, ?_⟩
    · show (0 : Int) ≤ if i = 0 then 1 else 0
      split <;> omega
    · have : ∀ n, nsum (cntA xss 0) (n + 1) = 1 := fun n => by
        induction n with
        | zero => rfl
        | succ n ih =>
          show nsum (cntA xss 0) (n + 1) + (if n + 1 = 0 then 1 else 0) = 1
          rw [ih, if_neg (by omega)]; rfl
      obtain ⟨n, hn⟩ : ∃ n, xss.length = n + 1 := ⟨xss.length - 1, by omega⟩
      rw [hn, this]; rfl
  | m + 1, hm => by
    obtain ⟨h1, h2⟩ := cntA_sum xss K hK h0 hk hl m (by omega)
    have hp : K ^ m * K ≤ 1000000000 := by
      have h3 : K ^ m ≤ 6 ^ m := Nat.pow_le_pow_left hK m
      have h4 : 6 ^ m ≤ 6 ^ 8 := Nat.pow_le_pow_right (by omega) (by omega)
      have h5 : K ^ m * K ≤ 6 ^ 8 * 6 := Nat.mul_le_mul (Nat.le_trans h3 h4) hK
      exact Nat.le_trans h5 (by decide)
    have h3 := stepAll_sum xss K (cntA xss m) h1 hk hl (by rw [h2, ← Int.natCast_mul]; exact Int.ofNat_le.mpr hp) xss.length (Nat.le_refl _)
    refine ⟨h3.1, h3.2.trans ?_⟩
    rw [h2, Nat.pow_succ, Int.natCast_mul]
/-- The sum of the accepted ones. -/
theorem totC_sum (bs : List Bool) (f : Nat → Int) (t : Int) (hf : ∀ i, 0 ≤ f i) (ht : 0 ≤ t) (N : Nat) (hb : t + nsum f N ≤ 1000000000) : ∀ k, k ≤ N → t ≤ totC bs f t k ∧ totC bs f t k ≤ t + nsum f k ∧ totC bs f t k = t + nsum (fun i => if bs[i]?.getD false = true then f i else 0) k
  | 0, _ => ⟨Int.le_refl _, by show t ≤ t + 0; omega, by show t = t + 0; omega⟩
  | k + 1, hk => by
    obtain ⟨h1, h2, h3⟩ := totC_sum bs f t hf ht N hb k (by omega)
    have hle := nsum_le hf hk
    have he : nsum f (k + 1) = nsum f k + f k := rfl
    have h0 := hf k
    have hs : nsum (fun i => if bs[i]?.getD false = true then f i else 0) (k + 1) = nsum (fun i => if bs[i]?.getD false = true then f i else 0) k + (if bs[k]?.getD false = true then f k else 0) := rfl
    show t ≤ (if bs[k]?.getD false = true then wrap64 (totC bs f t k + f k) else totC bs f t k) ∧ _ ≤ _ ∧ _ = _
    have hw : wrap64 (totC bs f t k + f k) = totC bs f t k + f k := wrap_small (by omega) (by omega)
    show t ≤ (if bs[k]?.getD false = true then wrap64 (totC bs f t k + f k) else totC bs f t k) ∧ (if bs[k]?.getD false = true then wrap64 (totC bs f t k + f k) else totC bs f t k) ≤ t + nsum f (k + 1) ∧ (if bs[k]?.getD false = true then wrap64 (totC bs f t k + f k) else totC bs f t k) = t + nsum (fun i => if bs[i]?.getD false = true then f i else 0) (k + 1)
    rw [hs, hw]
    split <;> omega
theorem nsum_both (bs : List Bool) (f : Nat → Int) : ∀ k, k ≤ bs.length → nsum (fun i => if bs[i]?.getD false = true then f i else 0) k + nsum (fun i => if (bs.map not)[i]?.getD false = true then f i else 0) k = nsum f k
  | 0, _ => rfl
  | k + 1, hk => by
    have ih := nsum_both bs f k (by omega)
    show (nsum _ k + (if bs[k]?.getD false = true then f k else 0)) + (nsum _ k + (if (bs.map not)[k]?.getD false = true then f k else 0)) = nsum f k + f k
    have e1 : bs[k]?.getD false = bs[k] := by rw [List.getElem?_eq_getElem (by omega : k < bs.length)]; rfl
    have e2 : (bs.map not)[k]?.getD false = !bs[k] := by rw [List.getElem?_map, List.getElem?_eq_getElem (by omega : k < bs.length)]; rfl
    rw [e1, e2]
    have hb : ∀ b : Bool, (if b = true then f k else 0) + (if (!b) = true then f k else 0) = f k := fun b => by cases b <;> simp
    have := hb bs[k]
    omega
/-- How many words there are of fewer than m letters. -/
def psum (K : Nat) : Nat → Nat
  | 0 => 0
  | m + 1 => psum K m + K ^ m
theorem psum_le (K : Nat) (hK : K ≤ 6) : ∀ m, m ≤ 9 → psum K m ≤ 100000000 := fun m hm => by
  have h1 : ∀ m, psum K m ≤ psum 6 m := fun m => by
    induction m with
    | zero => exact Nat.le_refl _
    | succ m ih => exact Nat.add_le_add ih (Nat.pow_le_pow_left hK m)
  have h2 : ∀ m : Fin 10, psum 6 m.val ≤ 100000000 := by decide
  exact Nat.le_trans (h1 m) (h2 ⟨m, by omega⟩)
theorem ttlA_sum (xss : List (List Int)) (bs : List Bool) (K : Nat) (hK : K ≤ 6) (h0 : 1 ≤ xss.length) (hbs : bs.length = xss.length) (hk : ∀ l ∈ xss, l.length = K) (hl : ∀ l ∈ xss, ∀ q ∈ l, 0 ≤ q ∧ q < (xss.length : Int)) :
    ∀ m, m ≤ 8 → 0 ≤ ttlA xss bs m ∧ ttlA xss bs m ≤ (psum K m : Int) ∧ ttlA xss bs m + ttlA xss (bs.map not) m = (psum K m : Int) ∧ 0 ≤ ttlA xss (bs.map not) m
  | 0, _ => ⟨Int.le_refl _, Int.le_refl _, rfl, Int.le_refl _⟩
  | m + 1, hm => by
    obtain ⟨h1, h2, h3, h4⟩ := ttlA_sum xss bs K hK h0 hbs hk hl m (by omega)
    obtain ⟨c1, c2⟩ := cntA_sum xss K hK h0 hk hl m (by omega)
    have hp := psum_le K hK (m + 1) (by omega)
    have he : psum K (m + 1) = psum K m + K ^ m := rfl
    have hb1 : ttlA xss bs m + nsum (cntA xss m) xss.length ≤ 1000000000 := by rw [c2]; omega
    have hb2 : ttlA xss (bs.map not) m + nsum (cntA xss m) xss.length ≤ 1000000000 := by rw [c2]; omega
    obtain ⟨d1, d2, d3⟩ := totC_sum bs (cntA xss m) _ c1 h1 xss.length hb1 xss.length (Nat.le_refl _)
    obtain ⟨f1, f2, f3⟩ := totC_sum (bs.map not) (cntA xss m) _ c1 h4 xss.length hb2 xss.length (Nat.le_refl _)
    have hboth := nsum_both bs (cntA xss m) xss.length (by omega)
    rw [c2] at d2 f2 hboth
    have e1 : ttlA xss bs (m + 1) = totC bs (cntA xss m) (ttlA xss bs m) xss.length := rfl
    have e2 : ttlA xss (bs.map not) (m + 1) = totC (bs.map not) (cntA xss m) (ttlA xss (bs.map not) m) xss.length := rfl
    rw [e1, e2, he]
    refine ⟨by omega, by omega, by omega, by omega⟩
theorem ttlA_grows (xss : List (List Int)) (bs : List Bool) (K : Nat) (hK : K ≤ 6) (h0 : 1 ≤ xss.length) (hbs : bs.length = xss.length) (hk : ∀ l ∈ xss, l.length = K) (hl : ∀ l ∈ xss, ∀ q ∈ l, 0 ≤ q ∧ q < (xss.length : Int)) (m : Nat) (hm : m + 1 ≤ 8) : ttlA xss bs m ≤ ttlA xss bs (m + 1) := by
  obtain ⟨h1, h2, h3, h4⟩ := ttlA_sum xss bs K hK h0 hbs hk hl m (by omega)
  obtain ⟨c1, c2⟩ := cntA_sum xss K hK h0 hk hl m (by omega)
  have hp := psum_le K hK (m + 1) (by omega)
  have he : psum K (m + 1) = psum K m + K ^ m := rfl
  exact (totC_sum bs (cntA xss m) _ c1 h1 xss.length (by rw [c2]; omega) xss.length (Nat.le_refl _)).1
end Go.Proofs.Ytagegbhchljggaa
