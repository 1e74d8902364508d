/- Pieces of a text and numbers (for automata): l19Num, l19Cut at any byte, l19Dec. -/
import Derived.Test.YtagegbhchljggaaDraw2
import Derived.Test.YtagegbhchljggaaRestrict
import Derived.Test.YtagegbhchljggaaWithin
import Derived.Test.YtagegbhchljggaaFormat
namespace Go.Proofs.Ytagegbhchljggaa
open Go.RowKit
set_option linter.unusedVariables false
set_option linter.unusedSimpArgs false
set_option maxRecDepth 100000

def NumRes (w : World) (e : Ending) (w' : World) : Prop := ∃ (n : Int) (b : Bool), e = .returned (.tuple #[.int .i64 n, .bool b]) ∧ w' = w
set_option maxHeartbeats 8000000 in
theorem l19Num_any (s : ByteArray) (hs : s.size ≤ 2000000) (w : World) : Calls Try.prog 87 #[.string s] w (NumRes w) := by
  by_cases h0 : s.size = 0
  · have h0' : (s.size : Int) = 0 := by omega
    go_enter Try.func87, Try.ntmps87
    go_wp2
    go_ret2
    exact ⟨_, _, rfl, rfl⟩
  · have hpos : 0 < s.size := by omega
    have h0' : ¬ (s.size : Int) = 0 := by omega
    have hpos' : (0 : Int) < (s.size : Int) := by omega
    obtain ⟨c0, hc0⟩ : ∃ c0, s[0] = c0 := ⟨_, rfl⟩
    by_cases hm : (c0.toNat : Int) = 45
    · have hts : (s.extract 1 s.size).size = s.size - 1 := by simp
      go_enter Try.func87, Try.ntmps87
      go_wp2
      all_goals first | (
           go_ret2
           exact ⟨_, _, rfl, rfl⟩) | (
           go_loopw [5, 6] (fun v i wr => ∃ (m : Int) (k : Nat), v = .int .i64 m ∧ i = .int .i64 k ∧ k ≤ ((s.extract 1 s.size)).size ∧ wr = w) (fun _ i _ => ((s.extract 1 s.size)).size - (intOf i).toNat)
           case atStart => exact ⟨0, 0, rfl, rfl, Nat.zero_le _, rfl⟩
           case round =>
             obtain ⟨m, k, rfl, rfl, hk, rfl⟩ := hrel
             by_cases hlt : k < ((s.extract 1 s.size)).size
             · obtain ⟨c, hc⟩ : ∃ c, ((s.extract 1 s.size))[k] = c := ⟨_, rfl⟩
               by_cases h1 : (c.toNat : Int) < 48
               · go_wp2
                 go_ret2
                 exact ⟨_, _, rfl, rfl⟩
               · by_cases h2 : (57 : Int) < (c.toNat : Int)
                 · go_wp2
                   go_ret2
                   exact ⟨_, _, rfl, rfl⟩
                 · go_wp2
                   go_roundw
                   case rel => exact ⟨_, k + 1, rfl, by go_num, by omega, by first | rfl | trivial⟩
                   case measure => simp [intOf] <;> omega
             · go_wp2
               go_ret2
               exact ⟨_, _, rfl, rfl⟩
           )
    · go_enter Try.func87, Try.ntmps87
      go_wp2
      all_goals first | (
           go_ret2
           exact ⟨_, _, rfl, rfl⟩) | (
           go_loopw [5, 6] (fun v i wr => ∃ (m : Int) (k : Nat), v = .int .i64 m ∧ i = .int .i64 k ∧ k ≤ (s).size ∧ wr = w) (fun _ i _ => (s).size - (intOf i).toNat)
           case atStart => exact ⟨0, 0, rfl, rfl, Nat.zero_le _, rfl⟩
           case round =>
             obtain ⟨m, k, rfl, rfl, hk, rfl⟩ := hrel
             by_cases hlt : k < (s).size
             · obtain ⟨c, hc⟩ : ∃ c, (s)[k] = c := ⟨_, rfl⟩
               by_cases h1 : (c.toNat : Int) < 48
               · go_wp2
                 go_ret2
                 exact ⟨_, _, rfl, rfl⟩
               · by_cases h2 : (57 : Int) < (c.toNat : Int)
                 · go_wp2
                   go_ret2
                   exact ⟨_, _, rfl, rfl⟩
                 · go_wp2
                   go_roundw
                   case rel => exact ⟨_, k + 1, rfl, by go_num, by omega, by first | rfl | trivial⟩
                   case measure => simp [intOf] <;> omega
             · go_wp2
               go_ret2
               exact ⟨_, _, rfl, rfl⟩
           )
theorem Try.infoStr : (Try.prog.info? 9).map (fun i => (i.zero, i.size, i.bytes)) = some (some (.string ByteArray.empty), 1, 16) := by kernel_rfl
/-- An owned slice of strings. -/
def SOwn (B : Nat) (w : World) (v : Value) (ss : List ByteArray) : Prop := w.ownsRow B 9 1 v ss.length (ss.map Value.string)
theorem SOwn.below {B : Nat} {w w' : World} {v : Value} {ss : List ByteArray} (h : SOwn B w v ss) (hb : Below w.heap.size w w') : SOwn B w' v ss := ownsRow_below h hb
theorem SOwn.empty (B : Nat) (w : World) (hb : B ≤ w.heap.size) : SOwn B (w.alloc (.cells #[] 9)) (.slice (some ⟨w.heap.size, 0, none⟩) 0 0) [] := World.ownsRow_made w #[] 0 hb (by decide) rfl
theorem SOwn.at {B : Nat} {w : World} {ao : Option Addr} {n cap : Nat} {ss : List ByteArray} (h : SOwn B w (.slice ao n cap) ss) (h0 : 0 < n) : n = ss.length ∧ n ≤ cap ∧ cap ≤ maxLen ∧ ∃ g, ao = some ⟨g, 0, none⟩ ∧ B ≤ g ∧ g < w.heap.size ∧ ∀ j, j < n → w.cell? ⟨g, j, none⟩ = some (.string (ss[j]?.getD ByteArray.empty)) := by
  rcases h.2 with ⟨h1, h2⟩ | ⟨g, c, cur, hv, hB, hg, hc, hm, hs, ht⟩
  · injection h1 with e1 e2 e3
    omega
  · injection hv with e1 e2 e3
    subst e1; subst e2; subst e3
    refine ⟨rfl, hc, hm, g, rfl, hB, (Array.getElem?_eq_some_iff.1 hg).1, fun j hj => ?_⟩
    rw [World.ownsRow.cellAt h j (by omega)]
    simp [List.getElem?_eq_getElem hj]
theorem app_str {P : Program} {ops : Array Oper} {rest : List Oper} {o : Oper} {a : Act} {Q : Exit → Act → World → Prop} (wr : World) (x : ByteArray) (B : Nat) (hP : P = Try.prog) (hg : o.guard = none) (s y : Operand)
    (ho : o.op = .call { callee := .builtin .append, args := #[s, y], argTypes := #[81, 81] }) (v : Value) (xs : List ByteArray) (hs : a.eval s = v) (hown : SOwn B wr v xs)
    (hy : a.eval y = .slice (some ⟨wr.heap.size, 0, none⟩) 1 1) (hb : xs.length ≤ 10000000) (hB : B ≤ wr.heap.size)
    (h : ∀ ao n cap w1, n = xs.length + 1 → SOwn B w1 (.slice ao n cap) (xs ++ [x]) → Kept B wr w1 v → wpList P ops Q rest (a.put o.dst (.slice ao n cap)) w1) :
    wpList P ops Q (o :: rest) a (wr.alloc (.cells #[.string x] 9)) := by
  subst hP
  obtain ⟨i0, hi, hz0, hz1, hz2⟩ := info_parts Try.infoStr
  refine wpList_append_own _ hg s y 81 ho B 9 i0 _ 1 16 Try.underlying81 hi hz0 hz1 hz2 rfl (by decide) v xs.length (xs.map Value.string) hs (World.ownsRow.alloc hown _) ⟨wr.heap.size, 0, none⟩ 1 1 [.string x] hy rfl (cell_one_new _ _ _) (by intro u hu; simp at hu; subst hu; rfl) (by unfold maxLen; omega) (by omega) (by simp; omega) ?_
  intro v' w1 hown' hgrow _
  have hg2 : wr.grownBy w1 v.ownBlock := by
    refine ⟨hgrow.os, hgrow.tape, hgrow.output, ?_, fun k hk hne => ?_⟩
    · have := hgrow.size; simp at this; omega
    · rw [hgrow.block k (by simp; omega) hne]; exact Below.heap_alloc wr _ k hk
  have hown2 : SOwn B w1 v' (xs ++ [x]) := by unfold SOwn; simpa using hown'
  have hK : Kept B wr w1 v := ⟨fun w0 h0 => h0.grown hg2 hB (fun k hk => (World.ownsRow.lt hown k hk).1), hg2⟩
  rcases hown'.2 with ⟨rfl, h0⟩ | ⟨g, cap, cur, rfl, _⟩
  · omega
  · exact h _ _ _ w1 rfl hown2 hK
def CutRel (s : ByteArray) (w : World) (v5 v6 v7 : Value) (wr : World) : Prop :=
  ∃ (k f n cap : Nat) (ao : Option Addr) (ss : List ByteArray), v7 = .int .i64 k ∧ v6 = .int .i64 f ∧ v5 = .slice ao n cap ∧ k ≤ s.size + 1 ∧ f ≤ k ∧ n = ss.length ∧ n ≤ k ∧ (s.size < k → 1 ≤ n) ∧ SOwn w.heap.size wr (.slice ao n cap) ss ∧ (∀ x ∈ ss, x.size ≤ s.size) ∧ Below w.heap.size w wr
def CutRes (s : ByteArray) (w : World) (e : Ending) (w' : World) : Prop :=
  ∃ (n cap : Nat) (ao : Option Addr) (ss : List ByteArray), e = .returned (.slice ao n cap) ∧ n = ss.length ∧ 1 ≤ n ∧ n ≤ s.size + 1 ∧ SOwn w.heap.size w' (.slice ao n cap) ss ∧ (∀ x ∈ ss, x.size ≤ s.size) ∧ Below w.heap.size w w'
set_option maxHeartbeats 2000000 in
theorem l19Cut_at (b : Int) (s : ByteArray) (hs : s.size ≤ 2000000) (w : World) : Calls Try.prog 80 #[.string s, .int .u8 b] w (CutRes s w) := by
  go_enter Try.func80, Try.ntmps80
  go_wp2
  go_loopw [5, 6, 7] (fun v5 v6 v7 wr => CutRel s w v5 v6 v7 wr) (fun _ _ i _ => s.size + 1 - (intOf i).toNat)
  case atStart => exact ⟨0, 0, 0, 0, _, [], rfl, rfl, rfl, by omega, by omega, rfl, by omega, by omega, SOwn.empty _ _ (Nat.le_refl _), (fun x hx => by cases hx), (Below.refl _ _).alloc (Nat.le_refl _) _⟩
  case round =>
    obtain ⟨k, f, n, cap, ao, ss, rfl, rfl, rfl, hk, hf, hn, hnk, hone, hown, hall, hbel⟩ := hrel
    have HN := Lib.hid hn; clear hn
    have HALL := Lib.hid hall; clear hall
    by_cases hlt : k < s.size + 1
    · by_cases hq : k = s.size
      · subst hq
        have hxs : (s.extract f s.size).size ≤ s.size := by simp
        have HXS := Lib.hid hxs; clear hxs
        go_wp2_with (at_builtin; refine app_str wr (s.extract f s.size) w.heap.size rfl rfl _ _ rfl (.slice ao n cap) ss rfl hown rfl ?_ hbel.size ?_)
        · have := HN.out; omega
        intro ao' n' cap' w1 hn' hown' hkept
        have hbel' := hkept.1 w hbel
        have HN2 := Lib.hid hn'; clear hn'
        have HOWN := Lib.hid hown'; clear hown'
        have HB := Lib.hid hbel'; clear hbel'
        clear hown hkept hbel
        go_wp2
        go_roundw
        case rel => exact ⟨s.size + 1, s.size + 1, n', cap', ao', _, by go_num, by go_num, rfl, by omega, Nat.le_refl _, by rw [HN2.out]; simp, by have := HN2.out; have := HN.out; omega, by have := HN2.out; omega, HOWN.out, fun x hx => by
          rcases List.mem_append.1 hx with hx | hx
          · exact HALL.out x hx
          · have : x = s.extract f s.size := by simpa using hx
            rw [this]; exact HXS.out, HB.out⟩
        case measure => simp [intOf] <;> omega
      · have hks : k < s.size := by omega
        obtain ⟨c, hc⟩ : ∃ c, s[k] = c := ⟨_, rfl⟩
        by_cases h32 : (c.toNat : Int) = b
        · have hxs : (s.extract f k).size ≤ s.size := by simp; omega
          have HXS := Lib.hid hxs; clear hxs
          go_wp2_with (at_builtin; refine app_str wr (s.extract f k) w.heap.size rfl rfl _ _ rfl (.slice ao n cap) ss rfl hown rfl ?_ hbel.size ?_)
          · have := HN.out; omega
          intro ao' n' cap' w1 hn' hown' hkept
          have hbel' := hkept.1 w hbel
          have HN2 := Lib.hid hn'; clear hn'
          have HOWN := Lib.hid hown'; clear hown'
          have HB := Lib.hid hbel'; clear hbel'
          clear hown hkept hbel
          go_wp2
          go_roundw
          case rel => exact ⟨k + 1, k + 1, n', cap', ao', _, by go_num, by go_num, rfl, by omega, Nat.le_refl _, by rw [HN2.out]; simp, by have := HN2.out; have := HN.out; omega, by have := HN2.out; omega, HOWN.out, fun x hx => by
            rcases List.mem_append.1 hx with hx | hx
            · exact HALL.out x hx
            · have : x = s.extract f k := by simpa using hx
              rw [this]; exact HXS.out, HB.out⟩
          case measure => simp [intOf] <;> omega
        · have hq' : ((k : Int) == (s.size : Int)) = false := by simp; omega
          have h32' : ((c.toNat : Int) == b) = false := by simpa using h32
          go_wp2
          go_roundw
          case rel => exact ⟨k + 1, f, n, cap, ao, ss, by go_num, rfl, rfl, by omega, by omega, HN.out, by omega, by omega, hown, HALL.out, hbel⟩
          case measure => simp [intOf] <;> omega
    · go_wp2
      go_ret
      exact ⟨n, cap, ao, ss, rfl, HN.out, by omega, by omega, hown, HALL.out, hbel⟩
theorem one_byte (w : World) (xi : Int) (h0 : 0 ≤ xi) (h1 : xi ≤ 255) : (convert 40 9 (.slice (some ⟨w.heap.size, 0, none⟩) 1 1)).run Try.prog (w.alloc (.cells #[.int .u8 xi] 5)) = .ok (.string ⟨#[UInt8.ofNat xi.toNat]⟩) (w.alloc (.cells #[.int .u8 xi] 5)) := by
  refine run_string_of_one w (UInt8.ofNat xi.toNat) xi ?_
  rw [UInt8.toNat_ofNat']
  omega
def DecRes (w : World) (e : Ending) (w' : World) : Prop := ∃ r : ByteArray, e = .returned (.string r) ∧ r.size ≤ 1001 ∧ Below w.heap.size w w'
set_option maxHeartbeats 1000000 in
theorem l19Dec_any (n : Nat) (hn : n < 1000) (w : World) : Calls Try.prog 88 #[.int .i64 n] w (DecRes w) := by
  go_enter Try.func88, Try.ntmps88
  go_wp2
  go_loopw [0, 3] (fun v0 v3 wr => ∃ (m : Nat) (r : ByteArray), v0 = .int .i64 m ∧ v3 = .string r ∧ m < 1000 ∧ r.size + m ≤ 1000 ∧ Below w.heap.size w wr) (fun v0 _ _ => (intOf v0).toNat)
  case atStart => exact ⟨n, _, rfl, rfl, hn, by simp [ByteArray.size]; omega, Below.refl _ _⟩
  case round =>
    obtain ⟨m, r, rfl, rfl, hm, hr, hbel⟩ := hrel
    have hr1 : r.size ≤ 1000 := by omega
    have hsum : (1 : Int) + (r.size : Int) ≤ 9223372036854775807 := by omega
    by_cases h9 : (9 : Int) < (m : Int)
    · have hcv := one_byte wr (48 + (m : Int) % 10) (by omega) (by omega)
      obtain ⟨c, hc⟩ : ∃ c, UInt8.ofNat (48 + (m : Int) % 10).toNat = c := ⟨_, rfl⟩
      rw [hc] at hcv
      have HB := Lib.hid ((hbel).alloc hbel.size (.cells #[.int .u8 (48 + (m : Int) % 10)] 5))
      have hsz : ∀ r : ByteArray, (ByteArray.mk #[c] ++ r).size = 1 + r.size := fun r => by rw [append_size]; rfl
      have HSZ := Lib.hid hsz; clear hsz
      clear hc
      go_wp2
      go_roundw
      case rel => exact ⟨m / 10, ByteArray.mk #[c] ++ r, by go_num, rfl, by omega, by rw [HSZ.out]; omega, HB.out⟩
      case measure => simp [intOf] <;> omega
    · have hcv := one_byte wr (48 + (m : Int)) (by omega) (by omega)
      obtain ⟨c, hc⟩ : ∃ c, UInt8.ofNat (48 + (m : Int)).toNat = c := ⟨_, rfl⟩
      rw [hc] at hcv
      have HB := Lib.hid ((hbel).alloc hbel.size (.cells #[.int .u8 (48 + (m : Int))] 5))
      have hsz : ∀ r : ByteArray, (ByteArray.mk #[c] ++ r).size = 1 + r.size := fun r => by rw [append_size]; rfl
      have HSZ := Lib.hid hsz; clear hsz
      clear hc
      go_wp2
      go_ret
      exact ⟨_, rfl, by rw [HSZ.out]; omega, HB.out⟩
theorem fmtA_le (a : Int) : (fmtA a).length ≤ 6 := by
  unfold fmtA
  split
  · simp
  · split
    · simp
    · rw [List.length_map]; exact lets_len a
def FmtRes (N : Nat) (w : World) (e : Ending) (w' : World) : Prop := ∃ r : ByteArray, e = .returned (.string r) ∧ r.size ≤ N ∧ Below w.heap.size w w'
theorem specFmt_sz (a : Int) (w : World) : Calls Try.prog 86 #[.int .i64 a] w (FmtRes 6 w) :=
  (specFmt_any a w).mono fun e w' ⟨r, h1, h2, h3⟩ => ⟨r, h1, by rw [size_of h2]; exact fmtA_le a, h3⟩
end Go.Proofs.Ytagegbhchljggaa
