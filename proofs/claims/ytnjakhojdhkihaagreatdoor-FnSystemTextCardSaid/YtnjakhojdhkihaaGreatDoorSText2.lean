/- Pieces of a text: l19Cut, l19Dec, l2Parse. -/
import Derived.Test.YtnjakhojdhkihaaGreatDoorSText
import Derived.Test.YtnjakhojdhkihaaGreatDoorRestrict
import Derived.Test.YtnjakhojdhkihaaGreatDoorWithin
namespace Go.Proofs.YtnjakhojdhkihaaGreatDoor
open Go.RowKit
set_option linter.unusedVariables false
set_option linter.unusedSimpArgs false
set_option maxRecDepth 100000

theorem Tryz.infoStr : (Tryz.prog.info? 9).map (fun i => (i.zero, i.size, i.bytes)) = some (some (.string ByteArray.empty), 1, 16) := by kernel_rfl
/-- An owned slice of strings. -/
def SOwn (B : Nat) (w : World) (v : Value) (ss : List ByteArray) : Prop := w.ownsRow B 9 1 v ss.length (ss.map Value.string)
theorem SOwn.below {B : Nat} {w w' : World} {v : Value} {ss : List ByteArray} (h : SOwn B w v ss) (hb : Below w.heap.size w w') : SOwn B w' v ss := ownsRow_below h hb
theorem SOwn.empty (B : Nat) (w : World) (hb : B ≤ w.heap.size) : SOwn B (w.alloc (.cells #[] 9)) (.slice (some ⟨w.heap.size, 0, none⟩) 0 0) [] := World.ownsRow_made w #[] 0 hb (by decide) rfl
theorem SOwn.at {B : Nat} {w : World} {ao : Option Addr} {n cap : Nat} {ss : List ByteArray} (h : SOwn B w (.slice ao n cap) ss) (h0 : 0 < n) : n = ss.length ∧ n ≤ cap ∧ cap ≤ maxLen ∧ ∃ g, ao = some ⟨g, 0, none⟩ ∧ B ≤ g ∧ g < w.heap.size ∧ ∀ j, j < n → w.cell? ⟨g, j, none⟩ = some (.string (ss[j]?.getD ByteArray.empty)) := by
  rcases h.2 with ⟨h1, h2⟩ | ⟨g, c, cur, hv, hB, hg, hc, hm, hs, ht⟩
  · injection h1 with e1 e2 e3
    omega
  · injection hv with e1 e2 e3
    subst e1; subst e2; subst e3
    refine ⟨rfl, hc, hm, g, rfl, hB, (Array.getElem?_eq_some_iff.1 hg).1, fun j hj => ?_⟩
    rw [World.ownsRow.cellAt h j (by omega)]
    simp [List.getElem?_eq_getElem hj]
theorem app_str {P : Program} {ops : Array Oper} {rest : List Oper} {o : Oper} {a : Act} {Q : Exit → Act → World → Prop} (wr : World) (x : ByteArray) (B : Nat) (hP : P = Tryz.prog) (hg : o.guard = none) (s y : Operand)
    (ho : o.op = .call { callee := .builtin .append, args := #[s, y], argTypes := #[36, 36] }) (v : Value) (xs : List ByteArray) (hs : a.eval s = v) (hown : SOwn B wr v xs)
    (hy : a.eval y = .slice (some ⟨wr.heap.size, 0, none⟩) 1 1) (hb : xs.length ≤ 10000000) (hB : B ≤ wr.heap.size)
    (h : ∀ ao n cap w1, n = xs.length + 1 → SOwn B w1 (.slice ao n cap) (xs ++ [x]) → Kept B wr w1 v → wpList P ops Q rest (a.put o.dst (.slice ao n cap)) w1) :
    wpList P ops Q (o :: rest) a (wr.alloc (.cells #[.string x] 9)) := by
  subst hP
  obtain ⟨i0, hi, hz0, hz1, hz2⟩ := info_parts Tryz.infoStr
  refine wpList_append_own _ hg s y 36 ho B 9 i0 _ 1 16 Tryz.underlying36 hi hz0 hz1 hz2 rfl (by decide) v xs.length (xs.map Value.string) hs (World.ownsRow.alloc hown _) ⟨wr.heap.size, 0, none⟩ 1 1 [.string x] hy rfl (cell_one_new _ _ _) (by intro u hu; simp at hu; subst hu; rfl) (by unfold maxLen; omega) (by omega) (by simp; omega) ?_
  intro v' w1 hown' hgrow _
  have hg2 : wr.grownBy w1 v.ownBlock := by
    refine ⟨hgrow.os, hgrow.tape, hgrow.output, ?_, fun k hk hne => ?_⟩
    · have := hgrow.size; simp at this; omega
    · rw [hgrow.block k (by simp; omega) hne]; exact Below.heap_alloc wr _ k hk
  have hown2 : SOwn B w1 v' (xs ++ [x]) := by unfold SOwn; simpa using hown'
  have hK : Kept B wr w1 v := ⟨fun w0 h0 => h0.grown hg2 hB (fun k hk => (World.ownsRow.lt hown k hk).1), hg2⟩
  rcases hown'.2 with ⟨rfl, h0⟩ | ⟨g, cap, cur, rfl, _⟩
  · omega
  · exact h _ _ _ w1 rfl hown2 hK
def CutRel (s : ByteArray) (w : World) (v5 v6 v7 : Value) (wr : World) : Prop :=
  ∃ (k f n cap : Nat) (ao : Option Addr) (ss : List ByteArray), v7 = .int .i64 k ∧ v6 = .int .i64 f ∧ v5 = .slice ao n cap ∧ k ≤ s.size + 1 ∧ f ≤ k ∧ n = ss.length ∧ n ≤ k ∧ SOwn w.heap.size wr (.slice ao n cap) ss ∧ (∀ x ∈ ss, x.size ≤ s.size) ∧ Below w.heap.size w wr
def CutRes (s : ByteArray) (w : World) (e : Ending) (w' : World) : Prop :=
  ∃ (n cap : Nat) (ao : Option Addr) (ss : List ByteArray), e = .returned (.slice ao n cap) ∧ n = ss.length ∧ n ≤ s.size + 1 ∧ SOwn w.heap.size w' (.slice ao n cap) ss ∧ (∀ x ∈ ss, x.size ≤ s.size) ∧ Below w.heap.size w w'
set_option maxHeartbeats 2000000 in
theorem l19Cut_any (s : ByteArray) (hs : s.size ≤ 2000000) (w : World) : Calls Tryz.prog 17 #[.string s, .int .u8 32] w (CutRes s w) := by
  go_enter Tryz.func17, Tryz.ntmps17
  go_wp2
  go_loopw [5, 6, 7] (fun v5 v6 v7 wr => CutRel s w v5 v6 v7 wr) (fun _ _ i _ => s.size + 1 - (intOf i).toNat)
  case atStart => exact ⟨0, 0, 0, 0, _, [], rfl, rfl, rfl, by omega, by omega, rfl, by omega, SOwn.empty _ _ (Nat.le_refl _), (fun x hx => by cases hx), (Below.refl _ _).alloc (Nat.le_refl _) _⟩
  case round =>
    obtain ⟨k, f, n, cap, ao, ss, rfl, rfl, rfl, hk, hf, hn, hnk, hown, hall, hbel⟩ := hrel
    have HN := Lib.hid hn; clear hn
    have HALL := Lib.hid hall; clear hall
    by_cases hlt : k < s.size + 1
    · by_cases hq : k = s.size
      · subst hq
        have hxs : (s.extract f s.size).size ≤ s.size := by simp
        have HXS := Lib.hid hxs; clear hxs
        go_wp2_with (at_builtin; refine app_str wr (s.extract f s.size) w.heap.size rfl rfl _ _ rfl (.slice ao n cap) ss rfl hown rfl ?_ hbel.size ?_)
        · have := HN.out; omega
        intro ao' n' cap' w1 hn' hown' hkept
        have hbel' := hkept.1 w hbel
        have HN2 := Lib.hid hn'; clear hn'
        have HOWN := Lib.hid hown'; clear hown'
        have HB := Lib.hid hbel'; clear hbel'
        clear hown hkept hbel
        go_wp2
        go_roundw
        case rel => exact ⟨s.size + 1, s.size + 1, n', cap', ao', _, by go_num, by go_num, rfl, by omega, Nat.le_refl _, by rw [HN2.out]; simp, by have := HN2.out; have := HN.out; omega, HOWN.out, fun x hx => by
          rcases List.mem_append.1 hx with hx | hx
          · exact HALL.out x hx
          · have : x = s.extract f s.size := by simpa using hx
            rw [this]; exact HXS.out, HB.out⟩
        case measure => simp [intOf] <;> omega
      · have hks : k < s.size := by omega
        obtain ⟨c, hc⟩ : ∃ c, s[k] = c := ⟨_, rfl⟩
        by_cases h32 : (c.toNat : Int) = 32
        · have hxs : (s.extract f k).size ≤ s.size := by simp; omega
          have HXS := Lib.hid hxs; clear hxs
          go_wp2_with (at_builtin; refine app_str wr (s.extract f k) w.heap.size rfl rfl _ _ rfl (.slice ao n cap) ss rfl hown rfl ?_ hbel.size ?_)
          · have := HN.out; omega
          intro ao' n' cap' w1 hn' hown' hkept
          have hbel' := hkept.1 w hbel
          have HN2 := Lib.hid hn'; clear hn'
          have HOWN := Lib.hid hown'; clear hown'
          have HB := Lib.hid hbel'; clear hbel'
          clear hown hkept hbel
          go_wp2
          go_roundw
          case rel => exact ⟨k + 1, k + 1, n', cap', ao', _, by go_num, by go_num, rfl, by omega, Nat.le_refl _, by rw [HN2.out]; simp, by have := HN2.out; have := HN.out; omega, HOWN.out, fun x hx => by
            rcases List.mem_append.1 hx with hx | hx
            · exact HALL.out x hx
            · have : x = s.extract f k := by simpa using hx
              rw [this]; exact HXS.out, HB.out⟩
          case measure => simp [intOf] <;> omega
        · have hq' : ((k : Int) == (s.size : Int)) = false := by simp; omega
          have h32' : ((c.toNat : Int) == 32) = false := by simpa using h32
          go_wp2
          go_roundw
          case rel => exact ⟨k + 1, f, n, cap, ao, ss, by go_num, rfl, rfl, by omega, by omega, HN.out, by omega, hown, HALL.out, hbel⟩
          case measure => simp [intOf] <;> omega
    · go_wp2
      go_ret
      exact ⟨n, cap, ao, ss, rfl, HN.out, by omega, hown, HALL.out, hbel⟩
theorem one_byte (w : World) (xi : Int) (h0 : 0 ≤ xi) (h1 : xi ≤ 255) : (convert 30 9 (.slice (some ⟨w.heap.size, 0, none⟩) 1 1)).run Tryz.prog (w.alloc (.cells #[.int .u8 xi] 5)) = .ok (.string ⟨#[UInt8.ofNat xi.toNat]⟩) (w.alloc (.cells #[.int .u8 xi] 5)) := by
  refine run_string_of_one w (UInt8.ofNat xi.toNat) xi ?_
  rw [UInt8.toNat_ofNat']
  omega
def DecRes (w : World) (e : Ending) (w' : World) : Prop := ∃ r : ByteArray, e = .returned (.string r) ∧ r.size ≤ 1001 ∧ Below w.heap.size w w'
set_option maxHeartbeats 1000000 in
theorem l19Dec_any (n : Nat) (hn : n < 1000) (w : World) : Calls Tryz.prog 39 #[.int .i64 n] w (DecRes w) := by
  go_enter Tryz.func39, Tryz.ntmps39
  go_wp2
  go_loopw [0, 3] (fun v0 v3 wr => ∃ (m : Nat) (r : ByteArray), v0 = .int .i64 m ∧ v3 = .string r ∧ m < 1000 ∧ r.size + m ≤ 1000 ∧ Below w.heap.size w wr) (fun v0 _ _ => (intOf v0).toNat)
  case atStart => exact ⟨n, _, rfl, rfl, hn, by simp [ByteArray.size]; omega, Below.refl _ _⟩
  case round =>
    obtain ⟨m, r, rfl, rfl, hm, hr, hbel⟩ := hrel
    have hr1 : r.size ≤ 1000 := by omega
    have hsum : (1 : Int) + (r.size : Int) ≤ 9223372036854775807 := by omega
    by_cases h9 : (9 : Int) < (m : Int)
    · have hcv := one_byte wr (48 + (m : Int) % 10) (by omega) (by omega)
      obtain ⟨c, hc⟩ : ∃ c, UInt8.ofNat (48 + (m : Int) % 10).toNat = c := ⟨_, rfl⟩
      rw [hc] at hcv
      have HB := Lib.hid ((hbel).alloc hbel.size (.cells #[.int .u8 (48 + (m : Int) % 10)] 5))
      have hsz : ∀ r : ByteArray, (ByteArray.mk #[c] ++ r).size = 1 + r.size := fun r => by rw [append_size]; rfl
      have HSZ := Lib.hid hsz; clear hsz
      clear hc
      go_wp2
      go_roundw
      case rel => exact ⟨m / 10, ByteArray.mk #[c] ++ r, by go_num, rfl, by omega, by rw [HSZ.out]; omega, HB.out⟩
      case measure => simp [intOf] <;> omega
    · have hcv := one_byte wr (48 + (m : Int)) (by omega) (by omega)
      obtain ⟨c, hc⟩ : ∃ c, UInt8.ofNat (48 + (m : Int)).toNat = c := ⟨_, rfl⟩
      rw [hc] at hcv
      have HB := Lib.hid ((hbel).alloc hbel.size (.cells #[.int .u8 (48 + (m : Int))] 5))
      have hsz : ∀ r : ByteArray, (ByteArray.mk #[c] ++ r).size = 1 + r.size := fun r => by rw [append_size]; rfl
      have HSZ := Lib.hid hsz; clear hsz
      clear hc
      go_wp2
      go_ret
      exact ⟨_, rfl, by rw [HSZ.out]; omega, HB.out⟩
theorem rowIs_set3 {w : World} {b : Nat} {t : TypeId} {f : Nat → Value} (h : w.rowIs b t 3 f) (v0 v1 v2 : Value) : (((w.setCell ⟨b, 0, none⟩ v0).setCell ⟨b, 1, none⟩ v1).setCell ⟨b, 2, none⟩ v2).rowIs b t 3 (fun i => #[v0, v1, v2][i]?.getD undef) :=
  (((h.set 0 v0).set 1 v1).set 2 v2).congr (fun j hj => by
    obtain rfl | rfl | rfl : j = 0 ∨ j = 1 ∨ j = 2 := by omega
    all_goals rfl)
def ParseERes (w : World) (e : Ending) (w' : World) : Prop := ∃ (f l t : Int) (b : Bool), e = .returned (.tuple #[.agg #[.int .i64 f, .int .i64 l, .int .i64 t], .bool b]) ∧ Below w.heap.size w w'
set_option maxHeartbeats 2000000 in
theorem l2Parse_any (s : ByteArray) (hs : s.size ≤ 2000000) (w : World) : Calls Tryz.prog 20 #[.string s] w (ParseERes w) := by
  have hz0 := own_cells' w #[.int .i64 0, .int .i64 0, .int .i64 0] 41 3 rfl
  have hb0 := below_new' w 41 #[.int .i64 0, .int .i64 0, .int .i64 0]
  obtain ⟨w0, hw0⟩ : ∃ w0, (w.alloc (.cells #[.int .i64 0, .int .i64 0, .int .i64 0] 41)) = w0 := ⟨_, rfl⟩
  rw [hw0] at hz0 hb0
  go_enter Tryz.func20, Tryz.ntmps20
  go_wp2
  have z0 : w0.cell? ⟨w.heap.size, 0, none⟩ = some (.int .i64 0) := hz0.cell (by decide)
  have z1 : w0.cell? ⟨w.heap.size, 1, none⟩ = some (.int .i64 0) := hz0.cell (by decide)
  have z2 : w0.cell? ⟨w.heap.size, 2, none⟩ = some (.int .i64 0) := hz0.cell (by decide)
  have zf0 := hz0.frozen 0
  have zf1 := hz0.frozen 1
  have zf2 := hz0.frozen 2
  have HZ := Lib.hid hz0
  have HB := Lib.hid hb0
  clear hz0 hb0 hw0
  go_loopw [4] (fun i wr => ∃ k : Nat, i = .int .i64 k ∧ k ≤ s.size ∧ wr = w0) (fun i _ => s.size - (intOf i).toNat)
  case atStart => exact ⟨0, rfl, Nat.zero_le _, rfl⟩
  case round =>
    obtain ⟨k, rfl, hk, hwr⟩ := hrel
    subst hwr
    by_cases hlt : k < s.size
    · obtain ⟨c, hc⟩ : ∃ c, s[k] = c := ⟨_, rfl⟩
      have HC := Lib.hid hc
      by_cases h1 : (97 : Int) ≤ (c.toNat : Int)
      · by_cases h2 : (c.toNat : Int) ≤ 102
        · have hs1 : (s.extract 0 k).size ≤ 2000000 := by simp; omega
          have hs2 : (s.extract (k + 1) s.size).size ≤ 2000000 := by simp; omega
          go_wp2_with fail
          refine (l19Num_any (s.extract 0 k) hs1 _).mono ?_
          rintro e w1 ⟨f, b1, rfl, hw1⟩
          replace hw1 := hw1.symm
          subst hw1
          go_wp2_with fail
          refine (l19Num_any (s.extract (k + 1) s.size) hs2 _).mono ?_
          rintro e w1 ⟨t, b2, rfl, hw1⟩
          replace hw1 := hw1.symm
          subst hw1
          obtain ⟨l, hl⟩ : ∃ l, (c.toNat : Int) - 97 = l := ⟨_, rfl⟩
          have hls := l1At_c s k c hlt HC (by omega)
          rw [hl] at hls
          have HLS := Lib.hid hls
          clear hls hl
          go_wp2_with (go_at_call 48; refine (HLS.out _).mono ?_; rintro e w5 ⟨rfl, rfl⟩)
          all_goals
            obtain ⟨wf, hwf⟩ : ∃ wf, (((wr.setCell ⟨w.heap.size, 0, none⟩ (.int .i64 f)).setCell ⟨w.heap.size, 1, none⟩ (.int .i64 l)).setCell ⟨w.heap.size, 2, none⟩ (.int .i64 t)) = wf := ⟨_, rfl⟩
            have hfin := rowIs_set3 HZ.out (.int .i64 f) (.int .i64 l) (.int .i64 t)
            have hbF : Below w.heap.size w _ := ((HB.out.setCell (p := ⟨w.heap.size, 0, none⟩) (by simp) (.int .i64 f)).setCell (p := ⟨w.heap.size, 1, none⟩) (by simp) (.int .i64 l)).setCell (p := ⟨w.heap.size, 2, none⟩) (by simp) (.int .i64 t)
            rw [hwf] at hfin hbF ⊢
            clear hwf
            have f0 : wf.cell? ⟨w.heap.size, 0, none⟩ = some (.int .i64 f) := hfin.cell (by decide)
            have f1 : wf.cell? ⟨w.heap.size, 1, none⟩ = some (.int .i64 l) := hfin.cell (by decide)
            have f2 : wf.cell? ⟨w.heap.size, 2, none⟩ = some (.int .i64 t) := hfin.cell (by decide)
            refine bodyPost_ret (v := .tuple #[.agg #[.int .i64 f, .int .i64 l, .int .i64 t], .bool (b1 && b2)]) ?_ rfl ?_
            · first | (
                   simp [results, Tryz.results20, go_sem, f0, f1, f2]
                   done) | (
                   simp [results, Tryz.results20, go_sem, f0, f1, f2]
                   intros
                   simp_all)
            · exact ⟨_, _, _, _, rfl, hbF⟩
        · go_wp2
          go_roundw
          case rel => exact ⟨k + 1, by go_num, by omega, by first | rfl | trivial⟩
          case measure => simp [intOf] <;> omega
      · go_wp2
        go_roundw
        case rel => exact ⟨k + 1, by go_num, by omega, by first | rfl | trivial⟩
        case measure => simp [intOf] <;> omega
    · go_wp2
      all_goals
        obtain ⟨wf, hwf⟩ : ∃ wf, (((wr.setCell ⟨w.heap.size, 0, none⟩ (.int .i64 0)).setCell ⟨w.heap.size, 1, none⟩ (.int .i64 0)).setCell ⟨w.heap.size, 2, none⟩ (.int .i64 0)) = wf := ⟨_, rfl⟩
        have hfin := rowIs_set3 HZ.out (.int .i64 0) (.int .i64 0) (.int .i64 0)
        have hbF : Below w.heap.size w _ := ((HB.out.setCell (p := ⟨w.heap.size, 0, none⟩) (by simp) (.int .i64 0)).setCell (p := ⟨w.heap.size, 1, none⟩) (by simp) (.int .i64 0)).setCell (p := ⟨w.heap.size, 2, none⟩) (by simp) (.int .i64 0)
        rw [hwf] at hfin hbF ⊢
        clear hwf
        have f0 : wf.cell? ⟨w.heap.size, 0, none⟩ = some (.int .i64 0) := hfin.cell (by decide)
        have f1 : wf.cell? ⟨w.heap.size, 1, none⟩ = some (.int .i64 0) := hfin.cell (by decide)
        have f2 : wf.cell? ⟨w.heap.size, 2, none⟩ = some (.int .i64 0) := hfin.cell (by decide)
        refine bodyPost_ret (v := .tuple #[.agg #[.int .i64 0, .int .i64 0, .int .i64 0], .bool false]) ?_ rfl ?_
        · first | (
               simp [results, Tryz.results20, go_sem, f0, f1, f2]
               done) | (
               simp [results, Tryz.results20, go_sem, f0, f1, f2]
               intros
               simp_all)
        · exact ⟨_, _, _, _, rfl, hbF⟩
end Go.Proofs.YtnjakhojdhkihaaGreatDoor
