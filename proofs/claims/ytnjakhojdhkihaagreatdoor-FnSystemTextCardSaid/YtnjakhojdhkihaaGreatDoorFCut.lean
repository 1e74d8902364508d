/- The reference's cutting of a text, exact. -/
import Derived.Test.YtnjakhojdhkihaaGreatDoorFText
import Derived.Test.YtnjakhojdhkihaaGreatDoorSText2
namespace Go.Proofs.YtnjakhojdhkihaaGreatDoor
open Go.RowKit
set_option linter.unusedVariables false
set_option linter.unusedSimpArgs false
set_option maxRecDepth 100000

theorem ext_data (s : ByteArray) (f k : Nat) : (s.extract f k).data.toList = (s.data.toList.drop f).take (k - f) := by
  rw [ByteArray.data_extract, Array.toList_extract, List.extract_eq_take_drop]
theorem cut_hit {l : List UInt8} {f k : Nat} (hfk : f ≤ k) (hk : k < l.length) (h : l[k]? = some 32) (hn : noSp ((l.drop f).take (k - f))) : cutL (l.drop f) = (l.drop f).take (k - f) :: cutL (l.drop (k + 1)) := by
  have e : l.drop f = (l.drop f).take (k - f) ++ 32 :: l.drop (k + 1) := by
    conv => lhs; rw [← List.take_append_drop (k - f) (l.drop f)]
    rw [List.drop_drop, show f + (k - f) = k by omega]
    congr 1
    rw [List.drop_eq_getElem_cons hk]
    congr 1
    rw [List.getElem?_eq_getElem hk] at h
    exact Option.some.inj h
  conv => lhs; rw [e]
  exact cutL_app _ hn
theorem noSp_snoc {l : List UInt8} {f k : Nat} (hfk : f ≤ k) (hk : k < l.length) {c : UInt8} (hc : l[k]? = some c) (h32 : c ≠ 32) (hn : noSp ((l.drop f).take (k - f))) : noSp ((l.drop f).take (k + 1 - f)) := by
  rw [show k + 1 - f = (k - f) + 1 by omega, List.take_add_one, List.getElem?_drop, show f + (k - f) = k by omega, hc]
  intro b hb
  simp only [Option.toList_some, List.mem_append, List.mem_cons, List.not_mem_nil, or_false] at hb
  rcases hb with hb | rfl
  · exact hn b hb
  · exact h32
theorem cut_last {l : List UInt8} {f : Nat} (hn : noSp ((l.drop f).take (l.length - f))) : cutL (l.drop f) = [l.drop f] := by
  rw [List.take_of_length_le (by rw [List.length_drop]; omega)] at hn
  exact cutL_no hn
/-- How far the cutting has come. -/
def CutAt (l : List UInt8) (ss : List ByteArray) (k f : Nat) : Prop :=
  (k ≤ l.length → cutL l = ss.map (·.data.toList) ++ cutL (l.drop f) ∧ noSp ((l.drop f).take (k - f))) ∧ (k = l.length + 1 → cutL l = ss.map (·.data.toList))
theorem CutAt.start (l : List UInt8) : CutAt l [] 0 0 := ⟨fun _ => ⟨by simp, by intro b hb; simp at hb⟩, fun h => by omega⟩
theorem CutAt.hit {s : ByteArray} {ss : List ByteArray} {k f : Nat} (h : CutAt s.data.toList ss k f) (hfk : f ≤ k) (hk : k < s.size) (hc : s.data.toList[k]? = some 32) : CutAt s.data.toList (ss ++ [s.extract f k]) (k + 1) (k + 1) := by
  have hl := data_len s
  obtain ⟨h1, h2⟩ := h.1 (by omega)
  refine ⟨fun _ => ⟨?_, by intro b hb; simp at hb⟩, fun e => by omega⟩
  rw [h1, cut_hit hfk (by omega) hc h2, List.map_append, List.map_cons, List.map_nil, ext_data]
  simp
theorem CutAt.last {s : ByteArray} {ss : List ByteArray} {f : Nat} (h : CutAt s.data.toList ss s.size f) (hfk : f ≤ s.size) : CutAt s.data.toList (ss ++ [s.extract f s.size]) (s.size + 1) (s.size + 1) := by
  have hl := data_len s
  obtain ⟨h1, h2⟩ := h.1 (by omega)
  refine ⟨fun e => by omega, fun _ => ?_⟩
  rw [← hl] at h2
  rw [h1, cut_last h2, List.map_append, List.map_cons, List.map_nil, ext_data, List.take_of_length_le (by rw [List.length_drop]; omega)]
theorem CutAt.skip {s : ByteArray} {ss : List ByteArray} {k f : Nat} {c : UInt8} (h : CutAt s.data.toList ss k f) (hfk : f ≤ k) (hk : k < s.size) (hc : s.data.toList[k]? = some c) (h32 : c ≠ 32) : CutAt s.data.toList ss (k + 1) f := by
  have hl := data_len s
  obtain ⟨h1, h2⟩ := h.1 (by omega)
  exact ⟨fun _ => ⟨h1, noSp_snoc hfk (by omega) hc h32 h2⟩, fun e => by omega⟩
def CutRelX (s : ByteArray) (w : World) (v5 v6 v7 : Value) (wr : World) : Prop :=
  ∃ (k f n cap : Nat) (ao : Option Addr) (ss : List ByteArray), v7 = .int .i64 k ∧ v6 = .int .i64 f ∧ v5 = .slice ao n cap ∧ k ≤ s.size + 1 ∧ f ≤ k ∧ n = ss.length ∧ n ≤ k ∧ SOwn w.heap.size wr (.slice ao n cap) ss ∧ Hid (CutAt s.data.toList ss k f) ∧ Below w.heap.size w wr
def CutResX (s : ByteArray) (w : World) (e : Ending) (w' : World) : Prop :=
  ∃ (n cap : Nat) (ao : Option Addr) (ss : List ByteArray), e = .returned (.slice ao n cap) ∧ n = ss.length ∧ n ≤ s.size + 1 ∧ SOwn w.heap.size w' (.slice ao n cap) ss ∧ cutL s.data.toList = ss.map (·.data.toList) ∧ Below w.heap.size w w'
set_option maxHeartbeats 2000000 in
theorem l19Cut_tx (s : ByteArray) (hs : s.size ≤ 2000000) (w : World) : Calls Tryz.prog 17 #[.string s, .int .u8 32] w (CutResX s w) := by
  go_enter Tryz.func17, Tryz.ntmps17
  go_wp2
  go_loopw [5, 6, 7] (fun v5 v6 v7 wr => CutRelX s w v5 v6 v7 wr) (fun _ _ i _ => s.size + 1 - (intOf i).toNat)
  case atStart => exact ⟨0, 0, 0, 0, _, [], rfl, rfl, rfl, by omega, by omega, rfl, by omega, SOwn.empty _ _ (Nat.le_refl _), CutAt.start _, (Below.refl _ _).alloc (Nat.le_refl _) _⟩
  case round =>
    obtain ⟨k, f, n, cap, ao, ss, rfl, rfl, rfl, hk, hf, hn, hnk, hown, HALL, hbel⟩ := hrel
    have HN := Lib.hid hn; clear hn
    by_cases hlt : k < s.size + 1
    · by_cases hq : k = s.size
      · subst hq
        have HST := Lib.hid (HALL.out.last hf)
        go_wp2_with (at_builtin; refine app_str wr (s.extract f s.size) w.heap.size rfl rfl _ _ rfl (.slice ao n cap) ss rfl hown rfl ?_ hbel.size ?_)
        · have := HN.out; omega
        intro ao' n' cap' w1 hn' hown' hkept
        have hbel' := hkept.1 w hbel
        have HN2 := Lib.hid hn'; clear hn'
        have HOWN := Lib.hid hown'; clear hown'
        have HB := Lib.hid hbel'; clear hbel'
        clear hown hkept hbel
        go_wp2
        go_roundw
        case rel => exact ⟨s.size + 1, s.size + 1, n', cap', ao', _, by go_num, by go_num, rfl, by omega, Nat.le_refl _, by rw [HN2.out]; simp, by have := HN2.out; have := HN.out; omega, HOWN.out, HST, HB.out⟩
        case measure => simp [intOf] <;> omega
      · have hks : k < s.size := by omega
        obtain ⟨c, hc⟩ : ∃ c, s[k] = c := ⟨_, rfl⟩
        have hcd : s.data.toList[k]? = some c := by rw [← hc]; exact Lib.data_getElem? s k hks
        have HCD := Lib.hid hcd; clear hcd
        by_cases h32 : (c.toNat : Int) = 32
        · have hc32 : c = 32 := UInt8.toNat_inj.1 (by have : (32 : UInt8).toNat = 32 := rfl; omega)
          have HST := Lib.hid (HALL.out.hit hf hks (hc32 ▸ HCD.out))
          clear hc32
          go_wp2_with (at_builtin; refine app_str wr (s.extract f k) w.heap.size rfl rfl _ _ rfl (.slice ao n cap) ss rfl hown rfl ?_ hbel.size ?_)
          · have := HN.out; omega
          intro ao' n' cap' w1 hn' hown' hkept
          have hbel' := hkept.1 w hbel
          have HN2 := Lib.hid hn'; clear hn'
          have HOWN := Lib.hid hown'; clear hown'
          have HB := Lib.hid hbel'; clear hbel'
          clear hown hkept hbel
          go_wp2
          go_roundw
          case rel => exact ⟨k + 1, k + 1, n', cap', ao', _, by go_num, by go_num, rfl, by omega, Nat.le_refl _, by rw [HN2.out]; simp, by have := HN2.out; have := HN.out; omega, HOWN.out, HST, HB.out⟩
          case measure => simp [intOf] <;> omega
        · have hc32 : c ≠ 32 := fun e => h32 (by rw [e]; rfl)
          have HST := Lib.hid (HALL.out.skip hf hks HCD.out hc32)
          have hq' : ((k : Int) == (s.size : Int)) = false := by simp; omega
          have h32' : ((c.toNat : Int) == 32) = false := by simpa using h32
          clear hc32
          go_wp2
          go_roundw
          case rel => exact ⟨k + 1, f, n, cap, ao, ss, by go_num, rfl, rfl, by omega, by omega, HN.out, by omega, hown, HST, hbel⟩
          case measure => simp [intOf] <;> omega
    · have hke : k = s.size + 1 := by omega
      have HST := Lib.hid (HALL.out.2 (by rw [hke, data_len]))
      clear hke
      go_wp2
      go_ret
      exact ⟨n, cap, ao, ss, rfl, HN.out, by omega, hown, HST.out, hbel⟩
end Go.Proofs.YtnjakhojdhkihaaGreatDoor
