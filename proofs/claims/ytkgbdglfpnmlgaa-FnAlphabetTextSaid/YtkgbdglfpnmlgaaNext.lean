/- NextWord on both sides. -/
import Derived.Test.YtkgbdglfpnmlgaaBefore
import Derived.Test.YtkgbdglfpnmlgaaOrder
import Derived.Deep.QuietTactic
import Derived.BigQuiet
import Derived.Deep.RegionWith
namespace Go.Proofs.Ytkgbdglfpnmlgaa
open Go.RowKit
set_option linter.unusedVariables false
set_option linter.unusedSimpArgs false
set_option maxRecDepth 100000

theorem quiet_ret {P : Program} {f : FuncId} {args : Array Value} {w : World} {n : Nat} {v : Value} (h : Calls P f args (w.drewN n) (Ret v (w.drewN n))) :
    Calls P f args (w.drewN n) fun e w'' => e = .returned v ∧ ∃ m, w'' = w.drewN m := h.mono fun _ _ ⟨he, hm⟩ => ⟨he, n, hm.symm⟩

/-- A row of bytes that a conversion has laid: its cells read, and may be written. -/
def CRow (B : Nat) (w : World) (g n cap : Nat) (xs : List UInt8) : Prop :=
  xs.length = n ∧ B ≤ g ∧ n ≤ cap ∧ cap ≤ maxLen ∧ g < w.heap.size ∧ (∀ j, j < n → w.cell? ⟨g, j, none⟩ = some (.int .u8 ((xs[j]?.getD 0).toNat : Int))) ∧ (∀ j, j < cap → (w.cell? ⟨g, j, none⟩).isSome = true ∧ w.frozen? ⟨g, j, none⟩ = false)

theorem conv_bytes (s : ByteArray) (w : World) (hs : s.size ≤ maxLen) : ∃ cap wc, (convert 9 22 (.string s)).run Try.prog w = .ok (.slice (some ⟨w.heap.size, 0, none⟩) s.size cap) wc ∧
    CRow w.heap.size wc w.heap.size s.size cap s.data.toList ∧ Below w.heap.size w wc := by
  have hrun := run_bytes_of_string (P := Try.prog) w 9 22 5 s Try.underlying9 Try.underlying22 Try.underlying5
  have hge := grownCap_ge w s.size 0 5
  have hle := grownCap_le_maxLen w s.size 0 5 hs
  generalize grownCap w s.size 0 5 = cap at *
  have hsz : (bytesRow s cap).size = cap := by
    have : s.data.size = s.size := rfl
    simp [bytesRow, this]; omega
  refine ⟨cap, _, hrun, ⟨rfl, Nat.le_refl _, hge, hle, by simp, fun j hj => ?_, fun j hj => ⟨?_, ?_⟩⟩, ((Below.refl _ _).drew).alloc (by simp) _⟩
  · have h1 := World.cell?_alloc_mark w.drew (bytesRow s cap) 5 ((bytesRow s cap).size, (bytesRow s cap).size + 1) j
    have h2 := bytesRow_at s cap j hj
    rw [show (w.heap.size) = w.drew.heap.size from rfl, h1, h2]
    have h3 : s.data.toList[j]? = some s.data[j] := by rw [Array.getElem?_toList, Array.getElem?_eq_getElem hj]
    rw [h3]; rfl
  · have h1 := World.cell?_alloc_mark w.drew (bytesRow s cap) 5 ((bytesRow s cap).size, (bytesRow s cap).size + 1) j
    rw [show (w.heap.size) = w.drew.heap.size from rfl, h1, Array.getElem?_eq_getElem (by omega)]; rfl
  · have h1 := World.frozen?_alloc_mark w.drew (bytesRow s cap) 5 (bytesRow s cap).size ((bytesRow s cap).size + 1) j
    rw [show (w.heap.size) = w.drew.heap.size from rfl, h1, hsz]
    have : ¬ cap ≤ j := by omega
    simp [this]

theorem CRow.stored {B : Nat} {w : World} {g n cap : Nat} {xs : List UInt8} (h : CRow B w g n cap xs) (j : Nat) (hj : j < n) (c : UInt8) (u : Int) (hu : u = (c.toNat : Int)) :
    CRow B (w.setCell ⟨g, j, none⟩ (.int .u8 u)) g n cap (xs.set j c) ∧ w.grownBy (w.setCell ⟨g, j, none⟩ (.int .u8 u)) (some g) := by
  subst hu
  obtain ⟨h1, h2, h3, h4, h5, h6, h7⟩ := h
  refine ⟨⟨by simpa using h1, h2, h3, h4, by simpa using h5, fun i hi => ?_, fun i hi => ⟨?_, ?_⟩⟩, ⟨rfl, rfl, rfl, by simp, fun k _ hk => heap_setCell_other w ⟨g, j, none⟩ k _ (fun e => hk (by simp [e]))⟩⟩
  · by_cases hij : j = i
    · subst hij
      rw [World.cell?_setCell_same w _ _ (h6 j hi), List.getElem?_set_self (by omega)]; rfl
    · rw [World.cell?_setCell_other w _ _ _ (by intro e; injection e with _ h; exact hij h), h6 i hi, List.getElem?_set_ne hij]
  · by_cases hij : j = i
    · subst hij
      rw [World.cell?_setCell_same' _ _ _ (h7 j hi).1]; rfl
    · rw [World.cell?_setCell_other w _ _ _ (by intro e; injection e with _ h; exact hij h)]; exact (h7 i hi).1
  · rw [World.frozen?_setCell]; exact (h7 i hi).2

theorem CRow.string {B : Nat} {w : World} {g n cap : Nat} {xs : List UInt8} (h : CRow B w g n cap xs) : (convert 22 9 (.slice (some ⟨g, 0, none⟩) n cap)).run Try.prog w = .ok (.string ⟨xs.toArray⟩) w := by
  obtain ⟨rfl, h2, h3, h4, h5, h6, h7⟩ := h
  refine run_convert_bytes_back w 22 9 5 ⟨g, 0, none⟩ cap xs Try.underlying22 Try.underlying5 Try.underlying9 (fun j hj => ?_)
  have := h6 j hj
  rw [Addr.add_lit]
  simpa [List.getElem?_eq_getElem hj] using this

theorem CRow.below {B : Nat} {w w' : World} {g n cap : Nat} {xs : List UInt8} (h : CRow B w g n cap xs) (hb : Below w.heap.size w w') : CRow B w' g n cap xs := by
  obtain ⟨h1, h2, h3, h4, h5, h6, h7⟩ := h
  refine ⟨h1, h2, h3, h4, Nat.lt_of_lt_of_le h5 hb.size, fun j hj => ?_, fun j hj => ⟨?_, ?_⟩⟩
  · rw [hb.cell (p := ⟨g, j, none⟩) h5]; exact h6 j hj
  · rw [hb.cell (p := ⟨g, j, none⟩) h5]; exact (h7 j hj).1
  · rw [hb.frozen (p := ⟨g, j, none⟩) h5]; exact (h7 j hj).2

/-- An append of one byte onto such a row: what the conversion back gives. -/
theorem app_conv {P : Program} {ops : Array Oper} {rest : List Oper} {o : Oper} {a : Act} {Q : Exit → Act → World → Prop} (wr : World) (x : UInt8) (xi : Int) (hx : xi = (x.toNat : Int)) (B : Nat) (hP : P = Try.prog) (hg : o.guard = none) (s y : Operand)
    (ho : o.op = .call { callee := .builtin .append, args := #[s, y], argTypes := #[22, 22] }) (g n cap : Nat) (xs : List UInt8) (hs : a.eval s = .slice (some ⟨g, 0, none⟩) n cap) (hown : CRow B wr g n cap xs)
    (hy : a.eval y = .slice (some ⟨wr.heap.size, 0, none⟩) 1 1) (hb : n + 1 ≤ 140737488355328) (hB : B ≤ wr.heap.size)
    (h : ∀ ao n' cap' w1, (convert 22 9 (.slice ao n' cap')).run Try.prog w1 = .ok (.string ⟨(xs ++ [x]).toArray⟩) w1 → (∀ w0, Below B w0 wr → Below B w0 w1) → wpList P ops Q rest (a.put o.dst (.slice ao n' cap')) w1) :
    wpList P ops Q (o :: rest) a (wr.alloc (.cells #[.int .u8 xi] 5)) := by
  subst hP
  subst hx
  obtain ⟨i0, hi, hz0, hz1, hz2⟩ := info_parts Try.infoByte
  have hB2 : Below wr.heap.size wr (wr.alloc (.cells #[.int .u8 (x.toNat : Int)] 5)) := (Below.refl _ _).alloc (Nat.le_refl _) _
  have hrow := hown.below hB2
  obtain ⟨h1, h2, h3, h4, h5, h6, h7⟩ := hrow
  refine wpList_append_arg _ hg s y 22 ho 5 i0 (.int .u8 0) 1 1 Try.underlying22 hi hz0 hz1 hz2 rfl (by decide) g 0 n cap (xs.map (fun c => Value.int .u8 (c.toNat : Int))) hs (by simpa using h1) (fun j u hj => ?_) ⟨wr.heap.size, 0, none⟩ 1 1 [.int .u8 (x.toNat : Int)] hy rfl (cell_one_new _ _ _) (by intro u hu; simp at hu; subst hu; rfl)
    (fun hr j hj => ?_) (by unfold maxLen; omega) (by omega) (fun hr => ?_) (fun hr v' w' hown' hgr => ?_)
  · have hjl : j < xs.length := by have := (List.getElem?_eq_some_iff.1 hj).1; simpa using this
    rw [Nat.zero_add, h6 j (by omega)]
    simp [List.getElem?_eq_getElem hjl] at hj
    subst hj
    simp [List.getElem?_eq_getElem hjl]
  · have hj0 : j = 0 := by simp at hj; exact hj
    subst hj0
    have := h7 n (by omega)
    simpa using this
  · have hc : CRow B ((wr.alloc (.cells #[.int .u8 (x.toNat : Int)] 5)).setCells g (0 + n * 1) [.int .u8 (x.toNat : Int)]) g (n + 1) cap (xs ++ [x]) := by
      refine ⟨by simp [h1], h2, hr, h4, by simpa [World.setCells] using h5, fun j hj => ?_, fun j hj => ⟨?_, ?_⟩⟩
      · by_cases hjn : j = n
        · subst hjn
          have := World.cell?_setCells_in g [.int .u8 (x.toNat : Int)] (0 + j * 1) (wr.alloc (.cells #[.int .u8 (x.toNat : Int)] 5)) (fun i hi => by
            have hi0 : i = 0 := by simp at hi; exact hi
            subst hi0
            have := (h7 j (by omega)).1
            simpa using this) 0 (by simp)
          simp only [Nat.zero_add, Nat.mul_one, Nat.add_zero, List.getElem_cons_zero] at this
          rw [Nat.zero_add, Nat.mul_one, this]
          simp [← h1]
        · rw [World.cell?_setCells_out g _ _ _ _ (fun _ _ => by simp; omega), h6 j (by omega), List.getElem?_append_left (by omega)]
      · by_cases hjn : j = n
        · subst hjn
          have := World.cell?_setCells_in g [.int .u8 (x.toNat : Int)] (0 + j * 1) (wr.alloc (.cells #[.int .u8 (x.toNat : Int)] 5)) (fun i hi => by
            have hi0 : i = 0 := by simp at hi; exact hi
            subst hi0
            have := (h7 j (by omega)).1
            simpa using this) 0 (by simp)
          simp only [Nat.zero_add, Nat.mul_one, Nat.add_zero, List.getElem_cons_zero] at this
          rw [Nat.zero_add, Nat.mul_one, this]; rfl
        · rw [World.cell?_setCells_out g _ _ _ _ (fun _ _ => by simp; omega)]; exact (h7 j hj).1
      · rw [World.frozen?_setCells]; exact (h7 j hj).2
    refine h _ _ _ _ hc.string (fun w0 h0 => ?_)
    have hb0 := h0.alloc hB (.cells #[.int .u8 (x.toNat : Int)] 5)
    simp only [World.setCells]
    exact hb0.setCell h2 _
  · have hbr : BRow wr.heap.size w' v' (xs ++ [x]) := by
      unfold BRow
      have hh := ownsRow_base hown' (base' := wr.heap.size) (by simp)
      simpa [h1] using hh
    have hcv := run_string_of_row hbr
    rcases hown'.2 with ⟨rfl, h0⟩ | ⟨g', cap', cur, rfl, _⟩
    · omega
    · refine h _ _ _ _ hcv (fun w0 h0 => ?_)
      exact (h0.alloc hB _).grown hgr (by simp; omega) (by intro k hk; cases hk)

theorem sum_bd {s r2 : ByteArray} {x : UInt8} {xs : List UInt8} (h : r2.data.toList = [x]) (h2 : xs.length = s.data.toList.length) (h3 : s.size ≤ 50000) : (r2.size : Int) + (xs.length : Int) ≤ 9223372036854775807 := by
  have := size_of h
  rw [data_len] at h2
  simp at this
  omega

def NxtRel (a : Int) (l : List UInt8) (B n cap : Nat) (wb : World) (i : Value) (wr : World) : Prop :=
  ∃ (k : Nat) (xs : List UInt8), k ≤ n ∧ i = .int .i64 ((n : Int) - 1 - (k : Int)) ∧ CRow B wr B n cap xs ∧ NState a l k xs ∧ Below B wb wr

theorem CRow.kept {B : Nat} {w w' wb : World} {g : Nat} (hg : w.grownBy w' (some g)) (hb : Below B wb w) (hB : B ≤ g) (hs : B ≤ w.heap.size) : Below B wb w' :=
  hb.grown hg hs (fun k hk => by injection hk with hk; omega)

set_option maxHeartbeats 1000000 in
theorem implNext_in (s : ByteArray) (a : Int) (hs : s.size ≤ 140737488355320) (w : World) (hv : within s.data.toList a = true) (hz : a ≠ 0) : Calls Try.prog 39 #[.string s, .int .i64 a] w (RetStr2 ((nextW a s.data.toList).getD []) (nextW a s.data.toList).isSome w) := by
  have hv2 := hv
  simp only [within, Bool.and_eq_true] at hv2
  obtain ⟨⟨ha, hlen⟩, hall⟩ := hv2
  obtain ⟨h0, h1⟩ := (isA_iff a).1 ha
  have hzb : (a == 0) = false := by simpa using hz
  have hne := lets_ne a ha hz
  have hnl := nextL_num a ha hne s.data.toList hall
  have hlen2 : s.size ≤ 50000 := by simpa [data_len] using hlen
  have hnw : nextW a s.data.toList = if (nextL a s.data.toList).length ≤ 50000 then some (nextL a s.data.toList) else none := by simp [nextW, hv, hz]
  have HNW := Lib.hid hnw; clear hnw
  have HNL := Lib.hid hnl
  clear hnl
  have hlx := lets_len a
  have HV := Lib.hid hv; clear hv
  have HA := Lib.hid ha; clear ha
  have HALL := Lib.hid hall; clear hall
  clear hlen hz
  go_enter Try.func39, Try.ntmps39
  go_wp2_with (go_at_call 31; (with_reducible refine (implWithin_any s a (by omega) _).mono ?_); rintro e w' ⟨rfl, rfl⟩; rw [HV.out])
  refine (lettersOf_any a h0 (by omega) w).mono ?_
  rintro e w2 ⟨ao, cap, rfl, hown, hbel⟩
  obtain ⟨g, rfl, -, hBg, hgs, hcap, hmax, hcells⟩ := hown.ne hne
  generalize hm : (lets a).length = m at *
  have HM := Lib.hid hm; clear hm
  have hc0 := hcells 0 (by omega)
  have hc1 := hcells (m - 1) (by omega)
  have hb0 := lets_getD a 0 (by rw [HM.out]; omega)
  have hb1 := lets_getD a (m - 1) (by rw [HM.out]; omega)
  obtain ⟨x0, hx0⟩ : ∃ x, (lets a)[0]?.getD 0 = x := ⟨_, rfl⟩
  obtain ⟨x1, hx1⟩ : ∃ x, (lets a)[m - 1]?.getD 0 = x := ⟨_, rfl⟩
  rw [hx0] at hc0 hb0
  rw [hx1] at hc1 hb1
  obtain ⟨hb00, hb01⟩ := hb0
  obtain ⟨hb10, hb11⟩ := hb1
  have hlb := lb_nat x0 hb00 hb01
  have hls : lst a = lb x0 := by unfold lst; rw [hx0]
  have HLS := Lib.hid hls; clear hls
  have HX0 := Lib.hid hx0; clear hx0
  have HX1 := Lib.hid hx1; clear hx1
  have HCELLS := Lib.hid hcells; clear hcells
  have HLB := Lib.hid hlb; clear hlb
  have hm1 : (m : Int) - 1 = ((m - 1 : Nat) : Int) := by omega
  have hmp : m - 1 < m := by omega
  have hmq : 0 < m := by omega
  unfold maxLen at hmax
  generalize hp : m - 1 = p at *
  have HP := Lib.hid hp; clear hp
  go_wp2_with fail
  go_quiet ((go_at_call 57; exact quiet_ret (letterByte_any _ (by omega) (by omega) _)))
  rename_i nq
  obtain ⟨cap2, wc, hcv, hcr, hbc⟩ := conv_bytes s (w2.drewN nq) (by unfold maxLen; omega)
  have hsz : (w2.drewN nq).heap.size = w2.heap.size := rfl
  rw [hsz] at hcv hcr hbc
  clear hsz hc0 hc1
  have hb2 : Below w.heap.size w (w2.drewN nq) := below_drewN hbel nq
  generalize hB : w2.heap.size = B at *
  have hwB : w.heap.size ≤ B := by rw [← hB]; exact hbel.size
  have hrow0 : IRow w.heap.size (w2.drewN nq) (.slice (some ⟨g, 0, none⟩) m cap) (lets a) := hown
  have hBq : (w2.drewN nq).heap.size = B := hB
  have HBQ := Lib.hid hBq
  clear hBq hB hown hbel
  generalize hwq : w2.drewN nq = wq at *
  clear hwq
  go_wp2
  clear hcv
  go_loopw [10] (fun i wr => NxtRel a s.data.toList B s.size cap2 wq i wr) (fun i _ => (intOf i + 1).toNat)
  case atStart => exact ⟨0, _, by omega, by simp, hcr, N_start a _, hbc⟩
  case round =>
    obtain ⟨k, xs, hk, rfl, hrow, hst, hb3⟩ := hrel
    have hlen := N_len hst (by rw [data_len]; exact hk)
    have HST := Lib.hid hst
    clear hst
    have hws : B ≤ wr.heap.size := by have := hb3.size; rw [HBQ.out] at this; exact this
    by_cases hkn : k < s.size
    · obtain ⟨i, hi⟩ : ∃ i : Nat, i + k + 1 = s.size := ⟨s.size - 1 - k, by omega⟩
      have hii : (s.size : Int) - 1 - (k : Int) = (i : Int) := by omega
      have hin : i < s.size := by omega
      have hat := N_at HST.out (by rw [data_len]; exact hi)
      obtain ⟨c, hc⟩ : ∃ c, s[i] = c := ⟨_, rfl⟩
      have hli : s.data.toList[i]?.getD 0 = c := by
        rw [List.getElem?_eq_getElem (by rw [data_len]; exact hin), ← hc]; rfl
      rw [hli] at hat
      have hok : okL a c = true := by rw [← hc]; exact all_at s (okL a) i hin HALL.out
      have hc0 := okL_nonneg hok
      have hc1 := ltr_lt c
      obtain ⟨hcl, hBB, hncap, hcm, hgl, hcells2, hrest⟩ := hrow
      have hcell := hcells2 i hin
      have hfz := (hrest i (by omega)).2
      rw [hat] at hcell
      have hcb : (c.toNat : Int) = 97 + ltr c := by have := ltr_of_ok hc0; omega
      rw [hcb] at hcell
      have hrow : CRow B wr B s.size cap2 xs := ⟨hcl, hBB, hncap, hcm, hgl, hcells2, hrest⟩
      have hgr := isGr_iff a HA.out c hok
      rw [HM.out] at hgr
      rw [HP.out, HX1.out] at hgr
      have HROW := Lib.hid hrow
      have HGR := Lib.hid hgr
      clear hcells2 hrest hrow hgr hat hcb hcl
      have HLI := Lib.hid hli
      clear hli
      rw [hii]
      have HII := Lib.hid hii
      have HI := Lib.hid hi
      clear hii hi
      have HC := Lib.hid hc; clear hc
      have HLEN := Lib.hid hlen; clear hlen
      by_cases he : ltr c = x1
      · have heb : ((97 + ltr c) != (97 + x1)) = false := by rw [he]; simp
        have hg := HGR.out.2 he
        have hst2 := HROW.out.stored i hin (lb x0) (97 + x0) HLB.out.symm
        have HE := Lib.hid he
        have HST2 := Lib.hid hst2
        clear he hst2
        have HG := Lib.hid hg; clear hg
        go_wp2
        go_roundw
        case rel =>
          refine ⟨k + 1, xs.set i (lb x0), by omega, by have := HII.out; go_num, HST2.out.1, ?_, CRow.kept HST2.out.2 hb3 (Nat.le_refl _) hws⟩
          rw [← HLS.out]
          exact N_go HST.out (by rw [data_len]; exact HI.out) (by rw [HLI.out]; exact HG.out)
        case measure => simp [intOf] <;> omega
      · have heb : ((97 + ltr c) != (97 + x1)) = true := by simp; omega
        have hg : ¬ isGr a c := fun h => he (HGR.out.1 h)
        have hpk := place_ok a HA.out c hok
        have hip := (idx_place a (ltr c) HA.out hc0 hc1 hok).1
        have hpl := hpk.1
        have hg2 : placeN a (ltr c) + 1 ≠ m := by rw [← HM.out]; exact hg
        rw [HM.out] at hpl
        have hrow2 := hrow0.below (w' := wr) (by rw [HBQ.out]; exact hb3)
        obtain ⟨g', hgg, -, -, -, -, -, hcells3⟩ := hrow2.ne (by rw [HM.out]; exact hne)
        obtain rfl : g = g' := by simpa using hgg
        have hc2 := hcells3 (placeN a (ltr c) + 1) (by rw [HM.out]; omega)
        have hb2' := lets_getD a (placeN a (ltr c) + 1) (by rw [HM.out]; omega)
        generalize hq : placeN a (ltr c) = q at *
        have hsuc : suc a c = lb ((lets a)[q + 1]?.getD 0) := by unfold suc; rw [hq]
        obtain ⟨y, hy⟩ : ∃ y, (lets a)[q + 1]?.getD 0 = y := ⟨_, rfl⟩
        rw [hy] at hc2 hb2' hsuc
        obtain ⟨hy0, hy1⟩ := hb2'
        have hqm : q + 1 < m := by omega
        have hst2 := HROW.out.stored i hin (lb y) (97 + y) (lb_nat y hy0 hy1).symm
        have hnx := N_stop HST.out (by rw [data_len]; exact HI.out) (by rw [HLI.out]; exact hg)
        rw [HLI.out, hsuc] at hnx
        have hcv2 := hst2.1.string
        have HST2 := Lib.hid hst2
        have HNX := Lib.hid hnx
        have HIP := Lib.hid hip
        clear he hst2 hnx hip hgg hcells3 hpk hy hg hg2 hsuc hq hpl
        go_wp2_with (first | (go_at_call 61; (with_reducible refine (letterAt_c s i c hin HC (by omega) _).mono ?_); rintro e w' ⟨rfl, rfl⟩) | (go_at_call 69; (with_reducible refine (index_any w.heap.size _ m cap (lets a) (ltr c) _ hrow2 (by rw [HM.out]; omega)).mono ?_); rintro e w' ⟨rfl, rfl⟩; rw [HIP.out]) | (go_at_call 57; (with_reducible refine (letterByte_any y hy0 hy1 _).mono ?_); rintro e w' ⟨rfl, rfl⟩))
        go_ret2
        rw [HNW.out, if_pos (by rw [HNX.out, List.length_set, HLEN.out, data_len]; omega)]
        exact ⟨_, rfl, HNX.out.symm, hb2.trans ((CRow.kept HST2.out.2 hb3 (Nat.le_refl _) hws).mono hwB)⟩
    · obtain rfl : k = s.size := by omega
      have hst := HST.out
      rw [← data_len] at hst
      have hnx := N_end hst
      have hnl : (nextL a s.data.toList).length = s.size + 1 := by rw [hnx, List.length_append, hlen, data_len]; rfl
      have HNX := Lib.hid hnx
      have HNL2 := Lib.hid hnl
      clear hst hnx hnl
      have HLEN := Lib.hid hlen; clear hlen
      by_cases h5 : s.size = 50000
      · have h5b : ((s.size : Int) == 50000) = true := by simp; omega
        have H5 := Lib.hid h5
        clear h5
        go_wp2
        go_ret2
        rw [HNW.out, if_neg (by rw [HNL2.out, H5.out]; omega)]
        exact ⟨_, rfl, rfl, hb2.trans (hb3.mono hwB)⟩
      · have h5b : ((s.size : Int) == 50000) = false := by simp; omega
        have H5 := Lib.hid h5
        clear h5
        go_wp2_with (at_builtin; refine app_conv wr (lb x0) _ HLB.out.symm B rfl rfl _ _ rfl B s.size cap2 xs rfl hrow rfl ?_ hws ?_)
        · omega
        intro ao' n' cap' w4 hcv4 hk4
        have hb4 := hk4 wq hb3
        clear hk4
        go_wp2
        go_ret2
        rw [HNW.out, if_pos (by rw [HNL2.out]; have := H5.out; omega)]
        exact ⟨_, rfl, by rw [HNX.out, HLS.out]; rfl, hb2.trans (hb4.mono hwB)⟩

set_option maxHeartbeats 1000000 in
theorem specNext_in (s : ByteArray) (a : Int) (hs : s.size ≤ 140737488355320) (w : World) (hv : within s.data.toList a = true) (hz : a ≠ 0) : Calls Try.prog 50 #[.string s, .int .i64 a] w (RetStr2 ((nextW a s.data.toList).getD []) (nextW a s.data.toList).isSome w) := by
  have hv2 := hv
  simp only [within, Bool.and_eq_true] at hv2
  obtain ⟨⟨ha, hlen⟩, hall⟩ := hv2
  obtain ⟨h0, h1⟩ := (isA_iff a).1 ha
  have hzb : (a == 0) = false := by simpa using hz
  have hne := lets_ne a ha hz
  have hlen2 : s.size ≤ 50000 := by simpa [data_len] using hlen
  have hnw : nextW a s.data.toList = if (nextL a s.data.toList).length ≤ 50000 then some (nextL a s.data.toList) else none := by simp [nextW, hv, hz]
  have HNW := Lib.hid hnw; clear hnw
  have hlx := lets_len a
  have HV := Lib.hid hv; clear hv
  have HA := Lib.hid ha; clear ha
  have HALL := Lib.hid hall; clear hall
  clear hlen hz
  go_enter Try.func50, Try.ntmps50
  go_wp2_with (go_at_call 76; (with_reducible refine (specWithin_any s a (by omega) _).mono ?_); rintro e w' ⟨rfl, rfl⟩; rw [HV.out])
  refine (l1Letters_any a h0 (by omega) w).mono ?_
  rintro e w2 ⟨ao, cap, rfl, hown, hbel⟩
  obtain ⟨g, rfl, -, hBg, hgs, hcap, hmax, hcells⟩ := hown.ne hne
  generalize hm : (lets a).length = m at *
  have HM := Lib.hid hm; clear hm
  have hb0 := lets_getD a 0 (by rw [HM.out]; omega)
  have hb1 := lets_getD a (m - 1) (by rw [HM.out]; omega)
  obtain ⟨x0, hx0⟩ : ∃ x, (lets a)[0]?.getD 0 = x := ⟨_, rfl⟩
  obtain ⟨x1, hx1⟩ : ∃ x, (lets a)[m - 1]?.getD 0 = x := ⟨_, rfl⟩
  rw [hx0] at hb0
  rw [hx1] at hb1
  obtain ⟨hb00, hb01⟩ := hb0
  obtain ⟨hb10, hb11⟩ := hb1
  have hlb := lb_nat x0 hb00 hb01
  have hls : lst a = lb x0 := by unfold lst; rw [hx0]
  have HLS := Lib.hid hls; clear hls
  have HX0 := Lib.hid hx0; clear hx0
  have HX1 := Lib.hid hx1; clear hx1
  have HLB := Lib.hid hlb; clear hlb
  have hm1 : (m : Int) - 1 = ((m - 1 : Nat) : Int) := by omega
  have hmp : m - 1 < m := by omega
  have hmq : 0 < m := by omega
  unfold maxLen at hmax
  generalize hp : m - 1 = p at *
  have HP := Lib.hid hp; clear hp
  clear hcells
  obtain ⟨cap2, wc, hcv, hcr, hbc⟩ := conv_bytes s w2 (by unfold maxLen; omega)
  generalize hB : w2.heap.size = B at *
  have hwB : w.heap.size ≤ B := by rw [← hB]; exact hbel.size
  have HBQ := Lib.hid hB
  clear hB
  go_wp2
  clear hcv
  go_loopw [8] (fun i wr => NxtRel a s.data.toList B s.size cap2 w2 i wr) (fun i _ => (intOf i + 1).toNat)
  case atStart => exact ⟨0, _, by omega, by simp, hcr, N_start a _, hbc⟩
  case round =>
    obtain ⟨k, xs, hk, rfl, hrow, hst, hb3⟩ := hrel
    have hlen := N_len hst (by rw [data_len]; exact hk)
    have HST := Lib.hid hst
    clear hst
    have hws : B ≤ wr.heap.size := by have := hb3.size; rw [HBQ.out] at this; exact this
    have hrow2 := hown.below (w' := wr) (by rw [HBQ.out]; exact hb3)
    obtain ⟨g', hgg, -, -, -, -, -, hcells3⟩ := hrow2.ne (by rw [HM.out]; exact hne)
    obtain rfl : g = g' := by simpa using hgg
    clear hgg
    rw [HM.out] at hcells3
    have hc1g := hcells3 p (by omega)
    rw [HX1.out] at hc1g
    have hc0g := hcells3 0 (by omega)
    rw [HX0.out] at hc0g
    have HC3 := Lib.hid hcells3
    clear hcells3
    by_cases hkn : k < s.size
    · obtain ⟨i, hi⟩ : ∃ i : Nat, i + k + 1 = s.size := ⟨s.size - 1 - k, by omega⟩
      have hii : (s.size : Int) - 1 - (k : Int) = (i : Int) := by omega
      have hin : i < s.size := by omega
      have hat := N_at HST.out (by rw [data_len]; exact hi)
      obtain ⟨c, hc⟩ : ∃ c, s[i] = c := ⟨_, rfl⟩
      have hli : s.data.toList[i]?.getD 0 = c := by
        rw [List.getElem?_eq_getElem (by rw [data_len]; exact hin), ← hc]; rfl
      rw [hli] at hat
      have hok : okL a c = true := by rw [← hc]; exact all_at s (okL a) i hin HALL.out
      have hc0 := okL_nonneg hok
      have hc1 := ltr_lt c
      obtain ⟨hcl, hBB, hncap, hcm, hgl, hcells2, hrest⟩ := hrow
      have hcell := hcells2 i hin
      have hfz := (hrest i (by omega)).2
      rw [hat] at hcell
      have hcb : (c.toNat : Int) = 97 + ltr c := by have := ltr_of_ok hc0; omega
      rw [hcb] at hcell
      have hrow : CRow B wr B s.size cap2 xs := ⟨hcl, hBB, hncap, hcm, hgl, hcells2, hrest⟩
      have hgr := isGr_iff a HA.out c hok
      rw [HM.out] at hgr
      rw [HP.out, HX1.out] at hgr
      have HROW := Lib.hid hrow
      have HGR := Lib.hid hgr
      clear hcells2 hrest hrow hgr hat hcb hcl
      have HLI := Lib.hid hli
      clear hli
      rw [hii]
      have HII := Lib.hid hii
      have HI := Lib.hid hi
      clear hii hi
      have HC := Lib.hid hc; clear hc
      have HLEN := Lib.hid hlen; clear hlen
      have hpk := place_ok a HA.out c hok
      generalize hy0 : ltr c = y at *
      have HY0 := Lib.hid hy0; clear hy0
      have h97 : 97 + y - 97 = y := by omega
      by_cases he : y = x1
      · subst he
        have hg := HGR.out.2 rfl
        have HG := Lib.hid hg; clear hg
        clear hpk
        go_wp2_with fail
        go_quiet (fail)
        rename_i nq
        have hcellq : (wr.drewN nq).cell? ⟨B, i, none⟩ = some (.int .u8 (97 + y)) := hcell
        have hfzq : (wr.drewN nq).frozen? ⟨B, i, none⟩ = false := hfz
        have hc0q : (wr.drewN nq).cell? ⟨g, 0, none⟩ = some (.int .i64 x0) := hc0g
        have hrowq : CRow B (wr.drewN nq) B s.size cap2 xs := HROW.out
        have hbq : Below B w2 (wr.drewN nq) := below_drewN hb3 nq
        have hrow2q : IRow w.heap.size (wr.drewN nq) (.slice (some ⟨g, 0, none⟩) m cap) (lets a) := hrow2
        have hwsq : B ≤ (wr.drewN nq).heap.size := hws
        clear hcell hfz hc0g hc1g HROW hb3 hrow2 hws
        generalize wr.drewN nq = wq at *
        have HROW := Lib.hid hrowq
        clear hrowq
        have hst2 := HROW.out.stored i hin (lb x0) (97 + x0) HLB.out.symm
        have HST2 := Lib.hid hst2
        clear hst2
        go_wp2
        go_roundw
        case rel =>
          refine ⟨k + 1, xs.set i (lb x0), by omega, by have := HII.out; go_num, HST2.out.1, ?_, CRow.kept HST2.out.2 hbq (Nat.le_refl _) hwsq⟩
          rw [← HLS.out]
          exact N_go HST.out (by rw [data_len]; exact HI.out) (by rw [HLI.out]; exact HG.out)
        case measure => simp [intOf] <;> omega
      · have heb : (y == x1) = false := by simpa using he
        have hg : ¬ isGr a c := fun h => he (HGR.out.1 h)
        have hpl := hpk.1
        have hg2 : placeN a y + 1 ≠ m := by
          rw [← HM.out]; have h := hg; unfold isGr at h; rw [HY0.out] at h; exact h
        rw [HM.out] at hpl
        have hb2' := lets_getD a (placeN a y + 1) (by rw [HM.out]; omega)
        have hsuc : suc a c = lb ((lets a)[placeN a y + 1]?.getD 0) := by unfold suc; rw [HY0.out]
        have hnx := N_stop HST.out (by rw [data_len]; exact HI.out) (by rw [HLI.out]; exact hg)
        rw [HLI.out, hsuc] at hnx
        clear hsuc hpk he hg
        go_wp2_with fail
        go_quiet (fail)
        rename_i nq
        have hcellq : (wr.drewN nq).cell? ⟨B, i, none⟩ = some (.int .u8 (97 + y)) := hcell
        have hfzq : (wr.drewN nq).frozen? ⟨B, i, none⟩ = false := hfz
        have hc0q : (wr.drewN nq).cell? ⟨g, 0, none⟩ = some (.int .i64 x0) := hc0g
        have hrowq : CRow B (wr.drewN nq) B s.size cap2 xs := HROW.out
        have hbq : Below B w2 (wr.drewN nq) := below_drewN hb3 nq
        have hrow2q : IRow w.heap.size (wr.drewN nq) (.slice (some ⟨g, 0, none⟩) m cap) (lets a) := hrow2
        have hwsq : B ≤ (wr.drewN nq).heap.size := hws
        clear hcell hfz hc0g hc1g HROW hb3 hrow2 hws
        generalize wr.drewN nq = wq at *
        have HROW := Lib.hid hrowq
        clear hrowq
        obtain ⟨g', hgg, -, -, -, -, -, hcells3⟩ := hrow2q.ne (by rw [HM.out]; exact hne)
        obtain rfl : g = g' := by simpa using hgg
        have hc2 := hcells3 (placeN a y + 1) (by rw [HM.out]; omega)
        generalize hq : placeN a y = q at *
        have HQ := Lib.hid hq; clear hq
        obtain ⟨z, hz⟩ : ∃ z, (lets a)[q + 1]?.getD 0 = z := ⟨_, rfl⟩
        rw [hz] at hc2 hb2' hnx
        obtain ⟨hz0, hz1⟩ := hb2'
        have hqm : q + 1 < m := by omega
        have hst2 := HROW.out.stored i hin (lb z) (97 + z) (lb_nat z hz0 hz1).symm
        have hcv2 := hst2.1.string
        have HST2 := Lib.hid hst2
        have HNX := Lib.hid hnx
        clear hst2 hnx hgg hcells3 hz hg2 hpl
        go_wp2_with (go_at_call 77; (with_reducible refine (l1Place_any a y h0 (by omega) hc0 hc1 _).mono ?_); rintro e w' ⟨rfl, rfl⟩; rw [HQ.out])
        go_ret2
        rw [HNW.out, if_pos (by rw [HNX.out, List.length_set, HLEN.out, data_len]; omega)]
        exact ⟨_, rfl, HNX.out.symm, hbel.trans ((CRow.kept HST2.out.2 hbq (Nat.le_refl _) hwsq).mono hwB)⟩
    · obtain rfl : k = s.size := by omega
      have hst := HST.out
      rw [← data_len] at hst
      have HNN := Lib.hid hst
      have hnx := N_end hst
      have hnl : (nextL a s.data.toList).length = s.size + 1 := by rw [hnx, List.length_append, hlen, data_len]; rfl
      have HNX := Lib.hid hnx
      have HNL2 := Lib.hid hnl
      clear hst hnx hnl
      have HLEN := Lib.hid hlen; clear hlen
      have hii : (s.size : Int) - 1 - (s.size : Int) = -1 := by omega
      rw [hii]
      clear hii
      have HROW := Lib.hid hrow
      clear hrow
      go_wp2_with fail
      go_quiet (fail)
      rename_i nq
      have hc0q : (wr.drewN nq).cell? ⟨g, 0, none⟩ = some (.int .i64 x0) := hc0g
      have hrowq : CRow B (wr.drewN nq) B s.size cap2 xs := HROW.out
      have hbq : Below B w2 (wr.drewN nq) := below_drewN hb3 nq
      clear hc0g hc1g HROW hb3 hrow2 hws
      generalize wr.drewN nq = wq at *
      have HROW := Lib.hid hrowq
      clear hrowq
      by_cases h5 : s.size = 50000
      · have h5b : ((s.size : Int) == 50000) = true := by simp; omega
        have H5 := Lib.hid h5
        clear h5
        go_wp2
        go_ret2
        rw [HNW.out, if_neg (by rw [HNL2.out, H5.out]; omega)]
        exact ⟨_, rfl, rfl, hbel.trans (hbq.mono hwB)⟩
      · have h5b : ((s.size : Int) == 50000) = false := by simp; omega
        have H5 := Lib.hid h5
        clear h5
        go_wp2_with fail
        have hcvq : (convert 22 9 (.slice (some ⟨B, 0, none⟩) s.size cap2)).run Try.prog wq.drew = .ok (.string ⟨xs.toArray⟩) wq.drew := CRow.string (w := wq.drew) HROW.out
        go_region_with ((go_at_call 60; refine (l1Text_any x0 hb00 hb01 _).mono ?_; rintro e w5 ⟨r2, rfl, hr2, hb5⟩; have hcv5 := (HROW.out.below (w' := w5) (((Below.refl _ _).drew).trans hb5)).string; have hsum := sum_bd hr2 HLEN.out hlen2; have HR2 := Lib.hid hr2; have HB5 := Lib.hid hb5; clear hr2 hb5))
        all_goals
          go_wp2
          go_ret2
          rw [HNW.out, if_pos (by rw [HNL2.out]; have := H5.out; omega)]
          have hbw := hbel.trans (hbq.mono hwB)
          refine ⟨_, rfl, ?_, hbw.drew.trans (HB5.out.mono hbw.size)⟩
          rw [data_append, HR2.out, HNX.out, ← N_rot HNN.out, HLS.out]
          rfl

theorem nextW_no (a : Int) (l : List UInt8) (h : ¬ (within l a = true ∧ a ≠ 0)) : nextW a l = none := by
  unfold nextW; rw [if_neg (fun hh => h ⟨hh.1, hh.2.1⟩)]

set_option maxHeartbeats 400000 in
theorem implNext_any (s : ByteArray) (a : Int) (hs : s.size ≤ 140737488355320) (w : World) : Calls Try.prog 39 #[.string s, .int .i64 a] w (RetStr2 ((nextW a s.data.toList).getD []) (nextW a s.data.toList).isSome w) := by
  cases hv : within s.data.toList a with
  | false =>
    have hr := nextW_no a s.data.toList (by rw [hv]; simp)
    have HR := Lib.hid hr; clear hr
    have HV := Lib.hid hv; clear hv
    go_enter Try.func39, Try.ntmps39
    go_wp2_with (go_at_call 31; (with_reducible refine (implWithin_any s a (by omega) _).mono ?_); rintro e w' ⟨rfl, rfl⟩; rw [HV.out])
    go_ret2
    rw [HR.out]
    exact ⟨_, rfl, rfl, Below.refl _ _⟩
  | true =>
    by_cases hz : a = 0
    · subst hz
      have hr := nextW_no 0 s.data.toList (by simp)
      have HR := Lib.hid hr; clear hr
      have HV := Lib.hid hv; clear hv
      go_enter Try.func39, Try.ntmps39
      go_wp2_with (go_at_call 31; (with_reducible refine (implWithin_any s 0 (by omega) _).mono ?_); rintro e w' ⟨rfl, rfl⟩; rw [HV.out])
      go_ret2
      rw [HR.out]
      exact ⟨_, rfl, rfl, Below.refl _ _⟩
    · exact implNext_in s a hs w hv hz
set_option maxHeartbeats 400000 in
theorem specNext_any (s : ByteArray) (a : Int) (hs : s.size ≤ 140737488355320) (w : World) : Calls Try.prog 50 #[.string s, .int .i64 a] w (RetStr2 ((nextW a s.data.toList).getD []) (nextW a s.data.toList).isSome w) := by
  cases hv : within s.data.toList a with
  | false =>
    have hr := nextW_no a s.data.toList (by rw [hv]; simp)
    have HR := Lib.hid hr; clear hr
    have HV := Lib.hid hv; clear hv
    go_enter Try.func50, Try.ntmps50
    go_wp2_with (go_at_call 76; (with_reducible refine (specWithin_any s a (by omega) _).mono ?_); rintro e w' ⟨rfl, rfl⟩; rw [HV.out])
    go_ret2
    rw [HR.out]
    exact ⟨_, rfl, rfl, Below.refl _ _⟩
  | true =>
    by_cases hz : a = 0
    · subst hz
      have hr := nextW_no 0 s.data.toList (by simp)
      have HR := Lib.hid hr; clear hr
      have HV := Lib.hid hv; clear hv
      go_enter Try.func50, Try.ntmps50
      go_wp2_with (go_at_call 76; (with_reducible refine (specWithin_any s 0 (by omega) _).mono ?_); rintro e w' ⟨rfl, rfl⟩; rw [HV.out])
      go_ret2
      rw [HR.out]
      exact ⟨_, rfl, rfl, Below.refl _ _⟩
    · exact specNext_in s a hs w hv hz


end Go.Proofs.Ytkgbdglfpnmlgaa
