/- agSystems on two copies of one system; agCount. -/
import Derived.Test.YtnjakhojdhkihaaGreatDoorSysPlain2

import Derived.Test.YtnjakhojdhkihaaGreatDoorSysStep
namespace Go.Proofs.YtnjakhojdhkihaaGreatDoor
open Go.RowKit
set_option linter.unusedVariables false
set_option linter.unusedSimpArgs false
set_option maxRecDepth 100000

theorem below_dN {B : Nat} {w w1 : World} (h : Below B w w1) (n : Nat) : Below B w (w1.drewN n) := ⟨h.os, h.tape, h.output, h.size, h.block⟩
set_option maxHeartbeats 4000000 in
theorem agSys_same (al st : Int) (a1 : Option Addr) (n1 c1 : Nat) (a2 : Option Addr) (n2 c2 : Nat) (es : List Edg) (w : World) (h : EV w (.slice a1 n1 c1) es) (h2 : EV w (.slice a2 n2 c2) es) :
    Calls Tryz.prog 15 #[.agg #[.int .i64 al, .int .i64 st, .slice a1 n1 c1], .agg #[.int .i64 al, .int .i64 st, .slice a2 n2 c2]] w (RB' (.bool true) w) := by
  obtain ⟨hn, hcap, hmax, hcell⟩ := h.at
  obtain ⟨hn2, hcap2, hmax2, hcell2⟩ := h2.at
  obtain rfl : n1 = n2 := by rw [hn, hn2]
  have hx0 := sys_cells w al st (.slice a1 n1 c1) 24
  have hb0 := below_new' w 24 #[.int .i64 al, .int .i64 st, .slice a1 n1 c1]
  obtain ⟨X, hX⟩ : ∃ X, w.heap.size = X := ⟨_, rfl⟩
  obtain ⟨wx, hwx⟩ : ∃ wx, (w.alloc (.cells #[.int .i64 al, .int .i64 st, .slice a1 n1 c1] 24)) = wx := ⟨_, rfl⟩
  have hsx : wx.heap.size = X + 1 := by rw [← hwx, ← hX]; simp
  rw [hX] at hx0
  rw [hwx] at hx0 hb0
  have hy0 := sys_cells wx al st (.slice a2 n1 c2) 24
  have hb1 := below_new' wx 24 #[.int .i64 al, .int .i64 st, .slice a2 n1 c2]
  obtain ⟨wy, hwy⟩ : ∃ wy, (wx.alloc (.cells #[.int .i64 al, .int .i64 st, .slice a2 n1 c2] 24)) = wy := ⟨_, rfl⟩
  rw [hsx] at hy0
  rw [hwy] at hy0 hb1
  have HB := Lib.hid (hb0.trans (hb1.mono hb0.size))
  have HX := Lib.hid (rowIs_below' hx0 hb1)
  have HY := Lib.hid hy0
  have c0 : wy.cell? ⟨X, 0, none⟩ = some (.int .i64 al) := HX.out.cell (by decide)
  have c1' : wy.cell? ⟨X, 1, none⟩ = some (.int .i64 st) := HX.out.cell (by decide)
  have c2' : wy.cell? ⟨X, 2, none⟩ = some (.slice a1 n1 c1) := HX.out.cell (by decide)
  have d0 : wy.cell? ⟨X + 1, 0, none⟩ = some (.int .i64 al) := HY.out.cell (by decide)
  have d1 : wy.cell? ⟨X + 1, 1, none⟩ = some (.int .i64 st) := HY.out.cell (by decide)
  have d2 : wy.cell? ⟨X + 1, 2, none⟩ = some (.slice a2 n1 c2) := HY.out.cell (by decide)
  have HC := Lib.hid hcell
  have HD := Lib.hid hcell2
  have hnn : ((n1 : Int) != (n1 : Int)) = false := by simp
  clear hcell hcell2 h h2 hn hn2 hx0 hb0 hy0 hb1
  go_enter Tryz.func15, Tryz.ntmps15
  go_wp2
  go_loopw [5] (fun i wr => ∃ k : Nat, k ≤ n1 ∧ i = .int .i64 k ∧ ∃ q, wr = wy.drewN q) (fun i _ => n1 - (intOf i).toNat)
  case atStart => exact ⟨0, Nat.zero_le _, rfl, 0, rfl⟩
  case round =>
    obtain ⟨k, hk, rfl, q, rfl⟩ := hrel
    by_cases hlt : k < n1
    · rcases HC.out with h0 | ⟨b, off, rfl, hb, hc⟩
      · omega
      · rcases HD.out with h0 | ⟨b2, off2, rfl, hb2, hc2⟩
        · omega
        · have hu := hc k hlt
          have hv := hc2 k hlt
          rw [← cell_below HB.out hb, ← cell_below HB.out hb, ← cell_below HB.out hb] at hu
          rw [← cell_below HB.out hb2, ← cell_below HB.out hb2, ← cell_below HB.out hb2] at hv
          obtain ⟨f, l, t, he⟩ : ∃ f l t, Edg.at es k = (f, l, t) := ⟨_, _, _, rfl⟩
          rw [he] at hu hv
          obtain ⟨e0, e1, e2⟩ := hu
          obtain ⟨g0, g1, g2⟩ := hv
          dsimp only at e0 e1 e2 g0 g1 g2
          have hki : (k : Int) < (n1 : Int) := by omega
          clear hc hc2 he
          go_wp2_with fail
          go_quiet (fail)
          rename_i nq
          go_wp2
          go_roundw
          case rel => exact ⟨k + 1, by omega, by go_num, _, rfl⟩
          case measure => simp [intOf] <;> omega
    · go_wp2
      go_ret
      exact ⟨rfl, below_dN HB.out _⟩
end Go.Proofs.YtnjakhojdhkihaaGreatDoor
