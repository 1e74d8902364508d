/- The bits of a number of sixteen, counted as the library's OnesCount64 counts them: its arithmetic held against the plain sum by the kernel, in chunks (printed by a program). -/
namespace Go.Proofs.YtknhgfmjchfnjaaDoor
/-- What OnesCount64 reckons. -/
def swar (x : Nat) : Nat :=
  let x1 := ((x / 2) &&& 6148914691236517205) + (x &&& 6148914691236517205)
  let x2 := ((x1 / 4) &&& 3689348814741910323) + (x1 &&& 3689348814741910323)
  let x3 := ((x2 / 16) + x2) &&& 1085102592571150095
  let x4 := x3 + (x3 / 256)
  let x5 := x4 + (x4 / 65536)
  let x6 := x5 + (x5 / 4294967296)
  x6 &&& 127
def bitSum : Nat → Nat → Nat
  | 0, _ => 0
  | n + 1, x => x % 2 + bitSum n (x / 2)
theorem swar_0 : ∀ h : Fin 16, ∀ l : Fin 256, swar (256 * (16 * 0 + h.val) + l.val) = bitSum 16 (256 * (16 * 0 + h.val) + l.val) := by decide +kernel
theorem swar_1 : ∀ h : Fin 16, ∀ l : Fin 256, swar (256 * (16 * 1 + h.val) + l.val) = bitSum 16 (256 * (16 * 1 + h.val) + l.val) := by decide +kernel
theorem swar_2 : ∀ h : Fin 16, ∀ l : Fin 256, swar (256 * (16 * 2 + h.val) + l.val) = bitSum 16 (256 * (16 * 2 + h.val) + l.val) := by decide +kernel
theorem swar_3 : ∀ h : Fin 16, ∀ l : Fin 256, swar (256 * (16 * 3 + h.val) + l.val) = bitSum 16 (256 * (16 * 3 + h.val) + l.val) := by decide +kernel
theorem swar_4 : ∀ h : Fin 16, ∀ l : Fin 256, swar (256 * (16 * 4 + h.val) + l.val) = bitSum 16 (256 * (16 * 4 + h.val) + l.val) := by decide +kernel
theorem swar_5 : ∀ h : Fin 16, ∀ l : Fin 256, swar (256 * (16 * 5 + h.val) + l.val) = bitSum 16 (256 * (16 * 5 + h.val) + l.val) := by decide +kernel
theorem swar_6 : ∀ h : Fin 16, ∀ l : Fin 256, swar (256 * (16 * 6 + h.val) + l.val) = bitSum 16 (256 * (16 * 6 + h.val) + l.val) := by decide +kernel
theorem swar_7 : ∀ h : Fin 16, ∀ l : Fin 256, swar (256 * (16 * 7 + h.val) + l.val) = bitSum 16 (256 * (16 * 7 + h.val) + l.val) := by decide +kernel
theorem swar_8 : ∀ h : Fin 16, ∀ l : Fin 256, swar (256 * (16 * 8 + h.val) + l.val) = bitSum 16 (256 * (16 * 8 + h.val) + l.val) := by decide +kernel
theorem swar_9 : ∀ h : Fin 16, ∀ l : Fin 256, swar (256 * (16 * 9 + h.val) + l.val) = bitSum 16 (256 * (16 * 9 + h.val) + l.val) := by decide +kernel
theorem swar_10 : ∀ h : Fin 16, ∀ l : Fin 256, swar (256 * (16 * 10 + h.val) + l.val) = bitSum 16 (256 * (16 * 10 + h.val) + l.val) := by decide +kernel
theorem swar_11 : ∀ h : Fin 16, ∀ l : Fin 256, swar (256 * (16 * 11 + h.val) + l.val) = bitSum 16 (256 * (16 * 11 + h.val) + l.val) := by decide +kernel
theorem swar_12 : ∀ h : Fin 16, ∀ l : Fin 256, swar (256 * (16 * 12 + h.val) + l.val) = bitSum 16 (256 * (16 * 12 + h.val) + l.val) := by decide +kernel
theorem swar_13 : ∀ h : Fin 16, ∀ l : Fin 256, swar (256 * (16 * 13 + h.val) + l.val) = bitSum 16 (256 * (16 * 13 + h.val) + l.val) := by decide +kernel
theorem swar_14 : ∀ h : Fin 16, ∀ l : Fin 256, swar (256 * (16 * 14 + h.val) + l.val) = bitSum 16 (256 * (16 * 14 + h.val) + l.val) := by decide +kernel
theorem swar_15 : ∀ h : Fin 16, ∀ l : Fin 256, swar (256 * (16 * 15 + h.val) + l.val) = bitSum 16 (256 * (16 * 15 + h.val) + l.val) := by decide +kernel
theorem swar_all (x : Nat) (hx : x < 65536) : swar x = bitSum 16 x := by
  have e : x = 256 * (16 * (x / 4096) + x / 256 % 16) + x % 256 := by omega
  have hh : x / 256 % 16 < 16 := Nat.mod_lt _ (by decide)
  have hl : x % 256 < 256 := Nat.mod_lt _ (by decide)
  have hk : x / 4096 < 16 := by omega
  rw [e]
  generalize x / 256 % 16 = h at hh
  generalize x % 256 = l at hl
  generalize x / 4096 = k at hk
  clear e hx x
  have hc : k = 0 ∨ k = 1 ∨ k = 2 ∨ k = 3 ∨ k = 4 ∨ k = 5 ∨ k = 6 ∨ k = 7 ∨ k = 8 ∨ k = 9 ∨ k = 10 ∨ k = 11 ∨ k = 12 ∨ k = 13 ∨ k = 14 ∨ k = 15 := by omega
  rcases hc with rfl | rfl | rfl | rfl | rfl | rfl | rfl | rfl | rfl | rfl | rfl | rfl | rfl | rfl | rfl | rfl
  · exact swar_0 ⟨h, hh⟩ ⟨l, hl⟩
  · exact swar_1 ⟨h, hh⟩ ⟨l, hl⟩
  · exact swar_2 ⟨h, hh⟩ ⟨l, hl⟩
  · exact swar_3 ⟨h, hh⟩ ⟨l, hl⟩
  · exact swar_4 ⟨h, hh⟩ ⟨l, hl⟩
  · exact swar_5 ⟨h, hh⟩ ⟨l, hl⟩
  · exact swar_6 ⟨h, hh⟩ ⟨l, hl⟩
  · exact swar_7 ⟨h, hh⟩ ⟨l, hl⟩
  · exact swar_8 ⟨h, hh⟩ ⟨l, hl⟩
  · exact swar_9 ⟨h, hh⟩ ⟨l, hl⟩
  · exact swar_10 ⟨h, hh⟩ ⟨l, hl⟩
  · exact swar_11 ⟨h, hh⟩ ⟨l, hl⟩
  · exact swar_12 ⟨h, hh⟩ ⟨l, hl⟩
  · exact swar_13 ⟨h, hh⟩ ⟨l, hl⟩
  · exact swar_14 ⟨h, hh⟩ ⟨l, hl⟩
  · exact swar_15 ⟨h, hh⟩ ⟨l, hl⟩
end Go.Proofs.YtknhgfmjchfnjaaDoor
