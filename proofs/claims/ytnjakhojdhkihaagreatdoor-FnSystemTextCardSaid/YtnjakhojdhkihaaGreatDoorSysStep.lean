/- A step of a system over a letter, and a run over a word: the reference's. -/
import Derived.Test.YtnjakhojdhkihaaGreatDoorSysPlain
import Derived.Test.YtnjakhojdhkihaaGreatDoorWithin
import Derived.Test.YtnjakhojdhkihaaGreatDoorSysVS
import Derived.Test.YtnjakhojdhkihaaGreatDoorSysVI
namespace Go.Proofs.YtnjakhojdhkihaaGreatDoor
open Go.RowKit
set_option linter.unusedVariables false
set_option linter.unusedSimpArgs false
set_option maxRecDepth 100000

theorem or_n (a b : Nat) (h : a < 65536) (h1 : b < 65536) : bits .or .i64 (a : Int) (b : Int) = ((a ||| b : Nat) : Int) := by
  rw [or_i64 _ _ (by omega) (by omega) (by omega) (by omega), Int.toNat_natCast, Int.toNat_natCast]
theorem bit_lt (n : Int) (h0 : 0 ≤ n) (h1 : n < 16) : 2 ^ n.toNat < 65536 := by
  have := Nat.pow_lt_pow_of_lt (by decide : 1 < 2) (by omega : n.toNat < 16)
  omega
theorem stepN_take_lt {es : List Edg} (h : OkE es) (k s : Nat) (x : Int) : stepN (es.take k) s x < 65536 := stepN_lt (fun e he => h e (List.mem_of_mem_take he)) s x
theorem within_all' {l : List UInt8} {al : Int} (h : within l al = true) : l.all (okL al) = true := by
  unfold within at h
  simp only [Bool.and_eq_true] at h
  exact h.2
end Go.Proofs.YtnjakhojdhkihaaGreatDoor
