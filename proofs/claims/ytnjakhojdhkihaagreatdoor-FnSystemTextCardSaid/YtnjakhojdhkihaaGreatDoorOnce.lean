/- Four of a row's closed facts, once for the whole program: the words of its head are read off a list of signs, not off the string. -/
import Derived.Test.YtnjakhojdhkihaaGreatDoorRows
import Derived.JoinedOf
import Derived.KernelRfl
namespace Go.Proofs.YtnjakhojdhkihaaGreatDoor
set_option maxRecDepth 100000

theorem toList_by (s : String) (l : List Char) (h : s = String.ofList l) : s.toList = l := by rw [h, String.toList_ofList]
theorem head_signs : Tryz.prog.initOrder.toList = ['h', 'a', 'r', 'n', 'e', 's', 's', ' ', 'a', '6', '6', 'f', '1', '4', '1', '1', 'f', 'b', '1', '9', '6', '4', 'a', 'c', 'e', 'b', '3', 'e', '5', '8', '4', '6', '3', 'c', '6', '2', '1', '7', 'f', '6', 'f', 'd', '2', '5', 'f', '9', '1', '2', 'a', '4', 'a', 'f', 'c', '3', '9', '7', '0', '6', 'e', '9', '6', '0', '6', '5', 'e', 'e', '4', 'c', 'f', '8', '7', '3', ' ', 'c', 'u', 't', ' ', 'a', 't', ' ', 'l', 'o', 'o', 'p', '.', 'e', 'x', 'a', 'm', 'p', 'l', 'e', '/', 'a', 's', 's', 'u', 'm', 'e', 'g', 'u', 'a', 'r', 'a', 'n', 't', 'e', 'e', '/', 'l', 'a', 'w', 's', '.', 'F', 'n', 'E', 'x', 'a', 'c', 't', 'P', 'a', 'r', 's', 'e', 'S', 'y', 's', 't', 'e', 'm', ' ', 'l', 'o', 'o', 'p', '.', 'e', 'x', 'a', 'm', 'p', 'l', 'e', '/', 'a', 's', 's', 'u', 'm', 'e', 'g', 'u', 'a', 'r', 'a', 'n', 't', 'e', 'e', '/', 'l', 'a', 'w', 's', '.', 'F', 'n', 'S', 'y', 's', 't', 'e', 'm', 'T', 'e', 'x', 't'] := toList_by _ _ (by kernel_rfl)
theorem head_words : behindMainWord (wordsSigns Tryz.prog.initOrder.toList) = [['c', 'u', 't'], ['a', 't'], ['l', 'o', 'o', 'p', '.', 'e', 'x', 'a', 'm', 'p', 'l', 'e', '/', 'a', 's', 's', 'u', 'm', 'e', 'g', 'u', 'a', 'r', 'a', 'n', 't', 'e', 'e', '/', 'l', 'a', 'w', 's', '.', 'F', 'n', 'E', 'x', 'a', 'c', 't', 'P', 'a', 'r', 's', 'e', 'S', 'y', 's', 't', 'e', 'm'], ['l', 'o', 'o', 'p', '.', 'e', 'x', 'a', 'm', 'p', 'l', 'e', '/', 'a', 's', 's', 'u', 'm', 'e', 'g', 'u', 'a', 'r', 'a', 'n', 't', 'e', 'e', '/', 'l', 'a', 'w', 's', '.', 'F', 'n', 'S', 'y', 's', 't', 'e', 'm', 'T', 'e', 'x', 't']] := by rw [head_signs]; kernel_rfl
theorem lifts_none : Tryz.prog.headLifts = [] := by unfold Program.headLifts; rw [head_words]; kernel_rfl
theorem make_of (P : Program) (c : List Char) (rest : List (List Char)) (h : behindMainWord (wordsSigns P.initOrder.toList) = c :: rest) (h2 : P.headLifts = []) :
    P.make = (if c == "gc".toList || c == "spec".toList then some .whole else if c == "cut".toList || (c == "finals".toList && rest.head? == some "cut".toList) then some .cut else if c == "carried".toList then some .carried else none) := by
  unfold Program.make; rw [h, h2]; rfl
theorem make_cut : Tryz.prog.make = some .cut := by rw [make_of _ _ _ head_words lifts_none]; kernel_rfl
theorem may_of (P : Program) (c : List Char) (rest : List (List Char)) (h : behindMainWord (wordsSigns P.initOrder.toList) = c :: rest) (h2 : (stripLifts liftWords (c :: rest)) = ([], c :: rest)) (h3 : (c == "cut".toList) = true) (h4 : P.laysLater = false) (h5 : P.bearsReflect = false) (h6 : P.doorFits [] = true) :
    P.mayEnter = true := by
  unfold Program.mayEnter; rw [h]; dsimp only; rw [h2, h4, h5, h6]
  have h3' : ((c :: rest).head? == some "cut".toList) = true := by simpa using h3
  dsimp only
  rw [h3']
  simp
theorem may_enter : Tryz.prog.mayEnter = true := may_of _ _ _ head_words (by kernel_rfl) (by kernel_rfl) (by kernel_rfl) (by kernel_rfl) (by kernel_rfl)
theorem lifts_no : Tryz.prog.liftsFinal = false := by unfold Program.liftsFinal; rw [head_words, lifts_none]; kernel_rfl

end Go.Proofs.YtnjakhojdhkihaaGreatDoor
