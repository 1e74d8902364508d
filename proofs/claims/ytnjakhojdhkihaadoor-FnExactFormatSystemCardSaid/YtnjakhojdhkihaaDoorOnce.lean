/- Four of a row's closed facts, once for the whole program: the words of its head are read off a list of signs, not off the string. -/
import Derived.Test.YtnjakhojdhkihaaDoorRows
import Derived.JoinedOf
import Derived.KernelRfl
namespace Go.Proofs.YtnjakhojdhkihaaDoor
set_option maxRecDepth 100000

theorem toList_by (s : String) (l : List Char) (h : s = String.ofList l) : s.toList = l := by rw [h, String.toList_ofList]
theorem head_signs : Tryd.prog.initOrder.toList = ['h', 'a', 'r', 'n', 'e', 's', 's', ' ', 'e', 'c', 'b', 'e', 'e', '7', '0', '7', '3', '9', '6', '6', 'a', '1', '1', 'b', '6', '6', '9', 'b', 'e', 'e', 'f', '4', '5', '6', 'c', 'd', '1', 'f', '9', 'c', 'a', '8', '9', 'c', '1', '0', 'd', 'd', '1', '6', '2', 'c', 'd', '6', 'd', '8', '4', 'd', '7', '7', 'f', '3', 'c', 'c', '3', '8', 'e', '0', '1', 'a', 'a', '5', ' ', 'c', 'u', 't', ' ', 'a', 't', ' ', 'l', 'o', 'o', 'p', '.', 'e', 'x', 'a', 'm', 'p', 'l', 'e', '/', 'a', 's', 's', 'u', 'm', 'e', 'g', 'u', 'a', 'r', 'a', 'n', 't', 'e', 'e', '/', 'l', 'a', 'w', 's', '.', 'F', 'n', 'E', 'x', 'a', 'c', 't', 'F', 'o', 'r', 'm', 'a', 't', 'S', 'y', 's', 't', 'e', 'm'] := toList_by _ _ (by kernel_rfl)
theorem head_words : behindMainWord (wordsSigns Tryd.prog.initOrder.toList) = [['c', 'u', 't'], ['a', 't'], ['l', 'o', 'o', 'p', '.', 'e', 'x', 'a', 'm', 'p', 'l', 'e', '/', 'a', 's', 's', 'u', 'm', 'e', 'g', 'u', 'a', 'r', 'a', 'n', 't', 'e', 'e', '/', 'l', 'a', 'w', 's', '.', 'F', 'n', 'E', 'x', 'a', 'c', 't', 'F', 'o', 'r', 'm', 'a', 't', 'S', 'y', 's', 't', 'e', 'm']] := by rw [head_signs]; kernel_rfl
theorem lifts_none : Tryd.prog.headLifts = [] := by unfold Program.headLifts; rw [head_words]; kernel_rfl
theorem make_of (P : Program) (c : List Char) (rest : List (List Char)) (h : behindMainWord (wordsSigns P.initOrder.toList) = c :: rest) (h2 : P.headLifts = []) :
    P.make = (if c == "gc".toList || c == "spec".toList then some .whole else if c == "cut".toList || (c == "finals".toList && rest.head? == some "cut".toList) then some .cut else if c == "carried".toList then some .carried else none) := by
  unfold Program.make; rw [h, h2]; rfl
theorem make_cut : Tryd.prog.make = some .cut := by rw [make_of _ _ _ head_words lifts_none]; kernel_rfl
theorem may_of (P : Program) (c : List Char) (rest : List (List Char)) (h : behindMainWord (wordsSigns P.initOrder.toList) = c :: rest) (h2 : (stripLifts liftWords (c :: rest)) = ([], c :: rest)) (h3 : (c == "cut".toList) = true) (h4 : P.laysLater = false) (h5 : P.bearsReflect = false) (h6 : P.doorFits [] = true) :
    P.mayEnter = true := by
  unfold Program.mayEnter; rw [h]; dsimp only; rw [h2, h4, h5, h6]
  have h3' : ((c :: rest).head? == some "cut".toList) = true := by simpa using h3
  dsimp only
  rw [h3']
  simp
theorem may_enter : Tryd.prog.mayEnter = true := may_of _ _ _ head_words (by kernel_rfl) (by kernel_rfl) (by kernel_rfl) (by kernel_rfl) (by kernel_rfl)
theorem lifts_no : Tryd.prog.liftsFinal = false := by unfold Program.liftsFinal; rw [head_words, lifts_none]; kernel_rfl

end Go.Proofs.YtnjakhojdhkihaaDoor
