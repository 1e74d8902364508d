/- Four of a row's closed facts, once for the whole program: the words of its head are read off a list of signs, not off the string. -/
import Derived.Test.YtomllliencgijaaRows
import Derived.JoinedOf
import Derived.KernelRfl
namespace Go.Proofs.Ytomllliencgijaa
set_option maxRecDepth 100000

theorem toList_by (s : String) (l : List Char) (h : s = String.ofList l) : s.toList = l := by rw [h, String.toList_ofList]
theorem head_signs : Try.prog.initOrder.toList = ['h', 'a', 'r', 'n', 'e', 's', 's', ' ', '8', 'a', 'f', '2', '0', 'e', 'f', '0', '7', 'd', 'e', 'e', '3', '3', 'f', '2', 'a', '7', '9', 'a', '1', '8', '1', '2', 'e', 'c', '5', '0', '3', '5', '6', '7', '6', 'f', 'd', '4', '8', '2', 'a', '1', '8', '5', 'a', 'f', 'c', '3', '4', '0', '9', '3', '4', '5', '3', '5', '5', 'c', '9', '4', '2', '7', 'f', '2', 'f', 'c', ' ', 'c', 'u', 't', ' ', 'a', 't', ' ', 'l', 'o', 'o', 'p', '.', 'e', 'x', 'a', 'm', 'p', 'l', 'e', '/', 'a', 's', 's', 'u', 'm', 'e', 'g', 'u', 'a', 'r', 'a', 'n', 't', 'e', 'e', '/', 'l', 'a', 'w', 's', '.', 'F', 'n', 'E', 'x', 'a', 'c', 't', 'S', 'y', 's', 't', 'e', 'm', 'V', 'a', 'l', 'i', 'd'] := toList_by _ _ (by kernel_rfl)
theorem head_words : behindMainWord (wordsSigns Try.prog.initOrder.toList) = [['c', 'u', 't'], ['a', 't'], ['l', 'o', 'o', 'p', '.', 'e', 'x', 'a', 'm', 'p', 'l', 'e', '/', 'a', 's', 's', 'u', 'm', 'e', 'g', 'u', 'a', 'r', 'a', 'n', 't', 'e', 'e', '/', 'l', 'a', 'w', 's', '.', 'F', 'n', 'E', 'x', 'a', 'c', 't', 'S', 'y', 's', 't', 'e', 'm', 'V', 'a', 'l', 'i', 'd']] := by rw [head_signs]; kernel_rfl
theorem lifts_none : Try.prog.headLifts = [] := by unfold Program.headLifts; rw [head_words]; kernel_rfl
theorem make_of (P : Program) (c : List Char) (rest : List (List Char)) (h : behindMainWord (wordsSigns P.initOrder.toList) = c :: rest) (h2 : P.headLifts = []) :
    P.make = (if c == "gc".toList || c == "spec".toList then some .whole else if c == "cut".toList || (c == "finals".toList && rest.head? == some "cut".toList) then some .cut else if c == "carried".toList then some .carried else none) := by
  unfold Program.make; rw [h, h2]; rfl
theorem make_cut : Try.prog.make = some .cut := by rw [make_of _ _ _ head_words lifts_none]; kernel_rfl
theorem may_of (P : Program) (c : List Char) (rest : List (List Char)) (h : behindMainWord (wordsSigns P.initOrder.toList) = c :: rest) (h2 : (stripLifts liftWords (c :: rest)) = ([], c :: rest)) (h3 : (c == "cut".toList) = true) (h4 : P.laysLater = false) (h5 : P.bearsReflect = false) (h6 : P.doorFits [] = true) :
    P.mayEnter = true := by
  unfold Program.mayEnter; rw [h]; dsimp only; rw [h2, h4, h5, h6]
  have h3' : ((c :: rest).head? == some "cut".toList) = true := by simpa using h3
  dsimp only
  rw [h3']
  simp
theorem may_enter : Try.prog.mayEnter = true := may_of _ _ _ head_words (by kernel_rfl) (by kernel_rfl) (by kernel_rfl) (by kernel_rfl) (by kernel_rfl)
theorem lifts_no : Try.prog.liftsFinal = false := by unfold Program.liftsFinal; rw [head_words, lifts_none]; kernel_rfl

end Go.Proofs.Ytomllliencgijaa
