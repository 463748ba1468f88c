/- The words of the dump's head as lists of signs; the facts of the program that hang on them, each by itself. -/
import Derived.Test.YtkpjinkkjbljkaaRows
import Derived.JoinedCond
namespace Go.Proofs.Ytkpjinkkjbljkaa
open Go.ChangeShapes Go.WideShapes Go.ChangeAt

set_option maxRecDepth 100000 in
theorem headSigns : Try.prog.initOrder.toList = ([104, 97, 114, 110, 101, 115, 115, 32, 98, 53, 53, 56, 48, 52, 98, 99, 101, 51, 49, 56, 56, 97, 97, 52, 99, 50, 100, 54, 55, 98, 97, 54, 57, 48, 101, 99, 98, 52, 51, 52, 99, 102, 48, 100, 52, 48, 51, 97, 50, 49, 97, 48, 50, 51, 51, 55, 101, 102, 53, 98, 48, 101, 99, 49, 99, 54, 51, 50, 99, 56, 101, 56, 32, 99, 117, 116, 32, 97, 116, 32, 119, 105, 114, 101, 108, 101, 115, 115, 47, 119, 105, 114, 101, 108, 101, 115, 115, 108, 97, 119, 53, 48, 46, 84, 114, 97, 110, 115, 112, 111, 114, 116, 67, 104, 101, 99, 107, 115, 32, 119, 105, 114, 101, 108, 101, 115, 115, 47, 119, 105, 114, 101, 108, 101, 115, 115, 108, 97, 119, 53, 48, 46, 84, 114, 97, 110, 115, 112, 111, 114, 116, 69, 110, 99, 111, 100, 101, 115, 32, 119, 105, 114, 101, 108, 101, 115, 115, 47, 119, 105, 114, 101, 108, 101, 115, 115, 108, 97, 119, 53, 48, 46, 84, 114, 97, 110, 115, 112, 111, 114, 116, 68, 101, 99, 111, 100, 101, 115, 32, 119, 105, 114, 101, 108, 101, 115, 115, 47, 119, 105, 114, 101, 108, 101, 115, 115, 108, 97, 119, 53, 48, 46, 84, 114, 97, 110, 115, 112, 111, 114, 116, 66, 97, 99, 107, 32, 119, 105, 114, 101, 108, 101, 115, 115, 47, 119, 105, 114, 101, 108, 101, 115, 115, 108, 97, 119, 53, 48, 46, 84, 114, 97, 110, 115, 112, 111, 114, 116, 87, 104, 111, 108, 101, 32, 119, 105, 114, 101, 108, 101, 115, 115, 47, 119, 105, 114, 101, 108, 101, 115, 115, 108, 97, 119, 53, 48, 46, 84, 114, 97, 110, 115, 112, 111, 114, 116, 83, 116, 101, 112, 115, 32, 119, 105, 114, 101, 108, 101, 115, 115, 47, 119, 105, 114, 101, 108, 101, 115, 115, 108, 97, 119, 53, 48, 46, 84, 114, 97, 110, 115, 112, 111, 114, 116, 65, 99, 107, 110, 111, 119, 108, 101, 100, 103, 101, 115].map Char.ofNat) := by
  have h : Try.prog.initOrder = String.ofList ([104, 97, 114, 110, 101, 115, 115, 32, 98, 53, 53, 56, 48, 52, 98, 99, 101, 51, 49, 56, 56, 97, 97, 52, 99, 50, 100, 54, 55, 98, 97, 54, 57, 48, 101, 99, 98, 52, 51, 52, 99, 102, 48, 100, 52, 48, 51, 97, 50, 49, 97, 48, 50, 51, 51, 55, 101, 102, 53, 98, 48, 101, 99, 49, 99, 54, 51, 50, 99, 56, 101, 56, 32, 99, 117, 116, 32, 97, 116, 32, 119, 105, 114, 101, 108, 101, 115, 115, 47, 119, 105, 114, 101, 108, 101, 115, 115, 108, 97, 119, 53, 48, 46, 84, 114, 97, 110, 115, 112, 111, 114, 116, 67, 104, 101, 99, 107, 115, 32, 119, 105, 114, 101, 108, 101, 115, 115, 47, 119, 105, 114, 101, 108, 101, 115, 115, 108, 97, 119, 53, 48, 46, 84, 114, 97, 110, 115, 112, 111, 114, 116, 69, 110, 99, 111, 100, 101, 115, 32, 119, 105, 114, 101, 108, 101, 115, 115, 47, 119, 105, 114, 101, 108, 101, 115, 115, 108, 97, 119, 53, 48, 46, 84, 114, 97, 110, 115, 112, 111, 114, 116, 68, 101, 99, 111, 100, 101, 115, 32, 119, 105, 114, 101, 108, 101, 115, 115, 47, 119, 105, 114, 101, 108, 101, 115, 115, 108, 97, 119, 53, 48, 46, 84, 114, 97, 110, 115, 112, 111, 114, 116, 66, 97, 99, 107, 32, 119, 105, 114, 101, 108, 101, 115, 115, 47, 119, 105, 114, 101, 108, 101, 115, 115, 108, 97, 119, 53, 48, 46, 84, 114, 97, 110, 115, 112, 111, 114, 116, 87, 104, 111, 108, 101, 32, 119, 105, 114, 101, 108, 101, 115, 115, 47, 119, 105, 114, 101, 108, 101, 115, 115, 108, 97, 119, 53, 48, 46, 84, 114, 97, 110, 115, 112, 111, 114, 116, 83, 116, 101, 112, 115, 32, 119, 105, 114, 101, 108, 101, 115, 115, 47, 119, 105, 114, 101, 108, 101, 115, 115, 108, 97, 119, 53, 48, 46, 84, 114, 97, 110, 115, 112, 111, 114, 116, 65, 99, 107, 110, 111, 119, 108, 101, 100, 103, 101, 115].map Char.ofNat) := by kernel_rfl
  rw [h]
  exact String.toList_ofList

set_option maxRecDepth 100000 in
theorem headWords : behindMainWord (wordsSigns Try.prog.initOrder.toList) = [Char.ofNat 99, Char.ofNat 117, Char.ofNat 116] :: ([[97, 116], [119, 105, 114, 101, 108, 101, 115, 115, 47, 119, 105, 114, 101, 108, 101, 115, 115, 108, 97, 119, 53, 48, 46, 84, 114, 97, 110, 115, 112, 111, 114, 116, 67, 104, 101, 99, 107, 115], [119, 105, 114, 101, 108, 101, 115, 115, 47, 119, 105, 114, 101, 108, 101, 115, 115, 108, 97, 119, 53, 48, 46, 84, 114, 97, 110, 115, 112, 111, 114, 116, 69, 110, 99, 111, 100, 101, 115], [119, 105, 114, 101, 108, 101, 115, 115, 47, 119, 105, 114, 101, 108, 101, 115, 115, 108, 97, 119, 53, 48, 46, 84, 114, 97, 110, 115, 112, 111, 114, 116, 68, 101, 99, 111, 100, 101, 115], [119, 105, 114, 101, 108, 101, 115, 115, 47, 119, 105, 114, 101, 108, 101, 115, 115, 108, 97, 119, 53, 48, 46, 84, 114, 97, 110, 115, 112, 111, 114, 116, 66, 97, 99, 107], [119, 105, 114, 101, 108, 101, 115, 115, 47, 119, 105, 114, 101, 108, 101, 115, 115, 108, 97, 119, 53, 48, 46, 84, 114, 97, 110, 115, 112, 111, 114, 116, 87, 104, 111, 108, 101], [119, 105, 114, 101, 108, 101, 115, 115, 47, 119, 105, 114, 101, 108, 101, 115, 115, 108, 97, 119, 53, 48, 46, 84, 114, 97, 110, 115, 112, 111, 114, 116, 83, 116, 101, 112, 115], [119, 105, 114, 101, 108, 101, 115, 115, 47, 119, 105, 114, 101, 108, 101, 115, 115, 108, 97, 119, 53, 48, 46, 84, 114, 97, 110, 115, 112, 111, 114, 116, 65, 99, 107, 110, 111, 119, 108, 101, 100, 103, 101, 115]].map fun l => l.map Char.ofNat) := by
  rw [headSigns]
  kernel_rfl

theorem strip_cut (r : List (List Char)) : stripLifts liftWords ([Char.ofNat 99, Char.ofNat 117, Char.ofNat 116] :: r) = ([], [Char.ofNat 99, Char.ofNat 117, Char.ofNat 116] :: r) := by rfl
theorem head_cut {P : Program} {r : List (List Char)} (h : behindMainWord (wordsSigns P.initOrder.toList) = [Char.ofNat 99, Char.ofNat 117, Char.ofNat 116] :: r) : P.headLifts = [] := by
  unfold Program.headLifts
  rw [h, strip_cut]
  rfl
theorem make_cut {P : Program} {r : List (List Char)} (h : behindMainWord (wordsSigns P.initOrder.toList) = [Char.ofNat 99, Char.ofNat 117, Char.ofNat 116] :: r) : P.make = some .cut := by
  unfold Program.make
  rw [h]
  rfl
theorem lifts_cut {P : Program} {r : List (List Char)} (h : behindMainWord (wordsSigns P.initOrder.toList) = [Char.ofNat 99, Char.ofNat 117, Char.ofNat 116] :: r) : P.liftsFinal = false := by
  unfold Program.liftsFinal
  rw [head_cut h, h]
  rfl
theorem enter_cut {P : Program} {r : List (List Char)} (h : behindMainWord (wordsSigns P.initOrder.toList) = [Char.ofNat 99, Char.ofNat 117, Char.ofNat 116] :: r) (hl : P.laysLater = false) (hr : P.bearsReflect = false) (hd : P.doorFits [] = true) : P.mayEnter = true := by
  unfold Program.mayEnter
  rw [h]
  simp only [strip_cut, hl, hr, hd]
  rfl
theorem factMake : Program.make Try.prog = some .cut := make_cut headWords
theorem factLifts : Program.liftsFinal Try.prog = false := lifts_cut headWords
theorem factEnter : Program.mayEnter Try.prog = true := enter_cut headWords (by kernel_rfl) (by kernel_rfl) (by kernel_rfl)
theorem factLaid : laidOutB Try.prog = true := by kernel_rfl
theorem factRowed : mapsRowed Try.prog = true := by kernel_rfl
theorem factStops : (Program.stops Try.prog == []) = true := by kernel_rfl
theorem factStopKnobs : (Program.stopKnobs Try.prog == []) = true := by kernel_rfl
theorem factHeard : Program.stopsHeard Try.prog = true := by kernel_rfl
theorem factKeys : Program.plainKeys Try.prog = true := by kernel_rfl
theorem main_signs {P : Program} {l : List Char} {r : Option (Bool × List Char)} (h : P.initOrder.toList = l) (hr : (match wordsSigns l with
  | h :: s :: _ => if !isSumSigns s then none else if h == "harness".toList then some (true, s) else if h == "ownmain".toList then some (false, s) else none
  | _ => none) = r) : P.mainIs = r := by
  unfold Program.mainIs
  rw [h]
  exact hr
theorem factMain : Program.mainIs Try.prog = some (true, "b55804bce3188aa4c2d67ba690ecb434cf0d403a21a02337ef5b0ec1c632c8e8".toList) := main_signs headSigns (by kernel_rfl)
end Go.Proofs.Ytkpjinkkjbljkaa
