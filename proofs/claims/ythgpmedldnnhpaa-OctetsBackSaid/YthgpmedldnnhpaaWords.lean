/- The words of the dump's head as lists of signs; the facts of the program that hang on them, each by itself. -/
import Derived.Test.YthgpmedldnnhpaaRows
import Derived.JoinedCond
namespace Go.Proofs.Ythgpmedldnnhpaa
open Go.ChangeShapes Go.WideShapes Go.ChangeAt

set_option maxRecDepth 100000 in
theorem headSigns : Try.prog.initOrder.toList = ([104, 97, 114, 110, 101, 115, 115, 32, 56, 56, 98, 54, 48, 97, 55, 98, 51, 55, 51, 102, 57, 57, 100, 48, 50, 102, 53, 102, 49, 48, 98, 50, 97, 97, 50, 49, 98, 54, 101, 54, 51, 52, 50, 101, 97, 98, 54, 54, 102, 53, 55, 100, 48, 54, 50, 50, 57, 99, 100, 50, 49, 102, 53, 50, 55, 57, 48, 49, 99, 102, 50, 48, 32, 99, 117, 116, 32, 97, 116, 32, 119, 105, 114, 101, 108, 101, 115, 115, 47, 119, 105, 114, 101, 108, 101, 115, 115, 108, 97, 119, 48, 50, 46, 79, 99, 116, 101, 116, 115, 80, 117, 116, 32, 119, 105, 114, 101, 108, 101, 115, 115, 47, 119, 105, 114, 101, 108, 101, 115, 115, 108, 97, 119, 48, 50, 46, 79, 99, 116, 101, 116, 115, 84, 97, 107, 101, 32, 119, 105, 114, 101, 108, 101, 115, 115, 47, 119, 105, 114, 101, 108, 101, 115, 115, 108, 97, 119, 48, 50, 46, 79, 99, 116, 101, 116, 115, 74, 111, 105, 110, 115, 32, 119, 105, 114, 101, 108, 101, 115, 115, 47, 119, 105, 114, 101, 108, 101, 115, 115, 108, 97, 119, 48, 50, 46, 79, 99, 116, 101, 116, 115, 72, 101, 120, 32, 119, 105, 114, 101, 108, 101, 115, 115, 47, 119, 105, 114, 101, 108, 101, 115, 115, 108, 97, 119, 48, 50, 46, 79, 99, 116, 101, 116, 115, 66, 97, 99, 107, 32, 119, 105, 114, 101, 108, 101, 115, 115, 47, 119, 105, 114, 101, 108, 101, 115, 115, 108, 97, 119, 48, 50, 46, 79, 99, 116, 101, 116, 115, 79, 119, 110].map Char.ofNat) := by
  have h : Try.prog.initOrder = String.ofList ([104, 97, 114, 110, 101, 115, 115, 32, 56, 56, 98, 54, 48, 97, 55, 98, 51, 55, 51, 102, 57, 57, 100, 48, 50, 102, 53, 102, 49, 48, 98, 50, 97, 97, 50, 49, 98, 54, 101, 54, 51, 52, 50, 101, 97, 98, 54, 54, 102, 53, 55, 100, 48, 54, 50, 50, 57, 99, 100, 50, 49, 102, 53, 50, 55, 57, 48, 49, 99, 102, 50, 48, 32, 99, 117, 116, 32, 97, 116, 32, 119, 105, 114, 101, 108, 101, 115, 115, 47, 119, 105, 114, 101, 108, 101, 115, 115, 108, 97, 119, 48, 50, 46, 79, 99, 116, 101, 116, 115, 80, 117, 116, 32, 119, 105, 114, 101, 108, 101, 115, 115, 47, 119, 105, 114, 101, 108, 101, 115, 115, 108, 97, 119, 48, 50, 46, 79, 99, 116, 101, 116, 115, 84, 97, 107, 101, 32, 119, 105, 114, 101, 108, 101, 115, 115, 47, 119, 105, 114, 101, 108, 101, 115, 115, 108, 97, 119, 48, 50, 46, 79, 99, 116, 101, 116, 115, 74, 111, 105, 110, 115, 32, 119, 105, 114, 101, 108, 101, 115, 115, 47, 119, 105, 114, 101, 108, 101, 115, 115, 108, 97, 119, 48, 50, 46, 79, 99, 116, 101, 116, 115, 72, 101, 120, 32, 119, 105, 114, 101, 108, 101, 115, 115, 47, 119, 105, 114, 101, 108, 101, 115, 115, 108, 97, 119, 48, 50, 46, 79, 99, 116, 101, 116, 115, 66, 97, 99, 107, 32, 119, 105, 114, 101, 108, 101, 115, 115, 47, 119, 105, 114, 101, 108, 101, 115, 115, 108, 97, 119, 48, 50, 46, 79, 99, 116, 101, 116, 115, 79, 119, 110].map Char.ofNat) := by kernel_rfl
  rw [h]
  exact String.toList_ofList

set_option maxRecDepth 100000 in
theorem headWords : behindMainWord (wordsSigns Try.prog.initOrder.toList) = [Char.ofNat 99, Char.ofNat 117, Char.ofNat 116] :: ([[97, 116], [119, 105, 114, 101, 108, 101, 115, 115, 47, 119, 105, 114, 101, 108, 101, 115, 115, 108, 97, 119, 48, 50, 46, 79, 99, 116, 101, 116, 115, 80, 117, 116], [119, 105, 114, 101, 108, 101, 115, 115, 47, 119, 105, 114, 101, 108, 101, 115, 115, 108, 97, 119, 48, 50, 46, 79, 99, 116, 101, 116, 115, 84, 97, 107, 101], [119, 105, 114, 101, 108, 101, 115, 115, 47, 119, 105, 114, 101, 108, 101, 115, 115, 108, 97, 119, 48, 50, 46, 79, 99, 116, 101, 116, 115, 74, 111, 105, 110, 115], [119, 105, 114, 101, 108, 101, 115, 115, 47, 119, 105, 114, 101, 108, 101, 115, 115, 108, 97, 119, 48, 50, 46, 79, 99, 116, 101, 116, 115, 72, 101, 120], [119, 105, 114, 101, 108, 101, 115, 115, 47, 119, 105, 114, 101, 108, 101, 115, 115, 108, 97, 119, 48, 50, 46, 79, 99, 116, 101, 116, 115, 66, 97, 99, 107], [119, 105, 114, 101, 108, 101, 115, 115, 47, 119, 105, 114, 101, 108, 101, 115, 115, 108, 97, 119, 48, 50, 46, 79, 99, 116, 101, 116, 115, 79, 119, 110]].map fun l => l.map Char.ofNat) := by
  rw [headSigns]
  kernel_rfl

theorem strip_cut (r : List (List Char)) : stripLifts liftWords ([Char.ofNat 99, Char.ofNat 117, Char.ofNat 116] :: r) = ([], [Char.ofNat 99, Char.ofNat 117, Char.ofNat 116] :: r) := by rfl
theorem head_cut {P : Program} {r : List (List Char)} (h : behindMainWord (wordsSigns P.initOrder.toList) = [Char.ofNat 99, Char.ofNat 117, Char.ofNat 116] :: r) : P.headLifts = [] := by
  unfold Program.headLifts
  rw [h, strip_cut]
  rfl
theorem make_cut {P : Program} {r : List (List Char)} (h : behindMainWord (wordsSigns P.initOrder.toList) = [Char.ofNat 99, Char.ofNat 117, Char.ofNat 116] :: r) : P.make = some .cut := by
  unfold Program.make
  rw [h]
  rfl
theorem lifts_cut {P : Program} {r : List (List Char)} (h : behindMainWord (wordsSigns P.initOrder.toList) = [Char.ofNat 99, Char.ofNat 117, Char.ofNat 116] :: r) : P.liftsFinal = false := by
  unfold Program.liftsFinal
  rw [head_cut h, h]
  rfl
theorem enter_cut {P : Program} {r : List (List Char)} (h : behindMainWord (wordsSigns P.initOrder.toList) = [Char.ofNat 99, Char.ofNat 117, Char.ofNat 116] :: r) (hl : P.laysLater = false) (hr : P.bearsReflect = false) (hd : P.doorFits [] = true) : P.mayEnter = true := by
  unfold Program.mayEnter
  rw [h]
  simp only [strip_cut, hl, hr, hd]
  rfl
theorem factMake : Program.make Try.prog = some .cut := make_cut headWords
theorem factLifts : Program.liftsFinal Try.prog = false := lifts_cut headWords
theorem factEnter : Program.mayEnter Try.prog = true := enter_cut headWords (by kernel_rfl) (by kernel_rfl) (by kernel_rfl)
theorem factLaid : laidOutB Try.prog = true := by kernel_rfl
theorem factRowed : mapsRowed Try.prog = true := by kernel_rfl
theorem factStops : (Program.stops Try.prog == []) = true := by kernel_rfl
theorem factStopKnobs : (Program.stopKnobs Try.prog == []) = true := by kernel_rfl
theorem factHeard : Program.stopsHeard Try.prog = true := by kernel_rfl
theorem factKeys : Program.plainKeys Try.prog = true := by kernel_rfl
theorem main_signs {P : Program} {l : List Char} {r : Option (Bool × List Char)} (h : P.initOrder.toList = l) (hr : (match wordsSigns l with
  | h :: s :: _ => if !isSumSigns s then none else if h == "harness".toList then some (true, s) else if h == "ownmain".toList then some (false, s) else none
  | _ => none) = r) : P.mainIs = r := by
  unfold Program.mainIs
  rw [h]
  exact hr
theorem factMain : Program.mainIs Try.prog = some (true, "88b60a7b373f99d02f5f10b2aa21b6e6342eab66f57d06229cd21f527901cf20".toList) := main_signs headSigns (by kernel_rfl)
end Go.Proofs.Ythgpmedldnnhpaa
