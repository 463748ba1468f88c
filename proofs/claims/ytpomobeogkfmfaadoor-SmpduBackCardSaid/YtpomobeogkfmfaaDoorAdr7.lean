/- Walks of package address: Text. -/
import Derived.Test.YtpomobeogkfmfaaDoorAdr6
import Derived.Test.YtpomobeogkfmfaaDoorOct1
namespace Go.Proofs.YtpomobeogkfmfaaDoor
open Go.RowKit

def digU (n : Nat) : UInt8 := hexU.getD n 0
/-- One byte of an address's text and the colon behind it. -/
def txtG (x i : Nat) : List UInt8 := [digU (x / 2 ^ (44 - 8 * i) % 16), digU (x / 2 ^ (40 - 8 * i) % 16), 58]
def txtP (x j : Nat) : List UInt8 := (List.range j).flatMap (txtG x)
theorem txtP_succ (x j : Nat) : txtP x (j + 1) = txtP x j ++ txtG x j := by simp [txtP, List.range_succ]
theorem txtP_length (x j : Nat) : (txtP x j).length = 3 * j := by
  induction j with
  | zero => rfl
  | succ j ih => rw [txtP_succ, List.length_append, ih]; simp [txtG]; omega
/-- The text of an address. -/
def txtS (k : Int) (x : Nat) : List UInt8 := if chkA k x ≠ 0 then [] else (txtP x 6).dropLast ++ [47, UInt8.ofNat (letN k)]

set_option maxRecDepth 100000 in
set_option maxHeartbeats 1000000 in
theorem text_no (k : Int) (x : Nat) (hc : chkA k x ≠ 0) (w : World) (hT : ATab w) : Calls Tryd.prog 21 #[adr k x] w fun e w' => e = .returned (.string ⟨#[]⟩) ∧ Below w.heap.size w w' := by
  have hb := al1 w (.cells #[.int .i64 k, .int .u64 (x : Int)] 24)
  have HC := Lib.hid (ne_bool hc)
  go_enter Tryd.func21, Tryd.ntmps21
  go_wp2_with fail
  refine (check_any k x _ (hT.keep hb)).mono ?_
  rintro e w1 ⟨rfl, hb1⟩
  have f := HC.out
  generalize chkA k x = c at *
  go_wp2_with fail
  go_ret
  exact ⟨rfl, bthen hb hb1⟩
end Go.Proofs.YtpomobeogkfmfaaDoor
