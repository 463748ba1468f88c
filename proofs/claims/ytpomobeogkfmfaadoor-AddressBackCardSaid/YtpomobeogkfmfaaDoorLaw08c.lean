/- The walk of the law AddressEncodes: for every argument it returns true, wherever the tables hold their numbers. -/
import Derived.Test.YtpomobeogkfmfaaDoorAdr17
namespace Go.Proofs.YtpomobeogkfmfaaDoor
open Go.RowKit

/-- What an encoding returns, as bytes in memory, and the error. -/
theorem EncPost.bytes {w w' : World} {k : Int} {x : Nat} {e : Ending} (h : EncPost w k x e w') : Below w.heap.size w w' ∧ ∃ v, e = .returned (.tuple #[v, .int .i64 (chkA k x)]) ∧ BS w' w'.heap.size v (if chkA k x = 0 then encA k x else []) := by
  obtain ⟨hb, h1, h2⟩ := h
  refine ⟨hb, ?_⟩
  by_cases hc : chkA k x = 0
  · obtain ⟨v, he, ho⟩ := h1 hc
    rw [if_pos hc, hc]
    exact ⟨v, he, BS.of_own (encA_length k x).symm ho⟩
  · rw [if_neg hc]
    exact ⟨_, h2 hc, BS.nil _ _⟩

set_option maxRecDepth 100000 in
set_option maxHeartbeats 4000000 in
theorem addressEncodes_walk (k : Int) (x : Nat) (w : World) (hT : ATab w) : Calls Tryd.prog 8 #[adr k x] w fun e w' => e = .returned (.bool true) ∧ Below w.heap.size w w' := by
  have HT := Lib.hid hT
  clear hT
  go_enter Tryd.func8, Tryd.ntmps8
  go_wp2_with fail
  refine (encode_any k x _ (HT.out.keep (al1 w _))).mono ?_
  intro e w1 hh
  obtain ⟨hb1, u, rfl, hu⟩ := hh.bytes
  have hc1 := bfar (w.heap.size + 1) hb1 (by simp)
  have hl0 := hc1 w.heap.size 0 (by omega)
  have hl1 := hc1 w.heap.size 1 (by omega)
  have hz1 := sz1 hb1
  have HB1 := Lib.hid (one hb1)
  have HU := Lib.hid hu
  clear hh hb1 hu hc1
  go_wp2_with fail
  refine (rencode_any k x _).mono ?_
  intro e w2 hh
  obtain ⟨hb2, u', rfl, hu'⟩ := hh.bytes
  have HB2 := Lib.hid (bthen HB1.out hb2)
  have HU2 := Lib.hid (HU.out.on hb2)
  have HU' := Lib.hid hu'
  clear hh hb2 hu' hl0 hl1
  generalize chkA k x = c at *
  go_wp2_with fail
  refine (lives08 _ (HT.out.keep HB2.out)).mono ?_
  rintro e w3 ⟨rfl, hb3⟩
  have HB3 := Lib.hid (bthen HB2.out hb3)
  have HU3 := Lib.hid (HU2.out.on hb3)
  have HU'3 := Lib.hid (HU'.out.on hb3)
  clear hb3
  go_wp2_with fail
  refine (same_any u u' _ _ _ HU3.out HU'3.out).mono ?_
  rintro e w4 ⟨rfl, rfl⟩
  go_wp2
  go_ret
  exact ⟨by simp, HB3.out⟩
end Go.Proofs.YtpomobeogkfmfaaDoor
