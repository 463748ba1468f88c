/- The walk of 'lives' of layer 37, and of the laws SmpduChecks, SmpduEncodes, SmpduDecodes. -/
import Derived.Test.YtpomobeogkfmfaaDoorSec11
import Derived.Test.YtpomobeogkfmfaaDoorSec14
namespace Go.Proofs.YtpomobeogkfmfaaDoor
open Go.RowKit

theorem SEncPost.bytes {w w' : World} {p : Sec} {e : Ending} (h : SEncPost w p e w') : Below w.heap.size w w' ∧ ∃ v, e = .returned (.tuple #[v, .int .i64 (chkS p)]) ∧ BS w' w'.heap.size v (if chkS p = 0 then encS p else []) := by
  obtain ⟨hb, h1, h2⟩ := h
  refine ⟨hb, ?_⟩
  by_cases hc : chkS p = 0
  · obtain ⟨v, he, ho⟩ := h1 hc
    rw [if_pos hc, hc]
    exact ⟨v, he, BS.of_own rfl ho⟩
  · rw [if_neg hc]
    exact ⟨_, h2 hc, BS.nil _ _⟩

def secA : Sec := ⟨1, 4, false, true, true, false, false, 0, 0, 0, 0, 0, 0⟩
def secB : Sec := ⟨12, 0, false, false, false, false, false, 5, 0, 0, 0, 0, 0⟩
theorem okA : SecOk secA := ⟨by decide, by decide, by decide, by decide⟩
theorem encode_litA (w : World) (hT : PTab w) : Calls Tryd.prog 35 #[secC 1 4 false true true false false 0 0 0 0 0 0] w fun e w' => Below w.heap.size w w' ∧ ∃ v, e = .returned (.tuple #[v, .int .i64 0]) ∧ BS w' w'.heap.size v [1, 4, 6] := by
  have hc : chkS secA = 0 := by decide +kernel
  have he : encS secA = [1, 4, 6] := by decide +kernel
  refine Calls.mono (sencode_any secA okA w hT) fun e w' hh => ?_
  have h := hh.bytes
  rw [hc, if_pos rfl, he] at h
  exact h
theorem decode_litB (v : Value) (w : World) (hT : PTab w) (hb : BS w w.heap.size v [12, 5, 0, 0, 0]) : Calls Tryd.prog 37 #[v] w fun e w' => e = .returned (.tuple #[secC 12 0 false false false false false 5 0 0 0 0 0, .int .i64 0]) ∧ Below w.heap.size w w' := by
  have h1 : decSE [12, 5, 0, 0, 0] = 0 := by decide +kernel
  have h2 : decS [12, 5, 0, 0, 0] = secB := by decide +kernel
  have h := sdecode_any [12, 5, 0, 0, 0] v (by decide) w hb hT
  unfold SDecPost at h
  rw [h1, h2] at h
  exact h
theorem decode_litC (v : Value) (w : World) (hT : PTab w) (hb : BS w w.heap.size v [11, 1]) : Calls Tryd.prog 37 #[v] w fun e w' => e = .returned (.tuple #[secC 0 0 false false false false false 0 0 0 0 0 0, .int .i64 2]) ∧ Below w.heap.size w w' := by
  have h1 : decSE [11, 1] = 2 := by decide +kernel
  have h2 : decS [11, 1] = sec0 := by decide +kernel
  have h := sdecode_any [11, 1] v (by decide) w hb hT
  unfold SDecPost at h
  rw [h1, h2] at h
  exact h
theorem check_litB (w : World) (hT : PTab w) : Calls Tryd.prog 33 #[secC 12 0 false false false false false 5 0 0 0 0 0] w fun e w' => e = .returned (.int .i64 0) ∧ Below w.heap.size w w' := by
  have h1 : chkS secB = 0 := by decide +kernel
  have h := scheck_any secB w hT
  unfold CheckPost at h
  rw [h1] at h
  exact h

set_option maxRecDepth 100000 in
set_option maxHeartbeats 4000000 in
theorem lives37 (w : World) (hT : PTab w) : Calls Tryd.prog 32 #[] w fun e w' => e = .returned (.bool true) ∧ Below w.heap.size w w' := by
  have HT := Lib.hid hT
  clear hT
  go_enter Tryd.func32, Tryd.ntmps32
  go_wp2_with fail
  refine (encode_litA _ HT.out).mono ?_
  rintro e w1 ⟨hb1, v1, rfl, hv1⟩
  have HB1 := Lib.hid hb1
  have HV1 := Lib.hid hv1
  clear hb1 hv1
  go_wp2_with fail
  refine (decode_litB _ _ (HT.out.keep (HB1.out.alloc HB1.out.size _)) ((Sl.lit (size := 1) w1 #[.int .u8 12, .int .u8 5, .int .u8 0, .int .u8 0, .int .u8 0] _ 5 rfl (by simp [maxLen])).more (by simp))).mono ?_
  rintro e w2 ⟨rfl, hb2⟩
  have HB2 := Lib.hid (bthen HB1.out (one hb2))
  have HV2 := Lib.hid (HV1.out.on (one hb2))
  clear hb2 HV1
  go_wp2_with fail
  have HLL := Lib.hid (show BS ((w2.alloc (.cells #[.int .i64 12, .int .i64 0, .bool false, .bool false, .bool false, .bool false, .bool false, .int .u32 5, .int .u64 0, .int .i64 0, .int .u64 0, .int .u64 0, .int .i64 0] 53)).alloc (.cells #[.int .u8 11, .int .u8 1] 5)) (w2.heap.size + 1 + 1) (.slice (some ⟨w2.heap.size + 1, 0, none⟩) 2 2) [11, 1] by
    have h := Sl.lit (size := 1) (w2.alloc (.cells #[.int .i64 12, .int .i64 0, .bool false, .bool false, .bool false, .bool false, .bool false, .int .u32 5, .int .u64 0, .int .i64 0, .int .u64 0, .int .u64 0, .int .i64 0] 53)) #[.int .u8 11, .int .u8 1] 5 2 rfl (by simp [maxLen])
    rw [show (w2.alloc (.cells #[.int .i64 12, .int .i64 0, .bool false, .bool false, .bool false, .bool false, .bool false, .int .u32 5, .int .u64 0, .int .i64 0, .int .u64 0, .int .u64 0, .int .i64 0] 53)).heap.size = w2.heap.size + 1 by simp] at h
    exact h)
  refine (decode_litC _ _ (HT.out.keep ((HB2.out.alloc HB2.out.size _).alloc (by have := HB2.out.size; simp; omega) _)) (HLL.out.more (by simp))).mono ?_
  rintro e w3 ⟨rfl, hb3⟩
  have hs : SecAt w3 w2.heap.size secB := ((SecAt.new w2 secB 53).keep (al1 _ _) (by simp)).keep hb3 (by simp; omega)
  have hz3 : w2.heap.size < w3.heap.size := sec_lt hs
  have c0 : w3.cell? ⟨w2.heap.size, 0, none⟩ = some (.int .i64 12) := hs.cells.1
  have c1 : w3.cell? ⟨w2.heap.size, 1, none⟩ = some (.int .i64 0) := hs.cells.2.1
  have c2 : w3.cell? ⟨w2.heap.size, 2, none⟩ = some (.bool false) := hs.cells.2.2.1
  have c3 : w3.cell? ⟨w2.heap.size, 3, none⟩ = some (.bool false) := hs.cells.2.2.2.1
  have c4 : w3.cell? ⟨w2.heap.size, 4, none⟩ = some (.bool false) := hs.cells.2.2.2.2.1
  have c5 : w3.cell? ⟨w2.heap.size, 5, none⟩ = some (.bool false) := hs.cells.2.2.2.2.2.1
  have c6 : w3.cell? ⟨w2.heap.size, 6, none⟩ = some (.bool false) := hs.cells.2.2.2.2.2.2.1
  have c7 : w3.cell? ⟨w2.heap.size, 7, none⟩ = some (.int .u32 5) := hs.cells.2.2.2.2.2.2.2.1
  have c8 : w3.cell? ⟨w2.heap.size, 8, none⟩ = some (.int .u64 0) := hs.cells.2.2.2.2.2.2.2.2.1
  have c9 : w3.cell? ⟨w2.heap.size, 9, none⟩ = some (.int .i64 0) := hs.cells.2.2.2.2.2.2.2.2.2.1
  have c10 : w3.cell? ⟨w2.heap.size, 10, none⟩ = some (.int .u64 0) := hs.cells.2.2.2.2.2.2.2.2.2.2.1
  have c11 : w3.cell? ⟨w2.heap.size, 11, none⟩ = some (.int .u64 0) := hs.cells.2.2.2.2.2.2.2.2.2.2.2.1
  have c12 : w3.cell? ⟨w2.heap.size, 12, none⟩ = some (.int .i64 0) := hs.cells.2.2.2.2.2.2.2.2.2.2.2.2
  have HB3 := Lib.hid (bthen HB2.out (two hb3))
  have HV3 := Lib.hid (HV2.out.on (two hb3))
  clear hb3 hs HV2 HLL
  go_wp2_with fail
  have HLX := Lib.hid (show BS ((w3.alloc (.cells #[.int .i64 0, .int .i64 0, .bool false, .bool false, .bool false, .bool false, .bool false, .int .u32 0, .int .u64 0, .int .i64 0, .int .u64 0, .int .u64 0, .int .i64 0] 53)).alloc (.cells #[.int .u8 1, .int .u8 4, .int .u8 6] 5)) (w3.heap.size + 1 + 1) (.slice (some ⟨w3.heap.size + 1, 0, none⟩) 3 3) [1, 4, 6] by
    have h := Sl.lit (size := 1) (w3.alloc (.cells #[.int .i64 0, .int .i64 0, .bool false, .bool false, .bool false, .bool false, .bool false, .int .u32 0, .int .u64 0, .int .i64 0, .int .u64 0, .int .u64 0, .int .i64 0] 53)) #[.int .u8 1, .int .u8 4, .int .u8 6] 5 3 rfl (by simp [maxLen])
    rw [show (w3.alloc (.cells #[.int .i64 0, .int .i64 0, .bool false, .bool false, .bool false, .bool false, .bool false, .int .u32 0, .int .u64 0, .int .i64 0, .int .u64 0, .int .u64 0, .int .i64 0] 53)).heap.size = w3.heap.size + 1 by simp] at h
    exact h)
  refine (same_any _ _ _ _ _ (HV3.out.on (al2 _ _ _)) (HLX.out.more (by simp))).mono ?_
  rintro e w4 ⟨rfl, rfl⟩
  rw [decide_eq_true rfl]
  go_wp2_with fail
  refine (check_litB _ (HT.out.keep ((HB3.out.alloc HB3.out.size _).alloc (by have := HB3.out.size; simp; omega) _))).mono ?_
  rintro e w5 ⟨rfl, hb5⟩
  go_wp2
  go_ret
  exact ⟨rfl, bthen HB3.out (two hb5)⟩
end Go.Proofs.YtpomobeogkfmfaaDoor
