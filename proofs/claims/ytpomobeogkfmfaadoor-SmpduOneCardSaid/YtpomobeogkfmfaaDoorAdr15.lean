/- The walk of 'lives' of layer 8: it returns true wherever the tables hold their numbers. -/
import Derived.Test.YtpomobeogkfmfaaDoorAdr14
import Derived.Deep.RegionHeld3
namespace Go.Proofs.YtpomobeogkfmfaaDoor
open Go.RowKit

/-- address.Text returns the text of an address. -/
theorem text_any (k : Int) (x : Nat) (hx : x < 18446744073709551616) (w : World) (hT : ATab w) : Calls Tryd.prog 21 #[adr k x] w fun e w' => e = .returned (.string ⟨(txtS k x).toArray⟩) ∧ Below w.heap.size w w' := by
  by_cases h : chkA k x = 0
  · exact text_yes k x hx h w hT
  · rw [txtS_none h]
    exact text_no k x h w hT
theorem rtext_any (k : Int) (x : Nat) (hx : x < 18446744073709551616) (w : World) : Calls Tryd.prog 22 #[adr k x] w fun e w' => e = .returned (.string ⟨(txtS k x).toArray⟩) ∧ Below w.heap.size w w' := by
  by_cases h : chkA k x = 0
  · exact rtext_yes k x hx h w
  · rw [txtS_none h]
    exact rtext_no k x h w

theorem parse_lit (w : World) (hT : ATab w) : Calls Tryd.prog 23 #[.string ⟨#[48, 48, 58, 48, 48, 58, 65, 49, 58, 66, 50, 58, 67, 51, 58, 68, 52, 47, 112]⟩] w fun e w' => e = .returned (.tuple #[adr 1 2712847316, .int .i64 0]) ∧ Below w.heap.size w w' := by
  have h := parse_any ⟨#[48, 48, 58, 48, 48, 58, 65, 49, 58, 66, 50, 58, 67, 51, 58, 68, 52, 47, 112]⟩ w hT
  have e0 : prsE [48, 48, 58, 48, 48, 58, 65, 49, 58, 66, 50, 58, 67, 51, 58, 68, 52, 47, 112] = 0 := by decide +kernel
  obtain ⟨e1, e2⟩ := prs_ok e0
  have e3 : kindC (lat [48, 48, 58, 48, 48, 58, 65, 49, 58, 66, 50, 58, 67, 51, 58, 68, 52, 47, 112] 18) = 1 := by decide +kernel
  have e4 : bitsP [48, 48, 58, 48, 48, 58, 65, 49, 58, 66, 50, 58, 67, 51, 58, 68, 52, 47, 112] 6 = 2712847316 := by decide +kernel
  refine h.mono fun e w' hh => ?_
  obtain ⟨a, b⟩ := hh
  refine ⟨a.trans ?_, b⟩
  rw [e0, e1, e2, e3, e4]
theorem check_lit (w : World) (hT : ATab w) : Calls Tryd.prog 17 #[adr 2 211106232532993] w fun e w' => e = .returned (.int .i64 0) ∧ Below w.heap.size w w' := by
  have h := check_any 2 211106232532993 w hT
  have e : chkA 2 211106232532993 = 0 := by decide +kernel
  rwa [e] at h
theorem random_lit (w : World) (hT : ATab w) : Calls Tryd.prog 19 #[.int .i64 2, .int .u64 0] w fun e w' => e = .returned (adr 2 211106232532993) ∧ Below w.heap.size w w' := by
  have h := random_any 2 0 (by omega) w hT
  have e : rndX 2 0 = 211106232532993 := by decide +kernel
  rwa [e] at h
theorem text_lit (w : World) (hT : ATab w) : Calls Tryd.prog 21 #[adr 2 211106232532993] w fun e w' => e = .returned (.string ⟨#[67, 48, 58, 48, 48, 58, 48, 48, 58, 48, 48, 58, 48, 48, 58, 48, 49, 47, 115]⟩) ∧ Below w.heap.size w w' := by
  have h := text_any 2 211106232532993 (by omega) w hT
  have e : txtS 2 211106232532993 = [67, 48, 58, 48, 48, 58, 48, 48, 58, 48, 48, 58, 48, 48, 58, 48, 49, 47, 115] := by decide +kernel
  rwa [e] at h
theorem compare_lit (w : World) : Calls Tryd.prog 25 #[adr 1 2712847316, adr 2 211106232532993] w fun e w' => e = .returned (.int .i64 (-1)) ∧ Below w.heap.size w w' := by
  have h := compare_any 1 2712847316 2 211106232532993 w
  have e : cmpA 1 2712847316 2 211106232532993 = -1 := by decide +kernel
  rwa [e] at h

set_option maxRecDepth 100000 in
set_option maxHeartbeats 4000000 in
theorem lives08 (w : World) (hT : ATab w) : Calls Tryd.prog 16 #[] w fun e w' => e = .returned (.bool true) ∧ Below w.heap.size w w' := by
  have HT := Lib.hid hT
  clear hT
  go_enter Tryd.func16, Tryd.ntmps16
  go_wp2_with fail
  refine (parse_lit _ (HT.out.keep (al1 w _))).mono ?_
  rintro e w1 ⟨rfl, hb1⟩
  have hB1 := one hb1
  have hz1 := sz1 hb1
  have hz1' : w.heap.size < w1.heap.size + 1 := by omega
  obtain ⟨hc1, hf1⟩ := bcell hb1
  have k0 : w1.cell? ⟨w.heap.size, 0, none⟩ = some (.int .i64 2) := by rw [hc1 _ _ (by simp)]; simp [go_sem]
  have k1 : w1.cell? ⟨w.heap.size, 1, none⟩ = some (.int .u64 211106232532993) := by rw [hc1 _ _ (by simp)]; simp [go_sem]
  have HB1 := Lib.hid hB1
  clear hc1 hf1 hB1
  go_wp2_with fail
  go_region_held3 (fun w' => w'.cell? ⟨w.heap.size, 0, none⟩ = some (.int .i64 2) ∧ w'.cell? ⟨w.heap.size, 1, none⟩ = some (.int .u64 211106232532993) ∧ w'.cell? ⟨w1.heap.size, 0, none⟩ = some (.int .i64 1) ∧ w'.cell? ⟨w1.heap.size, 1, none⟩ = some (.int .u64 2712847316)) (go_keep)
    (first
      | (go_at_call 17; refine (check_lit _ ?_).mono ?_; exact (HT.out.keep ((HB1.out.alloc HB1.out.size _).drew)); rintro e w2 ⟨rfl, hb2⟩; have hc2 := bfar (w1.heap.size + 1) hb2 (by simp); have hz2 : w1.heap.size + 1 ≤ w2.heap.size := (by have := hb2.size; simp at this; omega))
      | (go_at_call 19; refine (random_lit _ ?_).mono ?_; exact (HT.out.keep (((HB1.out.alloc HB1.out.size _).drew).trans (hb2.mono (by simp; omega)))); rintro e w3 ⟨rfl, hb3⟩; have hc3 := bfar (w1.heap.size + 1) hb3 hz2; have hz3 : w1.heap.size + 1 ≤ w3.heap.size := (by have := hb3.size; omega))
      | (go_at_call 21; refine (text_lit _ ?_).mono ?_; exact (HT.out.keep (bthen (((HB1.out.alloc HB1.out.size _).drew).trans (hb2.mono (by simp; omega))) hb3)); rintro e w4 ⟨rfl, hb4⟩; have hc4 := bfar (w1.heap.size + 1) hb4 hz3; have hz4 : w1.heap.size + 1 ≤ w4.heap.size := (by have := hb4.size; omega))
      | (go_at_call 25; refine (compare_lit _).mono ?_; rintro e w5 ⟨rfl, hb5⟩; have hc5 := bfar (w1.heap.size + 1) hb5 hz4))
  go_wp2
  go_ret
  exact ⟨rfl, bthen (bthen (bthen (((HB1.out.alloc HB1.out.size _).drew).trans (hb2.mono (by simp; omega))) hb3) hb4) hb5⟩
end Go.Proofs.YtpomobeogkfmfaaDoor
