/- The walks of 'lives' and of the law MethodChecks: for every argument they return true, wherever the table holds its numbers. -/
import Derived.Test.YtjnjafkfemaaeaaDoorW2
namespace Go.Proofs.YtjnjafkfemaaeaaDoor
open Go.RowKit


set_option maxHeartbeats 2000000 in
theorem lives_any (w : World) (hT : Tab w) :
    Calls Tryd.prog 9 #[] w fun e w' => e = .returned (.bool true) ∧ Below w.heap.size w w' := by
  have HT := Lib.hid hT
  clear hT
  go_enter Tryd.func9, Tryd.ntmps9
  go_wp2_with fail
  refine (choose_any 0 2 false false true false false false false false false false _ (HT.out.below (((Below.refl _ _).alloc (Nat.le_refl _) _).alloc (by simp) _) HT.out.1) 3 true (by decide) (by decide)).mono ?_
  rintro e w1 ⟨rfl, hb1⟩
  obtain ⟨hc1, hf1⟩ := bcell hb1
  obtain ⟨hz1, hz1'⟩ := sz2 hb1
  have hB1 := two hb1
  go_wp2_with fail
  refine (choose_any 2 0 false false false false false false false true false false _ (HT.out.keep hB1) 4 true (by decide) (by decide)).mono ?_
  rintro e w2 ⟨rfl, hb2⟩
  obtain ⟨hc2, hf2⟩ := bcell hb2
  have hz2 := hb2.size
  have hB2 := bthen hB1 hb2
  go_wp2_with fail
  refine (check_bad 5 false false false false false _ (by omega)).mono ?_
  rintro e w3 ⟨rfl, hb3⟩
  obtain ⟨hc3, hf3⟩ := bcell hb3
  have hz3 := hb3.size
  have hz31 : w.heap.size < w2.heap.size := by omega
  have hz32 : w.heap.size + 1 < w2.heap.size := by omega
  have hB3 := bthen hB2 hb3
  go_wp2_with fail
  refine (enough_any 0 2 false false true false false false false false false false _ (HT.out.keep hB3) true (by decide)).mono ?_
  rintro e w4 ⟨rfl, hb4⟩
  obtain ⟨hc4, hf4⟩ := bcell hb4
  have hz4 := hb4.size
  have hz41 : w.heap.size < w3.heap.size := by omega
  have hz42 : w.heap.size + 1 < w3.heap.size := by omega
  have hB4 := bthen hB3 hb4
  go_wp2_with fail
  refine (enough_any 0 0 false false true false false false false true false false _ (HT.out.keep hB4) false (by decide)).mono ?_
  rintro e w5 ⟨rfl, hb5⟩
  have hB5 := bthen hB4 hb5
  go_wp2_with fail
  go_ret
  exact ⟨rfl, hB5⟩

set_option maxHeartbeats 2000000 in
theorem methodChecks_walk (i : Int) (o b m s t : Bool) (w : World) (hT : Tab w) :
    Calls Tryd.prog 3 #[feat i o b m s t] w fun e w' => e = .returned (.bool true) ∧ Below w.heap.size w w' := by
  have HT := Lib.hid hT
  clear hT
  go_enter Tryd.func3, Tryd.ntmps3
  go_wp2_with fail
  go_region_held3 (fun w' => w'.cell? ⟨w.heap.size, 0, none⟩ = some (.int .i64 i) ∧ w'.cell? ⟨w.heap.size, 1, none⟩ = some (.bool o) ∧ w'.cell? ⟨w.heap.size, 2, none⟩ = some (.bool b) ∧ w'.cell? ⟨w.heap.size, 3, none⟩ = some (.bool m) ∧ w'.cell? ⟨w.heap.size, 4, none⟩ = some (.bool s) ∧ w'.cell? ⟨w.heap.size, 5, none⟩ = some (.bool t)) (go_keep)
    (first
      | (go_at_call 9; refine (lives_any _ ?_).mono ?_; exact (HT.out.below (((Below.refl _ _).alloc (Nat.le_refl _) _).drew) HT.out.1); rintro e w1 ⟨rfl, hb1⟩; obtain ⟨hc1, hf1⟩ := bcell hb1; have hz1 : w.heap.size < w1.heap.size := (by have := hb1.size; simp at this; omega))
      | (go_at_call 10; refine (check_any _ _ _ _ _ _ _).mono ?_; rintro e w2 ⟨rfl, hb2⟩; obtain ⟨hc2, hf2⟩ := bcell hb2; have hz2 : w.heap.size < w2.heap.size := (by have := hb2.size; omega))
      | (go_at_call 11; refine (refcheck_any _ _ _ _ _ _ _).mono ?_; rintro e w3 ⟨rfl, hb3⟩; obtain ⟨hc3, hf3⟩ := bcell hb3))
  go_wp2
  go_ret
  exact ⟨by simp, bthen (bthen ((((Below.refl _ _).alloc (Nat.le_refl _) _).drew).trans (hb1.mono (by simp))) hb2) hb3⟩

end Go.Proofs.YtjnjafkfemaaeaaDoor
