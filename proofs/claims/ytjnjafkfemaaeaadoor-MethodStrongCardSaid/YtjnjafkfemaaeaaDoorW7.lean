/- The walk of the law MethodStrong: for every argument it returns true, wherever the table holds its numbers. -/
import Derived.Test.YtjnjafkfemaaeaaDoorW3
namespace Go.Proofs.YtjnjafkfemaaeaaDoor
open Go.RowKit

set_option maxHeartbeats 4000000 in
theorem strong_bad1 (i j : Int) (o b m s t o' b' m' s' t' : Bool) (w : World) (hT : Hid (Tab w)) (hi : i < 0 ∨ 5 ≤ i) :
    Calls Tryd.prog 5 #[feat i o b m s t, feat j o' b' m' s' t'] w fun e w' => e = .returned (.bool true) ∧ Below w.heap.size w w' := by
  have hM : choM i o m j o' m' = 0 := by unfold choM; rw [if_pos (by omega)]
  have hS : choS i o m j o' m' = false := by unfold choS; rw [hM]; rfl
  have HM := Lib.hid hM
  have HS := Lib.hid hS
  clear hM hS
  go_enter Tryd.func5, Tryd.ntmps5
  go_wp2_with fail
  refine (choose_any _ _ _ _ _ _ _ _ _ _ _ _ _ (hT.out.below (al2 _ _ _) hT.out.1) 0 false HM.out HS.out).mono ?_
  rintro e w1 ⟨rfl, hb1⟩
  obtain ⟨hc1, hf1⟩ := bcell hb1
  obtain ⟨hz1, hz1'⟩ := sz2 hb1
  have hB1 := two hb1
  go_wp2_with fail
  refine (lives_any _ (hT.out.keep hB1)).mono ?_
  rintro e w2 ⟨rfl, hb2⟩
  obtain ⟨hc2, hf2⟩ := bcell hb2
  have hz2 : w.heap.size + 1 < w2.heap.size := by have := hb2.size; omega
  have hz2' : w.heap.size < w2.heap.size := by have := hb2.size; omega
  have hB2 := bthen hB1 hb2
  go_wp2_with fail
  refine (check_bad _ _ _ _ _ _ _ hi).mono ?_
  rintro e w3 ⟨rfl, hb3⟩
  go_wp2
  go_ret
  exact ⟨rfl, bthen hB2 hb3⟩

set_option maxHeartbeats 4000000 in
theorem strong_bad2 (i j : Int) (o b m s t o' b' m' s' t' : Bool) (w : World) (hT : Hid (Tab w)) (h0 : 0 ≤ i) (h1 : i < 5) (hj : j < 0 ∨ 5 ≤ j) :
    Calls Tryd.prog 5 #[feat i o b m s t, feat j o' b' m' s' t'] w fun e w' => e = .returned (.bool true) ∧ Below w.heap.size w w' := by
  have hM : choM i o m j o' m' = 0 := by unfold choM; rw [if_pos (by omega)]
  have hS : choS i o m j o' m' = false := by unfold choS; rw [hM]; rfl
  have HM := Lib.hid hM
  have HS := Lib.hid hS
  clear hM hS
  go_enter Tryd.func5, Tryd.ntmps5
  go_wp2_with fail
  refine (choose_any _ _ _ _ _ _ _ _ _ _ _ _ _ (hT.out.below (al2 _ _ _) hT.out.1) 0 false HM.out HS.out).mono ?_
  rintro e w1 ⟨rfl, hb1⟩
  obtain ⟨hc1, hf1⟩ := bcell hb1
  obtain ⟨hz1, hz1'⟩ := sz2 hb1
  have hB1 := two hb1
  go_wp2_with fail
  refine (lives_any _ (hT.out.keep hB1)).mono ?_
  rintro e w2 ⟨rfl, hb2⟩
  obtain ⟨hc2, hf2⟩ := bcell hb2
  have hz2 : w.heap.size + 1 < w2.heap.size := by have := hb2.size; omega
  have hz2' : w.heap.size < w2.heap.size := by have := hb2.size; omega
  have hB2 := bthen hB1 hb2
  go_wp2_with fail
  refine (check_ok _ _ _ _ _ _ _ h0 h1).mono ?_
  rintro e w3 ⟨rfl, hb3⟩
  obtain ⟨hc3, hf3⟩ := bcell hb3
  go_wp2_with fail
  refine (check_bad _ _ _ _ _ _ _ hj).mono ?_
  rintro e w4 ⟨rfl, hb4⟩
  go_wp2
  go_ret
  exact ⟨rfl, bthen (bthen hB2 hb3) hb4⟩

set_option maxHeartbeats 4000000 in
theorem strong_oob (i j : Int) (o b m s t o' b' m' s' t' : Bool) (w : World) (hT : Hid (Tab w)) (h0 : 0 ≤ i) (h1 : i < 5) (h2 : 0 ≤ j) (h3 : j < 5) (ho : (o || o') = true) :
    Calls Tryd.prog 5 #[feat i o b m s t, feat j o' b' m' s' t'] w fun e w' => e = .returned (.bool true) ∧ Below w.heap.size w w' := by
  have hM : choM i o m j o' m' = 6 := by unfold choM; rw [if_neg (by omega), if_pos ho]
  have hS : choS i o m j o' m' = true := by unfold choS; rw [hM]; rfl
  have HM := Lib.hid hM
  have HS := Lib.hid hS
  clear hM hS
  cases o
  · obtain rfl : o' = true := by simpa using ho
    go_enter Tryd.func5, Tryd.ntmps5
    go_wp2_with fail
    refine (choose_any _ _ _ _ _ _ _ _ _ _ _ _ _ (hT.out.below (al2 _ _ _) hT.out.1) 6 true HM.out HS.out).mono ?_
    rintro e w1 ⟨rfl, hb1⟩
    obtain ⟨hc1, hf1⟩ := bcell hb1
    obtain ⟨hz1, hz1'⟩ := sz2 hb1
    have hB1 := two hb1
    go_wp2_with fail
    refine (lives_any _ (hT.out.keep hB1)).mono ?_
    rintro e w2 ⟨rfl, hb2⟩
    obtain ⟨hc2, hf2⟩ := bcell hb2
    have hz2 : w.heap.size + 1 < w2.heap.size := by have := hb2.size; omega
    have hz2' : w.heap.size < w2.heap.size := by have := hb2.size; omega
    have hB2 := bthen hB1 hb2
    go_wp2_with fail
    go_ret
    exact ⟨rfl, hB2⟩
  · go_enter Tryd.func5, Tryd.ntmps5
    go_wp2_with fail
    refine (choose_any _ _ _ _ _ _ _ _ _ _ _ _ _ (hT.out.below (al2 _ _ _) hT.out.1) 6 true HM.out HS.out).mono ?_
    rintro e w1 ⟨rfl, hb1⟩
    obtain ⟨hc1, hf1⟩ := bcell hb1
    obtain ⟨hz1, hz1'⟩ := sz2 hb1
    have hB1 := two hb1
    go_wp2_with fail
    refine (lives_any _ (hT.out.keep hB1)).mono ?_
    rintro e w2 ⟨rfl, hb2⟩
    obtain ⟨hc2, hf2⟩ := bcell hb2
    have hz2 : w.heap.size + 1 < w2.heap.size := by have := hb2.size; omega
    have hz2' : w.heap.size < w2.heap.size := by have := hb2.size; omega
    have hB2 := bthen hB1 hb2
    go_wp2_with fail
    go_ret
    exact ⟨rfl, hB2⟩

set_option maxHeartbeats 4000000 in
theorem strong_just (i j : Int) (b m s t b' m' s' t' : Bool) (w : World) (hT : Hid (Tab w)) (h0 : 0 ≤ i) (h1 : i < 5) (h2 : 0 ≤ j) (h3 : j < 5) (hM : choM i false m j false m' = 1) :
    Calls Tryd.prog 5 #[feat i false b m s t, feat j false b' m' s' t'] w fun e w' => e = .returned (.bool true) ∧ Below w.heap.size w w' := by
  have hS : choS i false m j false m' = false := by unfold choS; rw [hM]; rfl
  have HM := Lib.hid hM
  have HS := Lib.hid hS
  clear hM hS
  go_enter Tryd.func5, Tryd.ntmps5
  go_wp2_with fail
  refine (choose_any _ _ _ _ _ _ _ _ _ _ _ _ _ (hT.out.below (al2 _ _ _) hT.out.1) 1 false HM.out HS.out).mono ?_
  rintro e w1 ⟨rfl, hb1⟩
  obtain ⟨hc1, hf1⟩ := bcell hb1
  obtain ⟨hz1, hz1'⟩ := sz2 hb1
  have hB1 := two hb1
  go_wp2_with fail
  refine (lives_any _ (hT.out.keep hB1)).mono ?_
  rintro e w2 ⟨rfl, hb2⟩
  obtain ⟨hc2, hf2⟩ := bcell hb2
  have hz2 : w.heap.size + 1 < w2.heap.size := by have := hb2.size; omega
  have hz2' : w.heap.size < w2.heap.size := by have := hb2.size; omega
  have hB2 := bthen hB1 hb2
  go_wp2_with fail
  refine (check_ok _ _ _ _ _ _ _ h0 h1).mono ?_
  rintro e w3 ⟨rfl, hb3⟩
  obtain ⟨hc3, hf3⟩ := bcell hb3
  go_wp2_with fail
  refine (check_ok _ _ _ _ _ _ _ h2 h3).mono ?_
  rintro e w4 ⟨rfl, hb4⟩
  go_wp2
  go_ret
  exact ⟨rfl, bthen (bthen hB2 hb3) hb4⟩

set_option maxHeartbeats 4000000 in
theorem strong_020 (b s t b' m' s' t' : Bool) (w : World) (hT : Hid (Tab w)) :
    Calls Tryd.prog 5 #[feat 0 false b true s t, feat 2 false b' m' s' t'] w fun e w' => e = .returned (.bool true) ∧ Below w.heap.size w w' := by
  have HM : Hid (choM 0 false true 2 false m' = 3) := Lib.hid (by simp [choM]; decide)
  have HS : Hid (choS 0 false true 2 false m' = true) := Lib.hid (by unfold choS; rw [HM.out]; rfl)
  go_enter Tryd.func5, Tryd.ntmps5
  go_wp2_with fail
  refine (choose_any _ _ _ _ _ _ _ _ _ _ _ _ _ (hT.out.below (al2 _ _ _) hT.out.1) 3 true HM.out HS.out).mono ?_
  rintro e w1 ⟨rfl, hb1⟩
  obtain ⟨hc1, hf1⟩ := bcell hb1
  obtain ⟨hz1, hz1'⟩ := sz2 hb1
  have hB1 := two hb1
  go_wp2_with fail
  refine (lives_any _ (hT.out.keep hB1)).mono ?_
  rintro e w2 ⟨rfl, hb2⟩
  obtain ⟨hc2, hf2⟩ := bcell hb2
  have hz2 : w.heap.size + 1 < w2.heap.size := by have := hb2.size; omega
  have hz2' : w.heap.size < w2.heap.size := by have := hb2.size; omega
  have hB2 := bthen hB1 hb2
  go_wp2_with fail
  try go_wp2
  go_ret
  refine ⟨rfl, ?_⟩
  first
    | exact hB2
    | exact hB2.trans ((((Below.refl _ _).alloc (Nat.le_refl _) _).alloc (by simp) _).mono hB2.size)

set_option maxHeartbeats 4000000 in
theorem strong_021 (b s t b' s' t' : Bool) (w : World) (hT : Hid (Tab w)) :
    Calls Tryd.prog 5 #[feat 0 false b false s t, feat 2 false b' true s' t'] w fun e w' => e = .returned (.bool true) ∧ Below w.heap.size w w' := by
  have HM : Hid (choM 0 false false 2 false true = 3) := Lib.hid (by decide)
  have HS : Hid (choS 0 false false 2 false true = true) := Lib.hid (by decide)
  go_enter Tryd.func5, Tryd.ntmps5
  go_wp2_with fail
  refine (choose_any _ _ _ _ _ _ _ _ _ _ _ _ _ (hT.out.below (al2 _ _ _) hT.out.1) 3 true HM.out HS.out).mono ?_
  rintro e w1 ⟨rfl, hb1⟩
  obtain ⟨hc1, hf1⟩ := bcell hb1
  obtain ⟨hz1, hz1'⟩ := sz2 hb1
  have hB1 := two hb1
  go_wp2_with fail
  refine (lives_any _ (hT.out.keep hB1)).mono ?_
  rintro e w2 ⟨rfl, hb2⟩
  obtain ⟨hc2, hf2⟩ := bcell hb2
  have hz2 : w.heap.size + 1 < w2.heap.size := by have := hb2.size; omega
  have hz2' : w.heap.size < w2.heap.size := by have := hb2.size; omega
  have hB2 := bthen hB1 hb2
  go_wp2_with fail
  try go_wp2
  go_ret
  refine ⟨rfl, ?_⟩
  first
    | exact hB2
    | exact hB2.trans ((((Below.refl _ _).alloc (Nat.le_refl _) _).alloc (by simp) _).mono hB2.size)

set_option maxHeartbeats 4000000 in
theorem strong_040 (b s t b' m' s' t' : Bool) (w : World) (hT : Hid (Tab w)) :
    Calls Tryd.prog 5 #[feat 0 false b true s t, feat 4 false b' m' s' t'] w fun e w' => e = .returned (.bool true) ∧ Below w.heap.size w w' := by
  have HM : Hid (choM 0 false true 4 false m' = 3) := Lib.hid (by simp [choM]; decide)
  have HS : Hid (choS 0 false true 4 false m' = true) := Lib.hid (by unfold choS; rw [HM.out]; rfl)
  go_enter Tryd.func5, Tryd.ntmps5
  go_wp2_with fail
  refine (choose_any _ _ _ _ _ _ _ _ _ _ _ _ _ (hT.out.below (al2 _ _ _) hT.out.1) 3 true HM.out HS.out).mono ?_
  rintro e w1 ⟨rfl, hb1⟩
  obtain ⟨hc1, hf1⟩ := bcell hb1
  obtain ⟨hz1, hz1'⟩ := sz2 hb1
  have hB1 := two hb1
  go_wp2_with fail
  refine (lives_any _ (hT.out.keep hB1)).mono ?_
  rintro e w2 ⟨rfl, hb2⟩
  obtain ⟨hc2, hf2⟩ := bcell hb2
  have hz2 : w.heap.size + 1 < w2.heap.size := by have := hb2.size; omega
  have hz2' : w.heap.size < w2.heap.size := by have := hb2.size; omega
  have hB2 := bthen hB1 hb2
  go_wp2_with fail
  try go_wp2
  go_ret
  refine ⟨rfl, ?_⟩
  first
    | exact hB2
    | exact hB2.trans ((((Below.refl _ _).alloc (Nat.le_refl _) _).alloc (by simp) _).mono hB2.size)

set_option maxHeartbeats 4000000 in
theorem strong_041 (b s t b' s' t' : Bool) (w : World) (hT : Hid (Tab w)) :
    Calls Tryd.prog 5 #[feat 0 false b false s t, feat 4 false b' true s' t'] w fun e w' => e = .returned (.bool true) ∧ Below w.heap.size w w' := by
  have HM : Hid (choM 0 false false 4 false true = 3) := Lib.hid (by decide)
  have HS : Hid (choS 0 false false 4 false true = true) := Lib.hid (by decide)
  go_enter Tryd.func5, Tryd.ntmps5
  go_wp2_with fail
  refine (choose_any _ _ _ _ _ _ _ _ _ _ _ _ _ (hT.out.below (al2 _ _ _) hT.out.1) 3 true HM.out HS.out).mono ?_
  rintro e w1 ⟨rfl, hb1⟩
  obtain ⟨hc1, hf1⟩ := bcell hb1
  obtain ⟨hz1, hz1'⟩ := sz2 hb1
  have hB1 := two hb1
  go_wp2_with fail
  refine (lives_any _ (hT.out.keep hB1)).mono ?_
  rintro e w2 ⟨rfl, hb2⟩
  obtain ⟨hc2, hf2⟩ := bcell hb2
  have hz2 : w.heap.size + 1 < w2.heap.size := by have := hb2.size; omega
  have hz2' : w.heap.size < w2.heap.size := by have := hb2.size; omega
  have hB2 := bthen hB1 hb2
  go_wp2_with fail
  try go_wp2
  go_ret
  refine ⟨rfl, ?_⟩
  first
    | exact hB2
    | exact hB2.trans ((((Below.refl _ _).alloc (Nat.le_refl _) _).alloc (by simp) _).mono hB2.size)

set_option maxHeartbeats 4000000 in
theorem strong_110 (b s t b' m' s' t' : Bool) (w : World) (hT : Hid (Tab w)) :
    Calls Tryd.prog 5 #[feat 1 false b true s t, feat 1 false b' m' s' t'] w fun e w' => e = .returned (.bool true) ∧ Below w.heap.size w w' := by
  have HM : Hid (choM 1 false true 1 false m' = 2) := Lib.hid (by simp [choM]; decide)
  have HS : Hid (choS 1 false true 1 false m' = true) := Lib.hid (by unfold choS; rw [HM.out]; rfl)
  go_enter Tryd.func5, Tryd.ntmps5
  go_wp2_with fail
  refine (choose_any _ _ _ _ _ _ _ _ _ _ _ _ _ (hT.out.below (al2 _ _ _) hT.out.1) 2 true HM.out HS.out).mono ?_
  rintro e w1 ⟨rfl, hb1⟩
  obtain ⟨hc1, hf1⟩ := bcell hb1
  obtain ⟨hz1, hz1'⟩ := sz2 hb1
  have hB1 := two hb1
  go_wp2_with fail
  refine (lives_any _ (hT.out.keep hB1)).mono ?_
  rintro e w2 ⟨rfl, hb2⟩
  obtain ⟨hc2, hf2⟩ := bcell hb2
  have hz2 : w.heap.size + 1 < w2.heap.size := by have := hb2.size; omega
  have hz2' : w.heap.size < w2.heap.size := by have := hb2.size; omega
  have hB2 := bthen hB1 hb2
  go_wp2_with fail
  try go_wp2
  go_ret
  refine ⟨rfl, ?_⟩
  first
    | exact hB2
    | exact hB2.trans ((((Below.refl _ _).alloc (Nat.le_refl _) _).alloc (by simp) _).mono hB2.size)

set_option maxHeartbeats 4000000 in
theorem strong_111 (b s t b' s' t' : Bool) (w : World) (hT : Hid (Tab w)) :
    Calls Tryd.prog 5 #[feat 1 false b false s t, feat 1 false b' true s' t'] w fun e w' => e = .returned (.bool true) ∧ Below w.heap.size w w' := by
  have HM : Hid (choM 1 false false 1 false true = 2) := Lib.hid (by decide)
  have HS : Hid (choS 1 false false 1 false true = true) := Lib.hid (by decide)
  go_enter Tryd.func5, Tryd.ntmps5
  go_wp2_with fail
  refine (choose_any _ _ _ _ _ _ _ _ _ _ _ _ _ (hT.out.below (al2 _ _ _) hT.out.1) 2 true HM.out HS.out).mono ?_
  rintro e w1 ⟨rfl, hb1⟩
  obtain ⟨hc1, hf1⟩ := bcell hb1
  obtain ⟨hz1, hz1'⟩ := sz2 hb1
  have hB1 := two hb1
  go_wp2_with fail
  refine (lives_any _ (hT.out.keep hB1)).mono ?_
  rintro e w2 ⟨rfl, hb2⟩
  obtain ⟨hc2, hf2⟩ := bcell hb2
  have hz2 : w.heap.size + 1 < w2.heap.size := by have := hb2.size; omega
  have hz2' : w.heap.size < w2.heap.size := by have := hb2.size; omega
  have hB2 := bthen hB1 hb2
  go_wp2_with fail
  try go_wp2
  go_ret
  refine ⟨rfl, ?_⟩
  first
    | exact hB2
    | exact hB2.trans ((((Below.refl _ _).alloc (Nat.le_refl _) _).alloc (by simp) _).mono hB2.size)

set_option maxHeartbeats 4000000 in
theorem strong_120 (b s t b' m' s' t' : Bool) (w : World) (hT : Hid (Tab w)) :
    Calls Tryd.prog 5 #[feat 1 false b true s t, feat 2 false b' m' s' t'] w fun e w' => e = .returned (.bool true) ∧ Below w.heap.size w w' := by
  have HM : Hid (choM 1 false true 2 false m' = 3) := Lib.hid (by simp [choM]; decide)
  have HS : Hid (choS 1 false true 2 false m' = true) := Lib.hid (by unfold choS; rw [HM.out]; rfl)
  go_enter Tryd.func5, Tryd.ntmps5
  go_wp2_with fail
  refine (choose_any _ _ _ _ _ _ _ _ _ _ _ _ _ (hT.out.below (al2 _ _ _) hT.out.1) 3 true HM.out HS.out).mono ?_
  rintro e w1 ⟨rfl, hb1⟩
  obtain ⟨hc1, hf1⟩ := bcell hb1
  obtain ⟨hz1, hz1'⟩ := sz2 hb1
  have hB1 := two hb1
  go_wp2_with fail
  refine (lives_any _ (hT.out.keep hB1)).mono ?_
  rintro e w2 ⟨rfl, hb2⟩
  obtain ⟨hc2, hf2⟩ := bcell hb2
  have hz2 : w.heap.size + 1 < w2.heap.size := by have := hb2.size; omega
  have hz2' : w.heap.size < w2.heap.size := by have := hb2.size; omega
  have hB2 := bthen hB1 hb2
  go_wp2_with fail
  try go_wp2
  go_ret
  refine ⟨rfl, ?_⟩
  first
    | exact hB2
    | exact hB2.trans ((((Below.refl _ _).alloc (Nat.le_refl _) _).alloc (by simp) _).mono hB2.size)

set_option maxHeartbeats 4000000 in
theorem strong_121 (b s t b' s' t' : Bool) (w : World) (hT : Hid (Tab w)) :
    Calls Tryd.prog 5 #[feat 1 false b false s t, feat 2 false b' true s' t'] w fun e w' => e = .returned (.bool true) ∧ Below w.heap.size w w' := by
  have HM : Hid (choM 1 false false 2 false true = 3) := Lib.hid (by decide)
  have HS : Hid (choS 1 false false 2 false true = true) := Lib.hid (by decide)
  go_enter Tryd.func5, Tryd.ntmps5
  go_wp2_with fail
  refine (choose_any _ _ _ _ _ _ _ _ _ _ _ _ _ (hT.out.below (al2 _ _ _) hT.out.1) 3 true HM.out HS.out).mono ?_
  rintro e w1 ⟨rfl, hb1⟩
  obtain ⟨hc1, hf1⟩ := bcell hb1
  obtain ⟨hz1, hz1'⟩ := sz2 hb1
  have hB1 := two hb1
  go_wp2_with fail
  refine (lives_any _ (hT.out.keep hB1)).mono ?_
  rintro e w2 ⟨rfl, hb2⟩
  obtain ⟨hc2, hf2⟩ := bcell hb2
  have hz2 : w.heap.size + 1 < w2.heap.size := by have := hb2.size; omega
  have hz2' : w.heap.size < w2.heap.size := by have := hb2.size; omega
  have hB2 := bthen hB1 hb2
  go_wp2_with fail
  try go_wp2
  go_ret
  refine ⟨rfl, ?_⟩
  first
    | exact hB2
    | exact hB2.trans ((((Below.refl _ _).alloc (Nat.le_refl _) _).alloc (by simp) _).mono hB2.size)

set_option maxHeartbeats 4000000 in
theorem strong_140 (b s t b' m' s' t' : Bool) (w : World) (hT : Hid (Tab w)) :
    Calls Tryd.prog 5 #[feat 1 false b true s t, feat 4 false b' m' s' t'] w fun e w' => e = .returned (.bool true) ∧ Below w.heap.size w w' := by
  have HM : Hid (choM 1 false true 4 false m' = 2) := Lib.hid (by simp [choM]; decide)
  have HS : Hid (choS 1 false true 4 false m' = true) := Lib.hid (by unfold choS; rw [HM.out]; rfl)
  go_enter Tryd.func5, Tryd.ntmps5
  go_wp2_with fail
  refine (choose_any _ _ _ _ _ _ _ _ _ _ _ _ _ (hT.out.below (al2 _ _ _) hT.out.1) 2 true HM.out HS.out).mono ?_
  rintro e w1 ⟨rfl, hb1⟩
  obtain ⟨hc1, hf1⟩ := bcell hb1
  obtain ⟨hz1, hz1'⟩ := sz2 hb1
  have hB1 := two hb1
  go_wp2_with fail
  refine (lives_any _ (hT.out.keep hB1)).mono ?_
  rintro e w2 ⟨rfl, hb2⟩
  obtain ⟨hc2, hf2⟩ := bcell hb2
  have hz2 : w.heap.size + 1 < w2.heap.size := by have := hb2.size; omega
  have hz2' : w.heap.size < w2.heap.size := by have := hb2.size; omega
  have hB2 := bthen hB1 hb2
  go_wp2_with fail
  try go_wp2
  go_ret
  refine ⟨rfl, ?_⟩
  first
    | exact hB2
    | exact hB2.trans ((((Below.refl _ _).alloc (Nat.le_refl _) _).alloc (by simp) _).mono hB2.size)

set_option maxHeartbeats 4000000 in
theorem strong_141 (b s t b' s' t' : Bool) (w : World) (hT : Hid (Tab w)) :
    Calls Tryd.prog 5 #[feat 1 false b false s t, feat 4 false b' true s' t'] w fun e w' => e = .returned (.bool true) ∧ Below w.heap.size w w' := by
  have HM : Hid (choM 1 false false 4 false true = 2) := Lib.hid (by decide)
  have HS : Hid (choS 1 false false 4 false true = true) := Lib.hid (by decide)
  go_enter Tryd.func5, Tryd.ntmps5
  go_wp2_with fail
  refine (choose_any _ _ _ _ _ _ _ _ _ _ _ _ _ (hT.out.below (al2 _ _ _) hT.out.1) 2 true HM.out HS.out).mono ?_
  rintro e w1 ⟨rfl, hb1⟩
  obtain ⟨hc1, hf1⟩ := bcell hb1
  obtain ⟨hz1, hz1'⟩ := sz2 hb1
  have hB1 := two hb1
  go_wp2_with fail
  refine (lives_any _ (hT.out.keep hB1)).mono ?_
  rintro e w2 ⟨rfl, hb2⟩
  obtain ⟨hc2, hf2⟩ := bcell hb2
  have hz2 : w.heap.size + 1 < w2.heap.size := by have := hb2.size; omega
  have hz2' : w.heap.size < w2.heap.size := by have := hb2.size; omega
  have hB2 := bthen hB1 hb2
  go_wp2_with fail
  try go_wp2
  go_ret
  refine ⟨rfl, ?_⟩
  first
    | exact hB2
    | exact hB2.trans ((((Below.refl _ _).alloc (Nat.le_refl _) _).alloc (by simp) _).mono hB2.size)

set_option maxHeartbeats 4000000 in
theorem strong_200 (b s t b' m' s' t' : Bool) (w : World) (hT : Hid (Tab w)) :
    Calls Tryd.prog 5 #[feat 2 false b true s t, feat 0 false b' m' s' t'] w fun e w' => e = .returned (.bool true) ∧ Below w.heap.size w w' := by
  have HM : Hid (choM 2 false true 0 false m' = 4) := Lib.hid (by simp [choM]; decide)
  have HS : Hid (choS 2 false true 0 false m' = true) := Lib.hid (by unfold choS; rw [HM.out]; rfl)
  go_enter Tryd.func5, Tryd.ntmps5
  go_wp2_with fail
  refine (choose_any _ _ _ _ _ _ _ _ _ _ _ _ _ (hT.out.below (al2 _ _ _) hT.out.1) 4 true HM.out HS.out).mono ?_
  rintro e w1 ⟨rfl, hb1⟩
  obtain ⟨hc1, hf1⟩ := bcell hb1
  obtain ⟨hz1, hz1'⟩ := sz2 hb1
  have hB1 := two hb1
  go_wp2_with fail
  refine (lives_any _ (hT.out.keep hB1)).mono ?_
  rintro e w2 ⟨rfl, hb2⟩
  obtain ⟨hc2, hf2⟩ := bcell hb2
  have hz2 : w.heap.size + 1 < w2.heap.size := by have := hb2.size; omega
  have hz2' : w.heap.size < w2.heap.size := by have := hb2.size; omega
  have hB2 := bthen hB1 hb2
  go_wp2_with fail
  try go_wp2
  go_ret
  refine ⟨rfl, ?_⟩
  first
    | exact hB2
    | exact hB2.trans ((((Below.refl _ _).alloc (Nat.le_refl _) _).alloc (by simp) _).mono hB2.size)

set_option maxHeartbeats 4000000 in
theorem strong_201 (b s t b' s' t' : Bool) (w : World) (hT : Hid (Tab w)) :
    Calls Tryd.prog 5 #[feat 2 false b false s t, feat 0 false b' true s' t'] w fun e w' => e = .returned (.bool true) ∧ Below w.heap.size w w' := by
  have HM : Hid (choM 2 false false 0 false true = 4) := Lib.hid (by decide)
  have HS : Hid (choS 2 false false 0 false true = true) := Lib.hid (by decide)
  go_enter Tryd.func5, Tryd.ntmps5
  go_wp2_with fail
  refine (choose_any _ _ _ _ _ _ _ _ _ _ _ _ _ (hT.out.below (al2 _ _ _) hT.out.1) 4 true HM.out HS.out).mono ?_
  rintro e w1 ⟨rfl, hb1⟩
  obtain ⟨hc1, hf1⟩ := bcell hb1
  obtain ⟨hz1, hz1'⟩ := sz2 hb1
  have hB1 := two hb1
  go_wp2_with fail
  refine (lives_any _ (hT.out.keep hB1)).mono ?_
  rintro e w2 ⟨rfl, hb2⟩
  obtain ⟨hc2, hf2⟩ := bcell hb2
  have hz2 : w.heap.size + 1 < w2.heap.size := by have := hb2.size; omega
  have hz2' : w.heap.size < w2.heap.size := by have := hb2.size; omega
  have hB2 := bthen hB1 hb2
  go_wp2_with fail
  try go_wp2
  go_ret
  refine ⟨rfl, ?_⟩
  first
    | exact hB2
    | exact hB2.trans ((((Below.refl _ _).alloc (Nat.le_refl _) _).alloc (by simp) _).mono hB2.size)

set_option maxHeartbeats 4000000 in
theorem strong_210 (b s t b' m' s' t' : Bool) (w : World) (hT : Hid (Tab w)) :
    Calls Tryd.prog 5 #[feat 2 false b true s t, feat 1 false b' m' s' t'] w fun e w' => e = .returned (.bool true) ∧ Below w.heap.size w w' := by
  have HM : Hid (choM 2 false true 1 false m' = 4) := Lib.hid (by simp [choM]; decide)
  have HS : Hid (choS 2 false true 1 false m' = true) := Lib.hid (by unfold choS; rw [HM.out]; rfl)
  go_enter Tryd.func5, Tryd.ntmps5
  go_wp2_with fail
  refine (choose_any _ _ _ _ _ _ _ _ _ _ _ _ _ (hT.out.below (al2 _ _ _) hT.out.1) 4 true HM.out HS.out).mono ?_
  rintro e w1 ⟨rfl, hb1⟩
  obtain ⟨hc1, hf1⟩ := bcell hb1
  obtain ⟨hz1, hz1'⟩ := sz2 hb1
  have hB1 := two hb1
  go_wp2_with fail
  refine (lives_any _ (hT.out.keep hB1)).mono ?_
  rintro e w2 ⟨rfl, hb2⟩
  obtain ⟨hc2, hf2⟩ := bcell hb2
  have hz2 : w.heap.size + 1 < w2.heap.size := by have := hb2.size; omega
  have hz2' : w.heap.size < w2.heap.size := by have := hb2.size; omega
  have hB2 := bthen hB1 hb2
  go_wp2_with fail
  try go_wp2
  go_ret
  refine ⟨rfl, ?_⟩
  first
    | exact hB2
    | exact hB2.trans ((((Below.refl _ _).alloc (Nat.le_refl _) _).alloc (by simp) _).mono hB2.size)

set_option maxHeartbeats 4000000 in
theorem strong_211 (b s t b' s' t' : Bool) (w : World) (hT : Hid (Tab w)) :
    Calls Tryd.prog 5 #[feat 2 false b false s t, feat 1 false b' true s' t'] w fun e w' => e = .returned (.bool true) ∧ Below w.heap.size w w' := by
  have HM : Hid (choM 2 false false 1 false true = 4) := Lib.hid (by decide)
  have HS : Hid (choS 2 false false 1 false true = true) := Lib.hid (by decide)
  go_enter Tryd.func5, Tryd.ntmps5
  go_wp2_with fail
  refine (choose_any _ _ _ _ _ _ _ _ _ _ _ _ _ (hT.out.below (al2 _ _ _) hT.out.1) 4 true HM.out HS.out).mono ?_
  rintro e w1 ⟨rfl, hb1⟩
  obtain ⟨hc1, hf1⟩ := bcell hb1
  obtain ⟨hz1, hz1'⟩ := sz2 hb1
  have hB1 := two hb1
  go_wp2_with fail
  refine (lives_any _ (hT.out.keep hB1)).mono ?_
  rintro e w2 ⟨rfl, hb2⟩
  obtain ⟨hc2, hf2⟩ := bcell hb2
  have hz2 : w.heap.size + 1 < w2.heap.size := by have := hb2.size; omega
  have hz2' : w.heap.size < w2.heap.size := by have := hb2.size; omega
  have hB2 := bthen hB1 hb2
  go_wp2_with fail
  try go_wp2
  go_ret
  refine ⟨rfl, ?_⟩
  first
    | exact hB2
    | exact hB2.trans ((((Below.refl _ _).alloc (Nat.le_refl _) _).alloc (by simp) _).mono hB2.size)

set_option maxHeartbeats 4000000 in
theorem strong_220 (b s t b' m' s' t' : Bool) (w : World) (hT : Hid (Tab w)) :
    Calls Tryd.prog 5 #[feat 2 false b true s t, feat 2 false b' m' s' t'] w fun e w' => e = .returned (.bool true) ∧ Below w.heap.size w w' := by
  have HM : Hid (choM 2 false true 2 false m' = 5) := Lib.hid (by simp [choM]; decide)
  have HS : Hid (choS 2 false true 2 false m' = true) := Lib.hid (by unfold choS; rw [HM.out]; rfl)
  go_enter Tryd.func5, Tryd.ntmps5
  go_wp2_with fail
  refine (choose_any _ _ _ _ _ _ _ _ _ _ _ _ _ (hT.out.below (al2 _ _ _) hT.out.1) 5 true HM.out HS.out).mono ?_
  rintro e w1 ⟨rfl, hb1⟩
  obtain ⟨hc1, hf1⟩ := bcell hb1
  obtain ⟨hz1, hz1'⟩ := sz2 hb1
  have hB1 := two hb1
  go_wp2_with fail
  refine (lives_any _ (hT.out.keep hB1)).mono ?_
  rintro e w2 ⟨rfl, hb2⟩
  obtain ⟨hc2, hf2⟩ := bcell hb2
  have hz2 : w.heap.size + 1 < w2.heap.size := by have := hb2.size; omega
  have hz2' : w.heap.size < w2.heap.size := by have := hb2.size; omega
  have hB2 := bthen hB1 hb2
  go_wp2_with fail
  try go_wp2
  go_ret
  refine ⟨rfl, ?_⟩
  first
    | exact hB2
    | exact hB2.trans ((((Below.refl _ _).alloc (Nat.le_refl _) _).alloc (by simp) _).mono hB2.size)

set_option maxHeartbeats 4000000 in
theorem strong_221 (b s t b' s' t' : Bool) (w : World) (hT : Hid (Tab w)) :
    Calls Tryd.prog 5 #[feat 2 false b false s t, feat 2 false b' true s' t'] w fun e w' => e = .returned (.bool true) ∧ Below w.heap.size w w' := by
  have HM : Hid (choM 2 false false 2 false true = 5) := Lib.hid (by decide)
  have HS : Hid (choS 2 false false 2 false true = true) := Lib.hid (by decide)
  go_enter Tryd.func5, Tryd.ntmps5
  go_wp2_with fail
  refine (choose_any _ _ _ _ _ _ _ _ _ _ _ _ _ (hT.out.below (al2 _ _ _) hT.out.1) 5 true HM.out HS.out).mono ?_
  rintro e w1 ⟨rfl, hb1⟩
  obtain ⟨hc1, hf1⟩ := bcell hb1
  obtain ⟨hz1, hz1'⟩ := sz2 hb1
  have hB1 := two hb1
  go_wp2_with fail
  refine (lives_any _ (hT.out.keep hB1)).mono ?_
  rintro e w2 ⟨rfl, hb2⟩
  obtain ⟨hc2, hf2⟩ := bcell hb2
  have hz2 : w.heap.size + 1 < w2.heap.size := by have := hb2.size; omega
  have hz2' : w.heap.size < w2.heap.size := by have := hb2.size; omega
  have hB2 := bthen hB1 hb2
  go_wp2_with fail
  try go_wp2
  go_ret
  refine ⟨rfl, ?_⟩
  first
    | exact hB2
    | exact hB2.trans ((((Below.refl _ _).alloc (Nat.le_refl _) _).alloc (by simp) _).mono hB2.size)

set_option maxHeartbeats 4000000 in
theorem strong_240 (b s t b' m' s' t' : Bool) (w : World) (hT : Hid (Tab w)) :
    Calls Tryd.prog 5 #[feat 2 false b true s t, feat 4 false b' m' s' t'] w fun e w' => e = .returned (.bool true) ∧ Below w.heap.size w w' := by
  have HM : Hid (choM 2 false true 4 false m' = 4) := Lib.hid (by simp [choM]; decide)
  have HS : Hid (choS 2 false true 4 false m' = true) := Lib.hid (by unfold choS; rw [HM.out]; rfl)
  go_enter Tryd.func5, Tryd.ntmps5
  go_wp2_with fail
  refine (choose_any _ _ _ _ _ _ _ _ _ _ _ _ _ (hT.out.below (al2 _ _ _) hT.out.1) 4 true HM.out HS.out).mono ?_
  rintro e w1 ⟨rfl, hb1⟩
  obtain ⟨hc1, hf1⟩ := bcell hb1
  obtain ⟨hz1, hz1'⟩ := sz2 hb1
  have hB1 := two hb1
  go_wp2_with fail
  refine (lives_any _ (hT.out.keep hB1)).mono ?_
  rintro e w2 ⟨rfl, hb2⟩
  obtain ⟨hc2, hf2⟩ := bcell hb2
  have hz2 : w.heap.size + 1 < w2.heap.size := by have := hb2.size; omega
  have hz2' : w.heap.size < w2.heap.size := by have := hb2.size; omega
  have hB2 := bthen hB1 hb2
  go_wp2_with fail
  try go_wp2
  go_ret
  refine ⟨rfl, ?_⟩
  first
    | exact hB2
    | exact hB2.trans ((((Below.refl _ _).alloc (Nat.le_refl _) _).alloc (by simp) _).mono hB2.size)

set_option maxHeartbeats 4000000 in
theorem strong_241 (b s t b' s' t' : Bool) (w : World) (hT : Hid (Tab w)) :
    Calls Tryd.prog 5 #[feat 2 false b false s t, feat 4 false b' true s' t'] w fun e w' => e = .returned (.bool true) ∧ Below w.heap.size w w' := by
  have HM : Hid (choM 2 false false 4 false true = 4) := Lib.hid (by decide)
  have HS : Hid (choS 2 false false 4 false true = true) := Lib.hid (by decide)
  go_enter Tryd.func5, Tryd.ntmps5
  go_wp2_with fail
  refine (choose_any _ _ _ _ _ _ _ _ _ _ _ _ _ (hT.out.below (al2 _ _ _) hT.out.1) 4 true HM.out HS.out).mono ?_
  rintro e w1 ⟨rfl, hb1⟩
  obtain ⟨hc1, hf1⟩ := bcell hb1
  obtain ⟨hz1, hz1'⟩ := sz2 hb1
  have hB1 := two hb1
  go_wp2_with fail
  refine (lives_any _ (hT.out.keep hB1)).mono ?_
  rintro e w2 ⟨rfl, hb2⟩
  obtain ⟨hc2, hf2⟩ := bcell hb2
  have hz2 : w.heap.size + 1 < w2.heap.size := by have := hb2.size; omega
  have hz2' : w.heap.size < w2.heap.size := by have := hb2.size; omega
  have hB2 := bthen hB1 hb2
  go_wp2_with fail
  try go_wp2
  go_ret
  refine ⟨rfl, ?_⟩
  first
    | exact hB2
    | exact hB2.trans ((((Below.refl _ _).alloc (Nat.le_refl _) _).alloc (by simp) _).mono hB2.size)

set_option maxHeartbeats 4000000 in
theorem strong_400 (b s t b' m' s' t' : Bool) (w : World) (hT : Hid (Tab w)) :
    Calls Tryd.prog 5 #[feat 4 false b true s t, feat 0 false b' m' s' t'] w fun e w' => e = .returned (.bool true) ∧ Below w.heap.size w w' := by
  have HM : Hid (choM 4 false true 0 false m' = 4) := Lib.hid (by simp [choM]; decide)
  have HS : Hid (choS 4 false true 0 false m' = true) := Lib.hid (by unfold choS; rw [HM.out]; rfl)
  go_enter Tryd.func5, Tryd.ntmps5
  go_wp2_with fail
  refine (choose_any _ _ _ _ _ _ _ _ _ _ _ _ _ (hT.out.below (al2 _ _ _) hT.out.1) 4 true HM.out HS.out).mono ?_
  rintro e w1 ⟨rfl, hb1⟩
  obtain ⟨hc1, hf1⟩ := bcell hb1
  obtain ⟨hz1, hz1'⟩ := sz2 hb1
  have hB1 := two hb1
  go_wp2_with fail
  refine (lives_any _ (hT.out.keep hB1)).mono ?_
  rintro e w2 ⟨rfl, hb2⟩
  obtain ⟨hc2, hf2⟩ := bcell hb2
  have hz2 : w.heap.size + 1 < w2.heap.size := by have := hb2.size; omega
  have hz2' : w.heap.size < w2.heap.size := by have := hb2.size; omega
  have hB2 := bthen hB1 hb2
  go_wp2_with fail
  try go_wp2
  go_ret
  refine ⟨rfl, ?_⟩
  first
    | exact hB2
    | exact hB2.trans ((((Below.refl _ _).alloc (Nat.le_refl _) _).alloc (by simp) _).mono hB2.size)

set_option maxHeartbeats 4000000 in
theorem strong_401 (b s t b' s' t' : Bool) (w : World) (hT : Hid (Tab w)) :
    Calls Tryd.prog 5 #[feat 4 false b false s t, feat 0 false b' true s' t'] w fun e w' => e = .returned (.bool true) ∧ Below w.heap.size w w' := by
  have HM : Hid (choM 4 false false 0 false true = 4) := Lib.hid (by decide)
  have HS : Hid (choS 4 false false 0 false true = true) := Lib.hid (by decide)
  go_enter Tryd.func5, Tryd.ntmps5
  go_wp2_with fail
  refine (choose_any _ _ _ _ _ _ _ _ _ _ _ _ _ (hT.out.below (al2 _ _ _) hT.out.1) 4 true HM.out HS.out).mono ?_
  rintro e w1 ⟨rfl, hb1⟩
  obtain ⟨hc1, hf1⟩ := bcell hb1
  obtain ⟨hz1, hz1'⟩ := sz2 hb1
  have hB1 := two hb1
  go_wp2_with fail
  refine (lives_any _ (hT.out.keep hB1)).mono ?_
  rintro e w2 ⟨rfl, hb2⟩
  obtain ⟨hc2, hf2⟩ := bcell hb2
  have hz2 : w.heap.size + 1 < w2.heap.size := by have := hb2.size; omega
  have hz2' : w.heap.size < w2.heap.size := by have := hb2.size; omega
  have hB2 := bthen hB1 hb2
  go_wp2_with fail
  try go_wp2
  go_ret
  refine ⟨rfl, ?_⟩
  first
    | exact hB2
    | exact hB2.trans ((((Below.refl _ _).alloc (Nat.le_refl _) _).alloc (by simp) _).mono hB2.size)

set_option maxHeartbeats 4000000 in
theorem strong_410 (b s t b' m' s' t' : Bool) (w : World) (hT : Hid (Tab w)) :
    Calls Tryd.prog 5 #[feat 4 false b true s t, feat 1 false b' m' s' t'] w fun e w' => e = .returned (.bool true) ∧ Below w.heap.size w w' := by
  have HM : Hid (choM 4 false true 1 false m' = 2) := Lib.hid (by simp [choM]; decide)
  have HS : Hid (choS 4 false true 1 false m' = true) := Lib.hid (by unfold choS; rw [HM.out]; rfl)
  go_enter Tryd.func5, Tryd.ntmps5
  go_wp2_with fail
  refine (choose_any _ _ _ _ _ _ _ _ _ _ _ _ _ (hT.out.below (al2 _ _ _) hT.out.1) 2 true HM.out HS.out).mono ?_
  rintro e w1 ⟨rfl, hb1⟩
  obtain ⟨hc1, hf1⟩ := bcell hb1
  obtain ⟨hz1, hz1'⟩ := sz2 hb1
  have hB1 := two hb1
  go_wp2_with fail
  refine (lives_any _ (hT.out.keep hB1)).mono ?_
  rintro e w2 ⟨rfl, hb2⟩
  obtain ⟨hc2, hf2⟩ := bcell hb2
  have hz2 : w.heap.size + 1 < w2.heap.size := by have := hb2.size; omega
  have hz2' : w.heap.size < w2.heap.size := by have := hb2.size; omega
  have hB2 := bthen hB1 hb2
  go_wp2_with fail
  try go_wp2
  go_ret
  refine ⟨rfl, ?_⟩
  first
    | exact hB2
    | exact hB2.trans ((((Below.refl _ _).alloc (Nat.le_refl _) _).alloc (by simp) _).mono hB2.size)

set_option maxHeartbeats 4000000 in
theorem strong_411 (b s t b' s' t' : Bool) (w : World) (hT : Hid (Tab w)) :
    Calls Tryd.prog 5 #[feat 4 false b false s t, feat 1 false b' true s' t'] w fun e w' => e = .returned (.bool true) ∧ Below w.heap.size w w' := by
  have HM : Hid (choM 4 false false 1 false true = 2) := Lib.hid (by decide)
  have HS : Hid (choS 4 false false 1 false true = true) := Lib.hid (by decide)
  go_enter Tryd.func5, Tryd.ntmps5
  go_wp2_with fail
  refine (choose_any _ _ _ _ _ _ _ _ _ _ _ _ _ (hT.out.below (al2 _ _ _) hT.out.1) 2 true HM.out HS.out).mono ?_
  rintro e w1 ⟨rfl, hb1⟩
  obtain ⟨hc1, hf1⟩ := bcell hb1
  obtain ⟨hz1, hz1'⟩ := sz2 hb1
  have hB1 := two hb1
  go_wp2_with fail
  refine (lives_any _ (hT.out.keep hB1)).mono ?_
  rintro e w2 ⟨rfl, hb2⟩
  obtain ⟨hc2, hf2⟩ := bcell hb2
  have hz2 : w.heap.size + 1 < w2.heap.size := by have := hb2.size; omega
  have hz2' : w.heap.size < w2.heap.size := by have := hb2.size; omega
  have hB2 := bthen hB1 hb2
  go_wp2_with fail
  try go_wp2
  go_ret
  refine ⟨rfl, ?_⟩
  first
    | exact hB2
    | exact hB2.trans ((((Below.refl _ _).alloc (Nat.le_refl _) _).alloc (by simp) _).mono hB2.size)

set_option maxHeartbeats 4000000 in
theorem strong_420 (b s t b' m' s' t' : Bool) (w : World) (hT : Hid (Tab w)) :
    Calls Tryd.prog 5 #[feat 4 false b true s t, feat 2 false b' m' s' t'] w fun e w' => e = .returned (.bool true) ∧ Below w.heap.size w w' := by
  have HM : Hid (choM 4 false true 2 false m' = 3) := Lib.hid (by simp [choM]; decide)
  have HS : Hid (choS 4 false true 2 false m' = true) := Lib.hid (by unfold choS; rw [HM.out]; rfl)
  go_enter Tryd.func5, Tryd.ntmps5
  go_wp2_with fail
  refine (choose_any _ _ _ _ _ _ _ _ _ _ _ _ _ (hT.out.below (al2 _ _ _) hT.out.1) 3 true HM.out HS.out).mono ?_
  rintro e w1 ⟨rfl, hb1⟩
  obtain ⟨hc1, hf1⟩ := bcell hb1
  obtain ⟨hz1, hz1'⟩ := sz2 hb1
  have hB1 := two hb1
  go_wp2_with fail
  refine (lives_any _ (hT.out.keep hB1)).mono ?_
  rintro e w2 ⟨rfl, hb2⟩
  obtain ⟨hc2, hf2⟩ := bcell hb2
  have hz2 : w.heap.size + 1 < w2.heap.size := by have := hb2.size; omega
  have hz2' : w.heap.size < w2.heap.size := by have := hb2.size; omega
  have hB2 := bthen hB1 hb2
  go_wp2_with fail
  try go_wp2
  go_ret
  refine ⟨rfl, ?_⟩
  first
    | exact hB2
    | exact hB2.trans ((((Below.refl _ _).alloc (Nat.le_refl _) _).alloc (by simp) _).mono hB2.size)

set_option maxHeartbeats 4000000 in
theorem strong_421 (b s t b' s' t' : Bool) (w : World) (hT : Hid (Tab w)) :
    Calls Tryd.prog 5 #[feat 4 false b false s t, feat 2 false b' true s' t'] w fun e w' => e = .returned (.bool true) ∧ Below w.heap.size w w' := by
  have HM : Hid (choM 4 false false 2 false true = 3) := Lib.hid (by decide)
  have HS : Hid (choS 4 false false 2 false true = true) := Lib.hid (by decide)
  go_enter Tryd.func5, Tryd.ntmps5
  go_wp2_with fail
  refine (choose_any _ _ _ _ _ _ _ _ _ _ _ _ _ (hT.out.below (al2 _ _ _) hT.out.1) 3 true HM.out HS.out).mono ?_
  rintro e w1 ⟨rfl, hb1⟩
  obtain ⟨hc1, hf1⟩ := bcell hb1
  obtain ⟨hz1, hz1'⟩ := sz2 hb1
  have hB1 := two hb1
  go_wp2_with fail
  refine (lives_any _ (hT.out.keep hB1)).mono ?_
  rintro e w2 ⟨rfl, hb2⟩
  obtain ⟨hc2, hf2⟩ := bcell hb2
  have hz2 : w.heap.size + 1 < w2.heap.size := by have := hb2.size; omega
  have hz2' : w.heap.size < w2.heap.size := by have := hb2.size; omega
  have hB2 := bthen hB1 hb2
  go_wp2_with fail
  try go_wp2
  go_ret
  refine ⟨rfl, ?_⟩
  first
    | exact hB2
    | exact hB2.trans ((((Below.refl _ _).alloc (Nat.le_refl _) _).alloc (by simp) _).mono hB2.size)

set_option maxHeartbeats 4000000 in
theorem strong_440 (b s t b' m' s' t' : Bool) (w : World) (hT : Hid (Tab w)) :
    Calls Tryd.prog 5 #[feat 4 false b true s t, feat 4 false b' m' s' t'] w fun e w' => e = .returned (.bool true) ∧ Below w.heap.size w w' := by
  have HM : Hid (choM 4 false true 4 false m' = 2) := Lib.hid (by simp [choM]; decide)
  have HS : Hid (choS 4 false true 4 false m' = true) := Lib.hid (by unfold choS; rw [HM.out]; rfl)
  go_enter Tryd.func5, Tryd.ntmps5
  go_wp2_with fail
  refine (choose_any _ _ _ _ _ _ _ _ _ _ _ _ _ (hT.out.below (al2 _ _ _) hT.out.1) 2 true HM.out HS.out).mono ?_
  rintro e w1 ⟨rfl, hb1⟩
  obtain ⟨hc1, hf1⟩ := bcell hb1
  obtain ⟨hz1, hz1'⟩ := sz2 hb1
  have hB1 := two hb1
  go_wp2_with fail
  refine (lives_any _ (hT.out.keep hB1)).mono ?_
  rintro e w2 ⟨rfl, hb2⟩
  obtain ⟨hc2, hf2⟩ := bcell hb2
  have hz2 : w.heap.size + 1 < w2.heap.size := by have := hb2.size; omega
  have hz2' : w.heap.size < w2.heap.size := by have := hb2.size; omega
  have hB2 := bthen hB1 hb2
  go_wp2_with fail
  try go_wp2
  go_ret
  refine ⟨rfl, ?_⟩
  first
    | exact hB2
    | exact hB2.trans ((((Below.refl _ _).alloc (Nat.le_refl _) _).alloc (by simp) _).mono hB2.size)

set_option maxHeartbeats 4000000 in
theorem strong_441 (b s t b' s' t' : Bool) (w : World) (hT : Hid (Tab w)) :
    Calls Tryd.prog 5 #[feat 4 false b false s t, feat 4 false b' true s' t'] w fun e w' => e = .returned (.bool true) ∧ Below w.heap.size w w' := by
  have HM : Hid (choM 4 false false 4 false true = 2) := Lib.hid (by decide)
  have HS : Hid (choS 4 false false 4 false true = true) := Lib.hid (by decide)
  go_enter Tryd.func5, Tryd.ntmps5
  go_wp2_with fail
  refine (choose_any _ _ _ _ _ _ _ _ _ _ _ _ _ (hT.out.below (al2 _ _ _) hT.out.1) 2 true HM.out HS.out).mono ?_
  rintro e w1 ⟨rfl, hb1⟩
  obtain ⟨hc1, hf1⟩ := bcell hb1
  obtain ⟨hz1, hz1'⟩ := sz2 hb1
  have hB1 := two hb1
  go_wp2_with fail
  refine (lives_any _ (hT.out.keep hB1)).mono ?_
  rintro e w2 ⟨rfl, hb2⟩
  obtain ⟨hc2, hf2⟩ := bcell hb2
  have hz2 : w.heap.size + 1 < w2.heap.size := by have := hb2.size; omega
  have hz2' : w.heap.size < w2.heap.size := by have := hb2.size; omega
  have hB2 := bthen hB1 hb2
  go_wp2_with fail
  try go_wp2
  go_ret
  refine ⟨rfl, ?_⟩
  first
    | exact hB2
    | exact hB2.trans ((((Below.refl _ _).alloc (Nat.le_refl _) _).alloc (by simp) _).mono hB2.size)

theorem methodStrong_walk (i j : Int) (o b m s t o' b' m' s' t' : Bool) (w : World) (hT0 : Tab w) :
    Calls Tryd.prog 5 #[feat i o b m s t, feat j o' b' m' s' t'] w fun e w' => e = .returned (.bool true) ∧ Below w.heap.size w w' := by
  have hT := Lib.hid hT0
  by_cases hi : i < 0 ∨ 5 ≤ i
  · exact strong_bad1 i j o b m s t o' b' m' s' t' w hT hi
  by_cases hj : j < 0 ∨ 5 ≤ j
  · exact strong_bad2 i j o b m s t o' b' m' s' t' w hT (by omega) (by omega) hj
  by_cases ho : (o || o') = true
  · exact strong_oob i j o b m s t o' b' m' s' t' w hT (by omega) (by omega) (by omega) (by omega) ho
  obtain ⟨rfl, rfl⟩ : o = false ∧ o' = false := by cases o <;> cases o' <;> simp_all
  by_cases h1 : choM i false m j false m' = 1
  · exact strong_just i j b m s t b' m' s' t' w hT (by omega) (by omega) (by omega) (by omega) h1
  have hm : ¬ (m || m') = false := fun e => h1 (by unfold choM; rw [if_neg (by omega), if_neg (by simp), if_pos e])
  have ht : ¬ tab i j = 1 := fun e => h1 (by unfold choM; rw [if_neg (by omega), if_neg (by simp), if_neg hm, e])
  clear h1
  obtain rfl | rfl | rfl | rfl | rfl : i = 0 ∨ i = 1 ∨ i = 2 ∨ i = 3 ∨ i = 4 := by omega
  · obtain rfl | rfl | rfl | rfl | rfl : j = 0 ∨ j = 1 ∨ j = 2 ∨ j = 3 ∨ j = 4 := by omega
    · exact (ht (by decide)).elim
    · exact (ht (by decide)).elim
    · cases m
      · obtain rfl : m' = true := by simpa using hm
        exact strong_021 b s t b' s' t' w hT
      · exact strong_020 b s t b' m' s' t' w hT
    · exact (ht (by decide)).elim
    · cases m
      · obtain rfl : m' = true := by simpa using hm
        exact strong_041 b s t b' s' t' w hT
      · exact strong_040 b s t b' m' s' t' w hT
  · obtain rfl | rfl | rfl | rfl | rfl : j = 0 ∨ j = 1 ∨ j = 2 ∨ j = 3 ∨ j = 4 := by omega
    · exact (ht (by decide)).elim
    · cases m
      · obtain rfl : m' = true := by simpa using hm
        exact strong_111 b s t b' s' t' w hT
      · exact strong_110 b s t b' m' s' t' w hT
    · cases m
      · obtain rfl : m' = true := by simpa using hm
        exact strong_121 b s t b' s' t' w hT
      · exact strong_120 b s t b' m' s' t' w hT
    · exact (ht (by decide)).elim
    · cases m
      · obtain rfl : m' = true := by simpa using hm
        exact strong_141 b s t b' s' t' w hT
      · exact strong_140 b s t b' m' s' t' w hT
  · obtain rfl | rfl | rfl | rfl | rfl : j = 0 ∨ j = 1 ∨ j = 2 ∨ j = 3 ∨ j = 4 := by omega
    · cases m
      · obtain rfl : m' = true := by simpa using hm
        exact strong_201 b s t b' s' t' w hT
      · exact strong_200 b s t b' m' s' t' w hT
    · cases m
      · obtain rfl : m' = true := by simpa using hm
        exact strong_211 b s t b' s' t' w hT
      · exact strong_210 b s t b' m' s' t' w hT
    · cases m
      · obtain rfl : m' = true := by simpa using hm
        exact strong_221 b s t b' s' t' w hT
      · exact strong_220 b s t b' m' s' t' w hT
    · exact (ht (by decide)).elim
    · cases m
      · obtain rfl : m' = true := by simpa using hm
        exact strong_241 b s t b' s' t' w hT
      · exact strong_240 b s t b' m' s' t' w hT
  · obtain rfl | rfl | rfl | rfl | rfl : j = 0 ∨ j = 1 ∨ j = 2 ∨ j = 3 ∨ j = 4 := by omega
    · exact (ht (by decide)).elim
    · exact (ht (by decide)).elim
    · exact (ht (by decide)).elim
    · exact (ht (by decide)).elim
    · exact (ht (by decide)).elim
  · obtain rfl | rfl | rfl | rfl | rfl : j = 0 ∨ j = 1 ∨ j = 2 ∨ j = 3 ∨ j = 4 := by omega
    · cases m
      · obtain rfl : m' = true := by simpa using hm
        exact strong_401 b s t b' s' t' w hT
      · exact strong_400 b s t b' m' s' t' w hT
    · cases m
      · obtain rfl : m' = true := by simpa using hm
        exact strong_411 b s t b' s' t' w hT
      · exact strong_410 b s t b' m' s' t' w hT
    · cases m
      · obtain rfl : m' = true := by simpa using hm
        exact strong_421 b s t b' s' t' w hT
      · exact strong_420 b s t b' m' s' t' w hT
    · exact (ht (by decide)).elim
    · cases m
      · obtain rfl : m' = true := by simpa using hm
        exact strong_441 b s t b' s' t' w hT
      · exact strong_440 b s t b' m' s' t' w hT
end Go.Proofs.YtjnjafkfemaaeaaDoor
