/- The walks of the reference's Choose and Enough, and of Identities on both sides: what each call returns for any features; nothing that was there before is changed. -/
import Derived.Test.YtjnjafkfemaaeaaDoorW3
namespace Go.Proofs.YtjnjafkfemaaeaaDoor
open Go.RowKit

set_option maxHeartbeats 1000000 in
theorem refchoose_bad1 (i j : Int) (o b m s t o' b' m' s' t' : Bool) (w : World) (hi : i < 0 ∨ 5 ≤ i) :
    Calls Tryd.prog 13 #[feat i o b m s t, feat j o' b' m' s' t'] w fun e w' => e = .returned (.tuple #[.int .i64 0, .bool false]) ∧ Below w.heap.size w w' := by
  go_enter Tryd.func13, Tryd.ntmps13
  go_wp2_with fail
  refine (refcheck_bad _ _ _ _ _ _ _ hi).mono ?_
  rintro e w1 ⟨rfl, hb1⟩
  go_wp2_with fail
  go_ret2
  exact ⟨rfl, two hb1⟩

set_option maxHeartbeats 1000000 in
theorem refchoose_bad2 (i j : Int) (o b m s t o' b' m' s' t' : Bool) (w : World) (h0 : 0 ≤ i) (h1 : i < 5) (hj : j < 0 ∨ 5 ≤ j) :
    Calls Tryd.prog 13 #[feat i o b m s t, feat j o' b' m' s' t'] w fun e w' => e = .returned (.tuple #[.int .i64 0, .bool false]) ∧ Below w.heap.size w w' := by
  go_enter Tryd.func13, Tryd.ntmps13
  go_wp2_with fail
  refine (refcheck_ok _ _ _ _ _ _ _ h0 h1).mono ?_
  rintro e w1 ⟨rfl, hb1⟩
  obtain ⟨hc1, hf1⟩ := bcell hb1
  obtain ⟨hz1, hz1'⟩ := sz2 hb1
  go_wp2_with fail
  refine (refcheck_bad _ _ _ _ _ _ _ hj).mono ?_
  rintro e w2 ⟨rfl, hb2⟩
  go_wp2_with fail
  go_ret2
  exact ⟨rfl, bthen (two hb1) hb2⟩

set_option maxHeartbeats 1000000 in
theorem refchoose_oob1 (i j : Int) (b m s t o' b' m' s' t' : Bool) (w : World) (h0 : 0 ≤ i) (h1 : i < 5) (h2 : 0 ≤ j) (h3 : j < 5) :
    Calls Tryd.prog 13 #[feat i true b m s t, feat j o' b' m' s' t'] w fun e w' => e = .returned (.tuple #[.int .i64 6, .bool true]) ∧ Below w.heap.size w w' := by
  go_enter Tryd.func13, Tryd.ntmps13
  go_wp2_with fail
  refine (refcheck_ok _ _ _ _ _ _ _ h0 h1).mono ?_
  rintro e w1 ⟨rfl, hb1⟩
  obtain ⟨hc1, hf1⟩ := bcell hb1
  obtain ⟨hz1, hz1'⟩ := sz2 hb1
  go_wp2_with fail
  refine (refcheck_ok _ _ _ _ _ _ _ h2 h3).mono ?_
  rintro e w2 ⟨rfl, hb2⟩
  obtain ⟨hc2, hf2⟩ := bcell hb2
  have hz2 := hb2.size
  go_wp2
  go_ret2
  exact ⟨rfl, bthen (two hb1) hb2⟩

set_option maxHeartbeats 1000000 in
theorem refchoose_oob2 (i j : Int) (b m s t b' m' s' t' : Bool) (w : World) (h0 : 0 ≤ i) (h1 : i < 5) (h2 : 0 ≤ j) (h3 : j < 5) :
    Calls Tryd.prog 13 #[feat i false b m s t, feat j true b' m' s' t'] w fun e w' => e = .returned (.tuple #[.int .i64 6, .bool true]) ∧ Below w.heap.size w w' := by
  go_enter Tryd.func13, Tryd.ntmps13
  go_wp2_with fail
  refine (refcheck_ok _ _ _ _ _ _ _ h0 h1).mono ?_
  rintro e w1 ⟨rfl, hb1⟩
  obtain ⟨hc1, hf1⟩ := bcell hb1
  obtain ⟨hz1, hz1'⟩ := sz2 hb1
  go_wp2_with fail
  refine (refcheck_ok _ _ _ _ _ _ _ h2 h3).mono ?_
  rintro e w2 ⟨rfl, hb2⟩
  obtain ⟨hc2, hf2⟩ := bcell hb2
  have hz2 := hb2.size
  go_wp2
  go_ret2
  exact ⟨rfl, bthen (two hb1) hb2⟩

set_option maxHeartbeats 1000000 in
theorem refchoose_just (i j : Int) (b s t b' s' t' : Bool) (w : World) (h0 : 0 ≤ i) (h1 : i < 5) (h2 : 0 ≤ j) (h3 : j < 5) :
    Calls Tryd.prog 13 #[feat i false b false s t, feat j false b' false s' t'] w fun e w' => e = .returned (.tuple #[.int .i64 1, .bool false]) ∧ Below w.heap.size w w' := by
  go_enter Tryd.func13, Tryd.ntmps13
  go_wp2_with fail
  refine (refcheck_ok _ _ _ _ _ _ _ h0 h1).mono ?_
  rintro e w1 ⟨rfl, hb1⟩
  obtain ⟨hc1, hf1⟩ := bcell hb1
  obtain ⟨hz1, hz1'⟩ := sz2 hb1
  go_wp2_with fail
  refine (refcheck_ok _ _ _ _ _ _ _ h2 h3).mono ?_
  rintro e w2 ⟨rfl, hb2⟩
  obtain ⟨hc2, hf2⟩ := bcell hb2
  have hz2 := hb2.size
  go_wp2
  go_ret2
  exact ⟨rfl, bthen (two hb1) hb2⟩

set_option maxHeartbeats 4000000 in
theorem refchoose_0_0 (j : Int) (b s t b' m' s' t' : Bool) (w : World) (h2 : 0 ≤ j) (h3 : j < 5) :
    Calls Tryd.prog 13 #[feat 0 false b true s t, feat j false b' m' s' t'] w fun e w' => e = .returned (.tuple #[.int .i64 (tab 0 j), .bool (tab 0 j != 1)]) ∧ Below w.heap.size w w' := by
  obtain rfl | rfl | rfl | rfl | rfl : j = 0 ∨ j = 1 ∨ j = 2 ∨ j = 3 ∨ j = 4 := by omega
  · go_enter Tryd.func13, Tryd.ntmps13
    go_wp2_with fail
    refine (refcheck_ok _ _ _ _ _ _ _ (by omega) (by omega)).mono ?_
    rintro e w1 ⟨rfl, hb1⟩
    obtain ⟨hc1, hf1⟩ := bcell hb1
    obtain ⟨hz1, hz1'⟩ := sz2 hb1
    go_wp2_with fail
    refine (refcheck_ok _ _ _ _ _ _ _ (by omega) (by omega)).mono ?_
    rintro e w2 ⟨rfl, hb2⟩
    obtain ⟨hc2, hf2⟩ := bcell hb2
    have hz2 := hb2.size
    go_wp2
    go_ret2
    exact ⟨rfl, bthen (two hb1) hb2⟩
  · go_enter Tryd.func13, Tryd.ntmps13
    go_wp2_with fail
    refine (refcheck_ok _ _ _ _ _ _ _ (by omega) (by omega)).mono ?_
    rintro e w1 ⟨rfl, hb1⟩
    obtain ⟨hc1, hf1⟩ := bcell hb1
    obtain ⟨hz1, hz1'⟩ := sz2 hb1
    go_wp2_with fail
    refine (refcheck_ok _ _ _ _ _ _ _ (by omega) (by omega)).mono ?_
    rintro e w2 ⟨rfl, hb2⟩
    obtain ⟨hc2, hf2⟩ := bcell hb2
    have hz2 := hb2.size
    go_wp2
    go_ret2
    exact ⟨rfl, bthen (two hb1) hb2⟩
  · go_enter Tryd.func13, Tryd.ntmps13
    go_wp2_with fail
    refine (refcheck_ok _ _ _ _ _ _ _ (by omega) (by omega)).mono ?_
    rintro e w1 ⟨rfl, hb1⟩
    obtain ⟨hc1, hf1⟩ := bcell hb1
    obtain ⟨hz1, hz1'⟩ := sz2 hb1
    go_wp2_with fail
    refine (refcheck_ok _ _ _ _ _ _ _ (by omega) (by omega)).mono ?_
    rintro e w2 ⟨rfl, hb2⟩
    obtain ⟨hc2, hf2⟩ := bcell hb2
    have hz2 := hb2.size
    go_wp2
    go_ret2
    exact ⟨rfl, bthen (two hb1) hb2⟩
  · go_enter Tryd.func13, Tryd.ntmps13
    go_wp2_with fail
    refine (refcheck_ok _ _ _ _ _ _ _ (by omega) (by omega)).mono ?_
    rintro e w1 ⟨rfl, hb1⟩
    obtain ⟨hc1, hf1⟩ := bcell hb1
    obtain ⟨hz1, hz1'⟩ := sz2 hb1
    go_wp2_with fail
    refine (refcheck_ok _ _ _ _ _ _ _ (by omega) (by omega)).mono ?_
    rintro e w2 ⟨rfl, hb2⟩
    obtain ⟨hc2, hf2⟩ := bcell hb2
    have hz2 := hb2.size
    go_wp2
    go_ret2
    exact ⟨rfl, bthen (two hb1) hb2⟩
  · go_enter Tryd.func13, Tryd.ntmps13
    go_wp2_with fail
    refine (refcheck_ok _ _ _ _ _ _ _ (by omega) (by omega)).mono ?_
    rintro e w1 ⟨rfl, hb1⟩
    obtain ⟨hc1, hf1⟩ := bcell hb1
    obtain ⟨hz1, hz1'⟩ := sz2 hb1
    go_wp2_with fail
    refine (refcheck_ok _ _ _ _ _ _ _ (by omega) (by omega)).mono ?_
    rintro e w2 ⟨rfl, hb2⟩
    obtain ⟨hc2, hf2⟩ := bcell hb2
    have hz2 := hb2.size
    go_wp2
    go_ret2
    exact ⟨rfl, bthen (two hb1) hb2⟩

set_option maxHeartbeats 4000000 in
theorem refchoose_0_1 (j : Int) (b s t b' s' t' : Bool) (w : World) (h2 : 0 ≤ j) (h3 : j < 5) :
    Calls Tryd.prog 13 #[feat 0 false b false s t, feat j false b' true s' t'] w fun e w' => e = .returned (.tuple #[.int .i64 (tab 0 j), .bool (tab 0 j != 1)]) ∧ Below w.heap.size w w' := by
  obtain rfl | rfl | rfl | rfl | rfl : j = 0 ∨ j = 1 ∨ j = 2 ∨ j = 3 ∨ j = 4 := by omega
  · go_enter Tryd.func13, Tryd.ntmps13
    go_wp2_with fail
    refine (refcheck_ok _ _ _ _ _ _ _ (by omega) (by omega)).mono ?_
    rintro e w1 ⟨rfl, hb1⟩
    obtain ⟨hc1, hf1⟩ := bcell hb1
    obtain ⟨hz1, hz1'⟩ := sz2 hb1
    go_wp2_with fail
    refine (refcheck_ok _ _ _ _ _ _ _ (by omega) (by omega)).mono ?_
    rintro e w2 ⟨rfl, hb2⟩
    obtain ⟨hc2, hf2⟩ := bcell hb2
    have hz2 := hb2.size
    go_wp2
    go_ret2
    exact ⟨rfl, bthen (two hb1) hb2⟩
  · go_enter Tryd.func13, Tryd.ntmps13
    go_wp2_with fail
    refine (refcheck_ok _ _ _ _ _ _ _ (by omega) (by omega)).mono ?_
    rintro e w1 ⟨rfl, hb1⟩
    obtain ⟨hc1, hf1⟩ := bcell hb1
    obtain ⟨hz1, hz1'⟩ := sz2 hb1
    go_wp2_with fail
    refine (refcheck_ok _ _ _ _ _ _ _ (by omega) (by omega)).mono ?_
    rintro e w2 ⟨rfl, hb2⟩
    obtain ⟨hc2, hf2⟩ := bcell hb2
    have hz2 := hb2.size
    go_wp2
    go_ret2
    exact ⟨rfl, bthen (two hb1) hb2⟩
  · go_enter Tryd.func13, Tryd.ntmps13
    go_wp2_with fail
    refine (refcheck_ok _ _ _ _ _ _ _ (by omega) (by omega)).mono ?_
    rintro e w1 ⟨rfl, hb1⟩
    obtain ⟨hc1, hf1⟩ := bcell hb1
    obtain ⟨hz1, hz1'⟩ := sz2 hb1
    go_wp2_with fail
    refine (refcheck_ok _ _ _ _ _ _ _ (by omega) (by omega)).mono ?_
    rintro e w2 ⟨rfl, hb2⟩
    obtain ⟨hc2, hf2⟩ := bcell hb2
    have hz2 := hb2.size
    go_wp2
    go_ret2
    exact ⟨rfl, bthen (two hb1) hb2⟩
  · go_enter Tryd.func13, Tryd.ntmps13
    go_wp2_with fail
    refine (refcheck_ok _ _ _ _ _ _ _ (by omega) (by omega)).mono ?_
    rintro e w1 ⟨rfl, hb1⟩
    obtain ⟨hc1, hf1⟩ := bcell hb1
    obtain ⟨hz1, hz1'⟩ := sz2 hb1
    go_wp2_with fail
    refine (refcheck_ok _ _ _ _ _ _ _ (by omega) (by omega)).mono ?_
    rintro e w2 ⟨rfl, hb2⟩
    obtain ⟨hc2, hf2⟩ := bcell hb2
    have hz2 := hb2.size
    go_wp2
    go_ret2
    exact ⟨rfl, bthen (two hb1) hb2⟩
  · go_enter Tryd.func13, Tryd.ntmps13
    go_wp2_with fail
    refine (refcheck_ok _ _ _ _ _ _ _ (by omega) (by omega)).mono ?_
    rintro e w1 ⟨rfl, hb1⟩
    obtain ⟨hc1, hf1⟩ := bcell hb1
    obtain ⟨hz1, hz1'⟩ := sz2 hb1
    go_wp2_with fail
    refine (refcheck_ok _ _ _ _ _ _ _ (by omega) (by omega)).mono ?_
    rintro e w2 ⟨rfl, hb2⟩
    obtain ⟨hc2, hf2⟩ := bcell hb2
    have hz2 := hb2.size
    go_wp2
    go_ret2
    exact ⟨rfl, bthen (two hb1) hb2⟩

set_option maxHeartbeats 4000000 in
theorem refchoose_1_0 (j : Int) (b s t b' m' s' t' : Bool) (w : World) (h2 : 0 ≤ j) (h3 : j < 5) :
    Calls Tryd.prog 13 #[feat 1 false b true s t, feat j false b' m' s' t'] w fun e w' => e = .returned (.tuple #[.int .i64 (tab 1 j), .bool (tab 1 j != 1)]) ∧ Below w.heap.size w w' := by
  obtain rfl | rfl | rfl | rfl | rfl : j = 0 ∨ j = 1 ∨ j = 2 ∨ j = 3 ∨ j = 4 := by omega
  · go_enter Tryd.func13, Tryd.ntmps13
    go_wp2_with fail
    refine (refcheck_ok _ _ _ _ _ _ _ (by omega) (by omega)).mono ?_
    rintro e w1 ⟨rfl, hb1⟩
    obtain ⟨hc1, hf1⟩ := bcell hb1
    obtain ⟨hz1, hz1'⟩ := sz2 hb1
    go_wp2_with fail
    refine (refcheck_ok _ _ _ _ _ _ _ (by omega) (by omega)).mono ?_
    rintro e w2 ⟨rfl, hb2⟩
    obtain ⟨hc2, hf2⟩ := bcell hb2
    have hz2 := hb2.size
    go_wp2
    go_ret2
    exact ⟨rfl, bthen (two hb1) hb2⟩
  · go_enter Tryd.func13, Tryd.ntmps13
    go_wp2_with fail
    refine (refcheck_ok _ _ _ _ _ _ _ (by omega) (by omega)).mono ?_
    rintro e w1 ⟨rfl, hb1⟩
    obtain ⟨hc1, hf1⟩ := bcell hb1
    obtain ⟨hz1, hz1'⟩ := sz2 hb1
    go_wp2_with fail
    refine (refcheck_ok _ _ _ _ _ _ _ (by omega) (by omega)).mono ?_
    rintro e w2 ⟨rfl, hb2⟩
    obtain ⟨hc2, hf2⟩ := bcell hb2
    have hz2 := hb2.size
    go_wp2
    go_ret2
    exact ⟨rfl, bthen (two hb1) hb2⟩
  · go_enter Tryd.func13, Tryd.ntmps13
    go_wp2_with fail
    refine (refcheck_ok _ _ _ _ _ _ _ (by omega) (by omega)).mono ?_
    rintro e w1 ⟨rfl, hb1⟩
    obtain ⟨hc1, hf1⟩ := bcell hb1
    obtain ⟨hz1, hz1'⟩ := sz2 hb1
    go_wp2_with fail
    refine (refcheck_ok _ _ _ _ _ _ _ (by omega) (by omega)).mono ?_
    rintro e w2 ⟨rfl, hb2⟩
    obtain ⟨hc2, hf2⟩ := bcell hb2
    have hz2 := hb2.size
    go_wp2
    go_ret2
    exact ⟨rfl, bthen (two hb1) hb2⟩
  · go_enter Tryd.func13, Tryd.ntmps13
    go_wp2_with fail
    refine (refcheck_ok _ _ _ _ _ _ _ (by omega) (by omega)).mono ?_
    rintro e w1 ⟨rfl, hb1⟩
    obtain ⟨hc1, hf1⟩ := bcell hb1
    obtain ⟨hz1, hz1'⟩ := sz2 hb1
    go_wp2_with fail
    refine (refcheck_ok _ _ _ _ _ _ _ (by omega) (by omega)).mono ?_
    rintro e w2 ⟨rfl, hb2⟩
    obtain ⟨hc2, hf2⟩ := bcell hb2
    have hz2 := hb2.size
    go_wp2
    go_ret2
    exact ⟨rfl, bthen (two hb1) hb2⟩
  · go_enter Tryd.func13, Tryd.ntmps13
    go_wp2_with fail
    refine (refcheck_ok _ _ _ _ _ _ _ (by omega) (by omega)).mono ?_
    rintro e w1 ⟨rfl, hb1⟩
    obtain ⟨hc1, hf1⟩ := bcell hb1
    obtain ⟨hz1, hz1'⟩ := sz2 hb1
    go_wp2_with fail
    refine (refcheck_ok _ _ _ _ _ _ _ (by omega) (by omega)).mono ?_
    rintro e w2 ⟨rfl, hb2⟩
    obtain ⟨hc2, hf2⟩ := bcell hb2
    have hz2 := hb2.size
    go_wp2
    go_ret2
    exact ⟨rfl, bthen (two hb1) hb2⟩

set_option maxHeartbeats 4000000 in
theorem refchoose_1_1 (j : Int) (b s t b' s' t' : Bool) (w : World) (h2 : 0 ≤ j) (h3 : j < 5) :
    Calls Tryd.prog 13 #[feat 1 false b false s t, feat j false b' true s' t'] w fun e w' => e = .returned (.tuple #[.int .i64 (tab 1 j), .bool (tab 1 j != 1)]) ∧ Below w.heap.size w w' := by
  obtain rfl | rfl | rfl | rfl | rfl : j = 0 ∨ j = 1 ∨ j = 2 ∨ j = 3 ∨ j = 4 := by omega
  · go_enter Tryd.func13, Tryd.ntmps13
    go_wp2_with fail
    refine (refcheck_ok _ _ _ _ _ _ _ (by omega) (by omega)).mono ?_
    rintro e w1 ⟨rfl, hb1⟩
    obtain ⟨hc1, hf1⟩ := bcell hb1
    obtain ⟨hz1, hz1'⟩ := sz2 hb1
    go_wp2_with fail
    refine (refcheck_ok _ _ _ _ _ _ _ (by omega) (by omega)).mono ?_
    rintro e w2 ⟨rfl, hb2⟩
    obtain ⟨hc2, hf2⟩ := bcell hb2
    have hz2 := hb2.size
    go_wp2
    go_ret2
    exact ⟨rfl, bthen (two hb1) hb2⟩
  · go_enter Tryd.func13, Tryd.ntmps13
    go_wp2_with fail
    refine (refcheck_ok _ _ _ _ _ _ _ (by omega) (by omega)).mono ?_
    rintro e w1 ⟨rfl, hb1⟩
    obtain ⟨hc1, hf1⟩ := bcell hb1
    obtain ⟨hz1, hz1'⟩ := sz2 hb1
    go_wp2_with fail
    refine (refcheck_ok _ _ _ _ _ _ _ (by omega) (by omega)).mono ?_
    rintro e w2 ⟨rfl, hb2⟩
    obtain ⟨hc2, hf2⟩ := bcell hb2
    have hz2 := hb2.size
    go_wp2
    go_ret2
    exact ⟨rfl, bthen (two hb1) hb2⟩
  · go_enter Tryd.func13, Tryd.ntmps13
    go_wp2_with fail
    refine (refcheck_ok _ _ _ _ _ _ _ (by omega) (by omega)).mono ?_
    rintro e w1 ⟨rfl, hb1⟩
    obtain ⟨hc1, hf1⟩ := bcell hb1
    obtain ⟨hz1, hz1'⟩ := sz2 hb1
    go_wp2_with fail
    refine (refcheck_ok _ _ _ _ _ _ _ (by omega) (by omega)).mono ?_
    rintro e w2 ⟨rfl, hb2⟩
    obtain ⟨hc2, hf2⟩ := bcell hb2
    have hz2 := hb2.size
    go_wp2
    go_ret2
    exact ⟨rfl, bthen (two hb1) hb2⟩
  · go_enter Tryd.func13, Tryd.ntmps13
    go_wp2_with fail
    refine (refcheck_ok _ _ _ _ _ _ _ (by omega) (by omega)).mono ?_
    rintro e w1 ⟨rfl, hb1⟩
    obtain ⟨hc1, hf1⟩ := bcell hb1
    obtain ⟨hz1, hz1'⟩ := sz2 hb1
    go_wp2_with fail
    refine (refcheck_ok _ _ _ _ _ _ _ (by omega) (by omega)).mono ?_
    rintro e w2 ⟨rfl, hb2⟩
    obtain ⟨hc2, hf2⟩ := bcell hb2
    have hz2 := hb2.size
    go_wp2
    go_ret2
    exact ⟨rfl, bthen (two hb1) hb2⟩
  · go_enter Tryd.func13, Tryd.ntmps13
    go_wp2_with fail
    refine (refcheck_ok _ _ _ _ _ _ _ (by omega) (by omega)).mono ?_
    rintro e w1 ⟨rfl, hb1⟩
    obtain ⟨hc1, hf1⟩ := bcell hb1
    obtain ⟨hz1, hz1'⟩ := sz2 hb1
    go_wp2_with fail
    refine (refcheck_ok _ _ _ _ _ _ _ (by omega) (by omega)).mono ?_
    rintro e w2 ⟨rfl, hb2⟩
    obtain ⟨hc2, hf2⟩ := bcell hb2
    have hz2 := hb2.size
    go_wp2
    go_ret2
    exact ⟨rfl, bthen (two hb1) hb2⟩

set_option maxHeartbeats 4000000 in
theorem refchoose_2_0 (j : Int) (b s t b' m' s' t' : Bool) (w : World) (h2 : 0 ≤ j) (h3 : j < 5) :
    Calls Tryd.prog 13 #[feat 2 false b true s t, feat j false b' m' s' t'] w fun e w' => e = .returned (.tuple #[.int .i64 (tab 2 j), .bool (tab 2 j != 1)]) ∧ Below w.heap.size w w' := by
  obtain rfl | rfl | rfl | rfl | rfl : j = 0 ∨ j = 1 ∨ j = 2 ∨ j = 3 ∨ j = 4 := by omega
  · go_enter Tryd.func13, Tryd.ntmps13
    go_wp2_with fail
    refine (refcheck_ok _ _ _ _ _ _ _ (by omega) (by omega)).mono ?_
    rintro e w1 ⟨rfl, hb1⟩
    obtain ⟨hc1, hf1⟩ := bcell hb1
    obtain ⟨hz1, hz1'⟩ := sz2 hb1
    go_wp2_with fail
    refine (refcheck_ok _ _ _ _ _ _ _ (by omega) (by omega)).mono ?_
    rintro e w2 ⟨rfl, hb2⟩
    obtain ⟨hc2, hf2⟩ := bcell hb2
    have hz2 := hb2.size
    go_wp2
    go_ret2
    exact ⟨rfl, bthen (two hb1) hb2⟩
  · go_enter Tryd.func13, Tryd.ntmps13
    go_wp2_with fail
    refine (refcheck_ok _ _ _ _ _ _ _ (by omega) (by omega)).mono ?_
    rintro e w1 ⟨rfl, hb1⟩
    obtain ⟨hc1, hf1⟩ := bcell hb1
    obtain ⟨hz1, hz1'⟩ := sz2 hb1
    go_wp2_with fail
    refine (refcheck_ok _ _ _ _ _ _ _ (by omega) (by omega)).mono ?_
    rintro e w2 ⟨rfl, hb2⟩
    obtain ⟨hc2, hf2⟩ := bcell hb2
    have hz2 := hb2.size
    go_wp2
    go_ret2
    exact ⟨rfl, bthen (two hb1) hb2⟩
  · go_enter Tryd.func13, Tryd.ntmps13
    go_wp2_with fail
    refine (refcheck_ok _ _ _ _ _ _ _ (by omega) (by omega)).mono ?_
    rintro e w1 ⟨rfl, hb1⟩
    obtain ⟨hc1, hf1⟩ := bcell hb1
    obtain ⟨hz1, hz1'⟩ := sz2 hb1
    go_wp2_with fail
    refine (refcheck_ok _ _ _ _ _ _ _ (by omega) (by omega)).mono ?_
    rintro e w2 ⟨rfl, hb2⟩
    obtain ⟨hc2, hf2⟩ := bcell hb2
    have hz2 := hb2.size
    go_wp2
    go_ret2
    exact ⟨rfl, bthen (two hb1) hb2⟩
  · go_enter Tryd.func13, Tryd.ntmps13
    go_wp2_with fail
    refine (refcheck_ok _ _ _ _ _ _ _ (by omega) (by omega)).mono ?_
    rintro e w1 ⟨rfl, hb1⟩
    obtain ⟨hc1, hf1⟩ := bcell hb1
    obtain ⟨hz1, hz1'⟩ := sz2 hb1
    go_wp2_with fail
    refine (refcheck_ok _ _ _ _ _ _ _ (by omega) (by omega)).mono ?_
    rintro e w2 ⟨rfl, hb2⟩
    obtain ⟨hc2, hf2⟩ := bcell hb2
    have hz2 := hb2.size
    go_wp2
    go_ret2
    exact ⟨rfl, bthen (two hb1) hb2⟩
  · go_enter Tryd.func13, Tryd.ntmps13
    go_wp2_with fail
    refine (refcheck_ok _ _ _ _ _ _ _ (by omega) (by omega)).mono ?_
    rintro e w1 ⟨rfl, hb1⟩
    obtain ⟨hc1, hf1⟩ := bcell hb1
    obtain ⟨hz1, hz1'⟩ := sz2 hb1
    go_wp2_with fail
    refine (refcheck_ok _ _ _ _ _ _ _ (by omega) (by omega)).mono ?_
    rintro e w2 ⟨rfl, hb2⟩
    obtain ⟨hc2, hf2⟩ := bcell hb2
    have hz2 := hb2.size
    go_wp2
    go_ret2
    exact ⟨rfl, bthen (two hb1) hb2⟩

set_option maxHeartbeats 4000000 in
theorem refchoose_2_1 (j : Int) (b s t b' s' t' : Bool) (w : World) (h2 : 0 ≤ j) (h3 : j < 5) :
    Calls Tryd.prog 13 #[feat 2 false b false s t, feat j false b' true s' t'] w fun e w' => e = .returned (.tuple #[.int .i64 (tab 2 j), .bool (tab 2 j != 1)]) ∧ Below w.heap.size w w' := by
  obtain rfl | rfl | rfl | rfl | rfl : j = 0 ∨ j = 1 ∨ j = 2 ∨ j = 3 ∨ j = 4 := by omega
  · go_enter Tryd.func13, Tryd.ntmps13
    go_wp2_with fail
    refine (refcheck_ok _ _ _ _ _ _ _ (by omega) (by omega)).mono ?_
    rintro e w1 ⟨rfl, hb1⟩
    obtain ⟨hc1, hf1⟩ := bcell hb1
    obtain ⟨hz1, hz1'⟩ := sz2 hb1
    go_wp2_with fail
    refine (refcheck_ok _ _ _ _ _ _ _ (by omega) (by omega)).mono ?_
    rintro e w2 ⟨rfl, hb2⟩
    obtain ⟨hc2, hf2⟩ := bcell hb2
    have hz2 := hb2.size
    go_wp2
    go_ret2
    exact ⟨rfl, bthen (two hb1) hb2⟩
  · go_enter Tryd.func13, Tryd.ntmps13
    go_wp2_with fail
    refine (refcheck_ok _ _ _ _ _ _ _ (by omega) (by omega)).mono ?_
    rintro e w1 ⟨rfl, hb1⟩
    obtain ⟨hc1, hf1⟩ := bcell hb1
    obtain ⟨hz1, hz1'⟩ := sz2 hb1
    go_wp2_with fail
    refine (refcheck_ok _ _ _ _ _ _ _ (by omega) (by omega)).mono ?_
    rintro e w2 ⟨rfl, hb2⟩
    obtain ⟨hc2, hf2⟩ := bcell hb2
    have hz2 := hb2.size
    go_wp2
    go_ret2
    exact ⟨rfl, bthen (two hb1) hb2⟩
  · go_enter Tryd.func13, Tryd.ntmps13
    go_wp2_with fail
    refine (refcheck_ok _ _ _ _ _ _ _ (by omega) (by omega)).mono ?_
    rintro e w1 ⟨rfl, hb1⟩
    obtain ⟨hc1, hf1⟩ := bcell hb1
    obtain ⟨hz1, hz1'⟩ := sz2 hb1
    go_wp2_with fail
    refine (refcheck_ok _ _ _ _ _ _ _ (by omega) (by omega)).mono ?_
    rintro e w2 ⟨rfl, hb2⟩
    obtain ⟨hc2, hf2⟩ := bcell hb2
    have hz2 := hb2.size
    go_wp2
    go_ret2
    exact ⟨rfl, bthen (two hb1) hb2⟩
  · go_enter Tryd.func13, Tryd.ntmps13
    go_wp2_with fail
    refine (refcheck_ok _ _ _ _ _ _ _ (by omega) (by omega)).mono ?_
    rintro e w1 ⟨rfl, hb1⟩
    obtain ⟨hc1, hf1⟩ := bcell hb1
    obtain ⟨hz1, hz1'⟩ := sz2 hb1
    go_wp2_with fail
    refine (refcheck_ok _ _ _ _ _ _ _ (by omega) (by omega)).mono ?_
    rintro e w2 ⟨rfl, hb2⟩
    obtain ⟨hc2, hf2⟩ := bcell hb2
    have hz2 := hb2.size
    go_wp2
    go_ret2
    exact ⟨rfl, bthen (two hb1) hb2⟩
  · go_enter Tryd.func13, Tryd.ntmps13
    go_wp2_with fail
    refine (refcheck_ok _ _ _ _ _ _ _ (by omega) (by omega)).mono ?_
    rintro e w1 ⟨rfl, hb1⟩
    obtain ⟨hc1, hf1⟩ := bcell hb1
    obtain ⟨hz1, hz1'⟩ := sz2 hb1
    go_wp2_with fail
    refine (refcheck_ok _ _ _ _ _ _ _ (by omega) (by omega)).mono ?_
    rintro e w2 ⟨rfl, hb2⟩
    obtain ⟨hc2, hf2⟩ := bcell hb2
    have hz2 := hb2.size
    go_wp2
    go_ret2
    exact ⟨rfl, bthen (two hb1) hb2⟩

set_option maxHeartbeats 4000000 in
theorem refchoose_3_0 (j : Int) (b s t b' m' s' t' : Bool) (w : World) (h2 : 0 ≤ j) (h3 : j < 5) :
    Calls Tryd.prog 13 #[feat 3 false b true s t, feat j false b' m' s' t'] w fun e w' => e = .returned (.tuple #[.int .i64 (tab 3 j), .bool (tab 3 j != 1)]) ∧ Below w.heap.size w w' := by
  obtain rfl | rfl | rfl | rfl | rfl : j = 0 ∨ j = 1 ∨ j = 2 ∨ j = 3 ∨ j = 4 := by omega
  · go_enter Tryd.func13, Tryd.ntmps13
    go_wp2_with fail
    refine (refcheck_ok _ _ _ _ _ _ _ (by omega) (by omega)).mono ?_
    rintro e w1 ⟨rfl, hb1⟩
    obtain ⟨hc1, hf1⟩ := bcell hb1
    obtain ⟨hz1, hz1'⟩ := sz2 hb1
    go_wp2_with fail
    refine (refcheck_ok _ _ _ _ _ _ _ (by omega) (by omega)).mono ?_
    rintro e w2 ⟨rfl, hb2⟩
    obtain ⟨hc2, hf2⟩ := bcell hb2
    have hz2 := hb2.size
    go_wp2
    go_ret2
    exact ⟨rfl, bthen (two hb1) hb2⟩
  · go_enter Tryd.func13, Tryd.ntmps13
    go_wp2_with fail
    refine (refcheck_ok _ _ _ _ _ _ _ (by omega) (by omega)).mono ?_
    rintro e w1 ⟨rfl, hb1⟩
    obtain ⟨hc1, hf1⟩ := bcell hb1
    obtain ⟨hz1, hz1'⟩ := sz2 hb1
    go_wp2_with fail
    refine (refcheck_ok _ _ _ _ _ _ _ (by omega) (by omega)).mono ?_
    rintro e w2 ⟨rfl, hb2⟩
    obtain ⟨hc2, hf2⟩ := bcell hb2
    have hz2 := hb2.size
    go_wp2
    go_ret2
    exact ⟨rfl, bthen (two hb1) hb2⟩
  · go_enter Tryd.func13, Tryd.ntmps13
    go_wp2_with fail
    refine (refcheck_ok _ _ _ _ _ _ _ (by omega) (by omega)).mono ?_
    rintro e w1 ⟨rfl, hb1⟩
    obtain ⟨hc1, hf1⟩ := bcell hb1
    obtain ⟨hz1, hz1'⟩ := sz2 hb1
    go_wp2_with fail
    refine (refcheck_ok _ _ _ _ _ _ _ (by omega) (by omega)).mono ?_
    rintro e w2 ⟨rfl, hb2⟩
    obtain ⟨hc2, hf2⟩ := bcell hb2
    have hz2 := hb2.size
    go_wp2
    go_ret2
    exact ⟨rfl, bthen (two hb1) hb2⟩
  · go_enter Tryd.func13, Tryd.ntmps13
    go_wp2_with fail
    refine (refcheck_ok _ _ _ _ _ _ _ (by omega) (by omega)).mono ?_
    rintro e w1 ⟨rfl, hb1⟩
    obtain ⟨hc1, hf1⟩ := bcell hb1
    obtain ⟨hz1, hz1'⟩ := sz2 hb1
    go_wp2_with fail
    refine (refcheck_ok _ _ _ _ _ _ _ (by omega) (by omega)).mono ?_
    rintro e w2 ⟨rfl, hb2⟩
    obtain ⟨hc2, hf2⟩ := bcell hb2
    have hz2 := hb2.size
    go_wp2
    go_ret2
    exact ⟨rfl, bthen (two hb1) hb2⟩
  · go_enter Tryd.func13, Tryd.ntmps13
    go_wp2_with fail
    refine (refcheck_ok _ _ _ _ _ _ _ (by omega) (by omega)).mono ?_
    rintro e w1 ⟨rfl, hb1⟩
    obtain ⟨hc1, hf1⟩ := bcell hb1
    obtain ⟨hz1, hz1'⟩ := sz2 hb1
    go_wp2_with fail
    refine (refcheck_ok _ _ _ _ _ _ _ (by omega) (by omega)).mono ?_
    rintro e w2 ⟨rfl, hb2⟩
    obtain ⟨hc2, hf2⟩ := bcell hb2
    have hz2 := hb2.size
    go_wp2
    go_ret2
    exact ⟨rfl, bthen (two hb1) hb2⟩

set_option maxHeartbeats 4000000 in
theorem refchoose_3_1 (j : Int) (b s t b' s' t' : Bool) (w : World) (h2 : 0 ≤ j) (h3 : j < 5) :
    Calls Tryd.prog 13 #[feat 3 false b false s t, feat j false b' true s' t'] w fun e w' => e = .returned (.tuple #[.int .i64 (tab 3 j), .bool (tab 3 j != 1)]) ∧ Below w.heap.size w w' := by
  obtain rfl | rfl | rfl | rfl | rfl : j = 0 ∨ j = 1 ∨ j = 2 ∨ j = 3 ∨ j = 4 := by omega
  · go_enter Tryd.func13, Tryd.ntmps13
    go_wp2_with fail
    refine (refcheck_ok _ _ _ _ _ _ _ (by omega) (by omega)).mono ?_
    rintro e w1 ⟨rfl, hb1⟩
    obtain ⟨hc1, hf1⟩ := bcell hb1
    obtain ⟨hz1, hz1'⟩ := sz2 hb1
    go_wp2_with fail
    refine (refcheck_ok _ _ _ _ _ _ _ (by omega) (by omega)).mono ?_
    rintro e w2 ⟨rfl, hb2⟩
    obtain ⟨hc2, hf2⟩ := bcell hb2
    have hz2 := hb2.size
    go_wp2
    go_ret2
    exact ⟨rfl, bthen (two hb1) hb2⟩
  · go_enter Tryd.func13, Tryd.ntmps13
    go_wp2_with fail
    refine (refcheck_ok _ _ _ _ _ _ _ (by omega) (by omega)).mono ?_
    rintro e w1 ⟨rfl, hb1⟩
    obtain ⟨hc1, hf1⟩ := bcell hb1
    obtain ⟨hz1, hz1'⟩ := sz2 hb1
    go_wp2_with fail
    refine (refcheck_ok _ _ _ _ _ _ _ (by omega) (by omega)).mono ?_
    rintro e w2 ⟨rfl, hb2⟩
    obtain ⟨hc2, hf2⟩ := bcell hb2
    have hz2 := hb2.size
    go_wp2
    go_ret2
    exact ⟨rfl, bthen (two hb1) hb2⟩
  · go_enter Tryd.func13, Tryd.ntmps13
    go_wp2_with fail
    refine (refcheck_ok _ _ _ _ _ _ _ (by omega) (by omega)).mono ?_
    rintro e w1 ⟨rfl, hb1⟩
    obtain ⟨hc1, hf1⟩ := bcell hb1
    obtain ⟨hz1, hz1'⟩ := sz2 hb1
    go_wp2_with fail
    refine (refcheck_ok _ _ _ _ _ _ _ (by omega) (by omega)).mono ?_
    rintro e w2 ⟨rfl, hb2⟩
    obtain ⟨hc2, hf2⟩ := bcell hb2
    have hz2 := hb2.size
    go_wp2
    go_ret2
    exact ⟨rfl, bthen (two hb1) hb2⟩
  · go_enter Tryd.func13, Tryd.ntmps13
    go_wp2_with fail
    refine (refcheck_ok _ _ _ _ _ _ _ (by omega) (by omega)).mono ?_
    rintro e w1 ⟨rfl, hb1⟩
    obtain ⟨hc1, hf1⟩ := bcell hb1
    obtain ⟨hz1, hz1'⟩ := sz2 hb1
    go_wp2_with fail
    refine (refcheck_ok _ _ _ _ _ _ _ (by omega) (by omega)).mono ?_
    rintro e w2 ⟨rfl, hb2⟩
    obtain ⟨hc2, hf2⟩ := bcell hb2
    have hz2 := hb2.size
    go_wp2
    go_ret2
    exact ⟨rfl, bthen (two hb1) hb2⟩
  · go_enter Tryd.func13, Tryd.ntmps13
    go_wp2_with fail
    refine (refcheck_ok _ _ _ _ _ _ _ (by omega) (by omega)).mono ?_
    rintro e w1 ⟨rfl, hb1⟩
    obtain ⟨hc1, hf1⟩ := bcell hb1
    obtain ⟨hz1, hz1'⟩ := sz2 hb1
    go_wp2_with fail
    refine (refcheck_ok _ _ _ _ _ _ _ (by omega) (by omega)).mono ?_
    rintro e w2 ⟨rfl, hb2⟩
    obtain ⟨hc2, hf2⟩ := bcell hb2
    have hz2 := hb2.size
    go_wp2
    go_ret2
    exact ⟨rfl, bthen (two hb1) hb2⟩

set_option maxHeartbeats 4000000 in
theorem refchoose_4_0 (j : Int) (b s t b' m' s' t' : Bool) (w : World) (h2 : 0 ≤ j) (h3 : j < 5) :
    Calls Tryd.prog 13 #[feat 4 false b true s t, feat j false b' m' s' t'] w fun e w' => e = .returned (.tuple #[.int .i64 (tab 4 j), .bool (tab 4 j != 1)]) ∧ Below w.heap.size w w' := by
  obtain rfl | rfl | rfl | rfl | rfl : j = 0 ∨ j = 1 ∨ j = 2 ∨ j = 3 ∨ j = 4 := by omega
  · go_enter Tryd.func13, Tryd.ntmps13
    go_wp2_with fail
    refine (refcheck_ok _ _ _ _ _ _ _ (by omega) (by omega)).mono ?_
    rintro e w1 ⟨rfl, hb1⟩
    obtain ⟨hc1, hf1⟩ := bcell hb1
    obtain ⟨hz1, hz1'⟩ := sz2 hb1
    go_wp2_with fail
    refine (refcheck_ok _ _ _ _ _ _ _ (by omega) (by omega)).mono ?_
    rintro e w2 ⟨rfl, hb2⟩
    obtain ⟨hc2, hf2⟩ := bcell hb2
    have hz2 := hb2.size
    go_wp2
    go_ret2
    exact ⟨rfl, bthen (two hb1) hb2⟩
  · go_enter Tryd.func13, Tryd.ntmps13
    go_wp2_with fail
    refine (refcheck_ok _ _ _ _ _ _ _ (by omega) (by omega)).mono ?_
    rintro e w1 ⟨rfl, hb1⟩
    obtain ⟨hc1, hf1⟩ := bcell hb1
    obtain ⟨hz1, hz1'⟩ := sz2 hb1
    go_wp2_with fail
    refine (refcheck_ok _ _ _ _ _ _ _ (by omega) (by omega)).mono ?_
    rintro e w2 ⟨rfl, hb2⟩
    obtain ⟨hc2, hf2⟩ := bcell hb2
    have hz2 := hb2.size
    go_wp2
    go_ret2
    exact ⟨rfl, bthen (two hb1) hb2⟩
  · go_enter Tryd.func13, Tryd.ntmps13
    go_wp2_with fail
    refine (refcheck_ok _ _ _ _ _ _ _ (by omega) (by omega)).mono ?_
    rintro e w1 ⟨rfl, hb1⟩
    obtain ⟨hc1, hf1⟩ := bcell hb1
    obtain ⟨hz1, hz1'⟩ := sz2 hb1
    go_wp2_with fail
    refine (refcheck_ok _ _ _ _ _ _ _ (by omega) (by omega)).mono ?_
    rintro e w2 ⟨rfl, hb2⟩
    obtain ⟨hc2, hf2⟩ := bcell hb2
    have hz2 := hb2.size
    go_wp2
    go_ret2
    exact ⟨rfl, bthen (two hb1) hb2⟩
  · go_enter Tryd.func13, Tryd.ntmps13
    go_wp2_with fail
    refine (refcheck_ok _ _ _ _ _ _ _ (by omega) (by omega)).mono ?_
    rintro e w1 ⟨rfl, hb1⟩
    obtain ⟨hc1, hf1⟩ := bcell hb1
    obtain ⟨hz1, hz1'⟩ := sz2 hb1
    go_wp2_with fail
    refine (refcheck_ok _ _ _ _ _ _ _ (by omega) (by omega)).mono ?_
    rintro e w2 ⟨rfl, hb2⟩
    obtain ⟨hc2, hf2⟩ := bcell hb2
    have hz2 := hb2.size
    go_wp2
    go_ret2
    exact ⟨rfl, bthen (two hb1) hb2⟩
  · go_enter Tryd.func13, Tryd.ntmps13
    go_wp2_with fail
    refine (refcheck_ok _ _ _ _ _ _ _ (by omega) (by omega)).mono ?_
    rintro e w1 ⟨rfl, hb1⟩
    obtain ⟨hc1, hf1⟩ := bcell hb1
    obtain ⟨hz1, hz1'⟩ := sz2 hb1
    go_wp2_with fail
    refine (refcheck_ok _ _ _ _ _ _ _ (by omega) (by omega)).mono ?_
    rintro e w2 ⟨rfl, hb2⟩
    obtain ⟨hc2, hf2⟩ := bcell hb2
    have hz2 := hb2.size
    go_wp2
    go_ret2
    exact ⟨rfl, bthen (two hb1) hb2⟩

set_option maxHeartbeats 4000000 in
theorem refchoose_4_1 (j : Int) (b s t b' s' t' : Bool) (w : World) (h2 : 0 ≤ j) (h3 : j < 5) :
    Calls Tryd.prog 13 #[feat 4 false b false s t, feat j false b' true s' t'] w fun e w' => e = .returned (.tuple #[.int .i64 (tab 4 j), .bool (tab 4 j != 1)]) ∧ Below w.heap.size w w' := by
  obtain rfl | rfl | rfl | rfl | rfl : j = 0 ∨ j = 1 ∨ j = 2 ∨ j = 3 ∨ j = 4 := by omega
  · go_enter Tryd.func13, Tryd.ntmps13
    go_wp2_with fail
    refine (refcheck_ok _ _ _ _ _ _ _ (by omega) (by omega)).mono ?_
    rintro e w1 ⟨rfl, hb1⟩
    obtain ⟨hc1, hf1⟩ := bcell hb1
    obtain ⟨hz1, hz1'⟩ := sz2 hb1
    go_wp2_with fail
    refine (refcheck_ok _ _ _ _ _ _ _ (by omega) (by omega)).mono ?_
    rintro e w2 ⟨rfl, hb2⟩
    obtain ⟨hc2, hf2⟩ := bcell hb2
    have hz2 := hb2.size
    go_wp2
    go_ret2
    exact ⟨rfl, bthen (two hb1) hb2⟩
  · go_enter Tryd.func13, Tryd.ntmps13
    go_wp2_with fail
    refine (refcheck_ok _ _ _ _ _ _ _ (by omega) (by omega)).mono ?_
    rintro e w1 ⟨rfl, hb1⟩
    obtain ⟨hc1, hf1⟩ := bcell hb1
    obtain ⟨hz1, hz1'⟩ := sz2 hb1
    go_wp2_with fail
    refine (refcheck_ok _ _ _ _ _ _ _ (by omega) (by omega)).mono ?_
    rintro e w2 ⟨rfl, hb2⟩
    obtain ⟨hc2, hf2⟩ := bcell hb2
    have hz2 := hb2.size
    go_wp2
    go_ret2
    exact ⟨rfl, bthen (two hb1) hb2⟩
  · go_enter Tryd.func13, Tryd.ntmps13
    go_wp2_with fail
    refine (refcheck_ok _ _ _ _ _ _ _ (by omega) (by omega)).mono ?_
    rintro e w1 ⟨rfl, hb1⟩
    obtain ⟨hc1, hf1⟩ := bcell hb1
    obtain ⟨hz1, hz1'⟩ := sz2 hb1
    go_wp2_with fail
    refine (refcheck_ok _ _ _ _ _ _ _ (by omega) (by omega)).mono ?_
    rintro e w2 ⟨rfl, hb2⟩
    obtain ⟨hc2, hf2⟩ := bcell hb2
    have hz2 := hb2.size
    go_wp2
    go_ret2
    exact ⟨rfl, bthen (two hb1) hb2⟩
  · go_enter Tryd.func13, Tryd.ntmps13
    go_wp2_with fail
    refine (refcheck_ok _ _ _ _ _ _ _ (by omega) (by omega)).mono ?_
    rintro e w1 ⟨rfl, hb1⟩
    obtain ⟨hc1, hf1⟩ := bcell hb1
    obtain ⟨hz1, hz1'⟩ := sz2 hb1
    go_wp2_with fail
    refine (refcheck_ok _ _ _ _ _ _ _ (by omega) (by omega)).mono ?_
    rintro e w2 ⟨rfl, hb2⟩
    obtain ⟨hc2, hf2⟩ := bcell hb2
    have hz2 := hb2.size
    go_wp2
    go_ret2
    exact ⟨rfl, bthen (two hb1) hb2⟩
  · go_enter Tryd.func13, Tryd.ntmps13
    go_wp2_with fail
    refine (refcheck_ok _ _ _ _ _ _ _ (by omega) (by omega)).mono ?_
    rintro e w1 ⟨rfl, hb1⟩
    obtain ⟨hc1, hf1⟩ := bcell hb1
    obtain ⟨hz1, hz1'⟩ := sz2 hb1
    go_wp2_with fail
    refine (refcheck_ok _ _ _ _ _ _ _ (by omega) (by omega)).mono ?_
    rintro e w2 ⟨rfl, hb2⟩
    obtain ⟨hc2, hf2⟩ := bcell hb2
    have hz2 := hb2.size
    go_wp2
    go_ret2
    exact ⟨rfl, bthen (two hb1) hb2⟩

theorem refchoose_tab (i j : Int) (b m s t b' m' s' t' : Bool) (w : World) (h0 : 0 ≤ i) (h1 : i < 5) (h2 : 0 ≤ j) (h3 : j < 5) (hm : (m || m') = true) :
    Calls Tryd.prog 13 #[feat i false b m s t, feat j false b' m' s' t'] w fun e w' => e = .returned (.tuple #[.int .i64 (tab i j), .bool (tab i j != 1)]) ∧ Below w.heap.size w w' := by
  cases m
  · obtain rfl : m' = true := by simpa using hm
    obtain rfl | rfl | rfl | rfl | rfl : i = 0 ∨ i = 1 ∨ i = 2 ∨ i = 3 ∨ i = 4 := by omega
    · exact refchoose_0_1 j b s t b' s' t' w h2 h3
    · exact refchoose_1_1 j b s t b' s' t' w h2 h3
    · exact refchoose_2_1 j b s t b' s' t' w h2 h3
    · exact refchoose_3_1 j b s t b' s' t' w h2 h3
    · exact refchoose_4_1 j b s t b' s' t' w h2 h3
  · obtain rfl | rfl | rfl | rfl | rfl : i = 0 ∨ i = 1 ∨ i = 2 ∨ i = 3 ∨ i = 4 := by omega
    · exact refchoose_0_0 j b s t b' m' s' t' w h2 h3
    · exact refchoose_1_0 j b s t b' m' s' t' w h2 h3
    · exact refchoose_2_0 j b s t b' m' s' t' w h2 h3
    · exact refchoose_3_0 j b s t b' m' s' t' w h2 h3
    · exact refchoose_4_0 j b s t b' m' s' t' w h2 h3

/-- The reference's method for any features. -/
theorem refchoose_any (i j : Int) (o b m s t o' b' m' s' t' : Bool) (w : World) (M : Int) (S : Bool) (hM : choM i o m j o' m' = M) (hS : choS i o m j o' m' = S) :
    Calls Tryd.prog 13 #[feat i o b m s t, feat j o' b' m' s' t'] w fun e w' => e = .returned (.tuple #[.int .i64 M, .bool S]) ∧ Below w.heap.size w w' := by
  subst hM hS
  by_cases hi : i < 0 ∨ 5 ≤ i
  · have e : choM i o m j o' m' = 0 := by unfold choM; rw [if_pos (by omega)]
    exact (refchoose_bad1 i j o b m s t o' b' m' s' t' w hi).mono fun _ _ ⟨he, hb⟩ => ⟨he.trans (ret_pair e.symm (by unfold choS; rw [e]; rfl)), hb⟩
  by_cases hj : j < 0 ∨ 5 ≤ j
  · have e : choM i o m j o' m' = 0 := by unfold choM; rw [if_pos (by omega)]
    exact (refchoose_bad2 i j o b m s t o' b' m' s' t' w (by omega) (by omega) hj).mono fun _ _ ⟨he, hb⟩ => ⟨he.trans (ret_pair e.symm (by unfold choS; rw [e]; rfl)), hb⟩
  by_cases ho : (o || o') = true
  · have e : choM i o m j o' m' = 6 := by unfold choM; rw [if_neg (by omega), if_pos ho]
    cases o
    · obtain rfl : o' = true := by simpa using ho
      exact (refchoose_oob2 i j b m s t b' m' s' t' w (by omega) (by omega) (by omega) (by omega)).mono fun _ _ ⟨he, hb⟩ => ⟨he.trans (ret_pair e.symm (by unfold choS; rw [e]; rfl)), hb⟩
    · exact (refchoose_oob1 i j b m s t o' b' m' s' t' w (by omega) (by omega) (by omega) (by omega)).mono fun _ _ ⟨he, hb⟩ => ⟨he.trans (ret_pair e.symm (by unfold choS; rw [e]; rfl)), hb⟩
  obtain ⟨rfl, rfl⟩ : o = false ∧ o' = false := by cases o <;> cases o' <;> simp_all
  by_cases hm : (m || m') = false
  · obtain ⟨rfl, rfl⟩ : m = false ∧ m' = false := by cases m <;> cases m' <;> simp_all
    have e : choM i false false j false false = 1 := by unfold choM; rw [if_neg (by omega), if_neg (by simp), if_pos (by simp)]
    exact (refchoose_just i j b s t b' s' t' w (by omega) (by omega) (by omega) (by omega)).mono fun _ _ ⟨he, hb⟩ => ⟨he.trans (ret_pair e.symm (by unfold choS; rw [e]; rfl)), hb⟩
  · have e : choM i false m j false m' = tab i j := by unfold choM; rw [if_neg (by omega), if_neg (by simp), if_neg hm]
    have hn := tab_ne i j (by omega) (by omega) (by omega) (by omega)
    refine (refchoose_tab i j b m s t b' m' s' t' w (by omega) (by omega) (by omega) (by omega) (by simpa only [Bool.not_eq_false] using hm)).mono fun _ _ ⟨he, hb⟩ => ⟨he.trans (ret_pair e.symm ?_), hb⟩
    unfold choS; rw [e]; simp [hn]
end Go.Proofs.YtjnjafkfemaaeaaDoor
