/- The walks of the reference's Enough, of Identities on both sides, and of the laws MethodChooses and MethodSuffices: for every argument the laws return true, wherever the table holds its numbers. -/
import Derived.Test.YtjnjafkfemaaeaaDoorW4
namespace Go.Proofs.YtjnjafkfemaaeaaDoor
open Go.RowKit

set_option maxHeartbeats 1000000 in
theorem refenough_any (i j : Int) (o b m s t o' b' m' s' t' : Bool) (w : World) (E : Bool) (hE : enoB i o m j o' m' = E) :
    Calls Tryd.prog 19 #[feat i o b m s t, feat j o' b' m' s' t'] w fun e w' => e = .returned (.bool E) ∧ Below w.heap.size w w' := by
  subst hE
  generalize hM : choM i o m j o' m' = M
  generalize hS : choS i o m j o' m' = S
  have hfin : enoB i o m j o' m' = (M != 0 && (S || (!m && !m'))) := by unfold enoB; rw [hM, hS]
  have HF := Lib.hid hfin
  clear hfin
  have H := refchoose_any i j o b m s t o' b' m' s' t'
  have HM := Lib.hid hM
  have HS := Lib.hid hS
  have HH := Lib.hid H
  clear hM hS H
  by_cases h0 : M = 0
  · subst h0
    go_enter Tryd.func19, Tryd.ntmps19
    go_wp2_with fail
    refine (HH.out _ _ _ HM.out HS.out).mono ?_
    rintro e w1 ⟨rfl, hb1⟩
    go_wp2_with fail
    go_ret
    exact ⟨by rw [HF.out]; rfl, two hb1⟩
  · have h1 : (M == 0) = false := by simpa using h0
    have h2 : (M != 0) = true := by simpa using h0
    cases S <;> cases m <;> cases m'
    all_goals
      go_enter Tryd.func19, Tryd.ntmps19
      go_wp2_with fail
      refine (HH.out _ _ _ HM.out HS.out).mono ?_
      rintro e w1 ⟨rfl, hb1⟩
      obtain ⟨hc1, hf1⟩ := bcell hb1
      obtain ⟨hz1, hz1'⟩ := sz2 hb1
      go_wp2_with fail
      go_ret
      refine ⟨?_, two hb1⟩
      rw [HF.out]
      simp [h2]

theorem ret_bools {a b c d : Bool} (h : a = b) (h' : c = d) : Ending.returned (.tuple #[.bool a, .bool c]) = .returned (.tuple #[.bool b, .bool d]) := by rw [h, h']

set_option maxHeartbeats 1000000 in
theorem ident_any (i j : Int) (o b m s t o' b' m' s' t' : Bool) (w : World) :
    Calls Tryd.prog 17 #[feat i o b m s t, feat j o' b' m' s' t'] w fun e w' => e = .returned (.tuple #[.bool (s && t'), .bool (s' && t)]) ∧ Below w.heap.size w w' := by
  cases s <;> cases s'
  all_goals
    go_enter Tryd.func17, Tryd.ntmps17
    go_wp2_with fail
    go_quiet (fail)
    go_wp2
    go_ret2
    exact ⟨by simp, below_drewN (al2 _ _ _) _⟩

set_option maxHeartbeats 1000000 in
theorem refident_any (i j : Int) (o b m s t o' b' m' s' t' : Bool) (w : World) :
    Calls Tryd.prog 18 #[feat i o b m s t, feat j o' b' m' s' t'] w fun e w' => e = .returned (.tuple #[.bool (s && t'), .bool (s' && t)]) ∧ Below w.heap.size w w' := by
  cases s <;> cases s'
  all_goals
    go_enter Tryd.func18, Tryd.ntmps18
    go_wp2_with fail
    go_quiet (fail)
    go_wp2
    go_ret2
    exact ⟨by simp, below_drewN (al2 _ _ _) _⟩

set_option maxHeartbeats 2000000 in
theorem methodChooses_walk (i j : Int) (o b m s t o' b' m' s' t' : Bool) (w : World) (hT : Tab w) :
    Calls Tryd.prog 4 #[feat i o b m s t, feat j o' b' m' s' t'] w fun e w' => e = .returned (.bool true) ∧ Below w.heap.size w w' := by
  generalize hM : choM i o m j o' m' = M
  generalize hS : choS i o m j o' m' = S
  have HM := Lib.hid hM
  have HS := Lib.hid hS
  have HT := Lib.hid hT
  clear hM hS hT
  go_enter Tryd.func4, Tryd.ntmps4
  go_wp2_with fail
  refine (choose_any i j o b m s t o' b' m' s' t' _ (HT.out.below (al2 _ _ _) HT.out.1) _ _ HM.out HS.out).mono ?_
  rintro e w1 ⟨rfl, hb1⟩
  obtain ⟨hc1, hf1⟩ := bcell hb1
  obtain ⟨hz1, hz1'⟩ := sz2 hb1
  have hB1 := two hb1
  go_wp2_with fail
  refine (refchoose_any i j o b m s t o' b' m' s' t' _ _ _ HM.out HS.out).mono ?_
  rintro e w2 ⟨rfl, hb2⟩
  have hB2 := bthen hB1 hb2
  go_wp2_with fail
  refine (lives_any _ (HT.out.keep hB2)).mono ?_
  rintro e w3 ⟨rfl, hb3⟩
  have hB3 := bthen hB2 hb3
  go_wp2_with fail
  go_ret
  exact ⟨by simp, hB3⟩

set_option maxHeartbeats 4000000 in
theorem methodSuffices_walk (i j : Int) (o b m s t o' b' m' s' t' : Bool) (w : World) (hT : Tab w) :
    Calls Tryd.prog 7 #[feat i o b m s t, feat j o' b' m' s' t'] w fun e w' => e = .returned (.bool true) ∧ Below w.heap.size w w' := by
  generalize hE : enoB i o m j o' m' = E
  have HE := Lib.hid hE
  have HT := Lib.hid hT
  clear hE hT
  go_enter Tryd.func7, Tryd.ntmps7
  go_wp2_with fail
  refine (ident_any i j o b m s t o' b' m' s' t' _).mono ?_
  rintro e w1 ⟨rfl, hb1⟩
  obtain ⟨hc1, hf1⟩ := bcell hb1
  obtain ⟨hz1, hz1'⟩ := sz2 hb1
  have hB1 := two hb1
  go_wp2_with fail
  refine (refident_any i j o b m s t o' b' m' s' t' _).mono ?_
  rintro e w2 ⟨rfl, hb2⟩
  obtain ⟨hc2, hf2⟩ := bcell hb2
  have hz2 := hb2.size
  have hz21 : w.heap.size < w2.heap.size := by omega
  have hz22 : w.heap.size + 1 < w2.heap.size := by omega
  have hB2 := bthen hB1 hb2
  obtain ⟨k0, k1, k2, k3, k4, k5⟩ : w2.cell? ⟨w.heap.size, 0, none⟩ = some (.int .i64 i) ∧ w2.cell? ⟨w.heap.size, 1, none⟩ = some (.bool o) ∧ w2.cell? ⟨w.heap.size, 2, none⟩ = some (.bool b) ∧ w2.cell? ⟨w.heap.size, 3, none⟩ = some (.bool m) ∧ w2.cell? ⟨w.heap.size, 4, none⟩ = some (.bool s) ∧ w2.cell? ⟨w.heap.size, 5, none⟩ = some (.bool t) := by
    refine ⟨?_, ?_, ?_, ?_, ?_, ?_⟩ <;> (rw [hc2 _ _ hz1, hc1 _ _ (by simp; omega)]; simp [go_sem])
  obtain ⟨m0, m1, m2, m3, m4, m5⟩ : w2.cell? ⟨w.heap.size + 1, 0, none⟩ = some (.int .i64 j) ∧ w2.cell? ⟨w.heap.size + 1, 1, none⟩ = some (.bool o') ∧ w2.cell? ⟨w.heap.size + 1, 2, none⟩ = some (.bool b') ∧ w2.cell? ⟨w.heap.size + 1, 3, none⟩ = some (.bool m') ∧ w2.cell? ⟨w.heap.size + 1, 4, none⟩ = some (.bool s') ∧ w2.cell? ⟨w.heap.size + 1, 5, none⟩ = some (.bool t') := by
    refine ⟨?_, ?_, ?_, ?_, ?_, ?_⟩ <;> (rw [hc2 _ _ hz1', hc1 _ _ (by simp)]; simp [go_sem])
  clear hc1 hf1 hc2 hf2
  generalize hA : (s && t') = A
  generalize hA' : (s' && t) = A'
  clear hA hA'
  go_wp2_with fail
  go_region_held3 (fun w' => w'.cell? ⟨w.heap.size, 0, none⟩ = some (.int .i64 i) ∧ w'.cell? ⟨w.heap.size, 1, none⟩ = some (.bool o) ∧ w'.cell? ⟨w.heap.size, 2, none⟩ = some (.bool b) ∧ w'.cell? ⟨w.heap.size, 3, none⟩ = some (.bool m) ∧ w'.cell? ⟨w.heap.size, 4, none⟩ = some (.bool s) ∧ w'.cell? ⟨w.heap.size, 5, none⟩ = some (.bool t) ∧ w'.cell? ⟨w.heap.size + 1, 0, none⟩ = some (.int .i64 j) ∧ w'.cell? ⟨w.heap.size + 1, 1, none⟩ = some (.bool o') ∧ w'.cell? ⟨w.heap.size + 1, 2, none⟩ = some (.bool b') ∧ w'.cell? ⟨w.heap.size + 1, 3, none⟩ = some (.bool m') ∧ w'.cell? ⟨w.heap.size + 1, 4, none⟩ = some (.bool s') ∧ w'.cell? ⟨w.heap.size + 1, 5, none⟩ = some (.bool t')) (go_keep)
    (first
      | (go_at_call 9; refine (lives_any _ ?_).mono ?_; exact (HT.out.keep hB2.drew); rintro e w3 ⟨rfl, hb3⟩; have hc3 := bfar (w.heap.size + 2) hb3 (by simp; omega); have hz3 : w.heap.size + 2 ≤ w3.heap.size := (by have := hb3.size; simp at this; omega))
      | (go_at_call 16; refine (enough_any i j o b m s t o' b' m' s' t' _ ?_ _ HE.out).mono ?_; exact (HT.out.keep (bthen hB2.drew hb3)); rintro e w4 ⟨rfl, hb4⟩; have hc4 := bfar (w.heap.size + 2) hb4 hz3; have hz4 : w.heap.size + 2 ≤ w4.heap.size := (by have := hb4.size; omega))
      | (go_at_call 19; refine (refenough_any i j o b m s t o' b' m' s' t' _ _ HE.out).mono ?_; rintro e w5 ⟨rfl, hb5⟩; have hc5 := bfar (w.heap.size + 2) hb5 hz4))
  go_wp2
  go_ret
  exact ⟨by simp, bthen (bthen (bthen hB2.drew hb3) hb4) hb5⟩
end Go.Proofs.YtjnjafkfemaaeaaDoor
