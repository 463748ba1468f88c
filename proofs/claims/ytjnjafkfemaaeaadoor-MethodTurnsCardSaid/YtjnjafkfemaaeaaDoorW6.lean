/- The walks of the laws MethodTurns and MethodProtects: for every argument they return true, wherever the table holds its numbers. -/
import Derived.Test.YtjnjafkfemaaeaaDoorW5
namespace Go.Proofs.YtjnjafkfemaaeaaDoor
open Go.RowKit

/-- Showing and entering exchanged. -/
def sw (n : Int) : Int := if n = 3 then 4 else if n = 4 then 3 else n
theorem tab_swap (i j : Int) (h0 : 0 ≤ i) (h1 : i < 5) (h2 : 0 ≤ j) (h3 : j < 5) : tab i j = sw (tab j i) ∧ (tab j i = 0 ∨ tab j i = 1 ∨ tab j i = 2 ∨ tab j i = 3 ∨ tab j i = 4 ∨ tab j i = 5 ∨ tab j i = 6) := by
  obtain rfl | rfl | rfl | rfl | rfl : i = 0 ∨ i = 1 ∨ i = 2 ∨ i = 3 ∨ i = 4 := by omega
  all_goals obtain rfl | rfl | rfl | rfl | rfl : j = 0 ∨ j = 1 ∨ j = 2 ∨ j = 3 ∨ j = 4 := by omega
  all_goals decide
theorem cho_swap (i j : Int) (o m o' m' : Bool) : choM i o m j o' m' = sw (choM j o' m' i o m) ∧
    (choM j o' m' i o m = 0 ∨ choM j o' m' i o m = 1 ∨ choM j o' m' i o m = 2 ∨ choM j o' m' i o m = 3 ∨ choM j o' m' i o m = 4 ∨ choM j o' m' i o m = 5 ∨ choM j o' m' i o m = 6) := by
  by_cases h : i < 0 ∨ 5 ≤ i ∨ j < 0 ∨ 5 ≤ j
  · have e1 : choM i o m j o' m' = 0 := by unfold choM; rw [if_pos h]
    have e2 : choM j o' m' i o m = 0 := by unfold choM; rw [if_pos (by omega)]
    rw [e1, e2]; decide
  · have h' : ¬ (j < 0 ∨ 5 ≤ j ∨ i < 0 ∨ 5 ≤ i) := by omega
    by_cases ho : (o || o') = true
    · have e1 : choM i o m j o' m' = 6 := by unfold choM; rw [if_neg h, if_pos ho]
      have e2 : choM j o' m' i o m = 6 := by unfold choM; rw [if_neg h', if_pos (by rw [Bool.or_comm]; exact ho)]
      rw [e1, e2]; decide
    · have ho' : ¬ (o' || o) = true := by rw [Bool.or_comm]; exact ho
      by_cases hm : (m || m') = false
      · have e1 : choM i o m j o' m' = 1 := by unfold choM; rw [if_neg h, if_neg ho, if_pos hm]
        have e2 : choM j o' m' i o m = 1 := by unfold choM; rw [if_neg h', if_neg ho', if_pos (by rw [Bool.or_comm]; exact hm)]
        rw [e1, e2]; decide
      · have e1 : choM i o m j o' m' = tab i j := by unfold choM; rw [if_neg h, if_neg ho, if_neg hm]
        have e2 : choM j o' m' i o m = tab j i := by unfold choM; rw [if_neg h', if_neg ho', if_neg (by rw [Bool.or_comm]; exact hm)]
        rw [e1, e2]
        exact tab_swap i j (by omega) (by omega) (by omega) (by omega)

set_option maxHeartbeats 8000000 in
theorem methodTurns_at (N M : Int) (S : Bool) (E : Bool) (i j : Int) (o b m s t o' b' m' s' t' : Bool) (w : World) (hT : Tab w)
    (hN : N = 0 ∨ N = 1 ∨ N = 2 ∨ N = 3 ∨ N = 4 ∨ N = 5 ∨ N = 6) (hMN : M = sw N)
    (hM : choM i o m j o' m' = M) (hS : choS i o m j o' m' = S) (hM' : choM j o' m' i o m = N) (hS' : choS j o' m' i o m = S) (hE : enoB i o m j o' m' = E) (hE' : enoB j o' m' i o m = E) :
    Calls Tryd.prog 8 #[feat i o b m s t, feat j o' b' m' s' t'] w fun e w' => e = .returned (.bool true) ∧ Below w.heap.size w w' := by
  have HE := Lib.hid hE
  have HE' := Lib.hid hE'
  have HT := Lib.hid hT
  have HM := Lib.hid hM
  have HS := Lib.hid hS
  have HM' := Lib.hid hM'
  have HS' := Lib.hid hS'
  clear hE hE' hT hM hS hM' hS'
  rcases hN with rfl | rfl | rfl | rfl | rfl | rfl | rfl
  all_goals
    simp only [sw] at hMN
    simp at hMN
    subst hMN
    go_enter Tryd.func8, Tryd.ntmps8
    go_wp2_with fail
    refine (choose_any i j o b m s t o' b' m' s' t' _ (HT.out.below (al2 _ _ _) HT.out.1) _ _ HM.out HS.out).mono ?_
    rintro e w1 ⟨rfl, hb1⟩
    obtain ⟨hc1, hf1⟩ := bcell hb1
    obtain ⟨hz1, hz1'⟩ := sz2 hb1
    have hB1 := two hb1
    obtain ⟨k0, k1, k2, k3, k4, k5⟩ : w1.cell? ⟨w.heap.size, 0, none⟩ = some (.int .i64 i) ∧ w1.cell? ⟨w.heap.size, 1, none⟩ = some (.bool o) ∧ w1.cell? ⟨w.heap.size, 2, none⟩ = some (.bool b) ∧ w1.cell? ⟨w.heap.size, 3, none⟩ = some (.bool m) ∧ w1.cell? ⟨w.heap.size, 4, none⟩ = some (.bool s) ∧ w1.cell? ⟨w.heap.size, 5, none⟩ = some (.bool t) := by
      refine ⟨?_, ?_, ?_, ?_, ?_, ?_⟩ <;> (rw [hc1 _ _ (by simp; omega)]; simp [go_sem])
    obtain ⟨m0, m1, m2, m3, m4, m5⟩ : w1.cell? ⟨w.heap.size + 1, 0, none⟩ = some (.int .i64 j) ∧ w1.cell? ⟨w.heap.size + 1, 1, none⟩ = some (.bool o') ∧ w1.cell? ⟨w.heap.size + 1, 2, none⟩ = some (.bool b') ∧ w1.cell? ⟨w.heap.size + 1, 3, none⟩ = some (.bool m') ∧ w1.cell? ⟨w.heap.size + 1, 4, none⟩ = some (.bool s') ∧ w1.cell? ⟨w.heap.size + 1, 5, none⟩ = some (.bool t') := by
      refine ⟨?_, ?_, ?_, ?_, ?_, ?_⟩ <;> (rw [hc1 _ _ (by simp)]; simp [go_sem])
    clear hc1 hf1
    go_wp2_with fail
    refine (choose_any j i o' b' m' s' t' o b m s t _ (HT.out.keep hB1) _ _ HM'.out HS'.out).mono ?_
    rintro e w2 ⟨rfl, hb2⟩
    have hc2 := bfar (w.heap.size + 2) hb2 (by omega)
    have hz2 : w.heap.size + 2 ≤ w2.heap.size := (by have := hb2.size; omega)
    have hB2 := bthen hB1 hb2
    go_wp2_with fail
    refine (ident_any i j o b m s t o' b' m' s' t' _).mono ?_
    rintro e w3 ⟨rfl, hb3⟩
    have hc3 := bfar (w.heap.size + 2) hb3 (by omega)
    have hz3 : w.heap.size + 2 ≤ w3.heap.size := (by have := hb3.size; omega)
    have hB3 := bthen hB2 hb3
    go_wp2_with fail
    refine (ident_any j i o' b' m' s' t' o b m s t _).mono ?_
    rintro e w4 ⟨rfl, hb4⟩
    have hc4 := bfar (w.heap.size + 2) hb4 (by omega)
    have hz4 : w.heap.size + 2 ≤ w4.heap.size := (by have := hb4.size; omega)
    have hB4 := bthen hB3 hb4
    generalize hA : (s && t') = A
    generalize hA' : (s' && t) = A'
    clear hA hA'
    go_wp2_with fail
    go_region_held3 (fun w' => w'.cell? ⟨w.heap.size, 0, none⟩ = some (.int .i64 i) ∧ w'.cell? ⟨w.heap.size, 1, none⟩ = some (.bool o) ∧ w'.cell? ⟨w.heap.size, 2, none⟩ = some (.bool b) ∧ w'.cell? ⟨w.heap.size, 3, none⟩ = some (.bool m) ∧ w'.cell? ⟨w.heap.size, 4, none⟩ = some (.bool s) ∧ w'.cell? ⟨w.heap.size, 5, none⟩ = some (.bool t) ∧ w'.cell? ⟨w.heap.size + 1, 0, none⟩ = some (.int .i64 j) ∧ w'.cell? ⟨w.heap.size + 1, 1, none⟩ = some (.bool o') ∧ w'.cell? ⟨w.heap.size + 1, 2, none⟩ = some (.bool b') ∧ w'.cell? ⟨w.heap.size + 1, 3, none⟩ = some (.bool m') ∧ w'.cell? ⟨w.heap.size + 1, 4, none⟩ = some (.bool s') ∧ w'.cell? ⟨w.heap.size + 1, 5, none⟩ = some (.bool t')) (go_keep)
      (first
        | (go_at_call 9; refine (lives_any _ ?_).mono ?_; exact (HT.out.keep hB4.drew); rintro e w5 ⟨rfl, hb5⟩; have hc5 := bfar (w.heap.size + 2) hb5 (by simp; omega); have hz5 : w.heap.size + 2 ≤ w5.heap.size := (by have := hb5.size; simp at this; omega))
        | (go_at_call 16; with_reducible refine (enough_any i j o b m s t o' b' m' s' t' _ ?_ _ HE.out).mono ?_; exact (HT.out.keep (bthen hB4.drew hb5)); rintro e w6 ⟨rfl, hb6⟩; have hc6 := bfar (w.heap.size + 2) hb6 hz5; have hz6 : w.heap.size + 2 ≤ w6.heap.size := (by have := hb6.size; omega))
        | (go_at_call 16; refine (enough_any j i o' b' m' s' t' o b m s t _ ?_ _ HE'.out).mono ?_; exact (HT.out.keep (bthen (bthen hB4.drew hb5) hb6)); rintro e w7 ⟨rfl, hb7⟩; have hc7 := bfar (w.heap.size + 2) hb7 hz6))
    go_wp2
    go_ret
    exact ⟨by simp, bthen (bthen (bthen hB4.drew hb5) hb6) hb7⟩

theorem methodTurns_walk (i j : Int) (o b m s t o' b' m' s' t' : Bool) (w : World) (hT : Tab w) :
    Calls Tryd.prog 8 #[feat i o b m s t, feat j o' b' m' s' t'] w fun e w' => e = .returned (.bool true) ∧ Below w.heap.size w w' := by
  obtain ⟨h1, h2⟩ := cho_swap i j o m o' m'
  have hs : choS j o' m' i o m = choS i o m j o' m' := by
    unfold choS
    rw [h1]
    rcases h2 with e | e | e | e | e | e | e <;> rw [e] <;> decide
  have he : enoB j o' m' i o m = enoB i o m j o' m' := by
    unfold enoB
    rw [hs, h1, Bool.and_comm (!m') (!m)]
    rcases h2 with e | e | e | e | e | e | e <;> rw [e] <;> simp [sw]
  exact methodTurns_at _ _ _ _ i j o b m s t o' b' m' s' t' w hT h2 h1 rfl rfl rfl hs rfl he

set_option maxHeartbeats 4000000 in
theorem methodProtects_bad1 (i j : Int) (o b m s t o' b' m' s' t' : Bool) (w : World) (hT : Tab w) (hi : i < 0 ∨ 5 ≤ i) :
    Calls Tryd.prog 6 #[feat i o b m s t, feat j o' b' m' s' t'] w fun e w' => e = .returned (.bool true) ∧ Below w.heap.size w w' := by
  have hE : enoB i o m j o' m' = false := by unfold enoB choM; rw [if_pos (by omega)]; rfl
  have HE := Lib.hid hE
  have HT := Lib.hid hT
  clear hE hT
  go_enter Tryd.func6, Tryd.ntmps6
  go_wp2_with fail
  refine (check_bad _ _ _ _ _ _ _ hi).mono ?_
  rintro e w1 ⟨rfl, hb1⟩
  obtain ⟨hc1, hf1⟩ := bcell hb1
  obtain ⟨hz1, hz1'⟩ := sz2 hb1
  have hB1 := two hb1
  go_wp2_with fail
  refine (lives_any _ (HT.out.keep hB1)).mono ?_
  rintro e w2 ⟨rfl, hb2⟩
  obtain ⟨hc2, hf2⟩ := bcell hb2
  have hz2 := hb2.size
  have hB2 := bthen hB1 hb2
  go_wp2_with fail
  refine (enough_any i j o b m s t o' b' m' s' t' _ (HT.out.keep hB2) _ HE.out).mono ?_
  rintro e w3 ⟨rfl, hb3⟩
  go_wp2
  go_ret
  exact ⟨rfl, bthen hB2 hb3⟩

set_option maxHeartbeats 4000000 in
theorem methodProtects_bad2 (i j : Int) (o b m s t o' b' m' s' t' : Bool) (w : World) (hT : Tab w) (h0 : 0 ≤ i) (h1 : i < 5) (hj : j < 0 ∨ 5 ≤ j) :
    Calls Tryd.prog 6 #[feat i o b m s t, feat j o' b' m' s' t'] w fun e w' => e = .returned (.bool true) ∧ Below w.heap.size w w' := by
  have hE : enoB i o m j o' m' = false := by unfold enoB choM; rw [if_pos (by omega)]; rfl
  have HE := Lib.hid hE
  have HT := Lib.hid hT
  clear hE hT
  go_enter Tryd.func6, Tryd.ntmps6
  go_wp2_with fail
  refine (check_ok _ _ _ _ _ _ _ h0 h1).mono ?_
  rintro e w0 ⟨rfl, hb0⟩
  obtain ⟨hc0, hf0⟩ := bcell hb0
  obtain ⟨hz0, hz0'⟩ := sz2 hb0
  have hB0 := two hb0
  go_wp2_with fail
  refine (check_bad _ _ _ _ _ _ _ hj).mono ?_
  rintro e w1 ⟨rfl, hb1⟩
  obtain ⟨hc1, hf1⟩ := bcell hb1
  have hz1 : w.heap.size + 1 < w1.heap.size := by have := hb1.size; omega
  have hz1' : w.heap.size < w1.heap.size := by have := hb1.size; omega
  have hB1 := bthen hB0 hb1
  go_wp2_with fail
  refine (lives_any _ (HT.out.keep hB1)).mono ?_
  rintro e w2 ⟨rfl, hb2⟩
  obtain ⟨hc2, hf2⟩ := bcell hb2
  have hz2 := hb2.size
  have hB2 := bthen hB1 hb2
  go_wp2_with fail
  refine (enough_any i j o b m s t o' b' m' s' t' _ (HT.out.keep hB2) _ HE.out).mono ?_
  rintro e w3 ⟨rfl, hb3⟩
  go_wp2
  go_ret
  exact ⟨rfl, bthen hB2 hb3⟩

set_option maxHeartbeats 8000000 in
theorem methodProtects_ok (i j : Int) (o b m s t o' b' m' s' t' : Bool) (w : World) (hT : Tab w) (h0 : 0 ≤ i) (h1 : i < 5) (h2 : 0 ≤ j) (h3 : j < 5) :
    Calls Tryd.prog 6 #[feat i o b m s t, feat j o' b' m' s' t'] w fun e w' => e = .returned (.bool true) ∧ Below w.heap.size w w' := by
  have hne : choM i o m j o' m' ≠ 0 := by
    unfold choM; rw [if_neg (by omega)]
    have := tab_ne i j h0 h1 h2 h3
    split <;> (try split) <;> first | decide | exact this
  generalize hM : choM i o m j o' m' = M at hne
  generalize hS : choS i o m j o' m' = S
  have hE : enoB i o m j o' m' = (S || (!m && !m')) := by unfold enoB; rw [hM, hS]; simp [hne]
  have HE := Lib.hid hE
  have HT := Lib.hid hT
  have HM := Lib.hid hM
  have HS := Lib.hid hS
  clear hE hT hM hS hne
  cases S <;> cases m <;> cases m'
  all_goals
    go_enter Tryd.func6, Tryd.ntmps6
    go_wp2_with fail
    refine (check_ok _ _ _ _ _ _ _ h0 h1).mono ?_
    rintro e w0 ⟨rfl, hb0⟩
    obtain ⟨hc0, hf0⟩ := bcell hb0
    obtain ⟨hz0, hz0'⟩ := sz2 hb0
    have hB0 := two hb0
    go_wp2_with fail
    refine (check_ok _ _ _ _ _ _ _ h2 h3).mono ?_
    rintro e w1 ⟨rfl, hb1⟩
    obtain ⟨hc1, hf1⟩ := bcell hb1
    have hz1 : w.heap.size + 1 < w1.heap.size := by have := hb1.size; omega
    have hz1' : w.heap.size < w1.heap.size := by have := hb1.size; omega
    have hB1 := bthen hB0 hb1
    go_wp2_with fail
    refine (choose_any _ _ _ _ _ _ _ _ _ _ _ _ _ (HT.out.keep hB1) _ _ HM.out HS.out).mono ?_
    rintro e w2 ⟨rfl, hb2⟩
    obtain ⟨hc2, hf2⟩ := bcell hb2
    have hz2 : w.heap.size + 1 < w2.heap.size := by have := hb2.size; omega
    have hz2' : w.heap.size < w2.heap.size := by have := hb2.size; omega
    have hB2 := bthen hB1 hb2
    go_wp2_with fail
    refine (lives_any _ (HT.out.keep hB2)).mono ?_
    rintro e w3 ⟨rfl, hb3⟩
    obtain ⟨hc3, hf3⟩ := bcell hb3
    have hz3 : w.heap.size + 1 < w3.heap.size := by have := hb3.size; omega
    have hz3' : w.heap.size < w3.heap.size := by have := hb3.size; omega
    have hB3 := bthen hB2 hb3
    go_wp2_with fail
    refine (enough_any _ _ _ _ _ _ _ _ _ _ _ _ _ (HT.out.keep hB3) _ HE.out).mono ?_
    rintro e w4 ⟨rfl, hb4⟩
    obtain ⟨hc4, hf4⟩ := bcell hb4
    have hz4 : w.heap.size + 1 < w4.heap.size := by have := hb4.size; omega
    have hz4' : w.heap.size < w4.heap.size := by have := hb4.size; omega
    go_wp2
    go_ret
    exact ⟨by simp, bthen hB3 hb4⟩

theorem methodProtects_walk (i j : Int) (o b m s t o' b' m' s' t' : Bool) (w : World) (hT : Tab w) :
    Calls Tryd.prog 6 #[feat i o b m s t, feat j o' b' m' s' t'] w fun e w' => e = .returned (.bool true) ∧ Below w.heap.size w w' := by
  by_cases hi : i < 0 ∨ 5 ≤ i
  · exact methodProtects_bad1 i j o b m s t o' b' m' s' t' w hT hi
  by_cases hj : j < 0 ∨ 5 ≤ j
  · exact methodProtects_bad2 i j o b m s t o' b' m' s' t' w hT (by omega) (by omega) hj
  exact methodProtects_ok i j o b m s t o' b' m' s' t' w hT (by omega) (by omega) (by omega) (by omega)
end Go.Proofs.YtjnjafkfemaaeaaDoor
