/- Walks of the small functions of package method and of its reference: what each call returns; nothing that was there before is changed. -/
import Derived.Test.YtjnjafkfemaaeaaDoorBase
namespace Go.Proofs.YtjnjafkfemaaeaaDoor
open Go.RowKit

def chk (io : Int) : Int := if 0 ≤ io ∧ io ≤ 4 then 0 else 5
theorem chk_bad {io : Int} (h : io < 0 ∨ 5 ≤ io) : chk io = 5 := by unfold chk; rw [if_neg (by omega)]
theorem chk_ok {io : Int} (h : 0 ≤ io) (h' : io < 5) : chk io = 0 := by unfold chk; rw [if_pos (by omega)]

abbrev feat (io : Int) (o b m s t : Bool) : Value := .agg #[.int .i64 io, .bool o, .bool b, .bool m, .bool s, .bool t]



set_option maxHeartbeats 400000 in
theorem check_bad (io : Int) (o b m s t : Bool) (w : World) (h : io < 0 ∨ 5 ≤ io) :
    Calls Tryd.prog 10 #[feat io o b m s t] w fun e w' => e = .returned (.int .i64 5) ∧ Below w.heap.size w w' := by
  rcases h with h0 | h4
  · go_enter Tryd.func10, Tryd.ntmps10
    go_wp2
    go_ret
    exact ⟨rfl, (Below.refl _ _).alloc (Nat.le_refl _) _⟩
  · have h0 : 0 ≤ io := by omega
    go_enter Tryd.func10, Tryd.ntmps10
    go_wp2
    go_ret
    exact ⟨rfl, (Below.refl _ _).alloc (Nat.le_refl _) _⟩

set_option maxHeartbeats 400000 in
theorem check_ok (io : Int) (o b m s t : Bool) (w : World) (h0 : 0 ≤ io) (h5 : io < 5) :
    Calls Tryd.prog 10 #[feat io o b m s t] w fun e w' => e = .returned (.int .i64 0) ∧ Below w.heap.size w w' := by
  go_enter Tryd.func10, Tryd.ntmps10
  go_wp2
  go_ret
  exact ⟨rfl, (Below.refl _ _).alloc (Nat.le_refl _) _⟩

def tabL : List Int := [1, 1, 3, 1, 3, 1, 2, 3, 1, 2, 4, 4, 5, 1, 4, 1, 1, 1, 1, 1, 4, 2, 3, 1, 2]
def tab (i j : Int) : Int := tabL.getD (i.toNat * 5 + j.toNat) 0

/-- The cells of the table of package method hold its 25 numbers. -/
def Tab (w : World) : Prop := 0 < w.heap.size ∧ ∀ i j : Nat, i < 5 → j < 5 → w.cell? ⟨0, i * 5 + j, none⟩ = some (.int .i64 (tab i j))
theorem Tab.below {B : Nat} {w w' : World} (h : Tab w) (hb : Below B w w') (hB : 0 < B) : Tab w' :=
  ⟨Nat.lt_of_lt_of_le h.1 hb.size, fun i j hi hj => (hb.cell (p := ⟨0, i * 5 + j, none⟩) hB).trans (h.2 i j hi hj)⟩
theorem Tab.keep {w w' : World} (h : Tab w) (hb : Below w.heap.size w w') : Tab w' := h.below hb h.1


def choM (i : Int) (o m : Bool) (j : Int) (o' m' : Bool) : Int :=
  if i < 0 ∨ 5 ≤ i ∨ j < 0 ∨ 5 ≤ j then 0 else if (o || o') = true then 6 else if (m || m') = false then 1 else tab i j
def choS (i : Int) (o m : Bool) (j : Int) (o' m' : Bool) : Bool := choM i o m j o' m' != 0 && choM i o m j o' m' != 1

theorem tab_ne (i j : Int) (h0 : 0 ≤ i) (h1 : i < 5) (h2 : 0 ≤ j) (h3 : j < 5) : tab i j ≠ 0 := by
  obtain rfl | rfl | rfl | rfl | rfl : i = 0 ∨ i = 1 ∨ i = 2 ∨ i = 3 ∨ i = 4 := by omega
  all_goals obtain rfl | rfl | rfl | rfl | rfl : j = 0 ∨ j = 1 ∨ j = 2 ∨ j = 3 ∨ j = 4 := by omega
  all_goals decide

set_option maxHeartbeats 1000000 in
theorem choose_tab (i j : Nat) (b m s t b' m' s' t' : Bool) (w : World) (hi : i < 5) (hj : j < 5) (hm : (m || m') = true) (hT : Tab w) :
    Calls Tryd.prog 12 #[feat i false b m s t, feat j false b' m' s' t'] w fun e w' => e = .returned (.tuple #[.int .i64 (tab i j), .bool (tab i j != 1)]) ∧ Below w.heap.size w w' := by
  have hc := hT.2 i j hi hj
  have hw := hT.1
  cases m
  · obtain rfl : m' = true := by simpa using hm
    go_enter Tryd.func12, Tryd.ntmps12
    go_wp2_with fail
    refine (check_ok _ _ _ _ _ _ _ (by omega) (by omega)).mono ?_
    rintro e w1 ⟨rfl, hb1⟩
    obtain ⟨hc1, hf1⟩ := bcell hb1
    obtain ⟨hz1, hz1'⟩ := sz2 hb1
    go_wp2_with fail
    refine (check_ok _ _ _ _ _ _ _ (by omega) (by omega)).mono ?_
    rintro e w2 ⟨rfl, hb2⟩
    obtain ⟨hc2, hf2⟩ := bcell hb2
    have hz2 := hb2.size
    have hz0 : 0 < w1.heap.size := by omega
    go_wp2_with fail
    go_quiet (fail)
    go_wp2
    go_ret2
    exact ⟨rfl, below_drewN (bthen (two hb1) hb2) _⟩
  · go_enter Tryd.func12, Tryd.ntmps12
    go_wp2_with fail
    refine (check_ok _ _ _ _ _ _ _ (by omega) (by omega)).mono ?_
    rintro e w1 ⟨rfl, hb1⟩
    obtain ⟨hc1, hf1⟩ := bcell hb1
    obtain ⟨hz1, hz1'⟩ := sz2 hb1
    go_wp2_with fail
    refine (check_ok _ _ _ _ _ _ _ (by omega) (by omega)).mono ?_
    rintro e w2 ⟨rfl, hb2⟩
    obtain ⟨hc2, hf2⟩ := bcell hb2
    have hz2 := hb2.size
    have hz0 : 0 < w1.heap.size := by omega
    go_wp2_with fail
    go_quiet (fail)
    go_wp2
    go_ret2
    exact ⟨rfl, below_drewN (bthen (two hb1) hb2) _⟩

set_option maxHeartbeats 1000000 in
theorem choose_bad1 (i j : Int) (o b m s t o' b' m' s' t' : Bool) (w : World) (hi : i < 0 ∨ 5 ≤ i) :
    Calls Tryd.prog 12 #[feat i o b m s t, feat j o' b' m' s' t'] w fun e w' => e = .returned (.tuple #[.int .i64 0, .bool false]) ∧ Below w.heap.size w w' := by
  go_enter Tryd.func12, Tryd.ntmps12
  go_wp2_with fail
  refine (check_bad _ _ _ _ _ _ _ hi).mono ?_
  rintro e w1 ⟨rfl, hb1⟩
  go_wp2_with fail
  go_ret2
  exact ⟨rfl, two hb1⟩

set_option maxHeartbeats 1000000 in
theorem choose_bad2 (i j : Int) (o b m s t o' b' m' s' t' : Bool) (w : World) (h0 : 0 ≤ i) (h1 : i < 5) (hj : j < 0 ∨ 5 ≤ j) :
    Calls Tryd.prog 12 #[feat i o b m s t, feat j o' b' m' s' t'] w fun e w' => e = .returned (.tuple #[.int .i64 0, .bool false]) ∧ Below w.heap.size w w' := by
  go_enter Tryd.func12, Tryd.ntmps12
  go_wp2_with fail
  refine (check_ok _ _ _ _ _ _ _ h0 h1).mono ?_
  rintro e w1 ⟨rfl, hb1⟩
  obtain ⟨hc1, hf1⟩ := bcell hb1
  obtain ⟨hz1, hz1'⟩ := sz2 hb1
  go_wp2_with fail
  refine (check_bad _ _ _ _ _ _ _ hj).mono ?_
  rintro e w2 ⟨rfl, hb2⟩
  go_wp2_with fail
  go_ret2
  exact ⟨rfl, bthen (two hb1) hb2⟩

set_option maxHeartbeats 1000000 in
theorem choose_oob (i j : Int) (o b m s t o' b' m' s' t' : Bool) (w : World) (h0 : 0 ≤ i) (h1 : i < 5) (h2 : 0 ≤ j) (h3 : j < 5) (ho : (o || o') = true) :
    Calls Tryd.prog 12 #[feat i o b m s t, feat j o' b' m' s' t'] w fun e w' => e = .returned (.tuple #[.int .i64 6, .bool true]) ∧ Below w.heap.size w w' := by
  cases o
  · obtain rfl : o' = true := by simpa using ho
    go_enter Tryd.func12, Tryd.ntmps12
    go_wp2_with fail
    refine (check_ok _ _ _ _ _ _ _ h0 h1).mono ?_
    rintro e w1 ⟨rfl, hb1⟩
    obtain ⟨hc1, hf1⟩ := bcell hb1
    obtain ⟨hz1, hz1'⟩ := sz2 hb1
    go_wp2_with fail
    refine (check_ok _ _ _ _ _ _ _ h2 h3).mono ?_
    rintro e w2 ⟨rfl, hb2⟩
    obtain ⟨hc2, hf2⟩ := bcell hb2
    have hz2 := hb2.size
    go_wp2_with fail
    go_ret2
    exact ⟨rfl, bthen (two hb1) hb2⟩
  · go_enter Tryd.func12, Tryd.ntmps12
    go_wp2_with fail
    refine (check_ok _ _ _ _ _ _ _ h0 h1).mono ?_
    rintro e w1 ⟨rfl, hb1⟩
    obtain ⟨hc1, hf1⟩ := bcell hb1
    obtain ⟨hz1, hz1'⟩ := sz2 hb1
    go_wp2_with fail
    refine (check_ok _ _ _ _ _ _ _ h2 h3).mono ?_
    rintro e w2 ⟨rfl, hb2⟩
    obtain ⟨hc2, hf2⟩ := bcell hb2
    have hz2 := hb2.size
    go_wp2_with fail
    go_ret2
    exact ⟨rfl, bthen (two hb1) hb2⟩

set_option maxHeartbeats 1000000 in
theorem choose_just (i j : Int) (b s t b' s' t' : Bool) (w : World) (h0 : 0 ≤ i) (h1 : i < 5) (h2 : 0 ≤ j) (h3 : j < 5) :
    Calls Tryd.prog 12 #[feat i false b false s t, feat j false b' false s' t'] w fun e w' => e = .returned (.tuple #[.int .i64 1, .bool false]) ∧ Below w.heap.size w w' := by
  go_enter Tryd.func12, Tryd.ntmps12
  go_wp2_with fail
  refine (check_ok _ _ _ _ _ _ _ h0 h1).mono ?_
  rintro e w1 ⟨rfl, hb1⟩
  obtain ⟨hc1, hf1⟩ := bcell hb1
  obtain ⟨hz1, hz1'⟩ := sz2 hb1
  go_wp2_with fail
  refine (check_ok _ _ _ _ _ _ _ h2 h3).mono ?_
  rintro e w2 ⟨rfl, hb2⟩
  obtain ⟨hc2, hf2⟩ := bcell hb2
  have hz2 := hb2.size
  go_wp2_with fail
  go_ret2
  exact ⟨rfl, bthen (two hb1) hb2⟩


/-- The method for any features. -/
theorem choose_any (i j : Int) (o b m s t o' b' m' s' t' : Bool) (w : World) (hT : Tab w) (M : Int) (S : Bool) (hM : choM i o m j o' m' = M) (hS : choS i o m j o' m' = S) :
    Calls Tryd.prog 12 #[feat i o b m s t, feat j o' b' m' s' t'] w fun e w' => e = .returned (.tuple #[.int .i64 M, .bool S]) ∧ Below w.heap.size w w' := by
  subst hM hS
  by_cases hi : i < 0 ∨ 5 ≤ i
  · have e : choM i o m j o' m' = 0 := by unfold choM; rw [if_pos (by omega)]
    exact (choose_bad1 i j o b m s t o' b' m' s' t' w hi).mono fun _ _ ⟨he, hb⟩ => ⟨he.trans (ret_pair e.symm (by unfold choS; rw [e]; rfl)), hb⟩
  by_cases hj : j < 0 ∨ 5 ≤ j
  · have e : choM i o m j o' m' = 0 := by unfold choM; rw [if_pos (by omega)]
    exact (choose_bad2 i j o b m s t o' b' m' s' t' w (by omega) (by omega) hj).mono fun _ _ ⟨he, hb⟩ => ⟨he.trans (ret_pair e.symm (by unfold choS; rw [e]; rfl)), hb⟩
  by_cases ho : (o || o') = true
  · have e : choM i o m j o' m' = 6 := by unfold choM; rw [if_neg (by omega), if_pos ho]
    exact (choose_oob i j o b m s t o' b' m' s' t' w (by omega) (by omega) (by omega) (by omega) ho).mono fun _ _ ⟨he, hb⟩ => ⟨he.trans (ret_pair e.symm (by unfold choS; rw [e]; rfl)), hb⟩
  obtain ⟨rfl, rfl⟩ : o = false ∧ o' = false := by cases o <;> cases o' <;> simp_all
  by_cases hm : (m || m') = false
  · obtain ⟨rfl, rfl⟩ : m = false ∧ m' = false := by cases m <;> cases m' <;> simp_all
    have e : choM i false false j false false = 1 := by unfold choM; rw [if_neg (by omega), if_neg (by simp), if_pos (by simp)]
    exact (choose_just i j b s t b' s' t' w (by omega) (by omega) (by omega) (by omega)).mono fun _ _ ⟨he, hb⟩ => ⟨he.trans (ret_pair e.symm (by unfold choS; rw [e]; rfl)), hb⟩
  · have e : choM i false m j false m' = tab i j := by unfold choM; rw [if_neg (by omega), if_neg (by simp), if_neg hm]
    have hn := tab_ne i j (by omega) (by omega) (by omega) (by omega)
    obtain ⟨i, rfl⟩ := Int.eq_ofNat_of_zero_le (show 0 ≤ i by omega)
    obtain ⟨j, rfl⟩ := Int.eq_ofNat_of_zero_le (show 0 ≤ j by omega)
    refine (choose_tab i j b m s t b' m' s' t' w (by omega) (by omega) (by simpa only [Bool.not_eq_false] using hm) hT).mono fun _ _ ⟨he, hb⟩ => ⟨he.trans (ret_pair e.symm ?_), hb⟩
    unfold choS; rw [e]; simp [hn]

end Go.Proofs.YtjnjafkfemaaeaaDoor
