/- The walks of the law 'lives' and of the laws of package method's layer. -/
import Derived.Test.YtjnjafkfemaaeaaDoorW1
import Derived.Deep.RegionHeld3
namespace Go.Proofs.YtjnjafkfemaaeaaDoor
open Go.RowKit

set_option maxHeartbeats 400000 in
theorem refcheck_bad (io : Int) (o b m s t : Bool) (w : World) (h : io < 0 ∨ 5 ≤ io) :
    Calls Tryd.prog 11 #[feat io o b m s t] w fun e w' => e = .returned (.int .i64 5) ∧ Below w.heap.size w w' := by
  rcases h with h0 | h4
  · go_enter Tryd.func11, Tryd.ntmps11
    go_wp2
    go_ret
    exact ⟨rfl, (Below.refl _ _).alloc (Nat.le_refl _) _⟩
  · have h0 : 0 ≤ io := by omega
    have h1 : 4 < io := by omega
    go_enter Tryd.func11, Tryd.ntmps11
    go_wp2
    go_ret
    exact ⟨rfl, (Below.refl _ _).alloc (Nat.le_refl _) _⟩

set_option maxHeartbeats 400000 in
theorem refcheck_ok (io : Int) (o b m s t : Bool) (w : World) (h0 : 0 ≤ io) (h5 : io < 5) :
    Calls Tryd.prog 11 #[feat io o b m s t] w fun e w' => e = .returned (.int .i64 0) ∧ Below w.heap.size w w' := by
  have h1 : io ≤ 4 := by omega
  go_enter Tryd.func11, Tryd.ntmps11
  go_wp2
  go_ret
  exact ⟨rfl, (Below.refl _ _).alloc (Nat.le_refl _) _⟩

theorem check_any (io : Int) (o b m s t : Bool) (w : World) :
    Calls Tryd.prog 10 #[feat io o b m s t] w fun e w' => e = .returned (.int .i64 (chk io)) ∧ Below w.heap.size w w' := by
  by_cases h : io < 0 ∨ 5 ≤ io
  · rw [chk_bad h]; exact check_bad io o b m s t w h
  · rw [chk_ok (by omega) (by omega)]; exact check_ok io o b m s t w (by omega) (by omega)
theorem refcheck_any (io : Int) (o b m s t : Bool) (w : World) :
    Calls Tryd.prog 11 #[feat io o b m s t] w fun e w' => e = .returned (.int .i64 (chk io)) ∧ Below w.heap.size w w' := by
  by_cases h : io < 0 ∨ 5 ≤ io
  · rw [chk_bad h]; exact refcheck_bad io o b m s t w h
  · rw [chk_ok (by omega) (by omega)]; exact refcheck_ok io o b m s t w (by omega) (by omega)

/-- Enough: whether the method is strong enough. -/
def enoB (i : Int) (o m : Bool) (j : Int) (o' m' : Bool) : Bool := choM i o m j o' m' != 0 && (choS i o m j o' m' || (!m && !m'))

set_option maxHeartbeats 1000000 in
theorem enough_any (i j : Int) (o b m s t o' b' m' s' t' : Bool) (w : World) (hT : Tab w) (E : Bool) (hE : enoB i o m j o' m' = E) :
    Calls Tryd.prog 16 #[feat i o b m s t, feat j o' b' m' s' t'] w fun e w' => e = .returned (.bool E) ∧ Below w.heap.size w w' := by
  subst hE
  generalize hM : choM i o m j o' m' = M
  generalize hS : choS i o m j o' m' = S
  have hfin : enoB i o m j o' m' = (M != 0 && (S || (!m && !m'))) := by unfold enoB; rw [hM, hS]
  have HF := Lib.hid hfin
  clear hfin
  have H := choose_any i j o b m s t o' b' m' s' t'
  have HM := Lib.hid hM
  have HS := Lib.hid hS
  have HH := Lib.hid H
  have HT := Lib.hid hT
  clear hM hS H hT
  by_cases h0 : M = 0
  · subst h0
    go_enter Tryd.func16, Tryd.ntmps16
    go_wp2_with fail
    refine (HH.out _ (HT.out.below (((Below.refl _ _).alloc (Nat.le_refl _) _).alloc (by simp) _) HT.out.1) _ _ HM.out HS.out).mono ?_
    rintro e w1 ⟨rfl, hb1⟩
    go_wp2_with fail
    go_ret
    exact ⟨by rw [HF.out]; rfl, two hb1⟩
  · have h1 : (M == 0) = false := by simpa using h0
    have h2 : (M != 0) = true := by simpa using h0
    cases S <;> cases m <;> cases m'
    all_goals
      go_enter Tryd.func16, Tryd.ntmps16
      go_wp2_with fail
      refine (HH.out _ (HT.out.below (((Below.refl _ _).alloc (Nat.le_refl _) _).alloc (by simp) _) HT.out.1) _ _ HM.out HS.out).mono ?_
      rintro e w1 ⟨rfl, hb1⟩
      obtain ⟨hc1, hf1⟩ := bcell hb1
      obtain ⟨hz1, hz1'⟩ := sz2 hb1
      go_wp2_with fail
      go_ret
      refine ⟨?_, two hb1⟩
      rw [HF.out]
      simp [h2]

end Go.Proofs.YtjnjafkfemaaeaaDoor
