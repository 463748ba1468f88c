/- Walks of package smpdu and its reference: the fields that a kind uses. -/
import Derived.Test.YtpomobeogkfmfaaDoorSec1
namespace Go.Proofs.YtpomobeogkfmfaaDoor
open Go.RowKit

theorem hasK_yes {k : Int} (h : hasK k = true) : k = 1 ∨ k = 2 ∨ k = 3 ∨ k = 4 ∨ k = 5 ∨ k = 8 ∨ k = 11 ∨ k = 12 ∨ k = 13 := of_decide_eq_true h
theorem hasK_no {k : Int} (h : ¬ hasK k = true) : ¬ (k = 1 ∨ k = 2 ∨ k = 3 ∨ k = 4 ∨ k = 5 ∨ k = 8 ∨ k = 11 ∨ k = 12 ∨ k = 13) := fun hh => h (decide_eq_true hh)

set_option maxRecDepth 100000 in
set_option maxHeartbeats 8000000 in
theorem used_yes (p : Sec) (h : hasK p.kind = true) (w : World) : Calls Tryd.prog 52 #[secV p] w fun e w' => e = .returned (.tuple #[secV (usedS p), .bool true]) ∧ Below w.heap.size w w' := by
  obtain ⟨k, io, o, b, m, s, t, pu, va, ak, ax, ir, rs⟩ := p
  have hk := hasK_yes h
  clear h
  rcases hk with hk | hk | hk | hk | hk | hk | hk | hk | hk
  all_goals
    simp only at hk
    subst hk
    generalize hu : usedS _ = u
    have HU := Lib.hid hu
    clear hu
    go_enter Tryd.func52, Tryd.ntmps52
    go_wp2_with fail
    refine bodyPost_ret (v := .tuple #[secV u, .bool true]) (by rw [← HU.out]; simp [results, Tryd.results52, go_sem, usedS]) rfl ⟨rfl, al3 w _ _ _⟩

set_option maxRecDepth 100000 in
set_option maxHeartbeats 8000000 in
theorem used_no (p : Sec) (h : ¬ hasK p.kind = true) (w : World) : Calls Tryd.prog 52 #[secV p] w fun e w' => e = .returned (.tuple #[secV sec0, .bool false]) ∧ Below w.heap.size w w' := by
  obtain ⟨k, io, o, b, m, s, t, pu, va, ak, ax, ir, rs⟩ := p
  have h' := hasK_no h
  simp only at h'
  have f1 : (k == 1) = false := neq_bool (by omega)
  have f2 : (k == 2) = false := neq_bool (by omega)
  have f3 : (k == 3) = false := neq_bool (by omega)
  have f4 : (k == 4) = false := neq_bool (by omega)
  have f5 : (k == 5) = false := neq_bool (by omega)
  have f8 : (k == 8) = false := neq_bool (by omega)
  have f11 : (k == 11) = false := neq_bool (by omega)
  have f12 : (k == 12) = false := neq_bool (by omega)
  have f13 : (k == 13) = false := neq_bool (by omega)
  clear h h'
  go_enter Tryd.func52, Tryd.ntmps52
  go_wp2_with fail
  refine bodyPost_ret (v := .tuple #[secV sec0, .bool false]) (by simp [results, Tryd.results52, go_sem, sec0]) rfl ⟨rfl, al3 w _ _ _⟩

end Go.Proofs.YtpomobeogkfmfaaDoor
