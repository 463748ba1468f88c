/- Walks of the reference of package smpdu: the fields that a kind uses. -/
import Derived.Test.YtpomobeogkfmfaaDoorSec1
namespace Go.Proofs.YtpomobeogkfmfaaDoor
open Go.RowKit

theorem hasK_yes' {k : Int} (h : hasK k = true) : k = 1 ∨ k = 2 ∨ k = 3 ∨ k = 4 ∨ k = 5 ∨ k = 8 ∨ k = 11 ∨ k = 12 ∨ k = 13 := of_decide_eq_true h
set_option maxRecDepth 100000 in
set_option maxHeartbeats 8000000 in
theorem rused_yes (p : Sec) (h : hasK p.kind = true) (w : World) : Calls Tryd.prog 55 #[secV p] w fun e w' => e = .returned (secV (usedS p)) ∧ Below w.heap.size w w' := by
  obtain ⟨k, io, o, b, m, s, t, pu, va, ak, ax, ir, rs⟩ := p
  have hk := hasK_yes' h
  clear h
  rcases hk with hk | hk | hk | hk | hk | hk | hk | hk | hk
  all_goals
    simp only at hk
    subst hk
    generalize hu : usedS _ = u
    have HU := Lib.hid hu
    clear hu
    go_enter Tryd.func55, Tryd.ntmps55
    go_wp2_with fail
    refine bodyPost_ret (v := secV u) (by rw [← HU.out]; simp [results, Tryd.results55, go_sem, usedS]) rfl ⟨rfl, al3 w _ _ _⟩
end Go.Proofs.YtpomobeogkfmfaaDoor
