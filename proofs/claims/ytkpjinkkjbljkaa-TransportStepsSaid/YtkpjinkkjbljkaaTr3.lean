/- Walks of the reference of package transport: used, sameHead. No condition. -/
import Derived.Test.YtkpjinkkjbljkaaTr1
namespace Go.Proofs.Ytkpjinkkjbljkaa
open Go.RowKit

/-- The fields that the form uses, but for the bytes. -/
def usedL (p : Low) : Low :=
  if p.ctl && p.op == 0 then ⟨true, false, false, p.zero, 0, 0, 0, p.blk, p.fr⟩
  else if p.ctl then ⟨true, false, false, 0, 0, 0, p.op, 0, false⟩
  else if p.seg then ⟨false, true, p.app, p.zero, p.idx, p.last, 0, 0, false⟩
  else ⟨false, false, p.app, 0, 0, 0, 0, 0, false⟩
set_option maxRecDepth 100000 in
set_option maxHeartbeats 4000000 in
theorem rusedL_any (p : Low) (A : Option Addr) (n c : Nat) (w : World) : Calls Try.prog 31 #[lowV p (.slice A n c)] w fun e w' => e = .returned (lowV (usedL p) (.slice none 0 0)) ∧ Below w.heap.size w w' := by
  obtain ⟨ct, s, a, z, i, l, o, b, f⟩ := p
  rcases ct with _ | _
  · rcases s with _ | _
    · go_enter Try.func31, Try.ntmps31
      go_wp2
      refine bodyPost_ret (v := lowV (usedL ⟨false, false, a, z, i, l, o, b, f⟩) (.slice none 0 0)) (by simp [results, Try.results31, go_sem, usedL]) rfl ⟨rfl, al2 _ _ _⟩
    · go_enter Try.func31, Try.ntmps31
      go_wp2
      refine bodyPost_ret (v := lowV (usedL ⟨false, true, a, z, i, l, o, b, f⟩) (.slice none 0 0)) (by simp [results, Try.results31, go_sem, usedL]) rfl ⟨rfl, al2 _ _ _⟩
  · by_cases ho : o = 0
    · subst ho
      go_enter Try.func31, Try.ntmps31
      go_wp2
      refine bodyPost_ret (v := lowV (usedL ⟨true, s, a, z, i, l, 0, b, f⟩) (.slice none 0 0)) (by simp [results, Try.results31, go_sem, usedL]) rfl ⟨rfl, al2 _ _ _⟩
    · have ho' : (o == 0) = false := by simpa using ho
      go_enter Try.func31, Try.ntmps31
      go_wp2
      refine bodyPost_ret (v := lowV (usedL ⟨true, s, a, z, i, l, o, b, f⟩) (.slice none 0 0)) (by simp [results, Try.results31, go_sem, usedL, ho]) rfl ⟨rfl, al2 _ _ _⟩

def eqL (p q : Low) : Bool := p.ctl == q.ctl && p.seg == q.seg && p.app == q.app && p.zero == q.zero && p.idx == q.idx && p.last == q.last && p.op == q.op && ((p.blk : Int) == (q.blk : Int)) && p.fr == q.fr
theorem eqL_iff (p q : Low) : eqL p q = decide (p = q) := by
  obtain ⟨a0, a1, a2, a3, a4, a5, a6, a7, a8⟩ := p
  obtain ⟨b0, b1, b2, b3, b4, b5, b6, b7, b8⟩ := q
  rw [Bool.eq_iff_iff]
  simp only [eqL, Bool.and_eq_true, beq_iff_eq, decide_eq_true_eq, Low.mk.injEq, and_assoc]
  simp only [Int.natCast_inj]
set_option maxRecDepth 100000 in
set_option maxHeartbeats 4000000 in
theorem rhead_any (p q : Low) (A : Option Addr) (n c : Nat) (A' : Option Addr) (n' c' : Nat) (w : World) : Calls Try.prog 30 #[lowV p (.slice A n c), lowV q (.slice A' n' c')] w fun e w' => e = .returned (.bool (eqL p q)) ∧ Below w.heap.size w w' := by
  obtain ⟨a0, a1, a2, a3, a4, a5, a6, a7, a8⟩ := p
  obtain ⟨b0, b1, b2, b3, b4, b5, b6, b7, b8⟩ := q
  go_enter Try.func30, Try.ntmps30
  go_wp2
  all_goals
    go_ret
    refine ⟨?_, al2 _ _ _⟩
    simp_all [eqL]
end Go.Proofs.Ytkpjinkkjbljkaa
