/- Slices in memory: what is left behind a cut. No condition. -/
import Derived.Test.YthgpmedldnnhpaaMem
namespace Go.Proofs.Ythgpmedldnnhpaa
open Go.RowKit

theorem Sl.cut {w : World} {B n c b off : Nat} {cs : List Value} (h : Sl w B 1 (.slice (some ⟨b, off, none⟩) n c) n cs) {k : Nat} (hk : k ≤ n) :
    Sl w B 1 (.slice (if c = k then some ⟨b, off, none⟩ else some ⟨b, off + k, none⟩) (n - k) (c - k)) (n - k) (cs.drop k) := by
  obtain ⟨hnc, hcm⟩ := h.cap
  have hl := h.len
  refine ⟨_, c - k, rfl, by omega, by omega, by rw [List.length_drop, hl]; omega, ?_⟩
  by_cases hkn : k < n
  · have hj : cs[k]? = some (cs[k]'(by omega)) := List.getElem?_eq_getElem (by omega)
    obtain ⟨b', off', e, hb, hc⟩ := h.cells hj
    injection e with e
    injection e with e1 e2
    subst e1 e2
    refine .inr ⟨b, off + k, by rw [if_neg (by omega)], hb, fun j u hu => ?_⟩
    rw [Nat.add_assoc]
    exact hc _ _ (by rwa [List.getElem?_drop] at hu)
  · exact .inl (List.drop_eq_nil_of_le (by omega))
theorem BS.cut {w : World} {B c b off : Nat} {l : List UInt8} (h : BS w B (.slice (some ⟨b, off, none⟩) l.length c) l) {k : Nat} (hk : k ≤ l.length) :
    BS w B (.slice (if c = k then some ⟨b, off, none⟩ else some ⟨b, off + k, none⟩) (l.length - k) (c - k)) (l.drop k) := by
  unfold BS at *
  rw [bys_drop, List.length_drop]
  exact Sl.cut h hk
/-- A row of slices of bytes that has just been laid, of one. -/
theorem Sl.one (w : World) (v : Value) (t : TypeId) : Sl (w.alloc (.cells #[v] t)) (w.alloc (.cells #[v] t)).heap.size 1 (.slice (some ⟨w.heap.size, 0, none⟩) 1 1) 1 [v] :=
  (Sl.lit w #[v] t 1 rfl (by simp [maxLen])).more (by simp)
theorem own_on {w w' : World} {base : Nat} {e : TypeId} {size n : Nat} {v : Value} {xs : List Value} (h : w.ownsRow base e size v n xs) (hb : Below w.heap.size w w') : w'.ownsRow base e size v n xs := by
  obtain ⟨h1, h2⟩ := h
  refine ⟨h1, ?_⟩
  rcases h2 with h2 | ⟨g, cap, cur, hv, hg, hh, r⟩
  · exact .inl h2
  · refine .inr ⟨g, cap, cur, hv, hg, ?_, r⟩
    have hlt : g < w.heap.size := by
      rcases Nat.lt_or_ge g w.heap.size with h | h
      · exact h
      · rw [Array.getElem?_eq_none h] at hh; cases hh
    rw [hb.block g hlt]; exact hh
theorem own_base {w : World} {base base' : Nat} {e : TypeId} {size n : Nat} {v : Value} {xs : List Value} (h : w.ownsRow base e size v n xs) (hb : base' ≤ base) : w.ownsRow base' e size v n xs := by
  obtain ⟨h1, h2⟩ := h
  refine ⟨h1, ?_⟩
  rcases h2 with h2 | ⟨g, cap, cur, hv, hg, r⟩
  · exact .inl h2
  · exact .inr ⟨g, cap, cur, hv, Nat.le_trans hb hg, r⟩
end Go.Proofs.Ythgpmedldnnhpaa
