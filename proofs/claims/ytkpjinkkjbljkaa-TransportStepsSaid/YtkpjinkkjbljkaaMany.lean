/- Lists of structs with one slice of bytes each: how they lie in memory. No condition. -/
import Derived.Test.YtkpjinkkjbljkaaTs1
namespace Go.Proofs.Ytkpjinkkjbljkaa
open Go.RowKit

/-- A row of another type has grown. -/
theorem own_grown_ty {w w' : World} {base base' size size' n n' : Nat} {e e' : TypeId} {u x : Value} {xs ys : List Value} (h : w.ownsRow base e size u n xs) (h' : w.ownsRow base' e' size' x n' ys) (hne : e ≠ e') (hg : w.grownBy w' x.ownBlock) : w'.ownsRow base e size u n xs :=
  own_apart h hg fun g h1 h2 => own_type h h' hne g h1 h2.symm
theorem own_farther {w : World} {base : Nat} {e : TypeId} {size n b : Nat} {v : Value} {xs : List Value} (h : w.ownsRow base e size v n xs) (hb : b < base) (j : Nat) (x : Value) : (w.setCell ⟨b, j, none⟩ x).ownsRow base e size v n xs :=
  own_puts h (b := b) (fun g hg => by have := (h.lt g hg).1; omega) j [x]
section
variable {α : Type} (f : α → Value → List Value) (m : Nat) (bf : α → List UInt8)
/-- A slice of structs that reads as these. -/
def ManyV (w : World) (B : Nat) (v : Value) (ps : List α) : Prop :=
  ∃ vs : List Value, vs.length = ps.length ∧ Sl w B m v ps.length (flat2 f ps vs) ∧ ∀ (k : Nat) p u, ps[k]? = some p → vs[k]? = some u → BS w B u (bf p)
/-- The same, of the call's own. -/
def OwnM (t : TypeId) (w : World) (base : Nat) (v : Value) (ps : List α) : Prop :=
  ∃ vs : List Value, vs.length = ps.length ∧ w.ownsRow base t m v ps.length (flat2 f ps vs) ∧ ∀ (k : Nat) p u, ps[k]? = some p → vs[k]? = some u → OB w base u (bf p)
variable {f m bf} {w w' : World} {B B' base : Nat} {v : Value} {ps : List α} {t : TypeId}
theorem ManyV.nil (w : World) (B : Nat) : ManyV f m bf w B (.slice none 0 0) [] := ⟨[], rfl, Sl.nil w B m, fun _ _ _ h => by simp at h⟩
theorem ManyV.below (h : ManyV f m bf w B v ps) (hb : Below B w w') : ManyV f m bf w' B v ps := by
  obtain ⟨vs, h1, h2, h3⟩ := h
  exact ⟨vs, h1, h2.below hb, fun k p u hp hu => (h3 k p u hp hu).below hb⟩
theorem ManyV.more (h : ManyV f m bf w B v ps) (hb : B ≤ B') : ManyV f m bf w B' v ps := by
  obtain ⟨vs, h1, h2, h3⟩ := h
  exact ⟨vs, h1, h2.more hb, fun k p u hp hu => (h3 k p u hp hu).more hb⟩
theorem ManyV.on (h : ManyV f m bf w w.heap.size v ps) (hb : Below w.heap.size w w') : ManyV f m bf w' w'.heap.size v ps := (h.below hb).more hb.size
theorem ManyV.form (h : ManyV f m bf w B v ps) : ∃ A c, v = .slice A ps.length c := by
  obtain ⟨vs, _, ⟨A, c, rfl, _⟩, _⟩ := h
  exact ⟨A, c, rfl⟩
theorem OwnM.reads (h : OwnM f m bf t w base v ps) : ManyV f m bf w w.heap.size v ps := by
  obtain ⟨vs, h1, h2, h3⟩ := h
  exact ⟨vs, h1, Sl.of_own h2, fun k p u hp hu => BS.of_own rfl (h3 k p u hp hu)⟩
theorem OwnM.on (h : OwnM f m bf t w base v ps) (hb : Below w.heap.size w w') : OwnM f m bf t w' base v ps := by
  obtain ⟨vs, h1, h2, h3⟩ := h
  exact ⟨vs, h1, own_on h2 hb, fun k p u hp hu => own_on (h3 k p u hp hu) hb⟩
theorem OwnM.low {base' : Nat} (h : OwnM f m bf t w base v ps) (hb : base' ≤ base) : OwnM f m bf t w base' v ps := by
  obtain ⟨vs, h1, h2, h3⟩ := h
  exact ⟨vs, h1, own_base h2 hb, fun k p u hp hu => own_base (h3 k p u hp hu) hb⟩
theorem OwnM.far {b : Nat} (h : OwnM f m bf t w base v ps) (hb : b < base) (j : Nat) (x : Value) : OwnM f m bf t (w.setCell ⟨b, j, none⟩ x) base v ps := by
  obtain ⟨vs, h1, h2, h3⟩ := h
  exact ⟨vs, h1, own_farther h2 hb j x, fun k p u hp hu => own_farther (h3 k p u hp hu) hb j x⟩
theorem OwnM.nil (w : World) (base : Nat) : OwnM f m bf t w base (.slice none 0 0) [] := ⟨[], rfl, World.ownsRow_nil _ _ _ _, fun _ _ _ h => by simp at h⟩
theorem OwnM.form (h : OwnM f m bf t w base v ps) : ∃ A c, v = .slice A ps.length c := by
  obtain ⟨vs, _, h2, _⟩ := h
  exact own_form h2
theorem OwnM.grown {base' size' n' : Nat} {e' : TypeId} {x : Value} {ys : List Value} (h : OwnM f m bf t w base v ps) (h' : w.ownsRow base' e' size' x n' ys) (h0 : t ≠ e') (h2 : 5 ≠ e') (hg : w.grownBy w' x.ownBlock) : OwnM f m bf t w' base v ps := by
  obtain ⟨vs, k1, k2, k3⟩ := h
  exact ⟨vs, k1, own_grown_ty k2 h' h0 hg, fun k p u hp hu => own_grown_ty (k3 k p u hp hu) h' h2 hg⟩
/-- The row has grown by one struct. -/
theorem ownM_snoc {n : Nat} {x u : Value} {vs : List Value} {p : α} (hl : vs.length = ps.length) (hn : n = ps.length) (ht : 5 ≠ t) (hrow : w.ownsRow base t m v n (flat2 f ps vs)) (hob : ∀ (k : Nat) p u, ps[k]? = some p → vs[k]? = some u → OB w base u (bf p)) (hu : OB w base u (bf p))
    (hrow' : w'.ownsRow base t m x (n + 1) (flat2 f ps vs ++ f p u)) (hg : w.grownBy w' v.ownBlock) : OwnM f m bf t w' base x (ps ++ [p]) := by
  subst hn
  refine ⟨vs ++ [u], by simp [hl], ?_, fun i p' u' hp' hu' => ?_⟩
  · rw [flat2_append _ _ _ _ hl, flat2_one, show (ps ++ [p]).length = ps.length + 1 by simp]
    exact hrow'
  · by_cases hi : i < ps.length
    · rw [List.getElem?_append_left hi] at hp'
      rw [List.getElem?_append_left (by omega)] at hu'
      exact own_grown_ty (hob i p' u' hp' hu') hrow ht hg
    · have hie : i = ps.length := by
        have := (List.getElem?_eq_some_iff.1 hp').1
        simp at this
        omega
      subst hie
      rw [List.getElem?_append_right (Nat.le_refl _), Nat.sub_self] at hp'
      rw [List.getElem?_append_right (by omega), hl, Nat.sub_self] at hu'
      simp only [List.getElem?_cons_zero, Option.some.injEq] at hp' hu'
      subst hp' hu'
      exact own_grown_ty hu hrow ht hg
end
end Go.Proofs.Ytkpjinkkjbljkaa
